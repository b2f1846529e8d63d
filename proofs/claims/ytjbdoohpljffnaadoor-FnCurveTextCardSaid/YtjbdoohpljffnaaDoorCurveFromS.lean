/-
  Contract: CurveFrom of the reference.
-/
import Derived.Test.YtjbdoohpljffnaaDoorDigS
import Derived.Test.YtjbdoohpljffnaaDoorCurveTexts
import Derived.Test.YtjbdoohpljffnaaDoorPairKnot
import Derived.Test.YtjbdoohpljffnaaDoorAppend
import Derived.Deep.RegionHeld3
import Derived.Stop.LaidErr
namespace Go.Proofs.YtjbdoohpljffnaaDoor
open Go.RowKit
set_option linter.unusedSimpArgs false
set_option linter.unusedVariables false

theorem Arr.str {w : World} {B : Nat} {A : Option Addr} {n : Nat} {l : List ByteArray} (h : Arr ST 1 w B A n l) {k : Nat} (hk : k < n) :
    ∃ b off x, A = some ⟨b, off, none⟩ ∧ b < B ∧ l[k]? = some x ∧ w.cell? ⟨b, off + k, none⟩ = some (.string x) := by
  obtain ⟨b, off, e, hb, hc⟩ := h.2 (by omega)
  have hl : k < l.length := by have := h.1; omega
  exact ⟨b, off, l[k], e, hb, List.getElem?_eq_getElem hl, by have := hc k _ (List.getElem?_eq_getElem hl) 0 _ rfl; simpa using this⟩
theorem fromC_words {s x : List UInt8} {k : Nat} (hx : (splitB 10 s)[k]? = some x) (hk : k + 1 < (splitB 10 s).length) (hw : (splitB 32 x).length ≠ 2) : fromC s = none :=
  fromC_none fun l h => by
    have hl := h.lines
    rw [hl] at hx hk
    have hk' : k < l.length := by simpa using hk
    rw [List.getElem?_append_left (by simpa using hk'), List.getElem?_map, List.getElem?_eq_getElem hk'] at hx
    have : lineK l[k] = x := by simpa using hx
    apply hw
    rw [← this, lineK_words]
    rfl
theorem knOf_two {x a b : List UInt8} (h : splitB 32 x = [a, b]) : knOf x = (dig a, dig b) := by unfold knOf; rw [h]; rfl
theorem splitB_len (c : UInt8) : ∀ s : List UInt8, (splitB c s).length ≤ s.length + 1 := by
  intro s
  induction s with
  | nil => simp [splitB]
  | cons b s ih =>
    rw [splitB]
    split
    · simp; omega
    · have h2 : ∀ x : List (List UInt8), x ≠ [] → (preS [b] x).length = x.length := by
        intro x hx
        cases x with
        | nil => exact absurd rfl hx
        | cons y t => simp [preS]
      rw [h2 _ (splitB_ne c s)]; simp; omega
theorem preS_mem {a : List UInt8} {x : List (List UInt8)} {y : List UInt8} (h : y ∈ preS a x) : y.length ≤ a.length + (x.map List.length).foldl max 0 ∨ y ∈ x := by
  cases x with
  | nil => left; simp [preS] at h; subst h; omega
  | cons z t =>
    rcases List.mem_cons.1 h with rfl | h
    · left
      have : z.length ≤ ((z :: t).map List.length).foldl max 0 := by
        have key : ∀ (l : List Nat) (a b : Nat), b ≤ a → b ≤ l.foldl max a := by
          intro l
          induction l with
          | nil => intro a b h; exact h
          | cons q l ih => intro a b h; exact ih _ _ (by omega)
        simp only [List.map_cons, List.foldl_cons]
        exact key _ _ _ (by omega)
      rw [List.length_append]; omega
    · right; exact List.mem_cons_of_mem _ h
theorem splitB_mem (c : UInt8) : ∀ (s x : List UInt8), x ∈ splitB c s → x.length ≤ s.length := by
  intro s
  induction s with
  | nil => intro x h; simp [splitB] at h; subst h; simp
  | cons b s ih =>
    intro x h
    rw [splitB] at h
    split at h
    · rcases List.mem_cons.1 h with rfl | h
      · simp
      · have := ih x h; simp; omega
    · cases hx : splitB c s with
      | nil => exact absurd hx (splitB_ne c s)
      | cons z t =>
        rw [hx] at h ih
        rcases List.mem_cons.1 h with rfl | h
        · have := ih z List.mem_cons_self; simp; omega
        · have := ih x (List.mem_cons_of_mem _ h); simp; omega

theorem Own.litPP1 (w : World) (base : Nat) (T : TypeId) (x y : Int) (hb : base ≤ w.heap.size) : Own PP 2 (w.alloc (.cells #[.int .i64 x, .int .i64 y] T)) base T (.slice (some ⟨w.heap.size, 0, none⟩) 1 1) 1 [(x, y)] :=
  ⟨rfl, World.ownsRow_lit w #[.int .i64 x, .int .i64 y] 1 hb (by unfold maxLen; omega) rfl⟩

set_option maxRecDepth 100000 in
set_option maxHeartbeats 4000000 in
theorem specCurveFrom_any (s : List UInt8) (hs : s.length ≤ 100000000) (w : World) :
    Calls Tryd.prog 39 #[.string (tx s)] w fun e w' => ∃ A n c, e = .returned (.tuple #[.slice A n c, .bool (fromC s).isSome]) ∧ Own PP 2 w' w.heap.size 64 (.slice A n c) n ((fromC s).getD []) ∧ Below w.heap.size w w' := by
  obtain ⟨i0, hi, hz0, hz1, hz2⟩ := info_parts infoKnot
  have C0 := Lib.hid (l43Cut_any s 10 (by omega) w)
  have hNl := splitB_len 10 s
  have hN0 : 0 < (splitB 10 s).length := List.length_pos_iff.2 (splitB_ne 10 s)
  have hEnd := Lib.hid (fun (h : curveT ((splitB 10 s).dropLast.map knOf) ≠ s) => fromC_fail (fun l' h' => h'.read) h)
  have hGood := Lib.hid (fun (h : curveT ((splitB 10 s).dropLast.map knOf) = s) h0 => fromC_check h h0)
  have hWords := Lib.hid (fun k x => fromC_words (s := s) (k := k) (x := x))
  have hMem := Lib.hid (fun x h => splitB_mem 10 s x h)
  obtain ⟨N, hN⟩ : ∃ N, N = (splitB 10 s).length := ⟨_, rfl⟩
  rw [← hN] at hNl hN0 hWords
  have HN := Lib.hid hN
  clear hN
  go_enter Tryd.func39, Tryd.ntmps39
  go_wp2_with fail
  refine C0.out.mono ?_
  rintro e w1 ⟨A0, n0, c0, rfl, o0, b0⟩
  clear C0
  obtain rfl : n0 = N := by rw [HN.out]; have := o0.1; rw [List.length_map] at this; exact this.symm
  have a0 := o0.arr ST_length
  have hw1 := b0.size
  clear o0
  go_wp2_with fail
  go_loopw [5, 6] (fun o i wr => ∃ (k : Nat), k + 1 ≤ n0 ∧ i = .int .i64 k ∧ Own PP 2 wr w1.heap.size 64 o k (((splitB 10 s).take k).map knOf) ∧ Below w1.heap.size w1 wr) (fun _ i _ => n0 - (intOf i).toNat)
  case atStart => exact ⟨0, hN0, rfl, Own.made _ _ _ _ _ (Nat.le_refl _), (Below.refl _ w1).alloc (Nat.le_refl _) _⟩
  case round =>
    obtain ⟨k, hk, rfl, hw, hb⟩ := hrel
    have sb := hb.size
    have e1 : IntKind.i64.wrap ((k : Int) + 1) = (k : Int) + 1 := IntWalk.i64_in _ ⟨by omega, by omega⟩
    by_cases hlt : k + 1 < n0
    · obtain ⟨b, off, X, rfl, hbB, hx, c1⟩ := a0.str (show k < n0 by omega)
      obtain ⟨x, hx', rfl⟩ : ∃ x, (splitB 10 s)[k]? = some x ∧ tx x = X := by
        rw [List.getElem?_map] at hx
        cases hq : (splitB 10 s)[k]? with
        | none => rw [hq] at hx; cases hx
        | some x => rw [hq] at hx; exact ⟨x, rfl, by simpa using hx⟩
      have hxl := hMem.out x (List.mem_of_getElem? hx')
      have ik : (k : Int) + 1 < (n0 : Int) := by omega
      have ik2 : (k : Int) < (n0 : Int) := by omega
      have ik0 : (0 : Int) ≤ (k : Int) := by omega
      have C1 := Lib.hid (l43Cut_any x 32 (by omega) wr)
      have c1' := (hb.cell (by exact hbB)).trans c1
      have HX := Lib.hid hx'
      have HW := Lib.hid hw
      clear hx hx' hw c1
      go_wp2_with fail
      refine C1.out.mono ?_
      rintro e w2 ⟨A2, n2, c2, rfl, o2, b2⟩
      clear C1
      by_cases h2 : n2 = 2
      · subst h2
        obtain ⟨p, q, hpq⟩ : ∃ p q, splitB 32 x = [p, q] := by
          have hl := o2.1
          rw [List.length_map] at hl
          match hs' : splitB 32 x, hl with
          | [p, q], _ => exact ⟨p, q, rfl⟩
        obtain ⟨Aw, cw, rfl, _, _⟩ := HW.out.form
        have hpl := splitB_mem 32 x p (by rw [hpq]; exact List.mem_cons_self)
        have hql := splitB_mem 32 x q (by rw [hpq]; exact List.mem_cons_of_mem _ List.mem_cons_self)
        have hp9 : p.length ≤ 1000000000 := by omega
        have hq9 : q.length ≤ 1000000000 := by omega
        rw [hpq] at o2
        obtain ⟨g2, cc, e2, hg2, hg3, _⟩ := o2.head (by decide)
        injection e2 with e2 _ _
        subst e2
        have d0 : w2.cell? ⟨g2, 0, none⟩ = some (.string (tx p)) := o2.2.cellAt 0 (by decide)
        have d1 : w2.cell? ⟨g2, 1, none⟩ = some (.string (tx q)) := o2.2.cellAt 1 (by decide)
        have HL := Lib.hid (show ((splitB 10 s).take k).map knOf ++ [(dig p, dig q)] = ((splitB 10 s).take (k + 1)).map knOf by
          rw [take_snoc HX.out, List.map_append, List.map_cons, List.map_nil, knOf_two hpq])
        have HO := Lib.hid (HW.out.below b2 (Nat.le_refl _))
        have B2 := hb.trans (b2.mono hb.size)
        have sz2 := B2.size
        have M1 : k + 1 ≤ maxLen := by unfold maxLen; omega
        have M2 : (k + 1) * 16 ≤ 140737488355328 := by omega
        have hG := Lib.hid (fun g hg => HO.out.2.lt g hg)
        have HG2 := Lib.hid (fun g hg => Nat.lt_of_lt_of_le (HW.out.2.lt g hg).2 hg2)
        clear hpq o2 b2 hb HX HW hxl hpl hql
        go_wp2_with fail
        go_region_held3 (fun w' => w'.cell? ⟨g2, 0, none⟩ = some (.string (tx p)) ∧ w'.cell? ⟨g2, 1, none⟩ = some (.string (tx q))) (first | (go_keep; done) | (exact K4)) (first
          | (go_at_call 75; refine (l1Digits_any _ (by first | exact hp9 | exact hq9) _).mono ?_; rintro e w3 ⟨rfl, rfl⟩)
          | (refine step_append_arr _ rfl (.tmp 27) (.tmp 37) 25 rfl w1.heap.size 64 i0 (.agg #[.int .i64 0, .int .i64 0]) 2 16 Tryd.underlying25 hi hz0 hz1 hz2 rfl (by decide) PP_length one_PP' (.slice Aw k cw) k (((splitB 10 s).take k).map knOf) (by simp [Act.eval, Act.put]) (HO.out.drew.alloc _) _ (some ⟨w2.heap.size, 0, none⟩) 1 1 [(dig p, dig q)] (by simp [Act.eval, Act.put]) (Own.arr (Own.litPP1 w2.drew w2.heap.size 64 (dig p) (dig q) (Nat.le_refl _)) PP_length) M1 M2 (by simp; omega) ?_; intro v4 w4 hO4 hg4 hat4; have K4 := And.intro (hg4.cell ((cell?_alloc_old (W := w2.drew) _ d0)) (fun e => absurd (HG2.out _ e.symm) (Nat.lt_irrefl _))) (hg4.cell ((cell?_alloc_old (W := w2.drew) _ d1)) (fun e => absurd (HG2.out _ e.symm) (Nat.lt_irrefl _)))))
        all_goals
          have hO5 : Own PP 2 w4 w1.heap.size 64 v4 (k + 1) (((splitB 10 s).take (k + 1)).map knOf) := by rw [← HL.out]; exact hO4
          have B4 : Below w1.heap.size w1 w4 := (B2.drew.alloc (by simpa using sz2) _).grown hg4 (by simp; omega) (fun g hg => (hG.out g hg).1)
          clear hO4 hg4 hat4
          go_wp2
          go_roundw
          case rel => exact ⟨k + 1, by omega, by go_num, hO5, B4⟩
          case measure => simp [intOf]; omega
      · have f1 : ((n2 : Int) == 2) = false := by simp; omega
        have hE := Lib.hid (hWords.out k x HX.out hlt (by have := o2.1; rw [List.length_map] at this; omega))
        go_wp2
        go_ret2
        rw [hE.out]
        exact ⟨_, _, _, rfl, (Own.made PP 2 _ _ _ (by have := b2.size; omega)), (b0.trans ((hb.trans (b2.mono hb.size)).mono b0.size)).alloc (by have := b2.size; omega) _⟩
    · obtain rfl : n0 = k + 1 := by omega
      have ik : ¬ ((k : Int) + 1 < ((k + 1 : Nat) : Int)) := by omega
      obtain ⟨Aw, cw, rfl, _, _⟩ := hw.form
      have hL : ((splitB 10 s).take k).map knOf = (splitB 10 s).dropLast.map knOf := by rw [List.dropLast_eq_take, ← HN.out]; rfl
      rw [hL] at hw
      have hO := hw.less hw1
      have hB := b0.trans (hb.mono b0.size)
      have aw := hw.arr PP_length
      have C := (specCurveText_any Aw k cw _ wr aw (by omega))
      by_cases h0 : s = []
      · have f0 : (tx s).toList.isEmpty = true := by unfold tx; rw [ByteArray.toList_mk, h0]; rfl
        have hE := Lib.hid (show fromC s = none by rw [h0]; exact fromC_empty)
        clear hL hw hb aw C h0
        go_wp2
        go_ret2
        rw [hE.out]
        exact ⟨_, _, _, rfl, (Own.made PP 2 _ _ _ hB.size), hB.alloc hB.size _⟩
      · have f0 : (tx s).toList.isEmpty = false := by unfold tx; rw [ByteArray.toList_mk]; simpa using h0
        by_cases hc : curveT ((splitB 10 s).dropLast.map knOf) = s
        · have hE := Lib.hid (hGood.out hc h0)
          rw [hc] at C
          clear hL hw hb aw hc
          go_wp2_with fail
          refine C.mono ?_
          rintro e w3 ⟨rfl, b3⟩
          go_wp2
          go_ret2
          rw [hE.out]
          exact ⟨_, _, _, rfl, hO.below b3 (Nat.le_refl _), hB.trans (b3.mono hB.size)⟩
        · have hE := Lib.hid (hEnd.out hc)
          have hne : ((tx (curveT ((splitB 10 s).dropLast.map knOf))).toList == (tx s).toList) = false := by unfold tx; rw [ByteArray.toList_mk, ByteArray.toList_mk]; simpa using hc
          obtain ⟨T, hT⟩ : ∃ T, T = tx (curveT ((splitB 10 s).dropLast.map knOf)) := ⟨_, rfl⟩
          rw [← hT] at C hne
          clear hL hw hb aw hc hT
          go_wp2_with fail
          refine C.mono ?_
          rintro e w3 ⟨rfl, b3⟩
          have B3 := hB.trans (b3.mono hB.size)
          go_wp2
          go_ret2
          rw [hE.out]
          exact ⟨_, _, _, rfl, (Own.made PP 2 _ _ _ B3.size), B3.alloc B3.size _⟩
end Go.Proofs.YtjbdoohpljffnaaDoor
