/-
  Contract: CurveFrom of the program.
-/
import Derived.Test.YtjbdoohpljffnaaDoorSplitSeq
import Derived.Test.YtjbdoohpljffnaaDoorLibS
import Derived.Test.YtjbdoohpljffnaaDoorCurveTexts
import Derived.Test.YtjbdoohpljffnaaDoorPairKnot
import Derived.Test.YtjbdoohpljffnaaDoorCurveFromS
import Derived.Maps.AppendAt
namespace Go.Proofs.YtjbdoohpljffnaaDoor
open Go.RowKit Go.Shelf
set_option linter.unusedSimpArgs false
set_option linter.unusedVariables false
attribute [local go_sem] Oper.semAt_some

/-! ### Plain words -/
theorem trim_len (s : List UInt8) : (Lib.trimSuffix s [10]).length ≤ s.length := by
  unfold Lib.trimSuffix
  split
  · rw [List.length_take]; omega
  · exact Nat.le_refl _
theorem pre_at {α : Type} {pre xs : List α} {x : α} (h : pre ++ [x] <+: xs) : xs[pre.length]? = some x := by
  obtain ⟨t, rfl⟩ := h
  simp
theorem line_len {s x : List UInt8} {pre : List (List UInt8)} (h : pre ++ [x] <+: splitB 10 (Lib.trimSuffix s [10])) : x.length ≤ s.length :=
  Nat.le_trans (splitB_mem 10 _ x (List.mem_of_getElem? (pre_at h))) (trim_len s)
theorem IsC.line {s x : List UInt8} {l : List Pc} {pre : List (List UInt8)} (h : IsC s l) (hp : pre ++ [x] <+: splitB 10 (Lib.trimSuffix s [10])) : ∃ p, l[pre.length]? = some p ∧ x = lineK p := by
  have := pre_at hp
  rw [h.trim, List.getElem?_map] at this
  cases hq : l[pre.length]? with
  | none => rw [hq] at this; cases this
  | some p => rw [hq] at this; exact ⟨p, rfl, by simpa using this.symm⟩
theorem cutB_len (c : UInt8) (l : List UInt8) : (cutB c l).1.length ≤ l.length ∧ (cutB c l).2.length ≤ l.length := by
  unfold cutB
  split
  · exact ⟨Nat.le_refl _, Nat.zero_le _⟩
  · exact ⟨by rw [List.length_take]; omega, by rw [List.length_drop]; omega⟩
theorem cutB_line (p : Pc) : cutB 32 (lineK p) = (Lib.decDigits p.1.toNat, Lib.decDigits p.2.toNat) := cutB_at _ _ (not_dec (by decide) _)
/-- What is read so far agrees with whatever curve the text is of. -/
def Fits (s : List UInt8) (n : Nat) (L : List Pc) : Prop := ∀ l, IsC s l → L = l.take n
theorem fits_atoi {s x : List UInt8} {pre : List (List UInt8)} (hp : pre ++ [x] <+: splitB 10 (Lib.trimSuffix s [10])) (h : (∀ v, Lib.atoiAll (cutB 32 x).1 ≠ .ok v) ∨ (∀ v, Lib.atoiAll (cutB 32 x).2 ≠ .ok v)) : fromC s = none :=
  fromC_none fun l hl => by
    obtain ⟨p, hpl, rfl⟩ := hl.line hp
    have hr := hl.range (List.mem_of_getElem? hpl)
    rw [cutB_line] at h
    rcases h with h | h
    · exact h _ (atoi_dec (u := p.1.toNat) (by omega))
    · exact h _ (atoi_dec (u := p.2.toNat) (by omega))
theorem fits_full {s x : List UInt8} {pre : List (List UInt8)} (hp : pre ++ [x] <+: splitB 10 (Lib.trimSuffix s [10])) (h : pre.length = 12) : fromC s = none :=
  fromC_none fun l hl => by
    obtain ⟨p, hpl, rfl⟩ := hl.line hp
    have := (List.getElem?_eq_some_iff.1 hpl).1
    have := ((curveB_iff l).1 hl.1).2.2
    omega
theorem fits_step {s x : List UInt8} {pre : List (List UInt8)} {L : List Pc} {a b : Int} (hf : Fits s pre.length L) (hp : pre ++ [x] <+: splitB 10 (Lib.trimSuffix s [10])) (ha : Lib.atoiAll (cutB 32 x).1 = .ok a) (hb : Lib.atoiAll (cutB 32 x).2 = .ok b) :
    Fits s (pre ++ [x]).length (L ++ [(a, b)]) := fun l hl => by
  obtain ⟨p, hpl, rfl⟩ := hl.line hp
  have hr := hl.range (List.mem_of_getElem? hpl)
  rw [cutB_line] at ha hb
  have e1 := atoi_dec (u := p.1.toNat) (by omega)
  have e2 := atoi_dec (u := p.2.toNat) (by omega)
  simp only at ha hb
  rw [e1] at ha
  rw [e2] at hb
  injection ha with ha
  injection hb with hb
  have : (a, b) = p := Prod.ext (by simp; omega) (by simp; omega)
  rw [this, List.length_append, List.length_singleton, take_snoc hpl, ← hf l hl]
theorem fits_all {s : List UInt8} {L : List Pc} (hf : Fits s (splitB 10 (Lib.trimSuffix s [10])).length L) : ∀ l, IsC s l → L = l := fun l hl => by
  have := hf l hl
  rw [hl.trim, List.length_map, List.take_length] at this
  exact this
theorem fits_bad {s : List UInt8} {L : List Pc} (hf : ∀ l, IsC s l → L = l) (h : curveB L = false) : fromC s = none := fromC_none fun l hl => by
  have := hf l hl
  subst this
  rw [hl.1] at h
  cases h
theorem fits_good {s : List UInt8} {L : List Pc} (hB : curveB L = true) (h : curveT L = s) : fromC s = some L := by
  unfold curveT at h
  rw [if_pos hB] at h
  exact fromC_some ⟨hB, h⟩

theorem keeps_of_below {W W' : World} (h : Below W.heap.size W W') : KeepsOthers W W' :=
  ⟨h.size, fun k o hk _ => (h.block k (Array.getElem?_eq_some_iff.1 hk).1).trans hk⟩
theorem boxed_other {W : World} {k b : Nat} {t : TypeId} {v : Value} (h : Boxed W k t v) (hne : k ≠ b) (u : Value) : Boxed (W.setCell ⟨b, 0, none⟩ u) k t v := (heap_set_other hne u).trans h
theorem boxed_below {W W' : World} {B : Nat} {t : TypeId} {v : Value} (h : Boxed W B t v) (hb : Below W.heap.size W W') : Boxed W' B t v := (hb.block B h.lt).trans h
theorem atoi_tot (l : List UInt8) (hl : l.length ≤ 1000000000) (w : World) (hE : Errs w) :
    Calls Tryd.prog 72 #[.string (tx l)] w fun e w' => (∃ x y, e = .returned (.tuple #[.int .i64 x, y])) ∧ Below w.heap.size w w' := by
  by_cases h : ∃ v, Lib.atoiAll l = .ok v
  · obtain ⟨v, hv⟩ := h
    exact (atoi_some l v hl hv w).mono fun e w' ⟨h1, h2⟩ => ⟨⟨_, _, h1⟩, h2⟩
  · exact (atoi_none l hl (fun v e => h ⟨v, e⟩) w hE).mono fun e w' ⟨⟨x, N, h1⟩, h2⟩ => ⟨⟨_, _, h1⟩, h2⟩
theorem Own.kept_other {α : Type} {f : α → List Value} {sz : Nat} {w w' : World} {base : Nat} {T : TypeId} {v : Value} {n : Nat} {l : List α} {row : Option Nat} (h : Own f sz w base T v n l) (hg : w.grownBy w' row)
    (hr : ∀ r, row = some r → ∃ o : Obj, w.heap[r]? = some o ∧ o.isCells = false) : Own f sz w' base T v n l := by
  refine ⟨h.1, h.2.kept hg ?_⟩
  rcases h.2.2 with ⟨rfl, _⟩ | ⟨g, cap, cur, rfl, _, hgb, _⟩
  · exact .inl rfl
  · refine .inr fun e' => ?_
    obtain ⟨o, ho, hc⟩ := hr g (by simpa [Value.ownBlock] using e'.symm)
    rw [hgb] at ho; cases ho; cases hc

set_option maxRecDepth 100000 in
set_option maxHeartbeats 2000000 in
theorem implCurveFrom_any (s : List UInt8) (hs : s.length ≤ 2000000) (w : World) (hT : Tab w) (hE : Errs w) :
    Calls Tryd.prog 35 #[.string (tx s)] w fun e w' => ∃ A n c, e = .returned (.tuple #[.slice A n c, .bool (fromC s).isSome]) ∧ Own PP 2 w' w.heap.size 64 (.slice A n c) n ((fromC s).getD []) ∧ Below w.heap.size w w' := by
  obtain ⟨i0, hi, hz0, hz1, hz2⟩ := info_parts infoKnot
  refine (callsIn_wide (n := 3)).1 ?_
  refine callsIn_of_wp_marks Tryd.func35 rfl trivial ?_ rfl
  simp only [Tryd.ntmps35, List.size_toArray, List.length_cons, List.length_nil, Nat.reduceAdd, Nat.reduceSub, Array.replicate_succ, Array.replicate_zero, List.push_toArray, List.append_toArray, List.nil_append, List.cons_append]
  gi_wp2_with (first
    | (refine ⟨trivial, ?_⟩; gi_at_call 70; refine (callsIn_wide.2 (trim_any s (by omega) _)).mono ?_; rintro e w' ⟨rfl, rfl⟩)
    | (refine ⟨trivial, ?_⟩; gi_at_call 69; refine (callsIn_wide.2 (splitSeq_any _ _)).mono ?_; rintro e w' ⟨rfl, rfl⟩))
  have bR := Boxed.new w 25 (.slice none 0 0)
  have bK := Boxed.new (w.alloc (.cells #[.slice none 0 0] 25)) 4 (.bool false)
  have bO := Boxed.new ((w.alloc (.cells #[.slice none 0 0] 25)).alloc (.cells #[.bool false] 4)) 25 (.slice none 0 0)
  have b3 := boxes3_new (Lib.trimSuffix s [10]) (((w.alloc (.cells #[.slice none 0 0] 25)).alloc (.cells #[.bool false] 4)).alloc (.cells #[.slice none 0 0] 25))
  have hB0 : Below w.heap.size w ((((((w.alloc (.cells #[.slice none 0 0] 25)).alloc (.cells #[.bool false] 4)).alloc (.cells #[.slice none 0 0] 25)).alloc (.cells #[.string (tx (Lib.trimSuffix s [10]))] 9)).alloc (.cells #[.string ⟨#[10]⟩] 9)).alloc (.cells #[.int .i64 0] 3)) :=
    (((((((Below.refl _ w).alloc (Nat.le_refl _) _).alloc (by simp) _).alloc (by simp; omega) _).alloc (by simp; omega) _).alloc (by simp; omega) _).alloc (by simp; omega) _)
  have hz0' : ((((((w.alloc (.cells #[.slice none 0 0] 25)).alloc (.cells #[.bool false] 4)).alloc (.cells #[.slice none 0 0] 25)).alloc (.cells #[.string (tx (Lib.trimSuffix s [10]))] 9)).alloc (.cells #[.string ⟨#[10]⟩] 9)).alloc (.cells #[.int .i64 0] 3)).heap.size = w.heap.size + 6 := by simp
  replace bR := ((((bR.alloc (.cells #[.bool false] 4)).alloc (.cells #[.slice none 0 0] 25)).alloc (.cells #[.string (tx (Lib.trimSuffix s [10]))] 9)).alloc (.cells #[.string ⟨#[10]⟩] 9)).alloc (.cells #[.int .i64 0] 3)
  replace bK := (((bK.alloc (.cells #[.slice none 0 0] 25)).alloc (.cells #[.string (tx (Lib.trimSuffix s [10]))] 9)).alloc (.cells #[.string ⟨#[10]⟩] 9)).alloc (.cells #[.int .i64 0] 3)
  replace bO := ((bO.alloc (.cells #[.string (tx (Lib.trimSuffix s [10]))] 9)).alloc (.cells #[.string ⟨#[10]⟩] 9)).alloc (.cells #[.int .i64 0] 3)
  simp only [World.size_alloc] at bK bO b3
  have HT := Lib.hid hT
  have HE := Lib.hid hE
  clear hT hE
  generalize ((((((w.alloc (.cells #[.slice none 0 0] 25)).alloc (.cells #[.bool false] 4)).alloc (.cells #[.slice none 0 0] 25)).alloc (.cells #[.string (tx (Lib.trimSuffix s [10]))] 9)).alloc (.cells #[.string ⟨#[10]⟩] 9)).alloc (.cells #[.int .i64 0] 3)) = W0 at bR bK bO b3 hB0 hz0' ⊢
  have hTl := trim_len s
  refine wpIn_range_cell rfl (by omega) (gf := 94) (lb := #[.pointer (some ⟨w.heap.size + 1 + 1 + 1 + 1, 0, none⟩), .pointer (some ⟨w.heap.size + 1 + 1 + 1, 0, none⟩), .pointer (some ⟨w.heap.size + 1 + 1 + 1 + 2, 0, none⟩)]) rfl trivial (enters_of Tryd.func94 (by kernel_rfl) rfl)
    (enc := fun x : List UInt8 => Value.string (tx x)) (splitSeq_cell 2 (by omega) (Lib.trimSuffix s [10]) (by omega) (w.heap.size + 1 + 1 + 1) W0 (by omega) b3) (by omega) (fun h k => h.trans k) (fun W l o hl k h1 h2 => World.putObj_heap_other (by omega)) rfl
    (fun pre W => ∃ v L, Boxed W (w.heap.size + 1 + 1) 25 v ∧ Own PP 2 W (w.heap.size + 6) 64 v pre.length L ∧ pre.length ≤ 12 ∧ Fits s pre.length L ∧ Boxed W w.heap.size 25 (.slice none 0 0) ∧ Boxed W (w.heap.size + 1) 4 (.bool false) ∧ Below w.heap.size w W)
    (fun pre W => Boxed W w.heap.size 25 (.slice none 0 0) ∧ Boxed W (w.heap.size + 1) 4 (.bool false) ∧ Below w.heap.size w W ∧ fromC s = none)
    ?hI ?hIx ?hIs ⟨_, [], bO, Own.nil_ _ _ _ _ _, by simp, fun l _ => by simp, bR, bK, hB0⟩
    (fun x => { tmps := #[.string (tx s), undef, .pointer (some ⟨w.heap.size, 0, none⟩), .pointer (some ⟨w.heap.size + 1, 0, none⟩), .pointer (some ⟨w.heap.size + 1 + 1, 0, none⟩), .string (tx x), undef, undef, undef, undef, undef, undef, undef, .string (tx s), .string (tx (Lib.trimSuffix s [10])),
      .func (.func 94) #[] #[.pointer (some ⟨w.heap.size + 1 + 1 + 1 + 1, 0, none⟩), .pointer (some ⟨w.heap.size + 1 + 1 + 1, 0, none⟩), .pointer (some ⟨w.heap.size + 1 + 1 + 1 + 2, 0, none⟩)], .string (tx x), undef, undef, undef, undef, undef, undef, undef, undef, undef, undef, undef, undef, undef, undef, undef, undef, undef, undef, undef, undef, undef, undef, undef, undef, undef, undef, undef, undef, undef, undef, undef, undef, undef, undef, undef, undef, undef, undef, undef, undef, undef, undef, undef], defers := [] }) ?assign ?body ?done ?stop
  case hI =>
    rintro pre A B row ⟨v, L, h1, h2, h3, h4, h5, h6, h7⟩ hg hr
    refine ⟨v, L, h1.kept hg (fun e => ?_), h2.kept_other hg (fun r e => (hr r e).2), h3, h4, h5.kept hg (fun e => ?_), h6.kept hg (fun e => ?_), h7.grown hg h7.size (fun r e => by have := (hr r e).1; omega)⟩
    · have := (hr _ e.symm).1; omega
    · have := (hr _ e.symm).1; omega
    · have := (hr _ e.symm).1; omega
  case hIx =>
    rintro pre A B row ⟨h5, h6, h7, h8⟩ hg hr
    refine ⟨h5.kept hg (fun e => ?_), h6.kept hg (fun e => ?_), h7.grown hg h7.size (fun r e => by have := (hr r e).1; omega), h8⟩
    · have := (hr _ e.symm).1; omega
    · have := (hr _ e.symm).1; omega
  case hIs =>
    rintro pre V u ⟨v, L, h1, h2, h3, h4, h5, h6, h7⟩
    exact ⟨v, L, (heap_set_other (by omega) u).trans h1, h2.kept (grownBy_setCell' V (w.heap.size + 1 + 1 + 1) u) (fun g e => by injection e with e; omega), h3, h4, (heap_set_other (by omega) u).trans h5, (heap_set_other (by omega) u).trans h6, h7.setCell (p := ⟨w.heap.size + 1 + 1 + 1, 0, none⟩) (by simp; omega) u⟩
  case assign =>
    intro l x W K hK
    gi_wp2
    exact hK
  case body =>
    rintro l pre x W hp ⟨v, L, h1, h2, h3, h4, h5, h6, h7⟩ hWz
    have hx := line_len hp
    obtain ⟨Av, cv, rfl, _, _⟩ := h2.form
    have c1 := h1.cell
    have hlt1 := h1.lt
    obtain ⟨p, hpp⟩ : ∃ p, p = (cutB 32 x).1 := ⟨_, rfl⟩
    obtain ⟨q, hqq⟩ : ∃ q, q = (cutB 32 x).2 := ⟨_, rfl⟩
    have K0 := cut_any x (by omega) W
    have hcl := cutB_len 32 x
    rw [← hpp, ← hqq] at K0 hcl
    have K0' := Lib.hid K0
    have HEW := Lib.hid (HE.out.below h7 (Nat.le_refl _))
    have F1 := Lib.hid (fun h => fits_atoi hp (.inl h))
    have F2 := Lib.hid (fun h => fits_atoi hp (.inr h))
    have F3 := Lib.hid (fun a b ha hb => fits_step (a := a) (b := b) h4 hp ha hb)
    rw [← hpp] at F1
    rw [← hqq] at F2
    rw [← hpp, ← hqq] at F3
    have HP := Lib.hid hp
    clear K0 hpp hqq h4 hp
    gi_wp2_with fail
    refine ⟨trivial, ?_⟩
    refine (CallsIn.inRound l (callsIn_wide.2 K0'.out)).mono ?_
    rintro e w1 ⟨⟨b, rfl⟩, kk, hk1⟩
    have S1 : Below W.heap.size W w1 := by rw [hk1]; exact below_drewN (Below.refl _ _) kk
    clear hk1 K0'
    by_cases hA : ∃ a, Lib.atoiAll p = .ok a
    · obtain ⟨a, ha⟩ := hA
      have K1 := Lib.hid (atoi_some p a (by omega) ha w1)
      gi_wp2_with fail
      refine ⟨trivial, ?_⟩
      refine (CallsIn.inRound l (callsIn_wide.2 K1.out)).mono ?_
      rintro e w2 ⟨rfl, b2⟩
      have S2 : Below W.heap.size W w2 := S1.trans (b2.mono S1.size)
      clear K1 b2
      by_cases hB : ∃ a, Lib.atoiAll q = .ok a
      · obtain ⟨c, hc⟩ := hB
        have K2 := Lib.hid (atoi_some q c (by omega) hc w2)
        gi_wp2_with fail
        refine ⟨trivial, ?_⟩
        refine (CallsIn.inRound l (callsIn_wide.2 K2.out)).mono ?_
        rintro e w3 ⟨rfl, b3⟩
        have S3 : Below W.heap.size W w3 := S2.trans (b3.mono S2.size)
        have g1 := boxed_below h1 S3
        have g5 := boxed_below h5 S3
        have g6 := boxed_below h6 S3
        have hO3 := h2.below S3 (Nat.le_refl _)
        have hF3 := F3.out a c ha hc
        have G1 := Lib.hid (fun k (hk : k < W.heap.size) => S3.block k hk)
        have G2 := Lib.hid (keeps_of_below S3)
        have G3 := Lib.hid (h7.trans (S3.mono h7.size))
        have c3 := g1.cell
        have s3 := S3.size
        clear K2 b3 S2 S1 h1 h2 h5 h6 h7 S3 HE HT F1 F2 F3 HEW hcl
        by_cases h12 : pre.length = 12
        · have f1 : ((pre.length : Int) == 12) = true := by simp; omega
          have hN := fits_full HP.out h12
          have fz5 := g5.frozen
          have fz6 := g6.frozen
          have c5 := g5.cell
          have c6 := g6.cell
          clear h12 hF3
          gi_wp2
          refine ⟨(G2.out.trans (KeepsOthers.setCell _ _ _)).trans (KeepsOthers.setCell _ _ _), rfl, boxed_other (g5.set _) (by omega) _, (boxed_other g6 (by omega) _).set _, (G3.out.setCell (p := ⟨w.heap.size, 0, none⟩) (by simp) _).setCell (p := ⟨w.heap.size + 1, 0, none⟩) (by simp) _, hN⟩
        · have f1 : ((pre.length : Int) == 12) = false := by simp; omega
          have K1 := cell_new2 w3 (.int .i64 a) (.int .i64 c) 64
          have K2 := one_PP a c
          have K3 : pre.length + 1 ≤ maxLen := by unfold maxLen; omega
          have K4 : (pre.length + 1) * 16 ≤ 140737488355328 := by omega
          have K5 : w.heap.size + 6 ≤ (w3.alloc (.cells #[.int .i64 a, .int .i64 c] 64)).heap.size := by simp; omega
          gi_wp2_with (gi_at_builtin; refine wpListIn_append_own _ rfl _ _ 25 rfl (w.heap.size + 6) 64 i0 (.agg #[.int .i64 0, .int .i64 0]) 2 16 Tryd.underlying25 hi hz0 hz1 hz2 rfl (by decide) _ _ _ rfl (hO3.2.alloc _) ⟨w3.heap.size, 0, none⟩ 1 1 [.int .i64 a, .int .i64 c] rfl rfl K1 K2 K3 K4 K5 ?_; intro v' w4 hown' hgrow _; obtain ⟨g', cap', rfl⟩ := ownsRow_succ hown'; have q1 := (g1.alloc (.cells #[.int .i64 a, .int .i64 c] 64)).kept hgrow (g1.not_row (by decide) hO3.2); have c4 := q1.cell; have z4 := q1.frozen)
          have hno : ∀ k, k < w.heap.size + 6 → some k ≠ (Value.slice Av pre.length cv).ownBlock := fun k hk e => by have := (hO3.2.lt k e.symm).1; omega
          have q5 := (g5.alloc (.cells #[.int .i64 a, .int .i64 c] 64)).kept hgrow (hno _ (by omega))
          have q6 := (g6.alloc (.cells #[.int .i64 a, .int .i64 c] 64)).kept hgrow (hno _ (by omega))
          refine ⟨?_, ?_, _, L ++ [(a, c)], q1.set _, ?_, by simp; omega, hF3, (heap_set_other (by omega) _).trans q5, (heap_set_other (by omega) _).trans q6, ?_⟩
          · refine ((G2.out.trans (KeepsOthers.alloc w3 _)).trans (KeepsOthers.of_grownBy hgrow fun j o ej hj => ?_)).trans (KeepsOthers.setCell _ _ _)
            have ej : (Value.slice Av pre.length cv).ownBlock = some j := ej
            rcases (hO3.2.alloc (.cells #[.int .i64 a, .int .i64 c] 64)).2 with ⟨e, _⟩ | ⟨g, cap, cur, e, _, hgb, _⟩
            · rw [e] at ej; simp [Value.ownBlock] at ej
            · rw [e] at ej
              obtain rfl : g = j := by simpa [Value.ownBlock] using ej
              rw [hgb] at hj; cases hj; rfl
          · intro k k1 k2
            rw [heap_set_other (by omega), hgrow.block k (by simp; omega) (hno k (by omega)), Lib.alloc_old w3 _ k (by omega)]
            exact G1.out k (by omega)
          · have := Own.snoc (x := (a, c)) hO3.1 hown'
            rw [List.length_append]
            exact this.kept (grownBy_setCell' w4 (w.heap.size + 1 + 1) _) (fun g e => by injection e with e; omega)
          · exact (((G3.out.alloc G3.out.size _).grown hgrow (by simp; omega) (fun k e => by have := (hO3.2.lt k e).1; omega)).setCell (p := ⟨w.heap.size + 1 + 1, 0, none⟩) (by simp; omega) _)
      · have K2 := Lib.hid (atoi_none q (by omega) (fun v e => hB ⟨v, e⟩) w2 (HEW.out.below S2 (Nat.le_refl _)))
        have hN := F2.out (fun v e => hB ⟨v, e⟩)
        gi_wp2_with fail
        refine ⟨trivial, ?_⟩
        refine (CallsIn.inRound l (callsIn_wide.2 K2.out)).mono ?_
        rintro e w3 ⟨⟨y, M, rfl⟩, b3⟩
        have S3 : Below W.heap.size W w3 := S2.trans (b3.mono S2.size)
        have g5 := boxed_below h5 S3
        have g6 := boxed_below h6 S3
        have G2 := Lib.hid (keeps_of_below S3)
        have G3 := Lib.hid (h7.trans (S3.mono h7.size))
        have fz5 := g5.frozen
        have fz6 := g6.frozen
        have c5 := g5.cell
        have c6 := g6.cell
        clear K2 b3 S2 S1 h1 h2 h5 h6 h7 S3 HE HT F1 F2 F3 HEW hcl hB ha
        gi_wp2
        refine ⟨(G2.out.trans (KeepsOthers.setCell _ _ _)).trans (KeepsOthers.setCell _ _ _), rfl, boxed_other (g5.set _) (by omega) _, (boxed_other g6 (by omega) _).set _, (G3.out.setCell (p := ⟨w.heap.size, 0, none⟩) (by simp) _).setCell (p := ⟨w.heap.size + 1, 0, none⟩) (by simp) _, hN⟩
    · have K1 := Lib.hid (atoi_none p (by omega) (fun v e => hA ⟨v, e⟩) w1 (HEW.out.below S1 (Nat.le_refl _)))
      have hN := F1.out (fun v e => hA ⟨v, e⟩)
      gi_wp2_with fail
      refine ⟨trivial, ?_⟩
      refine (CallsIn.inRound l (callsIn_wide.2 K1.out)).mono ?_
      rintro e w2 ⟨⟨y, M, rfl⟩, b2⟩
      have S2 : Below W.heap.size W w2 := S1.trans (b2.mono S1.size)
      have K2 := atoi_tot q (by omega) w2 (HEW.out.below S2 (Nat.le_refl _))
      have K2' := Lib.hid K2
      clear K1 b2 K2
      gi_wp2_with fail
      refine ⟨trivial, ?_⟩
      refine (CallsIn.inRound l (callsIn_wide.2 K2'.out)).mono ?_
      rintro e w3 ⟨⟨y2, z2, rfl⟩, b3⟩
      have S3 : Below W.heap.size W w3 := S2.trans (b3.mono S2.size)
      have g5 := boxed_below h5 S3
      have g6 := boxed_below h6 S3
      have G2 := Lib.hid (keeps_of_below S3)
      have G3 := Lib.hid (h7.trans (S3.mono h7.size))
      have fz5 := g5.frozen
      have fz6 := g6.frozen
      have c5 := g5.cell
      have c6 := g6.cell
      clear K2' b3 S2 S1 h1 h2 h5 h6 h7 S3 HE HT F1 F2 F3 HEW hcl hA
      gi_wp2
      refine ⟨(G2.out.trans (KeepsOthers.setCell _ _ _)).trans (KeepsOthers.setCell _ _ _), rfl, boxed_other (g5.set _) (by omega) _, (boxed_other g6 (by omega) _).set _, (G3.out.setCell (p := ⟨w.heap.size, 0, none⟩) (by simp) _).setCell (p := ⟨w.heap.size + 1, 0, none⟩) (by simp) _, hN⟩
  case done =>
    rintro D W hD ⟨v, L, h1, h2, h3, h4, h5, h6, h7⟩ hK
    have hall := fits_all h4
    obtain ⟨n, hn⟩ : ∃ n, n = (splitB 10 (Lib.trimSuffix s [10])).length := ⟨_, rfl⟩
    rw [← hn] at h2 h3
    obtain ⟨Av, cv, rfl, _, _⟩ := h2.form
    have c1 := h1.cell
    have hKl := (Array.getElem?_eq_some_iff.1 hK).1
    have a1 := h2.arr PP_length
    have KV := implCurveValid_any Av n cv L W a1 (by omega)
    have HTW := Lib.hid (HT.out.below h7 (Nat.le_refl _))
    have KTx := fun W' h hT => implCurveText_any Av n cv L W' h (by omega) hT
    clear HT HE h4 hn
    cases hB : curveB L with
    | false =>
      have hN := fits_bad hall hB
      rw [hB] at KV
      have KV' := Lib.hid KV
      clear KV KTx hB hall a1
      gi_wp2_with fail
      refine ⟨trivial, ?_⟩
      refine (callsIn_wide.2 KV'.out).mono ?_
      rintro e w1 ⟨rfl, S3⟩
      have g5 := boxed_below h5 S3
      have g6 := boxed_below h6 S3
      have hK1 := (S3.block D hKl).trans hK
      have G3 := h7.trans (S3.mono h7.size)
      have fz5 := g5.frozen
      have fz6 := g6.frozen
      have c5 := g5.cell
      have c6 := g6.cell
      clear KV' S3 h5 h6 h7 hK h1 h2
      gi_wp2_with fail
      refine ⟨trivial, ?_⟩
      gi_wp2
      have e5 : Boxed ((w1.setCell ⟨w.heap.size, 0, none⟩ (.slice none 0 0)).setCell ⟨w.heap.size + 1, 0, none⟩ (.bool false)) w.heap.size 25 (.slice none 0 0) := boxed_other (g5.set _) (by omega) _
      have e6 : Boxed ((w1.setCell ⟨w.heap.size, 0, none⟩ (.slice none 0 0)).setCell ⟨w.heap.size + 1, 0, none⟩ (.bool false)) (w.heap.size + 1) 4 (.bool false) := (boxed_other g6 (by omega) _).set _
      have hK2 : ((w1.setCell ⟨w.heap.size, 0, none⟩ (.slice none 0 0)).setCell ⟨w.heap.size + 1, 0, none⟩ (.bool false)).heap[D]? = some (.deferred (some [])) := ((heap_set_other (by omega) _).trans (heap_set_other (by omega) _)).trans hK1
      have G4 := (G3.setCell (p := ⟨w.heap.size, 0, none⟩) (by simp) (.slice none 0 0)).setCell (p := ⟨w.heap.size + 1, 0, none⟩) (by simp) (.bool false)
      generalize (w1.setCell ⟨w.heap.size, 0, none⟩ (.slice none 0 0)).setCell ⟨w.heap.size + 1, 0, none⟩ (.bool false) = w2 at e5 e6 hK2 G4 ⊢
      refine ⟨by simp, .inl ⟨_, _, rfl, run_takeDeferred hK2, ?_⟩⟩
      have k5 := cell_kept e5.cell (grownBy_putObj' _ D (.deferred none)) (fun r e => by cases e; exact ⟨_, hK2, rfl⟩)
      have k6 := cell_kept e6.cell (grownBy_putObj' _ D (.deferred none)) (fun r e => by cases e; exact ⟨_, hK2, rfl⟩)
      refine ⟨.tuple #[.slice none 0 0, .bool false], ?_, none, 0, 0, by rw [hN]; rfl, by rw [hN]; exact Own.nil_ _ _ _ _ _, G4.trans (belowK_b (w := w) (Nat.le_refl _) w2 D _ _ (by omega) hK2 rfl rfl)⟩
      simp [results, Tryd.f35, go_sem, k5, k6]
    | true =>
      rw [hB] at KV
      have KV' := Lib.hid KV
      clear KV
      gi_wp2_with fail
      refine ⟨trivial, ?_⟩
      refine (callsIn_wide.2 KV'.out).mono ?_
      rintro e w1 ⟨rfl, S1⟩
      have KT0 := KTx w1 ((a1.below' S1).more S1.size) (HTW.out.below S1 (Nat.le_refl _))
      have c2 := (S1.cell (by simpa using h1.lt)).trans c1
      clear KV' KTx
      obtain ⟨T, hT⟩ : ∃ T, T = curveT L := ⟨_, rfl⟩
      rw [← hT] at KT0
      have KT' := Lib.hid KT0
      clear KT0
      gi_wp2_with fail
      refine ⟨trivial, ?_⟩
      refine (callsIn_wide.2 KT'.out).mono ?_
      rintro e w2 ⟨rfl, S2'⟩
      have S3 := S1.trans (S2'.mono S1.size)
      have g1 := boxed_below h1 S3
      have g5 := boxed_below h5 S3
      have g6 := boxed_below h6 S3
      have hO3 := h2.below S3 (Nat.le_refl _)
      have hK1 := (S3.block D hKl).trans hK
      have G3 := h7.trans (S3.mono h7.size)
      have fz5 := g5.frozen
      have fz6 := g6.frozen
      have c3 := g1.cell
      have c5 := g5.cell
      have c6 := g6.cell
      clear KT' S3 S2' S1 c2 c1 h5 h6 h7 hK h1 h2 a1 HTW
      by_cases hTs : T = s
      · have hN := Lib.hid (fits_good hB (hT.symm.trans hTs))
        have f1 : ((tx T).toList == (tx s).toList) = true := by rw [hTs]; simp
        clear hTs hT hB hall
        gi_wp2
        have e5 : Boxed ((w2.setCell ⟨w.heap.size, 0, none⟩ (.slice Av n cv)).setCell ⟨w.heap.size + 1, 0, none⟩ (.bool true)) w.heap.size 25 (.slice Av n cv) := boxed_other (g5.set _) (by omega) _
        have e6 : Boxed ((w2.setCell ⟨w.heap.size, 0, none⟩ (.slice Av n cv)).setCell ⟨w.heap.size + 1, 0, none⟩ (.bool true)) (w.heap.size + 1) 4 (.bool true) := (boxed_other g6 (by omega) _).set _
        have hK2 : ((w2.setCell ⟨w.heap.size, 0, none⟩ (.slice Av n cv)).setCell ⟨w.heap.size + 1, 0, none⟩ (.bool true)).heap[D]? = some (.deferred (some [])) := ((heap_set_other (by omega) _).trans (heap_set_other (by omega) _)).trans hK1
        have G4 := (G3.setCell (p := ⟨w.heap.size, 0, none⟩) (by simp) (.slice Av n cv)).setCell (p := ⟨w.heap.size + 1, 0, none⟩) (by simp) (.bool true)
        have hO4 := (hO3.kept (grownBy_setCell' w2 w.heap.size (.slice Av n cv)) (fun g e => by injection e with e; omega)).kept (grownBy_setCell' _ (w.heap.size + 1) (.bool true)) (fun g e => by injection e with e; omega)
        generalize (w2.setCell ⟨w.heap.size, 0, none⟩ (.slice Av n cv)).setCell ⟨w.heap.size + 1, 0, none⟩ (.bool true) = w3 at e5 e6 hK2 G4 hO4 ⊢
        refine ⟨by simp, .inl ⟨_, _, rfl, run_takeDeferred hK2, ?_⟩⟩
        have k5 := cell_kept e5.cell (grownBy_putObj' _ D (.deferred none)) (fun r e => by cases e; exact ⟨_, hK2, rfl⟩)
        have k6 := cell_kept e6.cell (grownBy_putObj' _ D (.deferred none)) (fun r e => by cases e; exact ⟨_, hK2, rfl⟩)
        have hO5 := (hO4.kept_other (grownBy_putObj' _ D (.deferred none)) (fun r e => by cases e; exact ⟨_, hK2, rfl⟩)).less (show w.heap.size ≤ w.heap.size + 6 by omega)
        refine ⟨.tuple #[.slice Av n cv, .bool true], ?_, Av, n, cv, by rw [hN.out]; rfl, by rw [hN.out]; exact hO5, G4.trans (belowK_b (w := w) (Nat.le_refl _) w3 D _ _ (by omega) hK2 rfl rfl)⟩
        simp [results, Tryd.f35, go_sem, k5, k6]
      · have hN := Lib.hid (fromC_fail hall (fun e => hTs (hT.trans e)))
        have f1 : ((tx T).toList == (tx s).toList) = false := by unfold tx; rw [ByteArray.toList_mk, ByteArray.toList_mk]; simpa using hTs
        clear hTs hT hB hall
        gi_wp2
        have e5 : Boxed ((w2.setCell ⟨w.heap.size, 0, none⟩ (.slice none 0 0)).setCell ⟨w.heap.size + 1, 0, none⟩ (.bool false)) w.heap.size 25 (.slice none 0 0) := boxed_other (g5.set _) (by omega) _
        have e6 : Boxed ((w2.setCell ⟨w.heap.size, 0, none⟩ (.slice none 0 0)).setCell ⟨w.heap.size + 1, 0, none⟩ (.bool false)) (w.heap.size + 1) 4 (.bool false) := (boxed_other g6 (by omega) _).set _
        have hK2 : ((w2.setCell ⟨w.heap.size, 0, none⟩ (.slice none 0 0)).setCell ⟨w.heap.size + 1, 0, none⟩ (.bool false)).heap[D]? = some (.deferred (some [])) := ((heap_set_other (by omega) _).trans (heap_set_other (by omega) _)).trans hK1
        have G4 := (G3.setCell (p := ⟨w.heap.size, 0, none⟩) (by simp) (.slice none 0 0)).setCell (p := ⟨w.heap.size + 1, 0, none⟩) (by simp) (.bool false)
        generalize (w2.setCell ⟨w.heap.size, 0, none⟩ (.slice none 0 0)).setCell ⟨w.heap.size + 1, 0, none⟩ (.bool false) = w3 at e5 e6 hK2 G4 ⊢
        refine ⟨by simp, .inl ⟨_, _, rfl, run_takeDeferred hK2, ?_⟩⟩
        have k5 := cell_kept e5.cell (grownBy_putObj' _ D (.deferred none)) (fun r e => by cases e; exact ⟨_, hK2, rfl⟩)
        have k6 := cell_kept e6.cell (grownBy_putObj' _ D (.deferred none)) (fun r e => by cases e; exact ⟨_, hK2, rfl⟩)
        refine ⟨.tuple #[.slice none 0 0, .bool false], ?_, none, 0, 0, by rw [hN.out]; rfl, by rw [hN.out]; exact Own.nil_ _ _ _ _ _, G4.trans (belowK_b (w := w) (Nat.le_refl _) w3 D _ _ (by omega) hK2 rfl rfl)⟩
        simp [results, Tryd.f35, go_sem, k5, k6]
  case stop =>
    rintro D pre W hD ⟨h5, h6, h7, h8⟩ hK
    have c5 := h5.cell
    have c6 := h6.cell
    gi_wp2
    refine ⟨by simp, .inl ⟨_, _, rfl, run_takeDeferred hK, ?_⟩⟩
    have k5 := cell_kept c5 (grownBy_putObj' _ D (.deferred none)) (fun r e => by cases e; exact ⟨_, hK, rfl⟩)
    have k6 := cell_kept c6 (grownBy_putObj' _ D (.deferred none)) (fun r e => by cases e; exact ⟨_, hK, rfl⟩)
    refine ⟨.tuple #[.slice none 0 0, .bool false], ?_, none, 0, 0, by rw [h8]; rfl, by rw [h8]; exact Own.nil_ _ _ _ _ _, h7.trans (belowK_b (w := w) (Nat.le_refl _) W D _ _ (by omega) hK rfl rfl)⟩
    simp [results, Tryd.f35, go_sem, k5, k6]
end Go.Proofs.YtjbdoohpljffnaaDoor
