/-
  The exact laws' own words on a slice of Layer: its size, its copy, its comparison.
-/
import Derived.Test.YtjbdoohpljffnaaDoorKit
import Derived.StillTailTactics
namespace Go.Proofs.YtjbdoohpljffnaaDoor
open Go.RowKit
set_option linter.unusedSimpArgs false
set_option linter.unusedVariables false

theorem set_flatMap_LL : ∀ (L : List (Int × Bool)) (k : Nat) (x : Int) (y : Bool), k < L.length → ((L.flatMap LL).set (k * 2) (.int .i64 x)).set (k * 2 + 1) (.bool y) = (L.set k (x, y)).flatMap LL := by
  intro L
  induction L with
  | nil => intro k x y h; simp at h
  | cons o L ih =>
    intro k x y h
    cases k with
    | zero => simp [LL]
    | succ k =>
      rw [show (k + 1) * 2 = k * 2 + 2 by omega]
      simp only [List.flatMap_cons, LL, List.cons_append, List.nil_append, List.set_cons_succ, List.set_cons_succ]
      rw [ih k x y (by simpa using h)]
section
variable {w : World} {base g n c k : Nat} {T : TypeId}
theorem Own.layAt {L : List (Int × Bool)} {x : Int} {y : Bool} (h : Own LL 2 w base T (.slice (some ⟨g, 0, none⟩) n c) n L) (hk : L[k]? = some (x, y)) :
    w.cell? ⟨g, k * 2, none⟩ = some (.int .i64 x) ∧ w.cell? ⟨g, k * 2 + 1, none⟩ = some (.bool y) := by
  have hl : k < n := by rw [← h.1]; exact (List.getElem?_eq_some_iff.1 hk).1
  have h0 := h.2.cellAt (k * 2) (by omega)
  have h1 := h.2.cellAt (k * 2 + 1) (by omega)
  have g0 := getElem?_flatMap LL_length L k _ 0 hk (by omega)
  have g1 := getElem?_flatMap LL_length L k _ 1 hk (by omega)
  exact ⟨h0.trans g0, h1.trans g1⟩
theorem Own.setLay {L : List (Int × Bool)} (h : Own LL 2 w base T (.slice (some ⟨g, 0, none⟩) n c) n L) (hk : k < n) (x : Int) (y : Bool) :
    Own LL 2 ((w.setCell ⟨g, k * 2, none⟩ (.int .i64 x)).setCell ⟨g, k * 2 + 1, none⟩ (.bool y)) base T (.slice (some ⟨g, 0, none⟩) n c) n (L.set k (x, y)) := by
  have h1 := (h.2.stored (k * 2) (.int .i64 x)).1
  have h2 := (h1.stored (k * 2 + 1) (.bool y)).1
  rw [set_flatMap_LL L k x y (by rw [h.1]; exact hk)] at h2
  exact ⟨by rw [List.length_set]; exact h.1, h2⟩
end

theorem infoLayer : (Tryd.prog.info? 55).map (fun i => (i.zero, i.size, i.bytes)) = some (some (.agg #[.int .i64 0, .bool false]), 2, 16) := by kernel_rfl

theorem szLayerS_any (A : Option Addr) (n c : Nat) (left : Int) (w : World) (h0 : 0 ≤ left) (h1 : left ≤ 4611686018427387904) (hn : n ≤ 9223372036854775807) :
    Calls Tryd.prog 26 #[.slice A n c, .int .i64 left] w fun e w' => e = .returned (.int .i64 (if left < (n : Int) then -1 else left - n)) ∧ w = w' := by
  by_cases h : left < (n : Int)
  · have h2 : left - (n : Int) < 0 := by omega
    go_enter Tryd.func26, Tryd.ntmps26
    go_wp2
    go_ret
    exact ⟨rfl, rfl⟩
  · have h2 : ¬ left - (n : Int) < 0 := by omega
    go_enter Tryd.func26, Tryd.ntmps26
    go_wp2
    go_ret
    exact ⟨rfl, rfl⟩

theorem toLayer_any (x : Int) (y : Bool) (w : World) :
    Calls Tryd.prog 61 #[.agg #[.int .i64 x, .bool y]] w fun e w' => e = .returned (.agg #[.int .i64 x, .bool y]) ∧ Below w.heap.size w w' := by
  go_enter Tryd.func61, Tryd.ntmps61
  go_wp2
  refine bodyPost_ret (v := .agg #[.int .i64 x, .bool y]) (by simp [results, Tryd.results61, go_sem]) rfl ⟨rfl, ?_⟩
  go_grown

theorem eqLayer_any (x : Int) (y : Bool) (x' : Int) (y' : Bool) (w : World) :
    Calls Tryd.prog 62 #[.agg #[.int .i64 x, .bool y], .agg #[.int .i64 x', .bool y']] w fun e w' => e = .returned (.bool (decide (x = x' ∧ y = y'))) ∧ Below w.heap.size w w' := by
  by_cases h1 : x = x'
  · subst h1
    cases y <;> cases y'
    all_goals
      go_enter Tryd.func62, Tryd.ntmps62
      go_wp2
      go_ret
      refine ⟨ret_bool (by simp), ?_⟩
      go_grown
  · go_enter Tryd.func62, Tryd.ntmps62
    go_wp2
    go_ret
    refine ⟨ret_bool (by simp [h1]), ?_⟩
    go_grown

set_option maxRecDepth 100000 in
set_option maxHeartbeats 400000 in
theorem toLayerS_any (A : Option Addr) (n c : Nat) (l : List (Int × Bool)) (w : World) (h : Arr LL 2 w w.heap.size A n l) (hn : n ≤ 1048576) :
    Calls Tryd.prog 27 #[.slice A n c] w (RetOwn LL 2 55 w n l) := by
  obtain ⟨i0, hi, hz0, hz1, hz2⟩ := info_parts infoLayer
  go_enter Tryd.func27, Tryd.ntmps27
  go_wp2_with (at_make; refine wpList_make_full _ rfl _ _ 34 rfl w.heap.size 55 i0 (.agg #[.int .i64 0, .bool false]) 2 Tryd.underlying34 hi hz0 hz1 _ _ _ _ n rfl rfl (by omega) (by omega) ?b1 ?b2 ?b3 ?_)
  case b1 => rw [hz2]; omega
  case b2 => unfold maxLen; omega
  case b3 => exact Nat.le_refl _
  intro w1 hown hg
  go_wp2
  have hb1 : Below w.heap.size w w1 := below_of_grown hg (Nat.le_refl _) (by intro k hk; cases hk)
  have hO : Own LL 2 w1 w.heap.size 55 (.slice (some ⟨w.heap.size, 0, none⟩) n n) n (List.replicate n ((0 : Int), false)) := ⟨by simp, by rw [zeros_LL]; exact hown⟩
  have hs1 : w.heap.size < w1.heap.size := (Own.block hO).2
  clear hown
  obtain ⟨G, hG⟩ : ∃ G, G = w.heap.size := ⟨_, rfl⟩
  go_loopw [4] (fun i wr => ∃ k : Nat, k ≤ n ∧ i = .int .i64 k ∧ Own LL 2 wr w.heap.size 55 (.slice (some ⟨w.heap.size, 0, none⟩) n n) n (l.take k ++ List.replicate (n - k) ((0 : Int), false)) ∧ Below w.heap.size w wr) (fun i _ => n - (intOf i).toNat)
  case atStart => exact ⟨0, Nat.zero_le _, rfl, by simpa using hO, hb1⟩
  case round =>
    obtain ⟨k, hk, rfl, hw, hb⟩ := hrel
    by_cases hlt : k < n
    · obtain ⟨b, off, x, y, rfl, hbB, hx, c1, c2⟩ := h.layer hlt
      have hx' := Lib.hid hx; clear hx
      have c1' := (hb.cell (by exact hbB)).trans c1
      have c2' := (hb.cell (by exact hbB)).trans c2
      clear c1 c2
      go_wp2_with fail
      refine (toLayer_any _ _ _).mono ?_
      rintro e w2 ⟨rfl, hb2⟩
      have hw2 := hw.below hb2 (Nat.le_refl _)
      obtain ⟨d1, d2⟩ := hw2.layAt (mid_zero ((0 : Int), false) h.1 hlt)
      have e1 := hw2.2.frozenAt (k * 2)
      have e2 := hw2.2.frozenAt (k * 2 + 1)
      go_wp2
      go_roundw
      case rel =>
        refine ⟨k + 1, by omega, by go_num, ?_, ?_⟩
        · rw [← mid_set h.1 hlt hx'.out]
          exact hw2.setLay hlt x y
        · exact ((hb.trans (hb2.mono hb.size)).setCell (Nat.le_refl _) _).setCell (Nat.le_refl _) _
      case measure => simp [intOf]; omega
    · obtain rfl : k = n := by omega
      have hE := mid_end ((0 : Int), false) h.1
      have hE' := Lib.hid hE
      clear hE
      go_wp2
      go_ret
      exact ⟨_, _, rfl, by rw [← hE'.out]; exact hw, hb⟩

set_option maxRecDepth 100000 in
set_option maxHeartbeats 400000 in
theorem eqLayerS_any (A : Option Addr) (n c : Nat) (l : List (Int × Bool)) (A' : Option Addr) (n' c' : Nat) (l' : List (Int × Bool)) (w : World) (h : Arr LL 2 w w.heap.size A n l) (h' : Arr LL 2 w w.heap.size A' n' l') (hn : n ≤ 1048576) (hn' : n' ≤ 1048576) :
    Calls Tryd.prog 28 #[.slice A n c, .slice A' n' c'] w fun e w' => e = .returned (.bool (decide (l = l'))) ∧ Below w.heap.size w w' := by
  by_cases hne : n = n'
  · subst hne
    have hl1 := Lib.hid h.1
    have hl2 := Lib.hid h'.1
    go_enter Tryd.func28, Tryd.ntmps28
    go_wp2
    go_loopw [5] (fun i wr => ∃ k : Nat, k ≤ n ∧ i = .int .i64 k ∧ l.take k = l'.take k ∧ Below w.heap.size w wr) (fun i _ => n - (intOf i).toNat)
    case atStart => exact ⟨0, Nat.zero_le _, rfl, rfl, Below.refl _ _⟩
    case round =>
      obtain ⟨k, hk, rfl, heq, hb⟩ := hrel
      have heq' := Lib.hid heq
      clear heq
      by_cases hlt : k < n
      · obtain ⟨b, off, x, y, rfl, hbB, hx, c1, c2⟩ := h.layer hlt
        obtain ⟨b', off', x', y', rfl, hbB', hy, c1', c2'⟩ := h'.layer hlt
        have hx' := Lib.hid hx; clear hx
        have hy' := Lib.hid hy; clear hy
        have d1 := (hb.cell (by exact hbB)).trans c1
        have d2 := (hb.cell (by exact hbB)).trans c2
        have d1' := (hb.cell (by exact hbB')).trans c1'
        have d2' := (hb.cell (by exact hbB')).trans c2'
        clear c1 c2 c1' c2'
        go_wp2_with fail
        go_still_tail 8, (by kernel_rfl)
        change wpList _ _ _ _ _ wr.drew
        have hb2 := hb.drew
        obtain ⟨w2, hw2⟩ : ∃ w2, w2 = wr.drew := ⟨_, rfl⟩
        rw [← hw2] at hb2 ⊢
        clear hw2
        go_wp2_with fail
        by_cases he : x = x' ∧ y = y'
        · obtain ⟨rfl, rfl⟩ := he
          refine (eqLayer_any _ _ _ _ _).mono ?_
          rintro e w3 ⟨rfl, hb3⟩
          go_wp2
          go_roundw
          case rel => exact ⟨k + 1, by omega, by go_num, by rw [List.take_add_one, List.take_add_one, heq'.out, hx'.out, hy'.out], hb2.trans (hb3.mono hb2.size)⟩
          case measure => simp [intOf]; omega
        · have hd : decide (x = x' ∧ y = y') = false := by simp only [he, decide_false]
          have hE : ¬ l = l' := by
            rintro rfl
            have := hx'.out.symm.trans hy'.out
            simp only [Option.some.injEq, Prod.mk.injEq] at this
            exact he this
          have hE' := Lib.hid hE
          have C := eqLayer_any x y x' y' w2
          rw [hd] at C
          clear hE he hd
          refine C.mono ?_
          rintro e w3 ⟨rfl, hb3⟩
          clear C
          go_wp2
          go_ret
          exact ⟨ret_bool (by simp only [hE'.out, decide_false]), hb2.trans (hb3.mono hb2.size)⟩
      · obtain rfl : k = n := by omega
        have hE : l = l' := by rw [← List.take_of_length_le (show l.length ≤ k by rw [hl1.out]; exact Nat.le_refl _), heq'.out, List.take_of_length_le (by rw [hl2.out]; exact Nat.le_refl _)]
        have hE' := Lib.hid hE
        clear hE
        go_wp2
        go_ret
        exact ⟨ret_bool (by rw [hE'.out]; simp), hb⟩
  · have hl : ¬ l = l' := fun e => hne (by rw [← h.1, ← h'.1, e])
    have hl' := Lib.hid hl
    clear hl
    go_enter Tryd.func28, Tryd.ntmps28
    go_wp2
    go_ret
    exact ⟨ret_bool (by simp [hl'.out]), Below.refl _ _⟩
end Go.Proofs.YtjbdoohpljffnaaDoor
