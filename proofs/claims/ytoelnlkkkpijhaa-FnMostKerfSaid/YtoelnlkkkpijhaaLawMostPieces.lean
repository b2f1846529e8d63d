/-
  The walks of the laws on drawn cores: MostPieces, MostKerf.
-/
import Derived.Test.YtoelnlkkkpijhaaLawMosts
namespace Go.Proofs.Ytoelnlkkkpijhaa
open Go.RowKit
set_option linter.unusedSimpArgs false
set_option linter.unusedVariables false

theorem cnt_append {w kf : Int} (a b : List Pc) : cnt w kf (a ++ b) = cnt w kf a + cnt w kf b := by
  induction a with
  | nil => simp [cnt]
  | cons p a ih => simp only [List.cons_append, cnt, ih]; omega

set_option maxHeartbeats 1000000 in
theorem walk_FnMostPieces (w : World) (A : Option Addr) (n c : Nat) (l : List Int) (h : Arr BB 1 w w.heap.size A n l) (hby : ∀ x ∈ l, 0 ≤ x ∧ x ≤ 255) (hc : n ≤ c) :
    Calls Try.prog 8 #[.slice A n c] w fun e w' => e = .returned (.bool true) ∧ Below w.heap.size w w' := by
  have C := Lib.hid (DrawSampleMost_any A n c l w h hby hc)
  clear hby h
  by_cases hb : 1048576 < n
  · go_enter Try.func8, Try.ntmps8
    go_wp2_with fail
    go_ret
    exact ⟨rfl, Below.refl _ _⟩
  go_enter Try.func8, Try.ntmps8
  go_wp2_with fail
  refine C.out.mono ?_
  rintro e w1 ⟨A1, n1, c1, L, a, k, rfl, o1, hn1, b1⟩
  clear C
  have hc1 := o1.cap
  have a1 := o1.arr PP_length
  clear o1
  go_wp2_with fail
  refine (implMost_any A1 n1 c1 L a k _ a1 hc1 (by omega)).mono ?_
  rintro e w2 ⟨rfl, b2⟩
  have a2 := (a1.below' b2).more b2.size
  have B2 := b1.trans (b2.mono b1.size)
  clear a1 b1 b2
  go_wp2_with fail
  refine (specMost_any A1 n1 c1 L a k _ a2 hc1 (by omega)).mono ?_
  rintro e w3 ⟨rfl, b3⟩
  have a3 := (a2.below' b3).more b3.size
  have B3 := B2.trans (b3.mono B2.size)
  clear a2 B2 b3
  by_cases hpos : 0 ≤ mostOf L a k
  · obtain ⟨hB, ⟨wl, wh⟩, ⟨kl, kh⟩, hE⟩ := mostOf_good hpos
    have hF := ((coreB_iff L).1 hB).1
    have hLn := Lib.hid a3.1
    have h3 := lenOf_bd' hF
    obtain ⟨M, hMM⟩ : ∃ M, M = mostOf L a k := ⟨_, rfl⟩
    have HM := Lib.hid (hMM.trans hE)
    rw [← hMM] at hpos ⊢
    have HF := Lib.hid hF
    have HB := Lib.hid hB
    clear hMM hE hB hF h3
    go_wp2_with fail
    go_loopw [8, 9] (fun s i wr => ∃ j : Nat, j ≤ n1 ∧ i = .int .i64 j ∧ s = .int .i64 (cnt a k (L.take j)) ∧ Below w3.heap.size w3 wr) (fun _ i _ => n1 - (intOf i).toNat)
    case atStart => exact ⟨0, Nat.zero_le _, rfl, rfl, Below.refl _ _⟩
    case round =>
      obtain ⟨j, hj, rfl, rfl, hb⟩ := hrel
      by_cases hlt : j < n1
      · obtain ⟨b, off, x, y, rfl, hbB, hx, c1', c2'⟩ := a3.pair hlt
        have d1 := (hb.cell (by exact hbB)).trans c1'
        have d2 := (hb.cell (by exact hbB)).trans c2'
        have hm := coreFrom_mem HF.out _ (List.mem_of_getElem? hx)
        have m0 : (0 : Int) ≤ x := hm.1
        have m1 : x < y := hm.2.1
        have m2 : y ≤ 30000 := hm.2.2
        have hS := Lib.hid (show cnt a k (L.take (j + 1)) = cnt a k (L.take j) + (y - x + k) / (a + k) by rw [List.take_add_one, hx, cnt_append]; simp [cnt])
        have hq0 : 0 ≤ (y - x + k) / (a + k) := Int.ediv_nonneg (by omega) (by omega)
        have hq1 : (y - x + k) / (a + k) ≤ 30100 := by
          have := Int.ediv_le_self (a + k) (show 0 ≤ y - x + k by omega)
          omega
        have hs0 := cnt_nonneg (w := a) (kf := k) (by omega) (by omega) (coreFrom_take j HF.out)
        have hs1 := cnt_le_len (w := a) (kf := k) (by omega) (by omega) (coreFrom_take j HF.out)
        have hs2 := lenOf_bd' (coreFrom_take j HF.out)
        obtain ⟨T, hT⟩ : ∃ T, T = cnt a k (L.take j) := ⟨_, rfl⟩
        rw [← hT] at hS hs0 hs1 ⊢
        obtain ⟨q, hq⟩ : ∃ q, q = (y - x + k) / (a + k) := ⟨_, rfl⟩
        rw [← hq] at hS hq0 hq1
        have ij : (j : Int) < (n1 : Int) := by omega
        have t1 : Int.tdiv (y - x + k) (a + k) = q := by rw [hq]; exact Int.tdiv_eq_ediv_of_nonneg (by omega)
        have HX := Lib.hid hx
        have P1 : 0 ≤ y - x ∧ y - x ≤ 4611686018427387904 := by omega
        have P2 : 0 ≤ y - x + k ∧ y - x + k ≤ 4611686018427387904 := by omega
        have P3 : 0 ≤ a + k ∧ a + k ≤ 4611686018427387904 := by omega
        have P4 : 0 ≤ q ∧ q ≤ 4611686018427387904 := by omega
        have P5 : 0 ≤ T + q ∧ T + q ≤ 4611686018427387904 := by omega
        have g1 : ¬ (a + k) = 0 := by omega
        have e1 : wrap64 (y - x) = y - x := w64 P1
        have e2 : wrap64 (y - x + k) = y - x + k := w64 P2
        have e3 : wrap64 (a + k) = a + k := w64 P3
        have e4 : wrap64 q = q := w64 P4
        have e5 : wrap64 (T + q) = T + q := w64 P5
        clear P1 P2 P3 P4 P5 hq hx hm hT c1' c2'
        go_wp2_with fail
        go_quiet (fail)
        clear t1 e1 e2 e3 e4 e5
        go_wp2
        go_roundw
        case rel => exact ⟨j + 1, by omega, by go_num, by rw [hS.out], below_drewN hb _⟩
        case measure => simp [intOf]; omega
      · have htk := Lib.hid (show L.take j = L from List.take_of_length_le (by rw [hLn.out]; omega))
        rw [htk.out, ← HM.out]
        go_wp2
        go_ret
        exact ⟨by simp, B3.trans (hb.mono B3.size)⟩
  · have hN := mostOf_neg hpos
    obtain ⟨M, hMM⟩ : ∃ M, M = mostOf L a k := ⟨_, rfl⟩
    rw [← hMM] at hN ⊢
    clear hMM hpos
    subst hN
    go_wp2
    go_ret
    exact ⟨rfl, B3⟩

set_option maxHeartbeats 1000000 in
theorem walk_FnMostKerf (w : World) (A : Option Addr) (n c : Nat) (l : List Int) (h : Arr BB 1 w w.heap.size A n l) (hby : ∀ x ∈ l, 0 ≤ x ∧ x ≤ 255) (hc : n ≤ c) :
    Calls Try.prog 7 #[.slice A n c] w fun e w' => e = .returned (.bool true) ∧ Below w.heap.size w w' := by
  have C := Lib.hid (DrawSampleMost_any A n c l w h hby hc)
  clear hby h
  by_cases hb : 1048576 < n
  · go_enter Try.func7, Try.ntmps7
    go_wp2_with fail
    go_ret
    exact ⟨rfl, Below.refl _ _⟩
  go_enter Try.func7, Try.ntmps7
  go_wp2_with fail
  refine C.out.mono ?_
  rintro e w1 ⟨A1, n1, c1, L, a, k, rfl, o1, hn1, b1⟩
  clear C
  have hc1 := o1.cap
  have a1 := o1.arr PP_length
  clear o1
  go_wp2_with fail
  refine (implMost_any A1 n1 c1 L a k _ a1 hc1 (by omega)).mono ?_
  rintro e w2 ⟨rfl, b2⟩
  have a2 := (a1.below' b2).more b2.size
  have B2 := b1.trans (b2.mono b1.size)
  clear a1 b1 b2
  go_wp2_with fail
  refine (specMost_any A1 n1 c1 L a k _ a2 hc1 (by omega)).mono ?_
  rintro e w3 ⟨rfl, b3⟩
  have a3 := (a2.below' b3).more b3.size
  have B3 := B2.trans (b3.mono B2.size)
  clear a2 B2 b3
  by_cases hpos : 0 ≤ mostOf L a k
  · obtain ⟨hB, ⟨wl, wh⟩, ⟨kl, kh⟩, hE⟩ := mostOf_good hpos
    have hF := ((coreB_iff L).1 hB).1
    have hLn := Lib.hid a3.1
    have h3 := lenOf_bd' hF
    obtain ⟨M, hMM⟩ : ∃ M, M = mostOf L a k := ⟨_, rfl⟩
    have HM := Lib.hid (hMM.trans hE)
    rw [← hMM] at hpos ⊢
    have HF := Lib.hid hF
    have HB := Lib.hid hB
    clear hMM hE hB hF h3
    go_wp2_with fail
    go_loopw [8, 9] (fun s i wr => ∃ j : Nat, j ≤ n1 ∧ i = .int .i64 j ∧ s = .int .i64 (cnt a 0 (L.take j)) ∧ Below w3.heap.size w3 wr) (fun _ i _ => n1 - (intOf i).toNat)
    case atStart => exact ⟨0, Nat.zero_le _, rfl, rfl, Below.refl _ _⟩
    case round =>
      obtain ⟨j, hj, rfl, rfl, hb⟩ := hrel
      by_cases hlt : j < n1
      · obtain ⟨b, off, x, y, rfl, hbB, hx, c1', c2'⟩ := a3.pair hlt
        have d1 := (hb.cell (by exact hbB)).trans c1'
        have d2 := (hb.cell (by exact hbB)).trans c2'
        have hm := coreFrom_mem HF.out _ (List.mem_of_getElem? hx)
        have m0 : (0 : Int) ≤ x := hm.1
        have m1 : x < y := hm.2.1
        have m2 : y ≤ 30000 := hm.2.2
        have hS := Lib.hid (show cnt a 0 (L.take (j + 1)) = cnt a 0 (L.take j) + (y - x) / (a) by rw [List.take_add_one, hx, cnt_append]; simp [cnt])
        have hq0 : 0 ≤ (y - x) / (a) := Int.ediv_nonneg (by omega) (by omega)
        have hq1 : (y - x) / (a) ≤ 30100 := by
          have := Int.ediv_le_self (a) (show 0 ≤ y - x by omega)
          omega
        have hs0 := cnt_nonneg (w := a) (kf := 0) (by omega) (by omega) (coreFrom_take j HF.out)
        have hs1 := cnt_le_len (w := a) (kf := 0) (by omega) (by omega) (coreFrom_take j HF.out)
        have hs2 := lenOf_bd' (coreFrom_take j HF.out)
        obtain ⟨T, hT⟩ : ∃ T, T = cnt a 0 (L.take j) := ⟨_, rfl⟩
        rw [← hT] at hS hs0 hs1 ⊢
        obtain ⟨q, hq⟩ : ∃ q, q = (y - x) / (a) := ⟨_, rfl⟩
        rw [← hq] at hS hq0 hq1
        have ij : (j : Int) < (n1 : Int) := by omega
        have t1 : Int.tdiv (y - x) (a) = q := by rw [hq]; exact Int.tdiv_eq_ediv_of_nonneg (by omega)
        have HX := Lib.hid hx
        have P1 : 0 ≤ y - x ∧ y - x ≤ 4611686018427387904 := by omega
        have P4 : 0 ≤ q ∧ q ≤ 4611686018427387904 := by omega
        have P5 : 0 ≤ T + q ∧ T + q ≤ 4611686018427387904 := by omega
        have g1 : ¬ (a) = 0 := by omega
        have e1 : wrap64 (y - x) = y - x := w64 P1
        have e4 : wrap64 q = q := w64 P4
        have e5 : wrap64 (T + q) = T + q := w64 P5
        clear P1 P4 P5 hq hx hm hT c1' c2'
        go_wp2_with fail
        go_quiet (fail)
        clear t1 e1 e4 e5
        go_wp2
        go_roundw
        case rel => exact ⟨j + 1, by omega, by go_num, by rw [hS.out], below_drewN hb _⟩
        case measure => simp [intOf]; omega
      · have htk := Lib.hid (show L.take j = L from List.take_of_length_le (by rw [hLn.out]; omega))
        rw [htk.out]
        have h1 := cnt_thicker wl kl HF.out
        have hX : mostOf L a (k + 1) ≤ M := by
          rw [HM.out]
          by_cases ha : k + 1 ≤ 100
          · rw [mostOf_ok HB.out ⟨wl, wh⟩ ⟨by omega, ha⟩]; exact h1
          · have : mostOf L a (k + 1) = -1 := by unfold mostOf; rw [if_neg (by rw [mostOk_iff]; omega)]
            have := cnt_nonneg wl kl HF.out
            omega
        have KX := implMost_any A1 n1 c1 L a (k + 1)
        have K0 := implMost_any A1 n1 c1 L a 0
        rw [mostOf_ok HB.out ⟨wl, wh⟩ ⟨by omega, by omega⟩] at K0
        obtain ⟨X, hXX⟩ : ∃ M, M = mostOf L a (k + 1) := ⟨_, rfl⟩
        rw [← hXX] at KX hX
        obtain ⟨Z, hZZ⟩ : ∃ M, M = cnt a 0 L := ⟨_, rfl⟩
        rw [← hZZ] at K0 ⊢
        have KX' := Lib.hid KX
        have K0' := Lib.hid K0
        have a4 := (a3.below' hb).more hb.size
        have B4 := B3.trans (hb.mono B3.size)
        clear KX K0 h1 hXX hZZ hb a3
        go_wp2_with fail
        refine (KX'.out _ a4 hc1 (by omega)).mono ?_
        rintro e w5 ⟨rfl, b5⟩
        have B5 := B4.trans (b5.mono B4.size)
        have a5 := (a4.below' b5).more b5.size
        clear b5
        go_wp2_with fail
        refine (K0'.out _ a5 hc1 (by omega)).mono ?_
        rintro e w6 ⟨rfl, b6⟩
        have B6 := B5.trans (b6.mono B5.size)
        clear b6
        go_wp2
        go_ret
        exact ⟨by simp, B6⟩
  · have hN := mostOf_neg hpos
    obtain ⟨M, hMM⟩ : ∃ M, M = mostOf L a k := ⟨_, rfl⟩
    rw [← hMM] at hN ⊢
    clear hMM hpos
    subst hN
    go_wp2
    go_ret
    exact ⟨rfl, B3⟩

end Go.Proofs.Ytoelnlkkkpijhaa
