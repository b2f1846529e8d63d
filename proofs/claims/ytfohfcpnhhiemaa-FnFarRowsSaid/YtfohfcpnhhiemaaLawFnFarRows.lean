/-
  The walk of the law FnFarRows.
-/
import Derived.Test.YtfohfcpnhhiemaaFar
import Derived.Test.YtfohfcpnhhiemaaInts
import Derived.Test.YtfohfcpnhhiemaaDrawStacks
namespace Go.Proofs.Ytfohfcpnhhiemaa
open Go.RowKit
set_option linter.unusedSimpArgs false
set_option linter.unusedVariables false

/-! ### Plain: rows are not further than all the others together -/
theorem absI_add (a b : Int) : absI (a + b) ≤ absI a + absI b := by unfold absI; omega
theorem absI_nonneg (a : Int) : 0 ≤ absI a := by unfold absI; omega
theorem farOf_same {R : List (List Int)} {r : List Int} (h : ∀ q ∈ R, q = r) : ∀ k, farOf R r k = 0 := by
  have hs : ∀ k, sumAt R k = (R.length : Int) * at0 r k := by
    intro k
    induction R with
    | nil => simp [sumAt]
    | cons q R ih =>
      have h1 := ih fun x hx => h x (List.mem_cons_of_mem _ hx)
      have h2 := h q (List.mem_cons_self ..)
      simp only [sumAt, h1, h2, List.length_cons]
      rw [show ((R.length + 1 : Nat) : Int) = (R.length : Int) + 1 by omega, Int.add_mul]
      omega
  intro k
  induction k with
  | zero => rfl
  | succ k ih => rw [farOf, ih, hs]; simp [absI]
/-- The sum of what all rows but one are far. -/
def sumFar (R : List (List Int)) (m : Nat) (i : Nat) : Nat → Int
  | 0 => 0
  | k + 1 => sumFar R m i k + if k = i then 0 else farOf R (R.getD k []) m
theorem sum_dev (R : List (List Int)) (i k : Nat) (n : Int) (S : Int) : ∀ j : Nat, j ≤ R.length → True := fun _ _ => trivial
def devSum (R : List (List Int)) (i : Nat) (n S : Int) (k : Nat) : Nat → Int
  | 0 => 0
  | j + 1 => devSum R i n S k j + if j = i then 0 else absI (n * at0 (R.getD j []) k - S)
def lin (R : List (List Int)) (i : Nat) (n S : Int) (k : Nat) : Nat → Int
  | 0 => 0
  | j + 1 => lin R i n S k j + if j = i then 0 else (n * at0 (R.getD j []) k - S)
theorem lin_dev (R : List (List Int)) (i : Nat) (n S : Int) (k : Nat) : ∀ j, absI (lin R i n S k j) ≤ devSum R i n S k j := by
  intro j
  induction j with
  | zero => simp [lin, devSum, absI]
  | succ j ih =>
    simp only [lin, devSum]
    by_cases hj : j = i
    · rw [if_pos hj, if_pos hj]; simpa using ih
    · rw [if_neg hj, if_neg hj]
      have := absI_add (lin R i n S k j) (n * at0 (R.getD j []) k - S)
      omega
theorem lin_take (R : List (List Int)) (i : Nat) (n S : Int) (k : Nat) : ∀ j, j ≤ R.length → lin R i n S k j = n * sumAt (R.take j) k - j * S - if i < j then (n * at0 (R.getD i []) k - S) else 0 := by
  intro j
  induction j with
  | zero => intro _; simp [lin, sumAt]
  | succ j ih =>
    intro hj
    have h1 := ih (by omega)
    have hg : R[j]? = some (R.getD j []) := by rw [List.getD_eq_getElem?_getD, List.getElem?_eq_getElem (by omega)]; rfl
    have hs : sumAt (R.take (j + 1)) k = sumAt (R.take j) k + at0 (R.getD j []) k := by
      rw [take_snoc hg, sumAt_append]; simp [sumAt]
    simp only [lin, h1, hs, Int.mul_add]
    rw [show ((j + 1 : Nat) : Int) = (j : Int) + 1 by omega, Int.add_mul]
    by_cases hji : j = i
    · subst hji
      rw [if_neg (by omega), if_pos rfl, if_pos (by omega)]
      omega
    · rw [if_neg hji]
      by_cases h3 : i < j
      · rw [if_pos h3, if_pos (by omega)]; omega
      · rw [if_neg h3, if_neg (by omega)]; omega
theorem far_le_place (R : List (List Int)) {i : Nat} (hi : i < R.length) (k : Nat) : absI ((R.length : Int) * at0 (R.getD i []) k - sumAt R k) ≤ devSum R i R.length (sumAt R k) k R.length := by
  have h1 := lin_dev R i R.length (sumAt R k) k R.length
  have h2 := lin_take R i R.length (sumAt R k) k R.length (Nat.le_refl _)
  rw [List.take_length, if_pos hi] at h2
  rw [h2] at h1
  have e : absI ((R.length : Int) * sumAt R k - (R.length : Int) * sumAt R k - ((R.length : Int) * at0 (R.getD i []) k - sumAt R k)) = absI ((R.length : Int) * at0 (R.getD i []) k - sumAt R k) := by unfold absI; omega
  omega
theorem sumFar_zero (R : List (List Int)) (i : Nat) : ∀ j, sumFar R 0 i j = 0 := by
  intro j
  induction j with
  | zero => rfl
  | succ j ih => simp only [sumFar, ih]; split <;> simp [farOf]
theorem sumFar_succ (R : List (List Int)) (m i : Nat) : ∀ j, sumFar R (m + 1) i j = sumFar R m i j + devSum R i R.length (sumAt R m) m j := by
  intro j
  induction j with
  | zero => rfl
  | succ j ih =>
    simp only [sumFar, devSum, ih]
    by_cases h : j = i
    · rw [if_pos h, if_pos h, if_pos h]; omega
    · rw [if_neg h, if_neg h, if_neg h, farOf]; omega
theorem far_le_sum (R : List (List Int)) {i : Nat} (hi : i < R.length) : ∀ m, farOf R (R.getD i []) m ≤ sumFar R m i R.length := by
  intro m
  induction m with
  | zero => rw [sumFar_zero]; simp [farOf]
  | succ m ih =>
    rw [sumFar_succ, farOf]
    have := far_le_place R hi m
    omega

theorem far_nonneg {R : List (List Int)} {i : Int} (h : 0 ≤ far R i) : stackB R = true ∧ 0 ≤ i ∧ i < (R.length : Int) := by
  unfold far at h
  split at h
  · assumption
  · omega
theorem far_neg {R : List (List Int)} {i : Int} (h : ¬ 0 ≤ far R i) : far R i = -1 := by
  refine far_bad fun hh => h ?_
  obtain ⟨h1, h2, h3⟩ := hh
  obtain ⟨i, rfl⟩ : ∃ z : Nat, i = (z : Int) := ⟨i.toNat, by omega⟩
  have hi : i < R.length := by omega
  rw [far_good h1 (List.getElem?_eq_getElem hi)]
  exact (farOf_bd h1 (List.getElem_mem hi) _).1
theorem sumFar_bd {R : List (List Int)} (h : stackB R = true) (i : Nat) : ∀ j, j ≤ R.length → 0 ≤ sumFar R (wid R) i j ∧ sumFar R (wid R) i j ≤ 2400000 * (j : Int) := by
  have hw := stack_wid h
  intro j
  induction j with
  | zero => intro _; simp [sumFar]
  | succ j ih =>
    intro hj
    have h1 := ih (by omega)
    have hg : R[j]? = some (R.getD j []) := by rw [List.getD_eq_getElem?_getD, List.getElem?_eq_getElem (by omega)]; rfl
    have h2 := farOf_bd h (List.mem_of_getElem? hg) (wid R)
    simp only [sumFar]
    split <;> omega

set_option maxRecDepth 100000 in
set_option maxHeartbeats 2000000 in
theorem walk_FnFarRows (w : World) (A : Option Addr) (n c : Nat) (l : List Int) (h : Arr BB 1 w w.heap.size A n l) (hby : ∀ x ∈ l, 0 ≤ x ∧ x ≤ 255) (hc : n ≤ c) :
    Calls Try.prog 3 #[.slice A n c] w fun e w' => e = .returned (.bool true) ∧ Below w.heap.size w w' := by
  have C := Lib.hid (DrawStackFar_any A n c l w h hby hc)
  clear hby h
  by_cases hb : 1048576 < n
  · go_enter Try.func3, Try.ntmps3
    go_wp2_with fail
    go_ret
    exact ⟨rfl, Below.refl _ _⟩
  go_enter Try.func3, Try.ntmps3
  go_wp2_with fail
  refine C.out.mono ?_
  rintro e w1 ⟨A1, n1, c1, vs, R, i, rfl, ho, hc1, hn1, hR, hi1, hi2, b1⟩
  have a1 := ho.rows
  have hR' := Lib.hid (fun (r : List Int) (hr : r ∈ R) => show r.length ≤ 1099511627776 by have := hR r hr; omega)
  clear C ho hR
  have K1 := Lib.hid (fun W h1 i => implFar_any A1 n1 c1 R i W h1 (by omega) hR'.out)
  have K2 := Lib.hid (fun W h1 i => specFar_any A1 n1 c1 R i W h1 (by omega) hR'.out)
  go_wp2_with fail
  refine (K1.out _ a1 i).mono ?_
  rintro e w2 ⟨rfl, b2⟩
  have B2 := b1.trans (b2.mono b1.size)
  have a2 := (a1.below' b2).more b2.size
  clear a1 b1 b2
  go_wp2_with fail
  refine (K2.out _ a2 i).mono ?_
  rintro e w3 ⟨rfl, b3⟩
  have B3 := B2.trans (b3.mono B2.size)
  have a3 := (a2.below' b3).more b3.size
  clear a2 b3 B2 K2
  by_cases hpos : 0 ≤ far R i
  · obtain ⟨hB, i0, i1⟩ := far_nonneg hpos
    have hl := a3.len
    rw [hl] at i1
    obtain ⟨i, rfl⟩ : ∃ z : Nat, i = (z : Int) := ⟨i.toNat, by omega⟩
    have hiR : i < R.length := by omega
    have hgi : R[i]? = some (R.getD i []) := by rw [List.getD_eq_getElem?_getD, List.getElem?_eq_getElem hiR]; rfl
    have hFE := far_good hB hgi
    have hle := far_le_sum R hiR (wid R)
    have hsame := farOf_same (R := R) (r := R.getD i [])
    have HSB := Lib.hid (sumFar_bd hB i)
    have HFB := Lib.hid (fun j q (hq : R[j]? = some q) => farOf_bd hB (List.mem_of_getElem? hq) (wid R))
    have HFG := Lib.hid (fun j q (hq : R[j]? = some q) => far_good hB hq)
    have hmm := Lib.hid (fun q hq => stack_mem hB (r := q) hq)
    have hs6 := stack_len hB
    have hw20 := stack_wid hB
    obtain ⟨F, hF⟩ : ∃ F, F = far R (i : Int) := ⟨_, rfl⟩
    rw [← hF] at hpos hFE ⊢
    rw [← hFE] at hle
    have hsame' := Lib.hid (fun hh => hFE.trans (hsame hh (wid R)))
    have hF3 : F ≤ 2400000 := by have := (HFB.out i _ hgi).2; omega
    have HLE := Lib.hid hle
    have HL := Lib.hid hl
    have HGI := Lib.hid hgi
    clear hF hFE hle hsame hgi hB hl
    go_wp2_with fail
    go_loopw [7, 8, 9] (fun s b k wr => ∃ (j : Nat) (bb : Bool), j ≤ n1 ∧ k = .int .i64 j ∧ b = .bool bb ∧ s = .int .i64 (sumFar R (wid R) i j) ∧ Hid (bb = true → ∀ q, q < j → R[q]? = R[0]?) ∧ Below w3.heap.size w3 wr) (fun _ _ k _ => n1 - (intOf k).toNat)
    case atStart => exact ⟨0, true, Nat.zero_le _, rfl, rfl, rfl, fun _ q hq => by omega, Below.refl _ _⟩
    case round =>
      obtain ⟨j, bb, hj, rfl, rfl, rfl, hbb, hb3⟩ := hrel
      have sb := HSB.out j (by rw [HL.out]; exact hj)
      by_cases hlt : j < n1
      · obtain ⟨b, off, r, A', c', rfl, hbB, hx, d1, hcc, ha⟩ := a3.row hlt
        obtain ⟨b0, off0, r0, A0, c0, e, _, hx0, d0, hcc0, ha0⟩ := a3.row (k := 0) (by omega)
        injection e with e; injection e with e1 e2; subst e1; subst e2
        rw [Nat.add_zero] at d0
        have hmr := hmm.out r (List.mem_of_getElem? hx)
        have hmr0 := hmm.out r0 (List.mem_of_getElem? hx0)
        have hm20 : r.length ≤ 20 := hmr.2.2.2
        have hm20' : r0.length ≤ 20 := hmr0.2.2.2
        have d1' := (hb3.cell (by exact hbB)).trans d1
        have d0' := (hb3.cell (by exact hbB)).trans d0
        have D1 := Later.cell (w0 := wr) (B := w3.heap.size) (by exact hbB) d1'
        have D0 := Later.cell (w0 := wr) (B := w3.heap.size) (by exact hbB) d0'
        have KI := Lib.hid (fun (u : Later w3.heap.size wr) => sameInts_any A' r.length c' r A0 r0.length c0 r0 u.1 ((ha.below' (hb3.trans u.2)).more (Nat.le_trans hb3.size u.2.size)) ((ha0.below' (hb3.trans u.2)).more (Nat.le_trans hb3.size u.2.size)) (by omega) (by omega))
        have ik : (j : Int) < (n1 : Int) := by omega
        have ik0 : (0 : Int) ≤ (j : Int) := by omega
        have in0 : (0 : Int) < (n1 : Int) := by omega
        have HX := Lib.hid hx
        have HX0 := Lib.hid hx0
        have hfb := HFB.out j r hx
        have hfg := Lib.hid (HFG.out j r hx)
        have hsn := Lib.hid (show sumFar R (wid R) i (j + 1) = sumFar R (wid R) i j + if j = i then 0 else farOf R r (wid R) by rw [sumFar, List.getD_eq_getElem?_getD, hx]; rfl)
        have HBB := hbb
        clear d1 d0 d1' d0' hx hx0 hmr hmr0 ha ha0 hbb
        obtain ⟨b', hb', hbn⟩ : ∃ b' : Bool, Hid (b' = (bb && decide (r = r0))) ∧ Hid (b' = true → ∀ q, q < j + 1 → R[q]? = R[0]?) := ⟨_, rfl, fun hh q hq => by
          simp only [Bool.and_eq_true, decide_eq_true_eq] at hh
          rcases Nat.lt_or_ge q j with h1 | h1
          · exact HBB.out hh.1 q h1
          · obtain rfl : q = j := by omega
            rw [HX.out, HX0.out, hh.2]⟩
        obtain ⟨S, hS⟩ : ∃ S, S = sumFar R (wid R) i j := ⟨_, rfl⟩
        obtain ⟨G, hG⟩ : ∃ G, G = farOf R r (wid R) := ⟨_, rfl⟩
        rw [← hS, ← hG] at hsn
        rw [← hS] at sb ⊢
        rw [← hG] at hfb hfg
        have sb0 : 0 ≤ S := sb.1
        have sb1 : S ≤ 12000000 := by omega
        have hf0 : 0 ≤ G := hfb.1
        have hf1 : G ≤ 2400000 := by omega
        clear hS hG sb hfb
        have fin : ∀ w5 : World, Below wr.heap.size wr w5 → Hid (Below w3.heap.size w3 w5) := fun w5 h5 => hb3.trans (h5.mono hb3.size)
        have FIN := Lib.hid fin
        clear fin
        have step : ∀ w5 : World, Hid (Below w3.heap.size w3 w5) → Hid (Rows2 w5 w5.heap.size (some ⟨b, off, none⟩) n1 R) := fun w5 h5 => (a3.below' h5.out).more h5.out.size
        have STEP := Lib.hid step
        clear step
        cases bb with
        | false =>
          obtain rfl : b' = false := hb'.out
          go_wp2_with fail
          refine wp_region_under (B := w3.heap.size) (w0 := wr) (by kernel_rfl) (by kernel_rfl) (Below.refl _ _) ?_
          repeat (go_big_quiet_step ((fail)))
          refine wpQuiet_nil ?_
          rintro w5 ⟨u, hu⟩
          have hb5 := u.2
          rw [← hu] at hb5
          have B5 := Lib.hid (hb3.trans hb5)
          have a5 := STEP.out _ B5
          clear hu D1 D0 hb5
          by_cases hji : j = i
          · subst hji
            have hS1 := Lib.hid (show sumFar R (wid R) j (j + 1) = S by rw [hsn.out, if_pos rfl]; omega)
            go_wp2_with fail
            go_roundw
            case rel => exact ⟨j + 1, _, by omega, by go_num, rfl, by rw [hS1.out], hbn, B5.out⟩
            case measure => simp [intOf]; omega
          · have hS1 := Lib.hid (show sumFar R (wid R) i (j + 1) = S + G by rw [hsn.out, if_neg hji])
            have g0 : ((j : Int) != (i : Int)) = true := by simp; omega
            have KK := K1.out w5 a5.out j
            rw [hfg.out] at KK
            have KK' := Lib.hid KK
            clear KK hji
            go_wp2_with fail
            refine KK'.out.mono ?_
            rintro e w6 ⟨rfl, b6⟩
            have B6 := Lib.hid (B5.out.trans (b6.mono B5.out.size))
            clear b6
            go_wp2
            go_roundw
            case rel => exact ⟨j + 1, _, by omega, by go_num, rfl, by rw [hS1.out], hbn, B6.out⟩
            case measure => simp [intOf]; omega
        | true =>
          have hd : decide (r = r0) = b' := by have := hb'.out; simpa using this.symm
          rw [hd] at KI
          clear hd
          go_wp2_with fail
          refine wp_region_under (B := w3.heap.size) (w0 := wr) (by kernel_rfl) (by kernel_rfl) (Below.refl _ _) ?_
          repeat (go_big_quiet_step ((go_at_call 19; exact Calls.under hb3.size (KI.out _))))
          refine wpQuiet_nil ?_
          rintro w5 ⟨u, hu⟩
          have hb5 := u.2
          rw [← hu] at hb5
          have B5 := Lib.hid (hb3.trans hb5)
          have a5 := STEP.out _ B5
          clear hu D1 D0 hb5
          by_cases hji : j = i
          · subst hji
            have hS1 := Lib.hid (show sumFar R (wid R) j (j + 1) = S by rw [hsn.out, if_pos rfl]; omega)
            go_wp2_with fail
            go_roundw
            case rel => exact ⟨j + 1, _, by omega, by go_num, rfl, by rw [hS1.out], hbn, B5.out⟩
            case measure => simp [intOf]; omega
          · have hS1 := Lib.hid (show sumFar R (wid R) i (j + 1) = S + G by rw [hsn.out, if_neg hji])
            have g0 : ((j : Int) != (i : Int)) = true := by simp; omega
            have KK := K1.out w5 a5.out j
            rw [hfg.out] at KK
            have KK' := Lib.hid KK
            clear KK hji
            go_wp2_with fail
            refine KK'.out.mono ?_
            rintro e w6 ⟨rfl, b6⟩
            have B6 := Lib.hid (B5.out.trans (b6.mono B5.out.size))
            clear b6
            go_wp2
            go_roundw
            case rel => exact ⟨j + 1, _, by omega, by go_num, rfl, by rw [hS1.out], hbn, B6.out⟩
            case measure => simp [intOf]; omega
      · obtain rfl : j = n1 := by omega
        have hF0 : bb = true → F = 0 := fun hh => hsame'.out (fun q hq => by
          obtain ⟨p, hp⟩ := List.mem_iff_getElem?.1 hq
          have hpl : p < R.length := (List.getElem?_eq_some_iff.1 hp).1
          have e1 := hbb.out hh p (by rw [← HL.out]; exact hpl)
          have e2 := hbb.out hh i (by omega)
          have : some q = some (R.getD i []) := by rw [← hp, e1, ← e2, HGI.out]
          injection this)
        have hFS : F ≤ sumFar R (wid R) i j := by have := HLE.out; rw [HL.out] at this; exact this
        obtain ⟨S, hS⟩ : ∃ S, S = sumFar R (wid R) i j := ⟨_, rfl⟩
        rw [← hS] at hFS sb ⊢
        have B9 := Lib.hid (B3.trans (hb3.mono B3.size))
        cases bb
        · clear hS hF0 hsame'
          go_wp2
          all_goals
            go_ret
            exact ⟨rfl, B9.out⟩
        · obtain rfl := hF0 rfl
          clear hS hF0 hsame'
          go_wp2
          all_goals
            go_ret
            exact ⟨rfl, B9.out⟩
  · have hN := far_neg hpos
    obtain ⟨M, hMM⟩ : ∃ M, M = far R i := ⟨_, rfl⟩
    rw [← hMM] at hN ⊢
    clear hMM hpos
    subst hN
    go_wp2
    go_ret
    exact ⟨rfl, B3⟩
end Go.Proofs.Ytfohfcpnhhiemaa
