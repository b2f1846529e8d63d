/-
  Contracts: the program's and the reference's SampleWaste; the reference's CoreLength.
-/
import Derived.Test.YtjhbpilgejbmjaaSpecCut
namespace Go.Proofs.Ytjhbpilgejbmjaa
open Go.RowKit
set_option linter.unusedSimpArgs false
set_option linter.unusedVariables false

theorem lenOf_take_succ {l : List Pc} {k : Nat} {x y : Int} (h : l[k]? = some (x, y)) : lenOf (l.take (k + 1)) = lenOf (l.take k) + (y - x) := by
  rw [take_snoc h, lenOf_snoc]

set_option maxHeartbeats 400000 in
theorem specCoreLength_any (A : Option Addr) (n c : Nat) (l : List Pc) (w : World) (h : Arr PP 2 w w.heap.size A n l) (hn : n ≤ 1099511627776) :
    Calls Try.prog 51 #[.slice A n c] w fun e w' => e = .returned (.int .i64 (coreLen l)) ∧ Below w.heap.size w w' := by
  have hln := Lib.hid h.1
  have C := specCoreValid_any A n c l w h hn
  cases hB : coreB l with
  | false =>
    rw [hB] at C
    have C' := Lib.hid C
    have hL := Lib.hid (coreLen_bad hB)
    clear C hB
    go_enter Try.func51, Try.ntmps51
    go_wp2_with fail
    refine C'.out.mono ?_
    rintro e w1 ⟨rfl, hb⟩
    go_wp2
    go_ret
    exact ⟨ret_int hL.out.symm, hb⟩
  | true =>
    rw [hB] at C
    have C' := Lib.hid C
    have hL := Lib.hid (coreLen_good hB)
    have hF := Lib.hid ((coreB_iff l).1 hB).1
    clear C hB
    go_enter Try.func51, Try.ntmps51
    go_wp2_with fail
    refine C'.out.mono ?_
    rintro e w1 ⟨rfl, hb1⟩
    clear C'
    go_wp2
    go_loopw [3, 4] (fun s i wr => ∃ k : Nat, k ≤ n ∧ i = .int .i64 k ∧ s = .int .i64 (lenOf (l.take k)) ∧ Below w.heap.size w wr) (fun _ i _ => n - (intOf i).toNat)
    case atStart => exact ⟨0, Nat.zero_le _, rfl, rfl, hb1⟩
    case round =>
      obtain ⟨k, hk, rfl, rfl, hb⟩ := hrel
      by_cases hlt : k < n
      · obtain ⟨b, off, x, y, rfl, hbB, hx, c1, c2⟩ := h.pair hlt
        have c1' := (hb.cell (by exact hbB)).trans c1
        have c2' := (hb.cell (by exact hbB)).trans c2
        have hm := coreFrom_mem hF.out _ (List.mem_of_getElem? hx)
        have h0 : (0 : Int) ≤ x := hm.1
        have h1 : x < y := hm.2.1
        have h2 : y ≤ 30000 := hm.2.2
        have hS := Lib.hid (lenOf_take_succ hx)
        have hbd := lenOf_bd' (coreFrom_take k hF.out)
        have hlt' : (k : Int) < (n : Int) := by omega
        obtain ⟨S, hSS⟩ : ∃ S, S = lenOf (l.take k) := ⟨_, rfl⟩
        rw [← hSS] at hS hbd ⊢
        have B1 : 0 ≤ S + y ∧ S + y ≤ 4611686018427387904 := by omega
        have B2 : 0 ≤ S + y - x ∧ S + y - x ≤ 4611686018427387904 := by omega
        clear hm hx c1 c2 hSS
        have e1 : wrap64 (S + y) = S + y := w64 B1
        have e2 : wrap64 (S + y - x) = S + y - x := w64 B2
        clear B1 B2
        go_wp2_with fail
        go_quiet (fail)
        clear e1 e2
        have hb2 := below_drewN hb nq
        go_wp2
        go_roundw
        case rel => exact ⟨k + 1, by omega, by go_num, by rw [hS.out]; first | go_num | (congr 1; omega), hb2⟩
        case measure => simp [intOf]; omega
      · have htk : l.take k = l := List.take_of_length_le (by rw [hln.out]; omega)
        have ht := Lib.hid htk
        clear htk
        go_wp2
        go_ret
        exact ⟨ret_int (by rw [hL.out, ht.out]), hb⟩

def wasteOf (l : List Pc) (os : List (Int × Int)) (kf : Int) : Int := match cutAll l os kf with
  | none => -1
  | some q => lenOf l - need os - lenOf q.2
theorem waste_none {l : List Pc} {os : List (Int × Int)} {kf : Int} (h : cutAll l os kf = none) : wasteOf l os kf = -1 := by unfold wasteOf; rw [h]
theorem waste_some {l M : List Pc} {os : List (Int × Int)} {kf : Int} {xs : List Int} (h : cutAll l os kf = some (xs, M)) : wasteOf l os kf = lenOf l - need os - lenOf M := by unfold wasteOf; rw [h]
theorem waste_facts {l M : List Pc} {os : List (Int × Int)} {kf : Int} {xs : List Int} (h : cutAll l os kf = some (xs, M)) :
    0 ≤ wasteOf l os kf ∧ 0 ≤ lenOf M ∧ lenOf M ≤ 30000 ∧ 0 ≤ need os ∧ need os ≤ 30000 ∧ 0 ≤ lenOf l ∧ lenOf l ≤ 30000 ∧ coreLen l = lenOf l := by
  obtain ⟨hB, hO, hk, hc⟩ := cutAll_some h
  have hF := ((coreB_iff l).1 hB).1
  have hall := ((ordersB_iff os).1 hO).1
  have hw := fun x hx => (widths_all hall x hx).1
  have g := cutW_good hk.1 hw hF hc
  have g2 := cutW_len hk.1 hw hF hc
  have hE := need_good hall ((ordersB_iff os).1 hO).2
  have hS := sumI_widths hall
  have h1 := lenOf_bd' hF
  have h2 := lenOf_bd' g.1
  have h3 := needOf_bd hall
  rw [waste_some h]
  have := coreLen_good hB
  omega

set_option maxHeartbeats 1000000 in
theorem implWaste_any (A : Option Addr) (n c : Nat) (l : List Pc) (A' : Option Addr) (n' c' : Nat) (os : List (Int × Int)) (kf : Int) (w : World) (h : Arr PP 2 w w.heap.size A n l) (hc : n ≤ c) (hn : n ≤ 1099511627776)
    (h' : Arr PP 2 w w.heap.size A' n' os) (hn' : n' ≤ 1099511627776) :
    Calls Try.prog 23 #[.slice A n c, .slice A' n' c', .int .i64 kf] w fun e w' => e = .returned (.int .i64 (wasteOf l os kf)) ∧ Below w.heap.size w w' := by
  cases hr : cutAll l os kf with
  | none =>
    have K := Lib.hid (@implCut_as A n c l A' n' c' os kf w [] 0 false h hc hn h' hn' (by rw [hr]; rfl) (by rw [hr]; rfl) (by rw [hr]; rfl))
    have W := Lib.hid (waste_none hr)
    clear hr
    go_enter Try.func23, Try.ntmps23
    go_wp2_with fail
    refine K.out.mono ?_
    rintro e w1 ⟨A1, n1, c1, rfl, o1, b1⟩
    go_wp2
    go_ret
    exact ⟨ret_int W.out.symm, b1⟩
  | some q =>
    obtain ⟨xs, M⟩ := q
    have K := Lib.hid (@implCut_as A n c l A' n' c' os kf w xs (lenOf M) true h hc hn h' hn' (by rw [hr]; rfl) (by rw [hr]; rfl) (by rw [hr]; rfl))
    have W := Lib.hid (waste_some hr)
    obtain ⟨f1, f2, f3, f4, f5, f6, f7, f8⟩ := waste_facts hr
    have CL := Lib.hid (fun W h1 => implCoreLength_any A n c l W h1 hn)
    have ND := Lib.hid (fun W h1 => implNeed_any A' n' c' os W h1 hn')
    rw [f8] at CL
    generalize lenOf M = m at *
    generalize need os = d at *
    generalize lenOf l = z at *
    clear hr f8 f1
    go_enter Try.func23, Try.ntmps23
    go_wp2_with fail
    refine K.out.mono ?_
    rintro e w1 ⟨A1, n1, c1, rfl, o1, b1⟩
    go_wp2_with fail
    refine (CL.out _ ((h.below' b1).more b1.size)).mono ?_
    rintro e w2 ⟨rfl, b2⟩
    have B2 := b1.trans (b2.mono b1.size)
    go_wp2_with fail
    refine (ND.out _ ((h'.below' B2).more B2.size)).mono ?_
    rintro e w3 ⟨rfl, b3⟩
    have B3 := B2.trans (b3.mono B2.size)
    clear b1 b2 b3 B2 o1
    go_wp2
    go_ret
    exact ⟨ret_int W.out.symm, B3⟩

set_option maxHeartbeats 1000000 in
theorem specWaste_any (A : Option Addr) (n c : Nat) (l : List Pc) (A' : Option Addr) (n' c' : Nat) (os : List (Int × Int)) (kf : Int) (w : World) (h : Arr PP 2 w w.heap.size A n l) (hc : n ≤ c) (hn : n ≤ 1099511627776)
    (h' : Arr PP 2 w w.heap.size A' n' os) (hn' : n' ≤ 1099511627776) :
    Calls Try.prog 24 #[.slice A n c, .slice A' n' c', .int .i64 kf] w fun e w' => e = .returned (.int .i64 (wasteOf l os kf)) ∧ Below w.heap.size w w' := by
  cases hr : cutAll l os kf with
  | none =>
    have K := Lib.hid (@specCut_as A n c l A' n' c' os kf w [] 0 false h hc hn h' hn' (by rw [hr]; rfl) (by rw [hr]; rfl) (by rw [hr]; rfl))
    have W := Lib.hid (waste_none hr)
    clear hr
    go_enter Try.func24, Try.ntmps24
    go_wp2_with fail
    refine K.out.mono ?_
    rintro e w1 ⟨A1, n1, c1, rfl, o1, b1⟩
    go_wp2
    go_ret
    exact ⟨ret_int W.out.symm, b1⟩
  | some q =>
    obtain ⟨xs, M⟩ := q
    have K := Lib.hid (@specCut_as A n c l A' n' c' os kf w xs (lenOf M) true h hc hn h' hn' (by rw [hr]; rfl) (by rw [hr]; rfl) (by rw [hr]; rfl))
    have W := Lib.hid (waste_some hr)
    obtain ⟨f1, f2, f3, f4, f5, f6, f7, f8⟩ := waste_facts hr
    have CL := Lib.hid (fun W h1 => specCoreLength_any A n c l W h1 hn)
    have ND := Lib.hid (fun W h1 => specNeed_any A' n' c' os W h1 hn')
    rw [f8] at CL
    generalize lenOf M = m at *
    generalize need os = d at *
    generalize lenOf l = z at *
    clear hr f8 f1
    go_enter Try.func24, Try.ntmps24
    go_wp2_with fail
    refine K.out.mono ?_
    rintro e w1 ⟨A1, n1, c1, rfl, o1, b1⟩
    go_wp2_with fail
    refine (CL.out _ ((h.below' b1).more b1.size)).mono ?_
    rintro e w2 ⟨rfl, b2⟩
    have B2 := b1.trans (b2.mono b1.size)
    go_wp2_with fail
    refine (ND.out _ ((h'.below' B2).more B2.size)).mono ?_
    rintro e w3 ⟨rfl, b3⟩
    have B3 := B2.trans (b3.mono B2.size)
    clear b1 b2 b3 B2 o1
    go_wp2
    go_ret
    exact ⟨ret_int W.out.symm, B3⟩
end Go.Proofs.Ytjhbpilgejbmjaa
