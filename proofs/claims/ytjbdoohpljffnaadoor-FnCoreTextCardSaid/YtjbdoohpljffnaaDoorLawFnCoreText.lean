/-
  The walk of the law FnCoreText.
-/
import Derived.Test.YtjbdoohpljffnaaDoorCoreTextI
import Derived.Test.YtjbdoohpljffnaaDoorDrawCoreText
import Derived.Test.YtjbdoohpljffnaaDoorPlainT
namespace Go.Proofs.YtjbdoohpljffnaaDoor
open Go.RowKit
set_option linter.unusedSimpArgs false
set_option linter.unusedVariables false

set_option maxRecDepth 100000 in
set_option maxHeartbeats 2000000 in
theorem walk_FnCoreText (w : World) (A : Option Addr) (n c : Nat) (l : List Int) (h : Arr BB 1 w w.heap.size A n l) (hby : ∀ x ∈ l, 0 ≤ x ∧ x ≤ 255) (hc : n ≤ c) (hT : Tab w) :
    Calls Tryd.prog 8 #[.slice A n c] w fun e w' => e = .returned (.bool true) ∧ Below w.heap.size w w' := by
  have C := Lib.hid (DrawCoreText_any A n c l w h hby hc)
  have HT := Lib.hid hT
  clear hby h hT
  by_cases hb : 1048576 < n
  · go_enter Tryd.func8, Tryd.ntmps8
    go_wp2_with fail
    go_ret
    exact ⟨rfl, Below.refl _ _⟩
  go_enter Tryd.func8, Tryd.ntmps8
  go_wp2_with fail
  refine C.out.mono ?_
  rintro e w1 ⟨A1, n1, c1, L, rfl, o1, hn1, b1⟩
  clear C
  have a1 := o1.arr PP_length
  have KI0 := implCoreText_any A1 n1 c1 L w1 a1 (by omega) (HT.out.below b1 (Nat.le_refl _))
  have KS0 := (fun W h => specCoreText_any A1 n1 c1 L W h (by omega))
  have hL := Lib.hid a1.1
  have hTl := coreT_len L
  have hcnt := Lib.hid (fun h h' => @coreT_count L h h')
  have hbad := Lib.hid (fun (h : coreB L = false) => show coreT L = [] by unfold coreT; rw [h]; rfl)
  have hone := Lib.hid (fun (h : coreB L = true) (h' : L.length = 0) => show coreT L = [45] by unfold coreT; rw [if_pos h, if_pos h'])
  generalize coreT L = T at *
  obtain ⟨S, hS⟩ : ∃ S, S = tx T := ⟨_, rfl⟩
  rw [← hS] at KI0
  rw [← hS] at KS0
  have KI := Lib.hid KI0
  have KS := Lib.hid KS0
  have hSz : S.size = T.length := by rw [hS, tx_size]
  have hSt := Lib.hid (show S.toList = T by rw [hS, tx_toList])
  have HS := Lib.hid hS
  clear o1 HT KI0 KS0 hS
  go_wp2_with fail
  refine KI.out.mono ?_
  rintro e w2 ⟨rfl, b2⟩
  clear KI
  go_wp2_with fail
  refine (KS.out w2 ((a1.below' b2).more b2.size)).mono ?_
  rintro e w3 ⟨rfl, b3⟩
  have B3 : Below w.heap.size w w3 := (b1.trans (b2.mono b1.size)).trans (b3.mono (b1.trans (b2.mono b1.size)).size)
  clear KS a1 b1 b2 b3
  cases hB : coreB L with
  | false =>
    have hE := hbad.out hB
    subst hE
    clear hB
    have f0 : S.toList.isEmpty = true := by rw [hSt.out]; rfl
    clear hSt HS
    go_wp2
    go_ret
    exact ⟨rfl, B3⟩
  | true =>
    have hne : T ≠ [] := by
      intro e
      by_cases h0 : L.length = 0
      · have := hone.out hB h0; rw [e] at this; cases this
      · have := (hcnt.out hB h0).1; rw [e] at this; simp at this; omega
    have hne' : S.toList.isEmpty = false := by rw [hSt.out]; simpa using hne
    have hT280 : T.length ≤ 280 := hTl
    have hN := Lib.hid (show T.take T.length = T from List.take_of_length_le (Nat.le_refl _))
    clear hTl hne
    go_wp2_with fail
    go_loopw [6, 7, 8] (fun h s i wr => ∃ (k a b : Nat), k ≤ T.length ∧ Hid ((T.take k).count 45 = a) ∧ Hid ((T.take k).count 32 = b) ∧ a ≤ k ∧ b ≤ k ∧ h = .int .i64 a ∧ s = .int .i64 b ∧ i = .int .i64 k ∧ Below w.heap.size w wr) (fun _ _ i _ => T.length - (intOf i).toNat)
    case atStart => exact ⟨0, 0, 0, Nat.zero_le _, Lib.hid rfl, Lib.hid rfl, Nat.le_refl _, Nat.le_refl _, rfl, rfl, rfl, B3⟩
    case round =>
      obtain ⟨k, a, b, hk, ha, hb', hak, hbk, rfl, rfl, rfl, hw⟩ := hrel
      by_cases hlt : k < T.length
      · have hlt' : k < S.size := by omega
        obtain ⟨d, hd⟩ : ∃ d : Nat, S[k].toNat = d := ⟨_, rfl⟩
        have hdT : T[k].toNat = d := by rw [← hd]; have h9 := HS.out; subst h9; rw [tx_get]
        have A1 := Lib.hid (show (T.take (k + 1)).count 45 = a + (if d = 45 then 1 else 0) by rw [count_snoc hlt, ha.out, hdT]; rfl)
        have A2 := Lib.hid (show (T.take (k + 1)).count 32 = b + (if d = 32 then 1 else 0) by rw [count_snoc hlt, hb'.out, hdT]; rfl)
        clear hdT HS
        by_cases h45 : d = 45
        · subst h45
          go_wp2
          go_roundw
          case rel => exact ⟨k + 1, a + 1, b, by omega, Lib.hid A1.out, Lib.hid A2.out, by omega, by omega, by go_num, rfl, by go_num, hw⟩
          case measure => simp [intOf]; omega
        · by_cases h32 : d = 32
          · subst h32
            go_wp2
            go_roundw
            case rel => exact ⟨k + 1, a, b + 1, by omega, Lib.hid A1.out, Lib.hid A2.out, by omega, by omega, rfl, by go_num, by go_num, hw⟩
            case measure => simp [intOf]; omega
          · have f1 : ((d : Int) == 45) = false := by simp; omega
            have f2 : ((d : Int) == 32) = false := by simp; omega
            rw [if_neg h45] at A1
            rw [if_neg h32] at A2
            go_wp2
            go_roundw
            case rel => exact ⟨k + 1, a, b, by omega, A1, A2, by omega, by omega, rfl, rfl, by go_num, hw⟩
            case measure => simp [intOf]; omega
      · obtain rfl : k = T.length := by omega
        rw [hN.out] at ha hb'
        by_cases h0 : n1 = 0
        · have hone' : T = [45] := hone.out hB (by rw [hL.out]; exact h0)
          subst h0
          clear hne' hB hN
          subst hone'
          have hS45 : S.toList = [45] := hSt.out
          go_wp2
          go_ret
          exact ⟨rfl, hw⟩
        · have hq := hcnt.out hB (by rw [hL.out]; exact h0)
          rw [ha.out, hb'.out, hL.out] at hq
          obtain ⟨rfl, hb1⟩ := hq
          have h0' : ((a : Int) == 0) = false := by simp; omega
          obtain ⟨m, rfl⟩ : ∃ m, a = m + 1 := ⟨a - 1, by omega⟩
          obtain rfl : b = m := by omega
          clear hB hN hb1 HS hSt
          go_wp2
          go_ret
          exact ⟨ret_bool (by simp), hw⟩
end Go.Proofs.YtjbdoohpljffnaaDoor
