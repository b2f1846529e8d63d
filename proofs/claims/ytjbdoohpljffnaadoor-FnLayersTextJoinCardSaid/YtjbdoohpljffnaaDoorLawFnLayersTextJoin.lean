/-
  The walk of the law FnLayersTextJoin.
-/
import Derived.Test.YtjbdoohpljffnaaDoorLayersText
import Derived.Test.YtjbdoohpljffnaaDoorLayersTextI
import Derived.Test.YtjbdoohpljffnaaDoorDrawLy
import Derived.Test.YtjbdoohpljffnaaDoorPlainLy
namespace Go.Proofs.YtjbdoohpljffnaaDoor
open Go.RowKit
set_option linter.unusedSimpArgs false
set_option linter.unusedVariables false

set_option maxRecDepth 100000 in
set_option maxHeartbeats 2000000 in
theorem walk_FnLayersTextJoin (w : World) (A : Option Addr) (n c : Nat) (l : List Int) (h : Arr BB 1 w w.heap.size A n l) (hby : ∀ x ∈ l, 0 ≤ x ∧ x ≤ 255) (hc : n ≤ c) (A' : Option Addr) (n' c' : Nat) (l' : List Int) (h' : Arr BB 1 w w.heap.size A' n' l') (hby' : ∀ x ∈ l', 0 ≤ x ∧ x ≤ 255) (hc' : n' ≤ c') (hT : Tab w) :
    Calls Tryd.prog 5 #[.slice A n c, .slice A' n' c'] w fun e w' => e = .returned (.bool true) ∧ Below w.heap.size w w' := by
  clear h' hby'
  have C := Lib.hid (DrawLayersText_any A n c l w h hby hc)
  have HT := Lib.hid hT
  clear hby h hT
  by_cases hb : 1048576 < n
  · go_enter Tryd.func5, Tryd.ntmps5
    go_wp2_with fail
    go_ret
    exact ⟨rfl, Below.refl _ _⟩
  by_cases hb' : 1048576 < n'
  · go_enter Tryd.func5, Tryd.ntmps5
    go_wp2_with fail
    go_ret
    exact ⟨rfl, Below.refl _ _⟩
  go_enter Tryd.func5, Tryd.ntmps5
  go_wp2_with fail
  refine C.out.mono ?_
  rintro e w1 ⟨A1, n1, c1, L, rfl, o1, hn1, b1⟩
  clear C
  have hn1c : n1 ≤ c1 := by obtain ⟨_, _, e, h1, _⟩ := o1.form; injection e with _ _ e2; omega
  have a1 := o1.arr LL_length
  have KI0 := fun W h hT => implLayersText_any A1 n1 c1 L W h (by omega) hT
  have KS0 := fun W h => specLayersText_any A1 n1 c1 L W h (by omega)
  have hTl := layersT_len L
  have T1 := HT.out.below b1 (Nat.le_refl _)
  obtain ⟨k, hk⟩ : ∃ k, k = n' % (n1 + 1) := ⟨_, rfl⟩
  have hkn : k ≤ n1 := by have := Nat.mod_lt n' (show 0 < n1 + 1 by omega); omega
  have HE := Lib.hid (show ((n' : Int) % ((n1 : Int) + 1)) = (k : Int) by rw [hk]; simp)
  have K1 := fun W h hT => implLayersText_any A1 k c1 (L.take k) W h (by omega) hT
  have K2 := fun W h hT => implLayersText_any (if c1 = k then A1 else A1.map (·.add (k * 2))) (n1 - k) (c1 - k) (L.drop k) W h (by omega) hT
  have hparts := Lib.hid (fun (h : layB L = true) => layersT_parts h k)
  have hbad := Lib.hid (fun (h : layB L = false) => show layersT L = [] by unfold layersT; rw [h]; rfl)
  generalize layersT L = T at *
  generalize layersT (L.take k) = P at *
  generalize layersT (L.drop k) = Q at *
  obtain ⟨S, hS⟩ : ∃ S, S = tx T := ⟨_, rfl⟩
  obtain ⟨SP, hSP⟩ : ∃ S, S = tx P := ⟨_, rfl⟩
  obtain ⟨SQ, hSQ⟩ : ∃ S, S = tx Q := ⟨_, rfl⟩
  rw [← hS] at KI0
  rw [← hS] at KS0
  rw [← hSP] at K1
  rw [← hSQ] at K2
  have KI := Lib.hid KI0
  have KS := Lib.hid KS0
  have HK1 := Lib.hid K1
  have HK2 := Lib.hid K2
  have hSt := Lib.hid (show S.toList = T by rw [hS, lyToList])
  have HS := Lib.hid hS
  have HSP := Lib.hid hSP
  have HSQ := Lib.hid hSQ
  clear o1 HT KI0 KS0 hS hSP hSQ K1 K2 hk
  go_wp2_with fail
  refine (KI.out w1 a1 T1).mono ?_
  rintro e w2 ⟨rfl, b2⟩
  have a2 := (a1.below' b2).more b2.size
  have T2 := T1.below b2 (Nat.le_refl _)
  have B2 := b1.trans (b2.mono b1.size)
  clear a1 T1 b1 b2
  go_wp2_with fail
  refine (KS.out w2 a2).mono ?_
  rintro e w3 ⟨rfl, b3⟩
  have a3 := (a2.below' b3).more b3.size
  have T3 := T2.below b3 (Nat.le_refl _)
  have B3 := B2.trans (b3.mono B2.size)
  clear a2 T2 B2 b3 KS KI
  by_cases hE : T = []
  · have f0 : S.toList.isEmpty = true := by rw [hSt.out, hE]; rfl
    clear hSt HS HSP HSQ hparts hbad HK1 HK2 hTl hE
    go_wp2
    go_ret
    exact ⟨rfl, B3⟩
  · have hne' : S.toList.isEmpty = false := by rw [hSt.out]; simpa using hE
    have hB : layB L = true := by
      cases hB : layB L with
      | true => rfl
      | false => exact absurd (hbad.out hB) hE
    have hTT := hparts.out hB
    have hlen : T.length = P.length + Q.length := by rw [← hTT]; simp
    have zP : SP.size = P.length := by rw [HSP.out, tx_size]
    have zQ : SQ.size = Q.length := by rw [HSQ.out, tx_size]
    have E2 := knadd_at SP SQ S (by omega) (by rw [HSP.out, HSQ.out, HS.out, tx_add, hTT])
    have KK1 : Hid (∀ W, Below w3.heap.size w3 W → Calls Tryd.prog 24 #[.slice A1 k c1] W fun e w' => e = .returned (.string SP) ∧ Below w3.heap.size w3 w') := fun W hW => by
      refine (HK1.out W (((a3.take hkn).below' hW).more hW.size) (T3.below hW (Nat.le_refl _))).mono ?_
      rintro e w' ⟨rfl, hb⟩
      exact ⟨rfl, hW.trans (hb.mono hW.size)⟩
    have KK2 : Hid (∀ W, Below w3.heap.size w3 W → Calls Tryd.prog 24 #[.slice (if c1 = k then A1 else A1.map (·.add (k * 2))) (n1 - k) (c1 - k)] W fun e w' => e = .returned (.string SQ) ∧ Below w3.heap.size w3 w') := fun W hW => by
      refine (HK2.out W (((a3.cutAt hkn hn1c).below' hW).more hW.size) (T3.below hW (Nat.le_refl _))).mono ?_
      rintro e w' ⟨rfl, hb⟩
      exact ⟨rfl, hW.trans (hb.mono hW.size)⟩
    obtain ⟨Ak, hAk⟩ : ∃ X, (if c1 = k then A1 else Option.map (fun x => x.add (k * 2)) A1) = X := ⟨_, rfl⟩
    rw [hAk] at KK2
    have hkc : k ≤ c1 := by omega
    have i1 : (k : Int) ≤ (c1 : Int) := by omega
    have i2 : (k : Int) ≤ (n1 : Int) := by omega
    have i3 : (0 : Int) ≤ (k : Int) := by omega
    clear HK1 HK2 hparts hbad hB hTT HSP HSQ HS hSt hlen hE a3 T3 zP zQ hTl
    go_wp2_with fail
    rw [HE.out]
    have hBR := Below.refl w3.heap.size w3
    go_region_with (first
      | (go_at_call_of 24 (Value.slice A1 k c1); refine (KK1.out _ ?_).mono ?_; exact hBR.drew; rintro e w9 ⟨rfl, hb9⟩)
      | (go_at_call 24; refine (KK2.out _ ?_).mono ?_; assumption; rintro e w10 ⟨rfl, hb10⟩))
    go_wp2
    go_ret
    exact ⟨ret_bool (by simp), B3.trans (Below.mono (by assumption) B3.size)⟩
end Go.Proofs.YtjbdoohpljffnaaDoor
