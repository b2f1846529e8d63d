/-
  The exact laws' own words on a slice of Layer: marks.
-/
import Derived.Test.YtjbdoohpljffnaaDoorPairLayer
namespace Go.Proofs.YtjbdoohpljffnaaDoor
open Go.RowKit
set_option linter.unusedSimpArgs false
set_option linter.unusedVariables false

def third (x : Int) : Bool := (x % 3 == 0)
def rampLayer (k : Int) (n : Nat) : List (Int × Bool) := (List.range n).map fun i => (k + 2 * (i : Nat), third (k + 2 * (i : Nat) + 1))
theorem rampLayer_length (k : Int) (n : Nat) : (rampLayer k n).length = n := by simp [rampLayer]
theorem rampLayer_succ (k : Int) (n : Nat) : rampLayer k (n + 1) = rampLayer k n ++ [(k + 2 * n, third (k + 2 * n + 1))] := by simp [rampLayer, List.range_succ]
theorem rampLayer_get (k : Int) {n i : Nat} (h : i < n) : (rampLayer k n)[i]? = some (k + 2 * i, third (k + 2 * i + 1)) := by simp [rampLayer, h]
theorem rampLayer_set (k : Int) (l : List (Int × Bool)) {i : Nat} (h : i < l.length) : (rampLayer k i ++ l.drop i).set i (k + 2 * i, third (k + 2 * i + 1)) = rampLayer k (i + 1) ++ l.drop (i + 1) := by
  rw [List.set_append_right _ _ (by simp [rampLayer])]
  simp only [rampLayer_length, Nat.sub_self]
  rw [List.drop_eq_getElem_cons h, List.set_cons_zero, rampLayer_succ, List.append_assoc]
  rfl

set_option maxHeartbeats 400000 in
theorem markLayerS_any (A : Option Addr) (n c base : Nat) (T : TypeId) (l : List (Int × Bool)) (k0 : Int) (w : World) (h : Own LL 2 w base T (.slice A n c) n l) (hk0 : 0 ≤ k0 ∧ k0 ≤ 1099511627776) (hn : n ≤ 1099511627776) :
    Calls Tryd.prog 43 #[.slice A n c, .int .i64 k0] w fun e w' => e = .returned (.int .i64 (k0 + 2 * n)) ∧ Own LL 2 w' base T (.slice A n c) n (rampLayer k0 n) ∧ w.grownBy w' (Value.slice A n c).ownBlock := by
  obtain ⟨k00, k01⟩ := hk0
  by_cases hn0 : n = 0
  · subst hn0
    obtain rfl : l = [] := List.eq_nil_of_length_eq_zero h.1
    have H := Lib.hid h
    clear h
    go_enter Tryd.func43, Tryd.ntmps43
    go_wp2
    go_loopw [1, 5] (fun k i wr => k = .int .i64 k0 ∧ i = .int .i64 0 ∧ wr = w) (fun _ _ _ => 0)
    case atStart => exact ⟨rfl, rfl, rfl⟩
    case round =>
      obtain ⟨rfl, rfl, rfl⟩ := hrel
      go_wp2
      go_ret
      exact ⟨ret_int (by simp), H.out, grown_refl _ _⟩
  · obtain ⟨g, c', e, hbg, hgl, hnc⟩ := h.head (by omega)
    injection e with e1 e2 e3
    subst e1
    have hln := Lib.hid h.1
    have H := Lib.hid h
    clear h
    go_enter Tryd.func43, Tryd.ntmps43
    go_wp2
    go_loopw [1, 5] (fun k i wr => ∃ j : Nat, j ≤ n ∧ i = .int .i64 j ∧ k = .int .i64 (k0 + 2 * j) ∧ Own LL 2 wr base T (.slice (some ⟨g, 0, none⟩) n c) n (rampLayer k0 j ++ l.drop j) ∧ w.grownBy wr (some g)) (fun _ i _ => n - (intOf i).toNat)
    case atStart => exact ⟨0, Nat.zero_le _, rfl, by simp, by simpa [rampLayer] using H.out, grown_refl _ _⟩
    case round =>
      obtain ⟨j, hj, rfl, rfl, hO, hG⟩ := hrel
      by_cases hlt : j < n
      · have hjl : j < (rampLayer k0 j ++ l.drop j).length := by rw [hO.1]; exact hlt
        obtain ⟨z, z', hz⟩ : ∃ z z', (rampLayer k0 j ++ l.drop j)[j]? = some (z, z') := ⟨_, _, List.getElem?_eq_getElem hjl⟩
        obtain ⟨d1, d2⟩ := hO.layAt hz
        have e1 := hO.2.frozenAt (j * 2)
        have e2 := hO.2.frozenAt (j * 2 + 1)
        have S := Lib.hid (hO.setLay (k := j) hlt (k0 + 2 * j) (third (k0 + 2 * j + 1)))
        rw [rampLayer_set k0 l (by rw [hln.out]; exact hlt)] at S
        have G := Lib.hid (grown_setCell (grown_setCell hG (p := ⟨g, j * 2, none⟩) (.inl rfl) (.int .i64 (k0 + 2 * j))) (p := ⟨g, j * 2 + 1, none⟩) (.inl rfl) (.bool (third (k0 + 2 * j + 1))))
        clear hjl hO hG hz
        go_wp2
        go_roundw
        case rel => exact ⟨j + 1, by omega, by go_num, by first | go_num | (congr 1; omega), S.out, G.out⟩
        case measure => simp [intOf]; omega
      · obtain rfl : j = n := by omega
        have HO := Lib.hid (show Own LL 2 _ base T (.slice (some ⟨g, 0, none⟩) j c) j (rampLayer k0 j) by rw [List.drop_of_length_le (by rw [hln.out]; exact Nat.le_refl _), List.append_nil] at hO; exact hO)
        clear hO
        go_wp2
        go_ret
        exact ⟨rfl, HO.out, hG⟩
end Go.Proofs.YtjbdoohpljffnaaDoor
