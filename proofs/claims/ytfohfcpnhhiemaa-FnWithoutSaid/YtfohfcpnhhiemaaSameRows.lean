/-
  Contract: sameRows on rows that read alike.
-/
import Derived.Test.YtfohfcpnhhiemaaInts
import Derived.Test.YtfohfcpnhhiemaaKitR
import Derived.Test.YtfohfcpnhhiemaaUnder
namespace Go.Proofs.Ytfohfcpnhhiemaa
open Go.RowKit
set_option linter.unusedSimpArgs false
set_option linter.unusedVariables false

set_option maxHeartbeats 1000000 in
theorem sameRows_any (A : Option Addr) (n c : Nat) (A' : Option Addr) (n' c' : Nat) (R : List (List Int)) (w : World) (h : Rows2 w w.heap.size A n R) (h' : Rows2 w w.heap.size A' n' R) (hn : n ≤ 1099511627776) (hr : ∀ r ∈ R, r.length ≤ 1099511627776) :
    Calls Try.prog 28 #[.slice A n c, .slice A' n' c'] w fun e w' => e = .returned (.bool true) ∧ Below w.heap.size w w' := by
  obtain rfl : n = n' := by rw [← h.len, h'.len]
  have hr' := Lib.hid hr
  clear hr
  go_enter Try.func28, Try.ntmps28
  go_wp2
  go_loopw [5] (fun i wr => ∃ k : Nat, k ≤ n ∧ i = .int .i64 k ∧ Below w.heap.size w wr) (fun i _ => n - (intOf i).toNat)
  case atStart => exact ⟨0, Nat.zero_le _, rfl, Below.refl _ _⟩
  case round =>
    obtain ⟨k, hk, rfl, hb⟩ := hrel
    by_cases hlt : k < n
    · obtain ⟨b, off, r, A1, c1, rfl, hbB, hx, d1, hc1, a1⟩ := h.row hlt
      obtain ⟨b', off', r', A2, c2, rfl, hbB', hx', d2, hc2, a2⟩ := h'.row hlt
      rw [hx] at hx'
      injection hx' with hx'
      subst hx'
      have hrl := hr'.out r (List.mem_of_getElem? hx)
      have K := Lib.hid (sameInts_later (c := c1) (c' := c2) ((a1.below' hb).more hb.size) ((a2.below' hb).more hb.size) hrl)
      have hsz := hb.size
      have e1 := (hb.cell (by exact hbB)).trans d1
      have e2 := (hb.cell (by exact hbB')).trans d2
      have ik : (k : Int) < (n : Int) := by omega
      have ik0 : (0 : Int) ≤ (k : Int) := by omega
      have D1 := Later.cell (B := wr.heap.size) (w0 := wr) (by exact Nat.lt_of_lt_of_le hbB hsz) e1
      have D2 := Later.cell (B := wr.heap.size) (w0 := wr) (by exact Nat.lt_of_lt_of_le hbB' hsz) e2
      clear hx d1 d2 a1 a2 e1 e2
      go_wp2_with fail
      refine wp_region_under (B := wr.heap.size) (w0 := wr) (by kernel_rfl) (by kernel_rfl) (Below.refl _ _) ?_
      repeat (go_big_quiet_step ((go_at_call 19; refine (K.out _ (Subtype.property _)).mono fun _ w' ⟨he, hb⟩ => ⟨he, ⟨w', hb⟩, rfl⟩)))
      refine wpQuiet_nil ?_
      rintro w2 ⟨u, hu⟩
      have hb2 := u.2
      rw [← hu] at hb2
      clear hu D1 D2 K
      go_wp2
      go_roundw
      case rel => exact ⟨k + 1, by omega, by go_num, hb.trans (hb2.mono hsz)⟩
      case measure => simp [intOf]; omega
    · obtain rfl : k = n := by omega
      go_wp2
      go_ret
      exact ⟨rfl, hb⟩
end Go.Proofs.Ytfohfcpnhhiemaa
