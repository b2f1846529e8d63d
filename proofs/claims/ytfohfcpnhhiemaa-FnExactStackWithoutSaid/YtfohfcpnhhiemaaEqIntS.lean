/-
  Contract: eqIntS.
-/
import Derived.Test.YtfohfcpnhhiemaaKit
namespace Go.Proofs.Ytfohfcpnhhiemaa
open Go.RowKit
set_option linter.unusedSimpArgs false
set_option linter.unusedVariables false



set_option maxHeartbeats 400000 in
theorem eqIntS_any (A : Option Addr) (n c : Nat) (l : List Int) (A' : Option Addr) (n' c' : Nat) (l' : List Int) (w : World) (h : Arr II 1 w w.heap.size A n l) (h' : Arr II 1 w w.heap.size A' n' l') (hn : n ≤ 1099511627776) (hn' : n' ≤ 1099511627776) :
    Calls Try.prog 44 #[.slice A n c, .slice A' n' c'] w fun e w' => e = .returned (.bool (decide (l = l'))) ∧ Below w.heap.size w w' := by
  by_cases hne : n = n'
  · subst hne
    have hl1 := Lib.hid h.1
    have hl2 := Lib.hid h'.1
    go_enter Try.func44, Try.ntmps44
    go_wp2
    go_loopw [5] (fun i wr => ∃ k : Nat, k ≤ n ∧ i = .int .i64 k ∧ l.take k = l'.take k ∧ Below w.heap.size w wr) (fun i _ => n - (intOf i).toNat)
    case atStart => exact ⟨0, Nat.zero_le _, rfl, rfl, Below.refl _ _⟩
    case round =>
      obtain ⟨k, hk, rfl, heq, hb⟩ := hrel
      have heq' := Lib.hid heq
      clear heq
      by_cases hlt : k < n
      · obtain ⟨b, off, x, rfl, hbB, hx, c1⟩ := h.int hlt
        obtain ⟨b', off', y, rfl, hbB', hy, c1'⟩ := h'.int hlt
        have hx' := Lib.hid hx; clear hx
        have hy' := Lib.hid hy; clear hy
        have d1 := (hb.cell (by exact hbB)).trans c1
        have d1' := (hb.cell (by exact hbB')).trans c1'
        have ik : (k : Int) < (n : Int) := by omega
        have ik0 : (0 : Int) ≤ (k : Int) := by omega
        clear c1 c1'
        by_cases he : x = y
        · subst he
          have d0 : (x != x) = false := by simp
          go_wp2_with fail
          go_quiet (fail)
          have hb2 := below_drewN hb nq
          clear d0
          go_wp2
          go_roundw
          case rel => exact ⟨k + 1, by omega, by go_num, by rw [List.take_add_one, List.take_add_one, heq'.out, hx'.out, hy'.out], hb2⟩
          case measure => simp [intOf]; omega
        · have hE : ¬ l = l' := by
            rintro rfl
            have := hx'.out.symm.trans hy'.out
            simp only [Option.some.injEq] at this
            exact he this
          have hE' := Lib.hid hE
          have d0 : (x != y) = true := by simp [he]
          clear hE he
          go_wp2_with fail
          go_quiet (fail)
          have hb2 := below_drewN hb nq
          clear d0
          go_wp2
          go_ret
          exact ⟨ret_bool (by simp only [hE'.out, decide_false]), hb2⟩
      · obtain rfl : k = n := by omega
        have hE : l = l' := by rw [← List.take_of_length_le (show l.length ≤ k by rw [hl1.out]; exact Nat.le_refl _), heq'.out, List.take_of_length_le (by rw [hl2.out]; exact Nat.le_refl _)]
        have hE' := Lib.hid hE
        clear hE
        go_wp2
        go_ret
        exact ⟨ret_bool (by rw [hE'.out]; simp), hb⟩
  · have hl : ¬ l = l' := fun e => hne (by rw [← h.1, ← h'.1, e])
    have hl' := Lib.hid hl
    clear hl
    go_enter Try.func44, Try.ntmps44
    go_wp2
    go_ret
    exact ⟨ret_bool (by simp [hl'.out]), Below.refl _ _⟩

/-! ### Marks: a row of numbers that go up -/
def ramp (k : Int) (n : Nat) : List Int := (List.range n).map fun i => k + (i : Nat)
theorem ramp_length (k : Int) (n : Nat) : (ramp k n).length = n := by simp [ramp]
theorem ramp_succ (k : Int) (n : Nat) : ramp k (n + 1) = ramp k n ++ [k + n] := by simp [ramp, List.range_succ]
theorem ramp_get (k : Int) {n i : Nat} (h : i < n) : (ramp k n)[i]? = some (k + i) := by simp [ramp, h]
theorem ramp_set (k : Int) (l : List Int) {i : Nat} (h : i < l.length) : (ramp k i ++ l.drop i).set i (k + i) = ramp k (i + 1) ++ l.drop (i + 1) := by
  rw [List.set_append_right _ _ (by simp [ramp])]
  simp only [ramp_length, Nat.sub_self]
  rw [List.drop_eq_getElem_cons h, List.set_cons_zero, ramp_succ, List.append_assoc]
  rfl

set_option maxHeartbeats 400000 in
theorem markIntS_any (A : Option Addr) (n c base : Nat) (T : TypeId) (l : List Int) (k0 : Int) (w : World) (h : Own II 1 w base T (.slice A n c) n l) (hk0 : 0 ≤ k0 ∧ k0 ≤ 1099511627776) (hn : n ≤ 1099511627776) :
    Calls Try.prog 45 #[.slice A n c, .int .i64 k0] w fun e w' => e = .returned (.int .i64 (k0 + n)) ∧ Own II 1 w' base T (.slice A n c) n (ramp k0 n) ∧ w.grownBy w' (Value.slice A n c).ownBlock := by
  obtain ⟨k00, k01⟩ := hk0
  by_cases hn0 : n = 0
  · subst hn0
    obtain rfl : l = [] := List.eq_nil_of_length_eq_zero h.1
    have H := Lib.hid h
    clear h
    go_enter Try.func45, Try.ntmps45
    go_wp2
    go_loopw [1, 5] (fun k i wr => k = .int .i64 k0 ∧ i = .int .i64 0 ∧ wr = w) (fun _ _ _ => 0)
    case atStart => exact ⟨rfl, rfl, rfl⟩
    case round =>
      obtain ⟨rfl, rfl, rfl⟩ := hrel
      go_wp2
      go_ret
      exact ⟨ret_int (by simp), H.out, grown_refl _ _⟩
  · obtain ⟨g, c', e, hbg, hgl, hnc⟩ := h.head (by omega)
    injection e with e1 e2 e3
    subst e1
    have hln := Lib.hid h.1
    have H := Lib.hid h
    clear h
    go_enter Try.func45, Try.ntmps45
    go_wp2
    go_loopw [1, 5] (fun k i wr => ∃ j : Nat, j ≤ n ∧ i = .int .i64 j ∧ k = .int .i64 (k0 + j) ∧ Own II 1 wr base T (.slice (some ⟨g, 0, none⟩) n c) n (ramp k0 j ++ l.drop j) ∧ w.grownBy wr (some g)) (fun _ i _ => n - (intOf i).toNat)
    case atStart => exact ⟨0, Nat.zero_le _, rfl, by simp, by simpa [ramp] using H.out, grown_refl _ _⟩
    case round =>
      obtain ⟨j, hj, rfl, rfl, hO, hG⟩ := hrel
      by_cases hlt : j < n
      · have hjl : j < (ramp k0 j ++ l.drop j).length := by rw [hO.1]; exact hlt
        obtain ⟨z, hz⟩ : ∃ z, (ramp k0 j ++ l.drop j)[j]? = some z := ⟨_, List.getElem?_eq_getElem hjl⟩
        have c0 := hO.intAt hz
        have f0 := hO.2.frozenAt j
        have S := Lib.hid (hO.setInt (k := j) (k0 + j))
        rw [ramp_set k0 l (by rw [hln.out]; exact hlt)] at S
        have G := Lib.hid (grown_setCell hG (p := ⟨g, j, none⟩) (.inl rfl) (.int .i64 (k0 + j)))
        clear hjl hO hG hz
        go_wp2
        go_roundw
        case rel => exact ⟨j + 1, by omega, by go_num, by go_num, S.out, G.out⟩
        case measure => simp [intOf]; omega
      · obtain rfl : j = n := by omega
        have HO := Lib.hid (show Own II 1 _ base T (.slice (some ⟨g, 0, none⟩) j c) j (ramp k0 j) by rw [List.drop_of_length_le (by rw [hln.out]; exact Nat.le_refl _), List.append_nil] at hO; exact hO)
        clear hO
        go_wp2
        go_ret
        exact ⟨rfl, HO.out, hG⟩

set_option maxHeartbeats 400000 in
theorem heldIntS_any (A : Option Addr) (n c : Nat) (k0 : Int) (w : World) (h : Arr II 1 w w.heap.size A n (ramp k0 n)) (hk0 : 0 ≤ k0 ∧ k0 ≤ 1099511627776) (hn : n ≤ 1099511627776) :
    Calls Try.prog 46 #[.slice A n c, .int .i64 k0] w fun e w' => e = .returned (.int .i64 (k0 + n)) ∧ Below w.heap.size w w' := by
  obtain ⟨k00, k01⟩ := hk0
  go_enter Try.func46, Try.ntmps46
  go_wp2
  go_loopw [1, 5] (fun k i wr => ∃ j : Nat, j ≤ n ∧ i = .int .i64 j ∧ k = .int .i64 (k0 + j) ∧ Below w.heap.size w wr) (fun _ i _ => n - (intOf i).toNat)
  case atStart => exact ⟨0, Nat.zero_le _, rfl, by simp, Below.refl _ _⟩
  case round =>
    obtain ⟨j, hj, rfl, rfl, hb⟩ := hrel
    by_cases hlt : j < n
    · obtain ⟨b, off, x, rfl, hbB, hx, c1⟩ := h.int hlt
      rw [ramp_get k0 hlt] at hx
      injection hx with hx
      subst hx
      have c1' := (hb.cell (by exact hbB)).trans c1
      have d0 : (k0 + (j : Int) != k0 + (j : Int)) = false := by simp
      clear c1
      go_wp2
      go_roundw
      case rel => exact ⟨j + 1, by omega, by go_num, by go_num, hb⟩
      case measure => simp [intOf]; omega
    · obtain rfl : j = n := by omega
      go_wp2
      go_ret
      exact ⟨rfl, hb⟩
end Go.Proofs.Ytfohfcpnhhiemaa
