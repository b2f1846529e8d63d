/-
  Contracts: the draws of stacks.
-/
import Derived.Test.YtfohfcpnhhiemaaDrawStack
namespace Go.Proofs.Ytfohfcpnhhiemaa
open Go.RowKit
set_option linter.unusedSimpArgs false
set_option linter.unusedVariables false

def DrawnStack (T T' : TypeId) (w : World) (e : Ending) (w' : World) : Prop :=
  ∃ (A : Option Addr) (n c : Nat) (vs : List Value) (R : List (List Int)), e = .returned (.slice A n c) ∧ OwnRR w' w.heap.size T T' (.slice A n c) n vs R ∧ n ≤ c ∧ n ≤ 5 ∧ (∀ r ∈ R, r.length ≤ 10) ∧ Below w.heap.size w w'
def DrawnStackI (T T' : TypeId) (w : World) (e : Ending) (w' : World) : Prop :=
  ∃ (A : Option Addr) (n c : Nat) (vs : List Value) (R : List (List Int)) (i : Int), e = .returned (.tuple #[.slice A n c, .int .i64 i]) ∧ OwnRR w' w.heap.size T T' (.slice A n c) n vs R ∧ n ≤ c ∧ n ≤ 5 ∧ (∀ r ∈ R, r.length ≤ 10) ∧ -10 ≤ i ∧ i ≤ 10 ∧ Below w.heap.size w w'
theorem DrawStackMean_any (A : Option Addr) (n c : Nat) (l : List Int) (w : World) (h : Arr BB 1 w w.heap.size A n l) (hby : ∀ x ∈ l, 0 ≤ x ∧ x ≤ 255) (hc : n ≤ c) :
    Calls Try.prog 31 #[.slice A n c] w (DrawnStack 28 3 w) := by
  have C := Lib.hid (l6Open_any A n c l w h hby hc)
  clear hby h
  go_enter Try.func31, Try.ntmps31
  go_wp2_with fail
  refine C.out.mono ?_
  rintro e w1 ⟨rfl, hr, hb, hs⟩
  go_wp2_with fail
  refine (l93Stack_any _ 0 w1 hr (by omega)).mono ?_
  rintro e w2 ⟨v, m, vs, R, p', rfl, ho, hm, hR, hr2, hp, hg⟩
  obtain ⟨A2, c2, rfl, hc2, _⟩ := ho.own.form
  have hb2 := hb.grown hg (by omega) (by intro k hk; injection hk with hk; omega)
  have hR' := Lib.hid hR
  clear hg hr hR
  go_wp2
  go_ret
  exact ⟨_, _, _, _, _, rfl, ho.less (by omega), hc2, hm, hR'.out, hb2⟩
theorem DrawStackMiddle_any (A : Option Addr) (n c : Nat) (l : List Int) (w : World) (h : Arr BB 1 w w.heap.size A n l) (hby : ∀ x ∈ l, 0 ≤ x ∧ x ≤ 255) (hc : n ≤ c) :
    Calls Try.prog 41 #[.slice A n c] w (DrawnStack 28 3 w) := by
  have C := Lib.hid (l6Open_any A n c l w h hby hc)
  clear hby h
  go_enter Try.func41, Try.ntmps41
  go_wp2_with fail
  refine C.out.mono ?_
  rintro e w1 ⟨rfl, hr, hb, hs⟩
  go_wp2_with fail
  refine (l93Stack_any _ 0 w1 hr (by omega)).mono ?_
  rintro e w2 ⟨v, m, vs, R, p', rfl, ho, hm, hR, hr2, hp, hg⟩
  obtain ⟨A2, c2, rfl, hc2, _⟩ := ho.own.form
  have hb2 := hb.grown hg (by omega) (by intro k hk; injection hk with hk; omega)
  have hR' := Lib.hid hR
  clear hg hr hR
  go_wp2
  go_ret
  exact ⟨_, _, _, _, _, rfl, ho.less (by omega), hc2, hm, hR'.out, hb2⟩
theorem DrawStackSum_any (A : Option Addr) (n c : Nat) (l : List Int) (w : World) (h : Arr BB 1 w w.heap.size A n l) (hby : ∀ x ∈ l, 0 ≤ x ∧ x ≤ 255) (hc : n ≤ c) :
    Calls Try.prog 47 #[.slice A n c] w (DrawnStack 28 3 w) := by
  have C := Lib.hid (l6Open_any A n c l w h hby hc)
  clear hby h
  go_enter Try.func47, Try.ntmps47
  go_wp2_with fail
  refine C.out.mono ?_
  rintro e w1 ⟨rfl, hr, hb, hs⟩
  go_wp2_with fail
  refine (l93Stack_any _ 0 w1 hr (by omega)).mono ?_
  rintro e w2 ⟨v, m, vs, R, p', rfl, ho, hm, hR, hr2, hp, hg⟩
  obtain ⟨A2, c2, rfl, hc2, _⟩ := ho.own.form
  have hb2 := hb.grown hg (by omega) (by intro k hk; injection hk with hk; omega)
  have hR' := Lib.hid hR
  clear hg hr hR
  go_wp2
  go_ret
  exact ⟨_, _, _, _, _, rfl, ho.less (by omega), hc2, hm, hR'.out, hb2⟩

set_option maxHeartbeats 1000000 in
theorem DrawStackWithout_any (A : Option Addr) (n c : Nat) (l : List Int) (w : World) (h : Arr BB 1 w w.heap.size A n l) (hby : ∀ x ∈ l, 0 ≤ x ∧ x ≤ 255) (hc : n ≤ c) :
    Calls Try.prog 27 #[.slice A n c] w (DrawnStackI 28 3 w) := by
  have C := Lib.hid (l6Open_any A n c l w h hby hc)
  clear hby h
  go_enter Try.func27, Try.ntmps27
  go_wp2_with fail
  refine C.out.mono ?_
  rintro e w1 ⟨rfl, hr, hb, hs⟩
  go_wp2_with fail
  refine (l93Stack_any _ 0 w1 hr (by omega)).mono ?_
  rintro e w2 ⟨v, m, vs, R, p', rfl, ho, hm, hR, hr2, hp, hg⟩
  obtain ⟨A2, c2, rfl, hc2, _⟩ := ho.own.form
  have hb2 := hb.grown hg (by omega) (by intro k hk; injection hk with hk; omega)
  have hR' := Lib.hid hR
  have hs2 := hg.size
  clear hg hr hb hR
  obtain ⟨M, hM, hM1⟩ : ∃ M : Int, M = max 1 (m : Int) ∧ 1 ≤ M ∧ M ≤ 5 := ⟨_, rfl, by omega, by omega⟩
  rcases (show m = 0 ∨ m = 1 ∨ 1 < m by omega) with h0 | h0 | h0
  all_goals
    first | subst h0 | skip
    clear hM hM1
    go_wp2_with fail
    refine (pick_any _ p' _ _ hr2 (by omega) (by omega)).mono ?_
    rintro e w3 ⟨x, rfl, hx, hr3, hg3⟩
    have ho3 := ho.kept hg3 (by intro k hk; injection hk with hk; omega)
    have hb3 := hb2.grown hg3 hb2.size (by intro k hk; injection hk with hk; omega)
    have hs3 := hg3.size
    have hx5 : x ≤ 5 := by omega
    clear hg3 hx
    go_wp2_with fail
    refine (pick_any _ (p' + 1) 16 _ hr3 (by omega) (by omega)).mono ?_
    rintro e w4 ⟨y, rfl, hy, hr4, hg4⟩
    have ho4 := ho3.kept hg4 (by intro k hk; injection hk with hk; omega)
    have hb4 := hb3.grown hg4 hb3.size (by intro k hk; injection hk with hk; omega)
    have hy16 : y ≤ 16 := by omega
    clear hg4 hy ho hb2 ho3 hb3 hr3 hr4
    go_wp2
    go_ret2
    exact ⟨_, _, _, _, _, _, rfl, ho4.less (by omega), hc2, hm, hR'.out, by omega, by omega, hb4⟩
theorem DrawStackFar_any (A : Option Addr) (n c : Nat) (l : List Int) (w : World) (h : Arr BB 1 w w.heap.size A n l) (hby : ∀ x ∈ l, 0 ≤ x ∧ x ≤ 255) (hc : n ≤ c) :
    Calls Try.prog 16 #[.slice A n c] w (DrawnStackI 28 3 w) := by
  have C := Lib.hid (DrawStackWithout_any A n c l w h hby hc)
  clear hby h
  go_enter Try.func16, Try.ntmps16
  go_wp2_with fail
  refine C.out.mono ?_
  rintro e w1 ⟨A1, n1, c1, vs, R, i, rfl, ho, hc1, hn, hR, hi1, hi2, hb⟩
  have hR' := Lib.hid hR
  clear hR
  go_wp2
  go_ret2
  exact ⟨A1, n1, c1, vs, R, i, rfl, ho, hc1, hn, hR'.out, hi1, hi2, hb⟩
end Go.Proofs.Ytfohfcpnhhiemaa
