/-
  Contracts: FracOf of the program and the reference, at a numerator of moderate size and a positive denominator.
-/
import Derived.Test.YtfohfcpnhhiemaaGcd
namespace Go.Proofs.Ytfohfcpnhhiemaa
open Go.RowKit
set_option linter.unusedSimpArgs false
set_option linter.unusedVariables false

def RetFrac (w : World) (p : Int × Int) (e : Ending) (w' : World) : Prop := e = .returned (.tuple #[.agg #[.int .i64 p.1, .int .i64 p.2], .bool true]) ∧ Below w.heap.size w w'

/-- The cells of a block of two cells that was made some time ago. -/
theorem two_at {w w' : World} {a b : Value} {T : TypeId} {C : Nat} (h : Below C (w.alloc (.cells #[a, b] T)) w') (hC : w.heap.size < C) :
    w'.cell? ⟨w.heap.size, 0, none⟩ = some a ∧ w'.cell? ⟨w.heap.size, 1, none⟩ = some b ∧ w'.frozen? ⟨w.heap.size, 0, none⟩ = false ∧ w'.frozen? ⟨w.heap.size, 1, none⟩ = false := by
  have hg : w'.heap[w.heap.size]? = some (.cells #[a, b] T (0, 0)) := (h.block _ hC).trans (heap_alloc_new w _)
  exact ⟨by rw [cell_of_row _ _ 0 _ _ _ hg]; rfl, by rw [cell_of_row _ _ 1 _ _ _ hg]; rfl, frozen_of_row _ _ 0 _ _ hg, frozen_of_row _ _ 1 _ _ hg⟩

/-- What is read behind the two stores into a result of two cells. -/
theorem two_set {w : World} {g : Nat} {a b a' b' : Value} (r0 : w.cell? ⟨g, 0, none⟩ = some a') (r1 : w.cell? ⟨g, 1, none⟩ = some b') :
    (w.setCell ⟨g, 0, none⟩ a).cell? ⟨g, 0, none⟩ = some a ∧ ((w.setCell ⟨g, 0, none⟩ a).setCell ⟨g, 1, none⟩ b).cell? ⟨g, 1, none⟩ = some b := by
  have h0 := World.cell?_setCell_same' w ⟨g, 0, none⟩ a (by rw [r0]; rfl)
  refine ⟨h0, World.cell?_setCell_same' _ _ _ ?_⟩
  rw [World.cell?_setCell_other w ⟨g, 0, none⟩ ⟨g, 1, none⟩ a (by intro e; injection e with _ e; cases e), r1]
  rfl

set_option maxHeartbeats 1000000 in
theorem implFracOf_any (a b : Int) (w : World) (ha : -1000000 ≤ a ∧ a ≤ 1000000) (hb : 1 ≤ b ∧ b ≤ 1000000) :
    Calls Try.prog 60 #[.int .i64 a, .int .i64 b] w (RetFrac w (fr a b)) := by
  obtain ⟨g, s, d, hg, hg0, ea, eb, hd0, hfr, h1⟩ := gcd_facts (a := a) (b := b) (by omega)
  have hbd := fr_bd (a := a) (b := b) (L := 1000000) (by omega) ha.1 ha.2
  rw [hfr] at hbd
  obtain ⟨s1, s2, d1, d2⟩ := hbd
  simp only at s1 s2 d1 d2
  have K := fun W => gcd_any a b W ha ⟨by omega, hb.2⟩
  rw [hg] at K
  have K' := Lib.hid K
  have V := Lib.hid (fun W => implFracValid_yes s d W ⟨s1, s2⟩ ⟨d1, by omega⟩ h1)
  have gle : g ≤ 1000000 := by
    have := Int.mul_le_mul_of_nonneg_left d1 (show 0 ≤ g by omega)
    rw [← eb] at this
    omega
  have t1 : a.tdiv g = s := by rw [ea]; exact Int.mul_tdiv_cancel_left _ (by omega)
  have t2 : b.tdiv g = d := by rw [eb]; exact Int.mul_tdiv_cancel_left _ (by omega)
  have HF := Lib.hid hfr
  obtain ⟨a1, a2⟩ := ha
  obtain ⟨b1, b2⟩ := hb
  have b0 : (b == 0) = false := by simp; omega
  have b0' : ¬ b < 0 := by omega
  have g0 : (g == 0) = false := by simp; omega
  have g0' : ¬ g = 0 := by omega
  have e1 : wrap64 s = s := w64' (by omega)
  have e2 : wrap64 d = d := w64' (by omega)
  clear hg ea eb hfr h1 K
  rw [show RetFrac w (fr a b) = RetFrac w (s, d) by rw [HF.out]]
  go_enter Try.func60, Try.ntmps60
  go_wp2_with fail
  refine (K'.out _).mono ?_
  rintro e w1 ⟨rfl, b1⟩
  go_wp2_with fail
  go_region
  all_goals
    go_wp2_with fail
    refine (V.out _).mono ?_
    rintro e w2 ⟨rfl, b2⟩
    have hb : Below (w.heap.size + 1) (w.alloc (.cells #[.int .i64 0, .int .i64 0] 45)) w2 :=
      (((b1.mono (by simp)).alloc (by have := b1.size; simp at this; omega) (.cells #[.int .i64 s, .int .i64 d] 45)).drew).trans (b2.mono (by have := b1.size; simp at this; show _ ≤ (w1.alloc _).heap.size; simp; omega))
    obtain ⟨r0, r1, f0, f1⟩ := two_at hb (Nat.lt_succ_self _)
    obtain ⟨c0, c1, _, _⟩ := two_at (w := w1) (w' := w2) (C := w1.heap.size + 1) ((below_drewN (Below.refl _ _) 1).trans (b2.mono (by show _ ≤ (w1.alloc _).heap.size; simp))) (Nat.lt_succ_self _)
    have B2 := Lib.hid (show Below w.heap.size w w2 from ((Below.refl w.heap.size w).alloc (Nat.le_refl _) _).trans (hb.mono (Nat.le_succ _)))
    have hne : ¬ w.heap.size = w1.heap.size := by have := b1.size; simp at this; omega
    clear b1 b2 hb
    go_wp2_with fail
    obtain ⟨z0, z1⟩ := two_set (a := .int .i64 s) (b := .int .i64 d) r0 r1
    refine bodyPost_ret (v := .tuple #[.agg #[.int .i64 s, .int .i64 d], .bool true]) (by simp [results, Try.results60, go_sem, z0, z1]) rfl ⟨rfl, ?_⟩
    exact (B2.out.setCell (Nat.le_refl _) _).setCell (Nat.le_refl _) _

theorem gcd_abs (s d : Int) : Int.gcd (absI s) d = Int.gcd s d := by
  unfold Int.gcd
  rw [show (absI s).natAbs = s.natAbs by unfold absI; omega]

set_option maxHeartbeats 1000000 in
theorem specFracValid_yes (x d : Int) (w : World) (hx : -1000000 ≤ x ∧ x ≤ 1000000) (hd : 1 ≤ d ∧ d ≤ 1000000) (h1 : Int.gcd x d = 1) :
    Calls Try.prog 70 #[.agg #[.int .i64 x, .int .i64 d]] w fun e w' => e = .returned (.bool true) ∧ Below w.heap.size w w' := by
  have I1 := Lib.hid (fun W => l6In_any d 1 1000000000 true (decide_eq_true (by omega)) W)
  have I2 := Lib.hid (fun W => l6In_any x (-1000000000) 1000000000 true (decide_eq_true (by omega)) W)
  have AB := Lib.hid (fun W => l2Abs_any x hx.1 hx.2 W)
  have hab := absI_bd hx.1 hx.2
  have K := fun W => l2Gcd_any (absI x) d W hab (by omega)
  rw [gcd_abs, h1] at K
  have K' := Lib.hid K
  obtain ⟨z, hz⟩ : ∃ z, z = absI x := ⟨_, rfl⟩
  rw [← hz] at K' AB
  obtain ⟨x1, x2⟩ := hx
  obtain ⟨d1, d2⟩ := hd
  have B1 := Lib.hid (show Below w.heap.size w (w.alloc (.cells #[.int .i64 x, .int .i64 d] 45)) from (Below.refl _ _).alloc (Nat.le_refl _) _)
  clear K h1 hab hz
  go_enter Try.func70, Try.ntmps70
  go_wp2_with fail
  refine (I1.out _).mono ?_
  rintro e w1 ⟨rfl, rfl⟩
  go_wp2_with fail
  refine (I2.out _).mono ?_
  rintro e w1 ⟨rfl, rfl⟩
  go_wp2_with fail
  obtain ⟨wx, hwx⟩ : ∃ wx, wx = w.alloc (.cells #[.int .i64 x, .int .i64 d] 45) := ⟨_, rfl⟩
  have n0 : wx.cell? ⟨w.heap.size, 0, none⟩ = some (.int .i64 x) := by rw [hwx]; exact cell_new2 w _ _ _ 0 _ rfl
  have n1 : wx.cell? ⟨w.heap.size, 1, none⟩ = some (.int .i64 d) := by rw [hwx]; exact cell_new2 w _ _ _ 1 _ rfl
  have nz : w.heap.size < wx.heap.size := by rw [hwx]; simp
  rw [← hwx] at B1 ⊢
  clear hwx
  have D1 := Later.cell (w0 := wx) (B := wx.heap.size) (by exact nz) n0
  have D2 := Later.cell (w0 := wx) (B := wx.heap.size) (by exact nz) n1
  refine wp_region_under (B := wx.heap.size) (w0 := wx) (by kernel_rfl) (by kernel_rfl) (Below.refl _ _) ?_
  repeat (go_big_quiet_step ((first
    | (go_at_call 51; exact Calls.underSame (AB.out _))
    | (go_at_call 69; exact Calls.underSame (K'.out _)))))
  refine wpQuiet_nil ?_
  rintro w2 ⟨u, hu⟩
  have hb2 := u.2
  rw [← hu] at hb2
  clear hu D1 D2
  go_wp2
  go_ret
  exact ⟨rfl, B1.out.trans (hb2.mono B1.out.size)⟩

set_option maxHeartbeats 1000000 in
theorem specFracOf_any (a b : Int) (w : World) (ha : -1000000 ≤ a ∧ a ≤ 1000000) (hb : 1 ≤ b ∧ b ≤ 1000000) :
    Calls Try.prog 61 #[.int .i64 a, .int .i64 b] w (RetFrac w (fr a b)) := by
  obtain ⟨g, s, d, hg, hg0, ea, eb, hd0, hfr, h1⟩ := gcd_facts (a := a) (b := b) (by omega)
  have hbd := fr_bd (a := a) (b := b) (L := 1000000) (by omega) ha.1 ha.2
  rw [hfr] at hbd
  obtain ⟨s1, s2, d1, d2⟩ := hbd
  simp only at s1 s2 d1 d2
  have AB := Lib.hid (fun W => l2Abs_any a ha.1 ha.2 W)
  have hab := absI_bd ha.1 ha.2
  have K := fun W => l2Gcd_any (absI a) b W hab (by omega)
  rw [gcd_abs, hg] at K
  have K' := Lib.hid K
  obtain ⟨z, hz⟩ : ∃ z, z = absI a := ⟨_, rfl⟩
  rw [← hz] at K' AB
  have V := Lib.hid (fun W => specFracValid_yes s d W ⟨s1, s2⟩ ⟨d1, by omega⟩ h1)
  have I1 := Lib.hid (fun W => l6In_any a (-4000000000000000000) 4000000000000000000 true (decide_eq_true (by omega)) W)
  have I2 := Lib.hid (fun W => l6In_any b (-4000000000000000000) 4000000000000000000 true (decide_eq_true (by omega)) W)
  have gle : g ≤ 1000000 := by
    have := Int.mul_le_mul_of_nonneg_left d1 (show 0 ≤ g by omega)
    rw [← eb] at this
    omega
  have t1 : a.tdiv g = s := by rw [ea]; exact Int.mul_tdiv_cancel_left _ (by omega)
  have t2 : b.tdiv g = d := by rw [eb]; exact Int.mul_tdiv_cancel_left _ (by omega)
  have HF := Lib.hid hfr
  obtain ⟨a1, a2⟩ := ha
  obtain ⟨b1, b2⟩ := hb
  have b0 : (b == 0) = false := by simp; omega
  have b0' : ¬ b < 0 := by omega
  have g0 : (g == 0) = false := by simp; omega
  have g0' : ¬ g = 0 := by omega
  have e1 : wrap64 s = s := w64' (by omega)
  have e2 : wrap64 d = d := w64' (by omega)
  clear hg ea eb hfr h1 K hab hz
  rw [show RetFrac w (fr a b) = RetFrac w (s, d) by rw [HF.out]]
  go_enter Try.func61, Try.ntmps61
  go_wp2_with fail
  refine (I1.out _).mono ?_
  rintro e w1 ⟨rfl, rfl⟩
  go_wp2_with fail
  refine (I2.out _).mono ?_
  rintro e w1 ⟨rfl, rfl⟩
  go_wp2_with fail
  refine (AB.out _).mono ?_
  rintro e w1 ⟨rfl, rfl⟩
  go_wp2_with fail
  refine (K'.out _).mono ?_
  rintro e w1 ⟨rfl, rfl⟩
  have b1 := Below.refl (w.alloc (.cells #[.int .i64 0, .int .i64 0] 45)).heap.size (w.alloc (.cells #[.int .i64 0, .int .i64 0] 45))
  obtain ⟨w1, hw1⟩ : ∃ w1, w1 = w.alloc (.cells #[.int .i64 0, .int .i64 0] 45) := ⟨_, rfl⟩
  rw [← hw1]
  have b1 : Below (w.alloc (.cells #[.int .i64 0, .int .i64 0] 45)).heap.size (w.alloc (.cells #[.int .i64 0, .int .i64 0] 45)) w1 := by rw [hw1]; exact Below.refl _ _
  clear hw1
  go_wp2_with fail
  go_region
  all_goals
    go_wp2_with fail
    refine (V.out _).mono ?_
    rintro e w2 ⟨rfl, b2⟩
    have hb : Below (w.heap.size + 1) (w.alloc (.cells #[.int .i64 0, .int .i64 0] 45)) w2 :=
      (((b1.mono (by simp)).alloc (by have := b1.size; simp at this; omega) (.cells #[.int .i64 s, .int .i64 d] 45)).drew).trans (b2.mono (by have := b1.size; simp at this; show _ ≤ (w1.alloc _).heap.size; simp; omega))
    obtain ⟨r0, r1, f0, f1⟩ := two_at hb (Nat.lt_succ_self _)
    obtain ⟨c0, c1, _, _⟩ := two_at (w := w1) (w' := w2) (C := w1.heap.size + 1) ((below_drewN (Below.refl _ _) 1).trans (b2.mono (by show _ ≤ (w1.alloc _).heap.size; simp))) (Nat.lt_succ_self _)
    have B2 := Lib.hid (show Below w.heap.size w w2 from ((Below.refl w.heap.size w).alloc (Nat.le_refl _) _).trans (hb.mono (Nat.le_succ _)))
    have hne : ¬ w.heap.size = w1.heap.size := by have := b1.size; simp at this; omega
    clear b1 b2 hb
    go_wp2_with fail
    obtain ⟨z0, z1⟩ := two_set (a := .int .i64 s) (b := .int .i64 d) r0 r1
    refine bodyPost_ret (v := .tuple #[.agg #[.int .i64 s, .int .i64 d], .bool true]) (by simp [results, Try.results61, go_sem, z0, z1]) rfl ⟨rfl, ?_⟩
    exact (B2.out.setCell (Nat.le_refl _) _).setCell (Nat.le_refl _) _
end Go.Proofs.Ytfohfcpnhhiemaa
