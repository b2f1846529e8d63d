/-
  Contracts: sameFracs on rows that read alike, frac, FracMul, FracLess.
-/
import Derived.Test.YtfohfcpnhhiemaaFracOf
namespace Go.Proofs.Ytfohfcpnhhiemaa
open Go.RowKit
set_option linter.unusedSimpArgs false
set_option linter.unusedVariables false

set_option maxHeartbeats 1000000 in
theorem sameFracs_yes (A : Option Addr) (n c : Nat) (l : List (Int × Int)) (A' : Option Addr) (n' c' : Nat) (w : World) (h : Arr PP 2 w w.heap.size A n l) (h' : Arr PP 2 w w.heap.size A' n' l) (hn : n ≤ 1099511627776) :
    Calls Try.prog 34 #[.slice A n c, .slice A' n' c'] w fun e w' => e = .returned (.bool true) ∧ Below w.heap.size w w' := by
  obtain rfl : n = n' := by rw [← h.1, h'.1]
  go_enter Try.func34, Try.ntmps34
  go_wp2
  go_loopw [5] (fun i wr => ∃ k : Nat, k ≤ n ∧ i = .int .i64 k ∧ Below w.heap.size w wr) (fun i _ => n - (intOf i).toNat)
  case atStart => exact ⟨0, Nat.zero_le _, rfl, Below.refl _ _⟩
  case round =>
    obtain ⟨k, hk, rfl, hb⟩ := hrel
    by_cases hlt : k < n
    · obtain ⟨b, off, x, y, rfl, hbB, hx, c1, c2⟩ := h.pair hlt
      obtain ⟨b', off', x', y', rfl, hbB', hx', c1', c2'⟩ := h'.pair hlt
      rw [hx] at hx'
      injection hx' with hx'
      injection hx' with e1 e2
      subst e1; subst e2
      have D1 := Later.cell (w0 := wr) (B := w.heap.size) (by exact hbB) ((hb.cell (by exact hbB)).trans c1)
      have D2 := Later.cell (w0 := wr) (B := w.heap.size) (by exact hbB) ((hb.cell (by exact hbB)).trans c2)
      have D3 := Later.cell (w0 := wr) (B := w.heap.size) (by exact hbB') ((hb.cell (by exact hbB')).trans c1')
      have D4 := Later.cell (w0 := wr) (B := w.heap.size) (by exact hbB') ((hb.cell (by exact hbB')).trans c2')
      have ik : (k : Int) < (n : Int) := by omega
      have ik0 : (0 : Int) ≤ (k : Int) := by omega
      have f1 : (x != x) = false := by simp
      have f2 : (y != y) = false := by simp
      clear c1 c2 c1' c2' hx
      go_wp2_with fail
      refine wp_region_under (B := w.heap.size) (w0 := wr) (by kernel_rfl) (by kernel_rfl) (Below.refl _ _) ?_
      repeat (go_big_quiet_step (fail))
      refine wpQuiet_nil ?_
      rintro w2 ⟨u, hu⟩
      have hb2 := u.2
      rw [← hu] at hb2
      clear hu D1 D2 D3 D4
      go_wp2
      go_roundw
      case rel => exact ⟨k + 1, by omega, by go_num, hb.trans hb2⟩
      case measure => simp [intOf]; omega
    · obtain rfl : k = n := by omega
      go_wp2
      go_ret
      exact ⟨rfl, hb⟩
theorem sameFracs_later {A A' : Option Addr} {n c n' c' : Nat} {xs : List (Int × Int)} {w : World} (h : Arr PP 2 w w.heap.size A n xs) (h' : Arr PP 2 w w.heap.size A' n' xs) (hn : xs.length ≤ 1099511627776 := by first | omega | simp) :
    ∀ W, Below w.heap.size w W → Calls Try.prog 34 #[.slice A n c, .slice A' n' c'] W fun e w' => e = .returned (.bool true) ∧ Below w.heap.size w w' := by
  intro W hW
  have S := sameFracs_yes A n c xs A' n' c' W ((h.below' hW).more hW.size) ((h'.below' hW).more hW.size) (by rw [← h.1]; exact hn)
  exact S.mono fun e w' ⟨he, hb⟩ => ⟨he, hW.trans (hb.mono hW.size)⟩

theorem frac_any (x : Int) (w : World) : Calls Try.prog 36 #[.int .i64 x] w fun e w' => e = .returned (.agg #[.int .i64 x, .int .i64 1]) ∧ Below w.heap.size w w' := by
  go_enter Try.func36, Try.ntmps36
  go_wp2
  refine bodyPost_ret (v := .agg #[.int .i64 x, .int .i64 1]) (by simp [results, Try.results36, go_sem]) rfl ⟨rfl, ?_⟩
  go_grown

/-- The cells of three blocks that were made one after the other, some time ago. -/
theorem three_at {w w' : World} {a b a' b' p q : Value} {T : TypeId} (h : Below (w.heap.size + 3) (((w.alloc (.cells #[a, b] T)).alloc (.cells #[a', b'] T)).alloc (.cells #[p, q] T)) w') :
    w'.cell? ⟨w.heap.size, 0, none⟩ = some a ∧ w'.cell? ⟨w.heap.size, 1, none⟩ = some b ∧ w'.cell? ⟨w.heap.size + 1, 0, none⟩ = some a' ∧ w'.cell? ⟨w.heap.size + 1, 1, none⟩ = some b' ∧
    w'.cell? ⟨w.heap.size + 2, 0, none⟩ = some p ∧ w'.cell? ⟨w.heap.size + 2, 1, none⟩ = some q ∧ w'.frozen? ⟨w.heap.size + 2, 0, none⟩ = false ∧ w'.frozen? ⟨w.heap.size + 2, 1, none⟩ = false := by
  have h1 : Below (w.heap.size + 1) (w.alloc (.cells #[a, b] T)) w' := (((Below.refl _ _).alloc (by simp) _).alloc (by simp) _).trans (h.mono (by omega))
  have h2 : Below (w.heap.size + 2) ((w.alloc (.cells #[a, b] T)).alloc (.cells #[a', b'] T)) w' := ((Below.refl _ _).alloc (by simp) _).trans (h.mono (by omega))
  obtain ⟨x0, x1, _, _⟩ := two_at h1 (Nat.lt_succ_self _)
  obtain ⟨y0, y1, _, _⟩ := two_at (w := w.alloc (.cells #[a, b] T)) h2 (by simp)
  obtain ⟨z0, z1, f0, f1⟩ := two_at (w := (w.alloc (.cells #[a, b] T)).alloc (.cells #[a', b'] T)) h (by simp)
  simp only [World.size_alloc] at y0 y1 z0 z1 f0 f1
  exact ⟨x0, x1, y0, y1, z0, z1, f0, f1⟩

set_option maxHeartbeats 1000000 in
theorem implFracMul_any (x d y q : Int) (w : World) (hx : -1000 * 1000 ≤ x * y ∧ x * y ≤ 1000000) (hd : 1 ≤ d * q ∧ d * q ≤ 1000000)
    (vx : -1000000 ≤ x ∧ x ≤ 1000000) (vd : 1 ≤ d ∧ d ≤ 1000000) (v1 : Int.gcd x d = 1) (vy : -1000000 ≤ y ∧ y ≤ 1000000) (vq : 1 ≤ q ∧ q ≤ 1000000) (v2 : Int.gcd y q = 1) :
    Calls Try.prog 37 #[.agg #[.int .i64 x, .int .i64 d], .agg #[.int .i64 y, .int .i64 q]] w (RetFrac w (fr (x * y) (d * q))) := by
  have V1 := Lib.hid (fun W => implFracValid_yes x d W vx vd v1)
  have V2 := Lib.hid (fun W => implFracValid_yes y q W vy vq v2)
  have F := fun W => implFracOf_any (x * y) (d * q) W (by omega) hd
  obtain ⟨S, D, hF⟩ : ∃ S D, fr (x * y) (d * q) = (S, D) := ⟨_, _, rfl⟩
  rw [hF] at F ⊢
  obtain ⟨X, hX⟩ : ∃ X, X = x * y := ⟨_, rfl⟩
  obtain ⟨Y, hY⟩ : ∃ Y, Y = d * q := ⟨_, rfl⟩
  rw [← hX, ← hY] at F
  have F' := Lib.hid F
  have e1 : wrap64 (x * y) = X := by rw [hX]; exact w64' (by omega)
  have e2 : wrap64 (d * q) = Y := by rw [hY]; exact w64' (by omega)
  have B0 := Lib.hid (show Below w.heap.size w (((w.alloc (.cells #[.int .i64 x, .int .i64 d] 45)).alloc (.cells #[.int .i64 y, .int .i64 q] 45)).alloc (.cells #[.int .i64 0, .int .i64 0] 45)) from
    (((Below.refl _ _).alloc (Nat.le_refl _) _).alloc (by simp) _).alloc (by simp; omega) _)
  clear F hX hY hF hx hd vx vd v1 vy vq v2
  go_enter Try.func37, Try.ntmps37
  go_wp2_with fail
  refine (V1.out _).mono ?_
  rintro e w1 ⟨rfl, b1⟩
  have b1' := b1.mono (show w.heap.size + 3 ≤ _ by simp)
  have HB1 := Lib.hid b1'
  obtain ⟨x0, x1, y0, y1, z0, z1, f0, f1⟩ := three_at b1'
  clear b1 b1'
  go_wp2_with fail
  refine (V2.out _).mono ?_
  rintro e w2 ⟨rfl, b2⟩
  have b2' := HB1.out.trans (b2.mono (show w.heap.size + 3 ≤ _ by have := HB1.out.size; simp at this; omega))
  have HB2 := Lib.hid b2'
  clear x0 x1 y0 y1 z0 z1 f0 f1 HB1
  obtain ⟨x0, x1, y0, y1, z0, z1, f0, f1⟩ := three_at b2'
  clear b2 b2'
  go_wp2_with fail
  refine (F'.out _).mono ?_
  rintro e w3 ⟨rfl, b3⟩
  have b3' := HB2.out.trans (b3.mono (show w.heap.size + 3 ≤ _ by have := HB2.out.size; simp at this; omega))
  have HB3 := Lib.hid b3'
  clear x0 x1 y0 y1 z0 z1 f0 f1 HB2
  obtain ⟨x0, x1, y0, y1, z0, z1, f0, f1⟩ := three_at b3'
  have B3 := Lib.hid (B0.out.trans (b3'.mono (by omega)))
  clear b3 b3' HB3
  go_wp2_with fail
  obtain ⟨u0, u1⟩ := two_set (a := .int .i64 S) (b := .int .i64 D) z0 z1
  refine bodyPost_ret (v := .tuple #[.agg #[.int .i64 S, .int .i64 D], .bool true]) (by simp [results, Try.results37, go_sem, u0, u1]) rfl ⟨rfl, ?_⟩
  exact (B3.out.setCell (by show w.heap.size ≤ w.heap.size + 2; omega) _).setCell (by show w.heap.size ≤ w.heap.size + 2; omega) _

set_option maxHeartbeats 1000000 in
theorem implFracLess_any (x d y q : Int) (w : World) (vx : -1000000 ≤ x ∧ x ≤ 1000000) (vd : 1 ≤ d ∧ d ≤ 1000000) (v1 : Int.gcd x d = 1) (vy : -1000000 ≤ y ∧ y ≤ 1000000) (vq : 1 ≤ q ∧ q ≤ 1000000) (v2 : Int.gcd y q = 1)
    (r : Bool) (hr : decide (x * q < y * d) = r) (h1 : -1000000000000 ≤ x * q ∧ x * q ≤ 1000000000000) (h2 : -1000000000000 ≤ y * d ∧ y * d ≤ 1000000000000) :
    Calls Try.prog 35 #[.agg #[.int .i64 x, .int .i64 d], .agg #[.int .i64 y, .int .i64 q]] w fun e w' => e = .returned (.bool r) ∧ Below w.heap.size w w' := by
  have V1 := Lib.hid (fun W => implFracValid_yes x d W vx vd v1)
  have V2 := Lib.hid (fun W => implFracValid_yes y q W vy vq v2)
  obtain ⟨X, hX⟩ : ∃ X, X = x * q := ⟨_, rfl⟩
  obtain ⟨Y, hY⟩ : ∃ Y, Y = y * d := ⟨_, rfl⟩
  have e1 : wrap64 (x * q) = X := by rw [hX]; exact w64' (by omega)
  have e2 : wrap64 (y * d) = Y := by rw [hY]; exact w64' (by omega)
  rw [← hX, ← hY] at hr
  have B0 := Lib.hid (show Below w.heap.size w ((w.alloc (.cells #[.int .i64 x, .int .i64 d] 45)).alloc (.cells #[.int .i64 y, .int .i64 q] 45)) from
    ((Below.refl _ _).alloc (Nat.le_refl _) _).alloc (by simp) _)
  have key : ∀ w' : World, Below (w.heap.size + 2) ((w.alloc (.cells #[.int .i64 x, .int .i64 d] 45)).alloc (.cells #[.int .i64 y, .int .i64 q] 45)) w' →
      w'.cell? ⟨w.heap.size, 0, none⟩ = some (.int .i64 x) ∧ w'.cell? ⟨w.heap.size, 1, none⟩ = some (.int .i64 d) ∧ w'.cell? ⟨w.heap.size + 1, 0, none⟩ = some (.int .i64 y) ∧ w'.cell? ⟨w.heap.size + 1, 1, none⟩ = some (.int .i64 q) := fun w' h => by
    have g1 : Below (w.heap.size + 1) (w.alloc (.cells #[.int .i64 x, .int .i64 d] 45)) w' := ((Below.refl _ _).alloc (by simp) _).trans (h.mono (by omega))
    obtain ⟨x0, x1, _, _⟩ := two_at g1 (Nat.lt_succ_self _)
    obtain ⟨y0, y1, _, _⟩ := two_at (w := w.alloc (.cells #[.int .i64 x, .int .i64 d] 45)) h (by simp)
    simp only [World.size_alloc] at y0 y1
    exact ⟨x0, x1, y0, y1⟩
  have KEY := Lib.hid key
  have HR := Lib.hid hr
  clear key hX hY h1 h2 hr vx vd v1 vy vq v2
  go_enter Try.func35, Try.ntmps35
  go_wp2_with fail
  refine (V1.out _).mono ?_
  rintro e w1 ⟨rfl, b1⟩
  have b1' := b1.mono (show w.heap.size + 2 ≤ _ by simp)
  have HB1 := Lib.hid b1'
  obtain ⟨x0, x1, y0, y1⟩ := KEY.out _ b1'
  clear b1 b1'
  go_wp2_with fail
  refine (V2.out _).mono ?_
  rintro e w2 ⟨rfl, b2⟩
  have b2' := HB1.out.trans (b2.mono (show w.heap.size + 2 ≤ _ by have := HB1.out.size; simp at this; omega))
  clear x0 x1 y0 y1 HB1
  obtain ⟨x0, x1, y0, y1⟩ := KEY.out _ b2'
  have B3 := Lib.hid (B0.out.trans (b2'.mono (by omega)))
  clear b2 b2'
  go_wp2
  go_ret
  exact ⟨ret_bool HR.out, B3.out⟩
end Go.Proofs.Ytfohfcpnhhiemaa
