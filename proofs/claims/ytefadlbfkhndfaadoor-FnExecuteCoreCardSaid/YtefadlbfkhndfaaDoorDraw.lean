/-
  The reader of a code: 'pick', 'l6Open'.
-/
import Derived.Test.YtefadlbfkhndfaaDoorKit
namespace Go.Proofs.YtefadlbfkhndfaaDoor
open Go.RowKit
set_option linter.unusedSimpArgs false
set_option linter.unusedVariables false

def PickPost (w : World) (g : Nat) (T : TypeId) (p : Nat) (m : Int) (e : Ending) (w' : World) : Prop :=
  ∃ r : Nat, e = .returned (.int .i64 r) ∧ ((r : Int) < m ∨ r = 0) ∧ Rd w' g T (p + 1) ∧ w.grownBy w' (some g)

theorem rd_set {w : World} {g : Nat} {T : TypeId} {A : Option Addr} {n c p : Nat} {l : List Int} (hg : w.heap[g]? = some (.cells #[.slice A n c, .int .i64 p] T (0, 0))) (ha : Arr BB 1 w g A n l)
    (hby : ∀ x ∈ l, 0 ≤ x ∧ x ≤ 255) (hn : n ≤ 2000) : Rd (w.setCell ⟨g, 1, none⟩ (.int .i64 ((p : Int) + 1))) g T (p + 1) ∧ w.grownBy (w.setCell ⟨g, 1, none⟩ (.int .i64 ((p : Int) + 1))) (some g) := by
  refine ⟨⟨A, n, c, l, ?_, ha.setCell (Nat.le_refl _) _, hby, hn⟩, grown_setCell (grown_refl w _) (.inl rfl) _⟩
  have := heap_setCell_same w g 1 _ _ (.int .i64 ((p : Int) + 1)) hg
  rw [this]
  simp

theorem bits_xor_i64 (a b : Nat) (ha : a < 2 ^ 62) (hb : b < 2 ^ 62) : bits .xor .i64 (a : Int) (b : Int) = ((a ^^^ b : Nat) : Int) := by
  have hbits : IntKind.i64.bits = 64 := rfl
  have ha' : a % 2 ^ 64 = a := Nat.mod_eq_of_lt (by omega)
  have hb' : b % 2 ^ 64 = b := Nat.mod_eq_of_lt (by omega)
  have hx : a ^^^ b < 2 ^ 62 := Nat.xor_lt_two_pow ha hb
  simp only [bits, BitVec.ofInt_natCast, BitVec.toNat_xor, BitVec.toNat_ofNat, hbits, ha', hb']
  exact IntWalk.i64_in _ (by omega)
theorem xor_pick (z m : Nat) (hz : z ≤ 1125899906842624) (hm : 0 < m) : ∃ r : Nat, (bits .xor .i64 (z : Int) (wrap64 ((z : Int).tdiv 64))).tmod (m : Int) = (r : Int) ∧ r < m := by
  have h1 : (z : Int).tdiv 64 = ((z / 64 : Nat) : Int) := rfl
  have h2 : wrap64 ((z / 64 : Nat) : Int) = ((z / 64 : Nat) : Int) := w64 (by omega)
  rw [h1, h2, bits_xor_i64 _ _ (by omega) (by omega)]
  exact ⟨(z ^^^ (z / 64)) % m, rfl, Nat.mod_lt _ hm⟩

set_option maxHeartbeats 1000000 in
theorem pick_any (g p : Nat) (m : Int) (w : World) (h : Rd w g 62 p) (hp : p ≤ 1099511627776) (hm : m ≤ 2147483648) :
    Calls Tryd.prog 19 #[.pointer (some ⟨g, 0, none⟩), .int .i64 m] w (PickPost w g 62 p m) := by
  obtain ⟨A, n, c, l, hg, ha, hby, hn⟩ := h
  have c0 : w.cell? ⟨g, 0, none⟩ = some (.slice A n c) := by rw [cell_of_row w g 0 _ _ _ hg]; rfl
  have c1 : w.cell? ⟨g, 1, none⟩ = some (.int .i64 p) := by rw [cell_of_row w g 1 _ _ _ hg]; rfl
  have f1 : w.frozen? ⟨g, 1, none⟩ = false := frozen_of_row w g 1 _ _ hg
  have hgl := (Array.getElem?_eq_some_iff.1 hg).1
  have RS := Lib.hid (rd_set hg ha hby hn); clear hg
  have hby' := Lib.hid hby; clear hby
  by_cases h1 : m < 1
  · go_enter Tryd.func19, Tryd.ntmps19
    go_wp2
    go_ret
    exact ⟨0, rfl, .inr rfl, RS.out⟩
  · obtain ⟨m, rfl⟩ : ∃ z : Nat, m = (z : Int) := ⟨m.toNat, by omega⟩
    have h1' : 1 ≤ m := by omega
    have h1'' : 0 < m := by omega
    by_cases h2 : n = 0
    · subst h2
      go_enter Tryd.func19, Tryd.ntmps19
      go_wp2
      go_ret
      exact ⟨0, rfl, .inr rfl, RS.out⟩
    · by_cases h3 : p < n
      · obtain ⟨b, off, x, rfl, hbg, hx, hcx⟩ := ha.byte h3
        have hxr := hby'.out x (List.mem_of_getElem? hx)
        obtain ⟨x, rfl⟩ : ∃ z : Nat, x = (z : Int) := ⟨x.toNat, by omega⟩
        have hne : ¬ b = g := by omega
        go_enter Tryd.func19, Tryd.ntmps19
        go_wp2
        go_ret
        exact ⟨x % m, rfl, .inl (by have := Nat.mod_lt x h1''; omega), RS.out⟩
      · have h0 : 0 < n := by omega
        obtain ⟨q1, hq1⟩ : ∃ q, q = p % n := ⟨_, rfl⟩
        obtain ⟨q2, hq2⟩ : ∃ q, q = (p * 7 + 3) % n := ⟨_, rfl⟩
        obtain ⟨q3, hq3⟩ : ∃ q, q = p / n := ⟨_, rfl⟩
        have hm1 : q1 < n := hq1 ▸ Nat.mod_lt _ h0
        have hm2 : q2 < n := hq2 ▸ Nat.mod_lt _ h0
        have hm3 : q3 ≤ p := hq3 ▸ Nat.div_le_self _ _
        obtain ⟨b, off, x, rfl, hbg, hx, hcx⟩ := ha.byte hm1
        obtain ⟨b', off', y, e, _, hy, hcy⟩ := ha.byte hm2
        injection e with e; injection e with e1 e2; subst e1; subst e2
        have hxr := hby'.out x (List.mem_of_getElem? hx)
        have hyr := hby'.out y (List.mem_of_getElem? hy)
        obtain ⟨x, rfl⟩ : ∃ z : Nat, x = (z : Int) := ⟨x.toNat, by omega⟩
        obtain ⟨y, rfl⟩ : ∃ z : Nat, y = (z : Int) := ⟨y.toNat, by omega⟩
        have hne : ¬ b = g := by omega
        have i1 : (q1 : Int) < n := by omega
        have i2 : (q2 : Int) < n := by omega
        have Z : ∃ z : Nat, (z : Int) = (x : Int) * 131 + (y : Int) * 1117 + (p : Int) * 29 + (q3 : Int) * 53 ∧ z ≤ 1125899906842624 := ⟨x * 131 + y * 1117 + p * 29 + q3 * 53, by omega, by omega⟩
        have Bex : 0 ≤ (x : Int) ∧ (x : Int) ≤ 4611686018427387904 := by omega
        have Bey : 0 ≤ (y : Int) ∧ (y : Int) ≤ 4611686018427387904 := by omega
        have Be1 : 0 ≤ (x : Int) * 131 ∧ (x : Int) * 131 ≤ 4611686018427387904 := by omega
        have Be2 : 0 ≤ (p : Int) * 7 ∧ (p : Int) * 7 ≤ 4611686018427387904 := by omega
        have Be3 : 0 ≤ (p : Int) * 7 + 3 ∧ (p : Int) * 7 + 3 ≤ 4611686018427387904 := by omega
        have Be4 : 0 ≤ (y : Int) * 1117 ∧ (y : Int) * 1117 ≤ 4611686018427387904 := by omega
        have Be5 : 0 ≤ (x : Int) * 131 + (y : Int) * 1117 ∧ (x : Int) * 131 + (y : Int) * 1117 ≤ 4611686018427387904 := by omega
        have Be6 : 0 ≤ (p : Int) * 29 ∧ (p : Int) * 29 ≤ 4611686018427387904 := by omega
        have Be7 : 0 ≤ (x : Int) * 131 + (y : Int) * 1117 + (p : Int) * 29 ∧ (x : Int) * 131 + (y : Int) * 1117 + (p : Int) * 29 ≤ 4611686018427387904 := by omega
        have Be8 : 0 ≤ (q3 : Int) ∧ (q3 : Int) ≤ 4611686018427387904 := by omega
        have Be9 : 0 ≤ (q3 : Int) * 53 ∧ (q3 : Int) * 53 ≤ 4611686018427387904 := by omega
        obtain ⟨z, hz, hz1⟩ := Z
        have Bz : 0 ≤ (z : Int) ∧ (z : Int) ≤ 4611686018427387904 := by omega
        have Bu : 0 ≤ (z : Int) / 64 ∧ (z : Int) / 64 ≤ 4611686018427387904 := by omega
        have t1 : Int.tmod (p : Int) (n : Int) = (q1 : Int) := by rw [hq1]; rfl
        have t2 : Int.tmod ((p : Int) * 7 + 3) (n : Int) = (q2 : Int) := by rw [hq2]; rfl
        have t3 : Int.tdiv (p : Int) (n : Int) = (q3 : Int) := by rw [hq3]; rfl
        have ex : wrap64 ((x : Int)) = (x : Int) := w64 Bex
        have ey : wrap64 ((y : Int)) = (y : Int) := w64 Bey
        have e1 : wrap64 ((x : Int) * 131) = (x : Int) * 131 := w64 Be1
        have e2 : wrap64 ((p : Int) * 7) = (p : Int) * 7 := w64 Be2
        have e3 : wrap64 ((p : Int) * 7 + 3) = (p : Int) * 7 + 3 := w64 Be3
        have e4 : wrap64 ((y : Int) * 1117) = (y : Int) * 1117 := w64 Be4
        have e5 : wrap64 ((x : Int) * 131 + (y : Int) * 1117) = (x : Int) * 131 + (y : Int) * 1117 := w64 Be5
        have e6 : wrap64 ((p : Int) * 29) = (p : Int) * 29 := w64 Be6
        have e7 : wrap64 ((x : Int) * 131 + (y : Int) * 1117 + (p : Int) * 29) = (x : Int) * 131 + (y : Int) * 1117 + (p : Int) * 29 := w64 Be7
        have e8 : wrap64 ((q3 : Int)) = (q3 : Int) := w64 Be8
        have e9 : wrap64 ((q3 : Int) * 53) = (q3 : Int) * 53 := w64 Be9
        have ea : wrap64 ((x : Int) * 131 + (y : Int) * 1117 + (p : Int) * 29 + (q3 : Int) * 53) = (z : Int) := by rw [hz] at Bz; rw [hz]; exact w64 Bz
        clear Bex Bey Be1 Be2 Be3 Be4 Be5 Be6 Be7 Be8 Be9 Bu
        clear hx hy hz hq1 hq2 hq3 hxr hyr ha
        go_enter Tryd.func19, Tryd.ntmps19
        go_wp2
        go_quiet (fail)
        have HZ := Lib.hid ea
        clear ex ey t1 t2 t3 e1 e2 e3 e4 e5 e6 e7 e8 e9 ea
        go_wp2
        go_ret
        obtain ⟨r, hr, hrm⟩ := xor_pick z m hz1 h1''
        exact ⟨r, ret_int (by rw [← hr, ← HZ.out]), .inl (by omega), RS.out.1.below (below_drewN (Below.refl _ _) _) (Nat.lt_succ_self _), grown_drewN RS.out.2 _⟩

def OpenPost (w : World) (T : TypeId) (e : Ending) (w' : World) : Prop :=
  e = .returned (.pointer (some ⟨w.heap.size, 0, none⟩)) ∧ Rd w' w.heap.size T 0 ∧ Below w.heap.size w w' ∧ w.heap.size < w'.heap.size

theorem l6Open_any (A : Option Addr) (n c : Nat) (l : List Int) (w : World) (h : Arr BB 1 w w.heap.size A n l) (hby : ∀ x ∈ l, 0 ≤ x ∧ x ≤ 255) (hc : n ≤ c) :
    Calls Tryd.prog 18 #[.slice A n c] w (OpenPost w 62) := by
  have hby' := Lib.hid hby; clear hby
  by_cases h1 : 2000 < n
  · have hc2 : 2000 ≤ c := by omega
    go_enter Tryd.func18, Tryd.ntmps18
    go_wp2
    go_ret
    refine ⟨rfl, ⟨A, 2000, c, l.take 2000, heap_alloc_new w _, (h.take (by omega)).alloc (Nat.le_refl _) _, fun x hx => hby'.out x (List.mem_of_mem_take hx), Nat.le_refl _⟩, ?_, by simp⟩
    go_grown
  · go_enter Tryd.func18, Tryd.ntmps18
    go_wp2
    go_ret
    refine ⟨rfl, ⟨A, n, c, l, heap_alloc_new w _, h.alloc (Nat.le_refl _) _, hby'.out, by omega⟩, ?_, by simp⟩
    go_grown

/-- What a drawn slice is: a row of the draw's own; the reader stands further on; nothing else has turned. -/
def DrawnRow {α : Type} (f : α → List Value) (sz : Nat) (T : TypeId) (w : World) (g : Nat) (TR : TypeId) (p m : Nat) (N : Nat) (e : Ending) (w' : World) : Prop :=
  ∃ (A : Option Addr) (n c : Nat) (l : List α) (p' : Nat), e = .returned (.slice A n c) ∧ Own f sz w' w.heap.size T (.slice A n c) n l ∧ n ≤ N ∧ Rd w' g TR p' ∧ p' ≤ p + m ∧ w.grownBy w' (some g)
/-- What a draw out of a code is: a row of the call's own. -/
def DrawnTop {α : Type} (f : α → List Value) (sz : Nat) (T : TypeId) (w : World) (N : Nat) (e : Ending) (w' : World) : Prop :=
  ∃ (A : Option Addr) (n c : Nat) (l : List α), e = .returned (.slice A n c) ∧ Own f sz w' w.heap.size T (.slice A n c) n l ∧ n ≤ N ∧ Below w.heap.size w w'
def DrawnInt (w : World) (g : Nat) (TR : TypeId) (p m : Nat) (e : Ending) (w' : World) : Prop :=
  ∃ (x : Int) (p' : Nat), e = .returned (.int .i64 x) ∧ Rd w' g TR p' ∧ p' ≤ p + m ∧ w.grownBy w' (some g)
end Go.Proofs.YtefadlbfkhndfaaDoor
