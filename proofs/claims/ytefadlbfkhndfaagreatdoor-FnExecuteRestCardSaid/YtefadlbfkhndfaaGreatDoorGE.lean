/-
  What the texts below prove: contracts and plain laws, each with its conditions.
-/
import Derived.Test.YtefadlbfkhndfaaGreatDoorGA
import Derived.Deep.RegionWith

/-
  The reader of a code: 'pick', 'l6Open'.
-/
namespace Go.Proofs.YtefadlbfkhndfaaGreatDoor
open Go.RowKit
set_option linter.unusedSimpArgs false
set_option linter.unusedVariables false

def PickPost (w : World) (g : Nat) (T : TypeId) (p : Nat) (m : Int) (e : Ending) (w' : World) : Prop :=
  ∃ r : Nat, e = .returned (.int .i64 r) ∧ ((r : Int) < m ∨ r = 0) ∧ Rd w' g T (p + 1) ∧ w.grownBy w' (some g)

theorem rd_set {w : World} {g : Nat} {T : TypeId} {A : Option Addr} {n c p : Nat} {l : List Int} (hg : w.heap[g]? = some (.cells #[.slice A n c, .int .i64 p] T (0, 0))) (ha : Arr BB 1 w g A n l)
    (hby : ∀ x ∈ l, 0 ≤ x ∧ x ≤ 255) (hn : n ≤ 2000) : Rd (w.setCell ⟨g, 1, none⟩ (.int .i64 ((p : Int) + 1))) g T (p + 1) ∧ w.grownBy (w.setCell ⟨g, 1, none⟩ (.int .i64 ((p : Int) + 1))) (some g) := by
  refine ⟨⟨A, n, c, l, ?_, ha.setCell (Nat.le_refl _) _, hby, hn⟩, grown_setCell (grown_refl w _) (.inl rfl) _⟩
  have := heap_setCell_same w g 1 _ _ (.int .i64 ((p : Int) + 1)) hg
  rw [this]
  simp

theorem bits_xor_i64 (a b : Nat) (ha : a < 2 ^ 62) (hb : b < 2 ^ 62) : bits .xor .i64 (a : Int) (b : Int) = ((a ^^^ b : Nat) : Int) := by
  have hbits : IntKind.i64.bits = 64 := rfl
  have ha' : a % 2 ^ 64 = a := Nat.mod_eq_of_lt (by omega)
  have hb' : b % 2 ^ 64 = b := Nat.mod_eq_of_lt (by omega)
  have hx : a ^^^ b < 2 ^ 62 := Nat.xor_lt_two_pow ha hb
  simp only [bits, BitVec.ofInt_natCast, BitVec.toNat_xor, BitVec.toNat_ofNat, hbits, ha', hb']
  exact IntWalk.i64_in _ (by omega)
theorem xor_pick (z m : Nat) (hz : z ≤ 1125899906842624) (hm : 0 < m) : ∃ r : Nat, (bits .xor .i64 (z : Int) (wrap64 ((z : Int).tdiv 64))).tmod (m : Int) = (r : Int) ∧ r < m := by
  have h1 : (z : Int).tdiv 64 = ((z / 64 : Nat) : Int) := rfl
  have h2 : wrap64 ((z / 64 : Nat) : Int) = ((z / 64 : Nat) : Int) := w64 (by omega)
  rw [h1, h2, bits_xor_i64 _ _ (by omega) (by omega)]
  exact ⟨(z ^^^ (z / 64)) % m, rfl, Nat.mod_lt _ hm⟩

set_option maxHeartbeats 1000000 in
theorem pick_any (g p : Nat) (m : Int) (w : World) (h : Rd w g 104 p) (hp : p ≤ 1099511627776) (hm : m ≤ 2147483648) :
    Calls Tryz.prog 52 #[.pointer (some ⟨g, 0, none⟩), .int .i64 m] w (PickPost w g 104 p m) := by
  obtain ⟨A, n, c, l, hg, ha, hby, hn⟩ := h
  have c0 : w.cell? ⟨g, 0, none⟩ = some (.slice A n c) := by rw [cell_of_row w g 0 _ _ _ hg]; rfl
  have c1 : w.cell? ⟨g, 1, none⟩ = some (.int .i64 p) := by rw [cell_of_row w g 1 _ _ _ hg]; rfl
  have f1 : w.frozen? ⟨g, 1, none⟩ = false := frozen_of_row w g 1 _ _ hg
  have hgl := (Array.getElem?_eq_some_iff.1 hg).1
  have RS := Lib.hid (rd_set hg ha hby hn); clear hg
  have hby' := Lib.hid hby; clear hby
  by_cases h1 : m < 1
  · go_enter Tryz.func52, Tryz.ntmps52
    go_wp2
    go_ret
    exact ⟨0, rfl, .inr rfl, RS.out⟩
  · obtain ⟨m, rfl⟩ : ∃ z : Nat, m = (z : Int) := ⟨m.toNat, by omega⟩
    have h1' : 1 ≤ m := by omega
    have h1'' : 0 < m := by omega
    by_cases h2 : n = 0
    · subst h2
      go_enter Tryz.func52, Tryz.ntmps52
      go_wp2
      go_ret
      exact ⟨0, rfl, .inr rfl, RS.out⟩
    · by_cases h3 : p < n
      · obtain ⟨b, off, x, rfl, hbg, hx, hcx⟩ := ha.byte h3
        have hxr := hby'.out x (List.mem_of_getElem? hx)
        obtain ⟨x, rfl⟩ : ∃ z : Nat, x = (z : Int) := ⟨x.toNat, by omega⟩
        have hne : ¬ b = g := by omega
        go_enter Tryz.func52, Tryz.ntmps52
        go_wp2
        go_ret
        exact ⟨x % m, rfl, .inl (by have := Nat.mod_lt x h1''; omega), RS.out⟩
      · have h0 : 0 < n := by omega
        obtain ⟨q1, hq1⟩ : ∃ q, q = p % n := ⟨_, rfl⟩
        obtain ⟨q2, hq2⟩ : ∃ q, q = (p * 7 + 3) % n := ⟨_, rfl⟩
        obtain ⟨q3, hq3⟩ : ∃ q, q = p / n := ⟨_, rfl⟩
        have hm1 : q1 < n := hq1 ▸ Nat.mod_lt _ h0
        have hm2 : q2 < n := hq2 ▸ Nat.mod_lt _ h0
        have hm3 : q3 ≤ p := hq3 ▸ Nat.div_le_self _ _
        obtain ⟨b, off, x, rfl, hbg, hx, hcx⟩ := ha.byte hm1
        obtain ⟨b', off', y, e, _, hy, hcy⟩ := ha.byte hm2
        injection e with e; injection e with e1 e2; subst e1; subst e2
        have hxr := hby'.out x (List.mem_of_getElem? hx)
        have hyr := hby'.out y (List.mem_of_getElem? hy)
        obtain ⟨x, rfl⟩ : ∃ z : Nat, x = (z : Int) := ⟨x.toNat, by omega⟩
        obtain ⟨y, rfl⟩ : ∃ z : Nat, y = (z : Int) := ⟨y.toNat, by omega⟩
        have hne : ¬ b = g := by omega
        have i1 : (q1 : Int) < n := by omega
        have i2 : (q2 : Int) < n := by omega
        have Z : ∃ z : Nat, (z : Int) = (x : Int) * 131 + (y : Int) * 1117 + (p : Int) * 29 + (q3 : Int) * 53 ∧ z ≤ 1125899906842624 := ⟨x * 131 + y * 1117 + p * 29 + q3 * 53, by omega, by omega⟩
        have Bex : 0 ≤ (x : Int) ∧ (x : Int) ≤ 4611686018427387904 := by omega
        have Bey : 0 ≤ (y : Int) ∧ (y : Int) ≤ 4611686018427387904 := by omega
        have Be1 : 0 ≤ (x : Int) * 131 ∧ (x : Int) * 131 ≤ 4611686018427387904 := by omega
        have Be2 : 0 ≤ (p : Int) * 7 ∧ (p : Int) * 7 ≤ 4611686018427387904 := by omega
        have Be3 : 0 ≤ (p : Int) * 7 + 3 ∧ (p : Int) * 7 + 3 ≤ 4611686018427387904 := by omega
        have Be4 : 0 ≤ (y : Int) * 1117 ∧ (y : Int) * 1117 ≤ 4611686018427387904 := by omega
        have Be5 : 0 ≤ (x : Int) * 131 + (y : Int) * 1117 ∧ (x : Int) * 131 + (y : Int) * 1117 ≤ 4611686018427387904 := by omega
        have Be6 : 0 ≤ (p : Int) * 29 ∧ (p : Int) * 29 ≤ 4611686018427387904 := by omega
        have Be7 : 0 ≤ (x : Int) * 131 + (y : Int) * 1117 + (p : Int) * 29 ∧ (x : Int) * 131 + (y : Int) * 1117 + (p : Int) * 29 ≤ 4611686018427387904 := by omega
        have Be8 : 0 ≤ (q3 : Int) ∧ (q3 : Int) ≤ 4611686018427387904 := by omega
        have Be9 : 0 ≤ (q3 : Int) * 53 ∧ (q3 : Int) * 53 ≤ 4611686018427387904 := by omega
        obtain ⟨z, hz, hz1⟩ := Z
        have Bz : 0 ≤ (z : Int) ∧ (z : Int) ≤ 4611686018427387904 := by omega
        have Bu : 0 ≤ (z : Int) / 64 ∧ (z : Int) / 64 ≤ 4611686018427387904 := by omega
        have t1 : Int.tmod (p : Int) (n : Int) = (q1 : Int) := by rw [hq1]; rfl
        have t2 : Int.tmod ((p : Int) * 7 + 3) (n : Int) = (q2 : Int) := by rw [hq2]; rfl
        have t3 : Int.tdiv (p : Int) (n : Int) = (q3 : Int) := by rw [hq3]; rfl
        have ex : wrap64 ((x : Int)) = (x : Int) := w64 Bex
        have ey : wrap64 ((y : Int)) = (y : Int) := w64 Bey
        have e1 : wrap64 ((x : Int) * 131) = (x : Int) * 131 := w64 Be1
        have e2 : wrap64 ((p : Int) * 7) = (p : Int) * 7 := w64 Be2
        have e3 : wrap64 ((p : Int) * 7 + 3) = (p : Int) * 7 + 3 := w64 Be3
        have e4 : wrap64 ((y : Int) * 1117) = (y : Int) * 1117 := w64 Be4
        have e5 : wrap64 ((x : Int) * 131 + (y : Int) * 1117) = (x : Int) * 131 + (y : Int) * 1117 := w64 Be5
        have e6 : wrap64 ((p : Int) * 29) = (p : Int) * 29 := w64 Be6
        have e7 : wrap64 ((x : Int) * 131 + (y : Int) * 1117 + (p : Int) * 29) = (x : Int) * 131 + (y : Int) * 1117 + (p : Int) * 29 := w64 Be7
        have e8 : wrap64 ((q3 : Int)) = (q3 : Int) := w64 Be8
        have e9 : wrap64 ((q3 : Int) * 53) = (q3 : Int) * 53 := w64 Be9
        have ea : wrap64 ((x : Int) * 131 + (y : Int) * 1117 + (p : Int) * 29 + (q3 : Int) * 53) = (z : Int) := by rw [hz] at Bz; rw [hz]; exact w64 Bz
        clear Bex Bey Be1 Be2 Be3 Be4 Be5 Be6 Be7 Be8 Be9 Bu
        clear hx hy hz hq1 hq2 hq3 hxr hyr ha
        go_enter Tryz.func52, Tryz.ntmps52
        go_wp2
        go_quiet (fail)
        have HZ := Lib.hid ea
        clear ex ey t1 t2 t3 e1 e2 e3 e4 e5 e6 e7 e8 e9 ea
        go_wp2
        go_ret
        obtain ⟨r, hr, hrm⟩ := xor_pick z m hz1 h1''
        exact ⟨r, ret_int (by rw [← hr, ← HZ.out]), .inl (by omega), RS.out.1.below (below_drewN (Below.refl _ _) _) (Nat.lt_succ_self _), grown_drewN RS.out.2 _⟩

def OpenPost (w : World) (T : TypeId) (e : Ending) (w' : World) : Prop :=
  e = .returned (.pointer (some ⟨w.heap.size, 0, none⟩)) ∧ Rd w' w.heap.size T 0 ∧ Below w.heap.size w w' ∧ w.heap.size < w'.heap.size

theorem l6Open_any (A : Option Addr) (n c : Nat) (l : List Int) (w : World) (h : Arr BB 1 w w.heap.size A n l) (hby : ∀ x ∈ l, 0 ≤ x ∧ x ≤ 255) (hc : n ≤ c) :
    Calls Tryz.prog 49 #[.slice A n c] w (OpenPost w 104) := by
  have hby' := Lib.hid hby; clear hby
  by_cases h1 : 2000 < n
  · have hc2 : 2000 ≤ c := by omega
    go_enter Tryz.func49, Tryz.ntmps49
    go_wp2
    go_ret
    refine ⟨rfl, ⟨A, 2000, c, l.take 2000, heap_alloc_new w _, (h.take (by omega)).alloc (Nat.le_refl _) _, fun x hx => hby'.out x (List.mem_of_mem_take hx), Nat.le_refl _⟩, ?_, by simp⟩
    go_grown
  · go_enter Tryz.func49, Tryz.ntmps49
    go_wp2
    go_ret
    refine ⟨rfl, ⟨A, n, c, l, heap_alloc_new w _, h.alloc (Nat.le_refl _) _, hby'.out, by omega⟩, ?_, by simp⟩
    go_grown

/-- What a drawn slice is: a row of the draw's own; the reader stands further on; nothing else has turned. -/
def DrawnRow {α : Type} (f : α → List Value) (sz : Nat) (T : TypeId) (w : World) (g : Nat) (TR : TypeId) (p m : Nat) (N : Nat) (e : Ending) (w' : World) : Prop :=
  ∃ (A : Option Addr) (n c : Nat) (l : List α) (p' : Nat), e = .returned (.slice A n c) ∧ Own f sz w' w.heap.size T (.slice A n c) n l ∧ n ≤ N ∧ Rd w' g TR p' ∧ p' ≤ p + m ∧ w.grownBy w' (some g)
/-- What a draw out of a code is: a row of the call's own. -/
def DrawnTop {α : Type} (f : α → List Value) (sz : Nat) (T : TypeId) (w : World) (N : Nat) (e : Ending) (w' : World) : Prop :=
  ∃ (A : Option Addr) (n c : Nat) (l : List α), e = .returned (.slice A n c) ∧ Own f sz w' w.heap.size T (.slice A n c) n l ∧ n ≤ N ∧ Below w.heap.size w w'
def DrawnInt (w : World) (g : Nat) (TR : TypeId) (p m : Nat) (e : Ending) (w' : World) : Prop :=
  ∃ (x : Int) (p' : Nat), e = .returned (.int .i64 x) ∧ Rd w' g TR p' ∧ p' ≤ p + m ∧ w.grownBy w' (some g)
end Go.Proofs.YtefadlbfkhndfaaGreatDoor

/-
  Drawn cores and kerfs.
-/
namespace Go.Proofs.YtefadlbfkhndfaaGreatDoor
open Go.RowKit
set_option linter.unusedSimpArgs false
set_option linter.unusedVariables false

set_option maxHeartbeats 2000000 in
theorem l91Core_any (g p : Nat) (w : World) (h : Rd w g 104 p) (hp : p ≤ 1000000) :
    Calls Tryz.prog 50 #[.pointer (some ⟨g, 0, none⟩)] w (DrawnRow PP 2 69 w g 104 p 1000 10) := by
  obtain ⟨i0, hi, hz0, hz1, hz2⟩ := info_parts infoPiece
  have hg := h.lt
  go_enter Tryz.func50, Tryz.ntmps50
  go_wp2_with fail
  have h1 := h.alloc (.cells #[] 69)
  refine (pick_any g p 5 _ h1 (by omega) (by omega)).mono ?_
  rintro e w1 ⟨d0, rfl, hd0, hr1, hg1⟩
  have hO : Own PP 2 w1 w.heap.size 69 (.slice (some ⟨w.heap.size, 0, none⟩) 0 0) 0 [] := (Own.made PP 2 w w.heap.size _ (Nat.le_refl _)).kept hg1 (by intro k hk; simp at hk; omega)
  have G1 : w.grownBy w1 (some g) := grown_trans' (World.grownBy_alloc w _ _) hg1
  have hd05 : d0 < 5 := by omega
  clear h1 hg1 hd0
  go_wp2_with fail
  refine (pick_any g (p + 1) 6 _ hr1 (by omega) (by omega)).mono ?_
  rintro e w2 ⟨n, rfl, hn, hr2, hg2⟩
  have hO2 := hO.kept hg2 (by intro k hk; simp at hk; omega)
  have G2 := grown_trans' G1 hg2
  have hn6 : n < 6 := by omega
  clear hO hr1 hg2 G1 hn
  go_wp2_with fail
  go_loopw [3, 4, 6] (fun v d i wr => ∃ (k q : Nat) (D : Int) (l : List (Int × Int)), k ≤ n ∧ i = .int .i64 k ∧ d = .int .i64 D ∧ 0 ≤ D ∧ D ≤ 50 + 100 * k ∧ Own PP 2 wr w.heap.size 69 v k l ∧ Rd wr g 104 q ∧ q ≤ p + 2 + 2 * k ∧ w.grownBy wr (some g)) (fun _ _ i _ => n - (intOf i).toNat)
  case atStart => exact ⟨0, p + 1 + 1, (d0 : Int) * 10, [], Nat.zero_le _, rfl, rfl, by omega, by omega, hO2, hr2, by omega, G2⟩
  case round =>
    obtain ⟨k, q, D, l, hk, rfl, rfl, hD0, hD1, hw, hr, hq, G⟩ := hrel
    by_cases hlt : k < n
    · obtain ⟨A0, c0, rfl, _, _⟩ := hw.form
      go_wp2_with fail
      refine (pick_any g q 60 _ hr (by omega) (by omega)).mono ?_
      rintro e w3 ⟨y, rfl, hy, hr3, hg3⟩
      have hw3 := hw.kept hg3 (by intro k hk; simp at hk; omega)
      have G3 := grown_trans' G hg3
      have hy60 : y < 60 := by omega
      clear hw hg3 hr G hy
      go_wp2_with (at_builtin; (refine wpList_append_own _ rfl _ _ 37 rfl w.heap.size 69 i0 (.agg #[.int .i64 0, .int .i64 0]) 2 16 Tryz.underlying37 hi hz0 hz1 hz2 rfl (by decide) _ _ _ rfl ((hw3.2.alloc _).alloc _) ⟨w3.heap.size + 1, 0, none⟩ 1 1 [.int .i64 D, .int .i64 (D + 1 + (y : Int))] rfl rfl ?c1 ?c2 ?c3 ?c4 ?c5 ?_))
      case c1 =>
        have := cell_new2 (w3.alloc (.cells #[.int .i64 D, .int .i64 (D + 1 + (y : Int))] 69)) (.int .i64 D) (.int .i64 (D + 1 + (y : Int))) 69
        simpa using this
      case c2 => exact one_PP _ _
      case c3 => unfold maxLen; omega
      case c4 => omega
      case c5 => have := G3.size; simp; omega
      intro v' w4 hown' hg4 _
      have hw4 : Own PP 2 w4 w.heap.size 69 v' (k + 1) (l ++ [(D, D + 1 + (y : Int))]) := Own.snoc hw3.1 hown'
      have hr4 := ((hr3.alloc (.cells #[.int .i64 D, .int .i64 (D + 1 + (y : Int))] 69)).alloc (.cells #[.int .i64 D, .int .i64 (D + 1 + (y : Int))] 69)).grown hg4 (fun j hj => by have := (hw3.2.lt j hj).1; omega)
      have G4 := grown_step (grown_alloc (grown_alloc G3 (.cells #[.int .i64 D, .int .i64 (D + 1 + (y : Int))] 69)) (.cells #[.int .i64 D, .int .i64 (D + 1 + (y : Int))] 69)) hg4 (fun j hj => .inr (hw3.2.lt j hj).1)
      have hcb : w4.cell? ⟨w3.heap.size, 1, none⟩ = some (.int .i64 (D + 1 + (y : Int))) := by
        refine hg4.cell (v := .int .i64 (D + 1 + (y : Int))) ?_ (fun e => by have := (hw3.2.lt _ e.symm).2; simp at this)
        rw [World.cell?_alloc_lt _ _ ⟨w3.heap.size, 1, none⟩ (by simp)]
        exact (cell_of_row _ _ 1 _ _ _ (heap_alloc_new w3 _)).trans rfl
      have hgb := hr3.lt
      obtain ⟨A4, c4, rfl, _, _⟩ := hw4.form
      generalize w3.heap.size = b7 at hcb hgb ⊢
      clear hw3 hown' hg4 hr3 G3
      have hgb' : ¬ b7 = g := by omega
      have HW4 := Lib.hid hw4
      have HR4 := Lib.hid hr4
      have HG4 := Lib.hid G4
      clear hw4 hr4 G4
      go_wp2_with fail
      go_region_with (go_at_call 52; refine (pick_any g (q + 1) 30 _ (HR4.out.below (Below.refl _ _).drew (Nat.lt_succ_self _)) (by omega) (by omega)).mono ?_; rintro e w5 ⟨z, rfl, hz, hr5, hg5⟩; have hcb5 := hg5.cell (a := ⟨b7, 1, none⟩) hcb (by intro e; injection e with e; exact hgb' e))
      all_goals
        go_wp2
        go_roundw
        case rel => exact ⟨k + 1, q + 1 + 1, _, _, by omega, by go_num, rfl, by split <;> omega, by split <;> omega, (HW4.out.drew).kept hg5 (by intro j hj; injection hj with hj; omega), hr5, by omega, grown_trans' (grown_drew HG4.out) hg5⟩
        case measure => simp [intOf]; omega
    · obtain rfl : k = n := by omega
      clear hlt
      obtain ⟨A, c, rfl, _, _⟩ := hw.form
      by_cases h0 : k = 0
      · subst h0
        go_wp2
        go_ret
        exact ⟨A, 0, c, l, q, rfl, hw, by omega, hr, by omega, G⟩
      · obtain ⟨G0, c0, e0, hG0, hG1, hkc⟩ := hw.head (by omega)
        injection e0 with e0 _ e2
        subst e0; subst e2
        have hk0 : 0 < k := by omega
        go_wp2_with fail
        refine (pick_any g q 40 _ hr (by omega) (by omega)).mono ?_
        rintro e w3 ⟨x, rfl, hx, hr3, hg3⟩
        have hw3 := hw.kept hg3 (by intro k hk; simp at hk; omega)
        have G3 := grown_trans' G hg3
        clear hw hr G hg3
        by_cases hx0 : x = 0
        · subst hx0
          obtain ⟨j, rfl⟩ : ∃ j, k = j + 1 := ⟨k - 1, by omega⟩
          have hjl : j < l.length := by rw [hw3.1]; omega
          obtain ⟨a, b, hab⟩ : ∃ a b, l[j]? = some (a, b) := ⟨l[j].1, l[j].2, List.getElem?_eq_getElem hjl⟩
          obtain ⟨f0, f1⟩ := hw3.pairAt hab
          have z1 := hw3.2.frozenAt (j * 2 + 1)
          have HS := Lib.hid (hw3.set1 hab a)
          have HR := Lib.hid (hr3.grown (grown_setCell (p := ⟨G0, j * 2 + 1, none⟩) (grown_refl _ (some G0)) (.inl rfl) (.int .i64 a)) (by intro k hk; simp at hk; omega))
          have HG := Lib.hid (grown_setCell (p := ⟨G0, j * 2 + 1, none⟩) G3 (.inr hG0) (.int .i64 a))
          clear hw3 hr3 G3 hab hjl
          go_wp2
          go_ret
          exact ⟨_, _, _, _, _, rfl, HS.out, by omega, HR.out, by omega, HG.out⟩
        · by_cases hx1 : x = 1
          · subst hx1
            have d0 : ((1 : Int) == 0) = false := rfl
            obtain ⟨j, rfl⟩ : ∃ j, k = j + 1 := ⟨k - 1, by omega⟩
            have hjl : j < l.length := by rw [hw3.1]; omega
            obtain ⟨a, b, hab⟩ : ∃ a b, l[j]? = some (a, b) := ⟨l[j].1, l[j].2, List.getElem?_eq_getElem hjl⟩
            obtain ⟨f0, f1⟩ := hw3.pairAt hab
            have z1 := hw3.2.frozenAt (j * 2 + 1)
            have HS := Lib.hid (hw3.set1 hab 30001)
            have HR := Lib.hid (hr3.grown (grown_setCell (p := ⟨G0, j * 2 + 1, none⟩) (grown_refl _ (some G0)) (.inl rfl) (.int .i64 30001)) (by intro k hk; simp at hk; omega))
            have HG := Lib.hid (grown_setCell (p := ⟨G0, j * 2 + 1, none⟩) G3 (.inr hG0) (.int .i64 30001))
            clear hw3 hr3 G3 hab hjl
            go_wp2
            go_ret
            exact ⟨_, _, _, _, _, rfl, HS.out, by omega, HR.out, by omega, HG.out⟩
          · by_cases hx2 : x = 2
            · subst hx2
              have d0 : ((2 : Int) == 0) = false := rfl
              have d1 : ((2 : Int) == 1) = false := rfl
              obtain ⟨a, b, hab, f0, f1, _, _⟩ := hw3.first hk0
              have hab' := Lib.hid hab
              have hk0' : (0 : Int) < (k : Int) := by omega
              clear hab
              go_wp2_with (at_builtin; (refine wpList_append_own _ rfl _ _ 37 rfl w.heap.size 69 i0 (.agg #[.int .i64 0, .int .i64 0]) 2 16 Tryz.underlying37 hi hz0 hz1 hz2 rfl (by decide) _ _ _ rfl (hw3.2.alloc _) ⟨w3.heap.size, 0, none⟩ 1 1 [.int .i64 a, .int .i64 b] rfl rfl ?d1 ?d2 ?d3 ?d4 ?d5 ?_))
              case d1 => exact cell_new2 _ _ _ _
              case d2 => exact one_PP _ _
              case d3 => unfold maxLen; omega
              case d4 => omega
              case d5 => have := G3.size; simp; omega
              intro v' w4 hown' hg4 _
              have hw4 : Own PP 2 w4 w.heap.size 69 v' (k + 1) (l ++ [(a, b)]) := Own.snoc hw3.1 hown'
              have hr4 := (hr3.alloc (.cells #[.int .i64 a, .int .i64 b] 69)).grown hg4 (fun j hj => by have := (hw3.2.lt j hj).1; omega)
              have G4 := grown_step (grown_alloc G3 (.cells #[.int .i64 a, .int .i64 b] 69)) hg4 (fun j hj => .inr (hw3.2.lt j hj).1)
              obtain ⟨A4, c4, rfl, _, _⟩ := hw4.form
              clear hw3 hown' hg4 hr3 G3
              go_wp2
              go_ret
              exact ⟨_, _, _, _, _, rfl, hw4, by omega, hr4, by omega, G4⟩
            · have d0 : ((x : Int) == 0) = false := by simp; omega
              have d1 : ((x : Int) == 1) = false := by simp; omega
              have d2 : ((x : Int) == 2) = false := by simp; omega
              go_wp2
              go_ret
              exact ⟨_, _, _, l, _, rfl, hw3, by omega, hr3, by omega, G3⟩

theorem two_cells (w : World) (T : TypeId) (a b : Int) {y : Nat} (hy : (y : Int) < 2 ∨ y = 0) : ∃ v : Int, (w.alloc (.cells #[.int .i64 a, .int .i64 b] T)).cell? ⟨w.heap.size, y, none⟩ = some (.int .i64 v) := by
  rcases (show y = 0 ∨ y = 1 by omega) with rfl | rfl
  · exact ⟨a, (cell_of_row _ _ 0 _ _ _ (heap_alloc_new w _)).trans rfl⟩
  · exact ⟨b, (cell_of_row _ _ 1 _ _ _ (heap_alloc_new w _)).trans rfl⟩
theorem two_cells' {w w1 : World} {T : TypeId} {a b : Int} {g y : Nat} (hg : (w.alloc (.cells #[.int .i64 a, .int .i64 b] T)).grownBy w1 (some g)) (hlt : g < w.heap.size) (hy : (y : Int) < 2 ∨ y = 0) :
    ∃ v : Int, w1.cell? ⟨w.heap.size, y, none⟩ = some (.int .i64 v) := by
  obtain ⟨v, hv⟩ := two_cells w T a b hy
  exact ⟨v, hg.cell hv (by simp; omega)⟩

theorem undrew {w w1 : World} {row : Option Nat} (h : w.drew.grownBy w1 row) : w.grownBy w1 row := ⟨h.os, h.tape, h.output, h.size, h.block⟩
end Go.Proofs.YtefadlbfkhndfaaGreatDoor

/-
  Drawn layers; DrawLayersText.
-/
namespace Go.Proofs.YtefadlbfkhndfaaGreatDoor
open Go.RowKit
set_option linter.unusedSimpArgs false
set_option linter.unusedVariables false

theorem set_flatMap_LL0 : ∀ (L : List (Int × Bool)) (k : Nat) (x : Int) (o : Int × Bool), L[k]? = some o → (L.flatMap LL).set (k * 2) (.int .i64 x) = (L.set k (x, o.2)).flatMap LL := by
  intro L
  induction L with
  | nil => intro k x y h; simp at h
  | cons o L ih =>
    intro k x y h
    cases k with
    | zero => simp at h; subst h; simp [LL]
    | succ k =>
      rw [show (k + 1) * 2 = k * 2 + 2 by omega]
      simp only [List.flatMap_cons, LL, List.cons_append, List.nil_append, List.set_cons_succ, List.set_cons_succ]
      rw [ih k x y (by simpa using h)]
theorem Own.setLay0 {w : World} {base g n c k : Nat} {T : TypeId} {L : List (Int × Bool)} {o : Int × Bool} (h : Own LL 2 w base T (.slice (some ⟨g, 0, none⟩) n c) n L) (hk : L[k]? = some o) (x : Int) :
    Own LL 2 (w.setCell ⟨g, k * 2, none⟩ (.int .i64 x)) base T (.slice (some ⟨g, 0, none⟩) n c) n (L.set k (x, o.2)) := by
  have h1 := (h.2.stored (k * 2) (.int .i64 x)).1
  rw [set_flatMap_LL0 L k x o hk] at h1
  exact ⟨by rw [List.length_set]; exact h.1, h1⟩

set_option maxHeartbeats 2000000 in
theorem l92Layers_any (g p : Nat) (w : World) (h : Rd w g 104 p) (hp : p ≤ 1000000) :
    Calls Tryz.prog 51 #[.pointer (some ⟨g, 0, none⟩)] w (DrawnRow LL 2 73 w g 104 p 1000 9) := by
  obtain ⟨i0, hi, hz0, hz1, hz2⟩ := info_parts infoLayer
  have hg := h.lt
  go_enter Tryz.func51, Tryz.ntmps51
  go_wp2_with fail
  have h1 := h.alloc (.cells #[] 73)
  refine (pick_any g p 12 _ h1 (by omega) (by omega)).mono ?_
  rintro e w1 ⟨d0, rfl, hd0, hr1, hg1⟩
  have hO : Own LL 2 w1 w.heap.size 73 (.slice (some ⟨w.heap.size, 0, none⟩) 0 0) 0 [] := (Own.made LL 2 w w.heap.size _ (Nat.le_refl _)).kept hg1 (by intro k hk; simp at hk; omega)
  have G1 : w.grownBy w1 (some g) := grown_trans' (World.grownBy_alloc w _ _) hg1
  have hd05 : d0 < 12 := by omega
  clear h1 hg1 hd0
  go_wp2_with fail
  refine (pick_any g (p + 1) 9 _ hr1 (by omega) (by omega)).mono ?_
  rintro e w2 ⟨n, rfl, hn, hr2, hg2⟩
  have hO2 := hO.kept hg2 (by intro k hk; simp at hk; omega)
  have G2 := grown_trans' G1 hg2
  have hn6 : n < 9 := by omega
  clear hO hr1 hg2 G1 hn
  go_wp2_with fail
  go_loopw [3, 4, 6] (fun v d i wr => ∃ (k q : Nat) (D : Int) (l : List (Int × Bool)), k ≤ n ∧ i = .int .i64 k ∧ d = .int .i64 D ∧ 0 ≤ D ∧ D ≤ 12 + 21 * k ∧ Own LL 2 wr w.heap.size 73 v k l ∧ Rd wr g 104 q ∧ q ≤ p + 2 + 2 * k ∧ w.grownBy wr (some g)) (fun _ _ i _ => n - (intOf i).toNat)
  case atStart => exact ⟨0, p + 1 + 1, (d0 : Int), [], Nat.zero_le _, rfl, rfl, by omega, by omega, hO2, hr2, by omega, G2⟩
  case round =>
    obtain ⟨k, q, D, l, hk, rfl, rfl, hD0, hD1, hw, hr, hq, G⟩ := hrel
    by_cases hlt : k < n
    · obtain ⟨A0, c0, rfl, _, _⟩ := hw.form
      go_wp2_with fail
      refine (pick_any g q 3 _ hr (by omega) (by omega)).mono ?_
      rintro e w3 ⟨y, rfl, hy, hr3, hg3⟩
      have hw3 := hw.kept hg3 (by intro k hk; simp at hk; omega)
      have G3 := grown_trans' G hg3
      obtain ⟨s, hs⟩ : ∃ s, decide (0 < (y : Int)) = s := ⟨_, rfl⟩
      have hs' : decide (0 < y) = s := by rw [← hs]; simp
      clear hw hg3 hr G hy
      go_wp2_with (at_builtin; (refine wpList_append_own _ rfl _ _ 27 rfl w.heap.size 73 i0 (.agg #[.int .i64 0, .bool false]) 2 16 Tryz.underlying27 hi hz0 hz1 hz2 rfl (by decide) _ _ _ rfl (hw3.2.alloc _) ⟨w3.heap.size, 0, none⟩ 1 1 [.int .i64 D, .bool s] rfl rfl ?c1 ?c2 ?c3 ?c4 ?c5 ?_))
      case c1 => exact cell_new2 _ _ _ _
      case c2 => exact one_LL _ _
      case c3 => unfold maxLen; omega
      case c4 => omega
      case c5 => have := G3.size; simp; omega
      intro v' w4 hown' hg4 _
      have hw4 : Own LL 2 w4 w.heap.size 73 v' (k + 1) (l ++ [(D, s)]) := Own.snoc hw3.1 hown'
      have hr4 := (hr3.alloc (.cells #[.int .i64 D, .bool s] 73)).grown hg4 (fun j hj => by have := (hw3.2.lt j hj).1; omega)
      have G4 := grown_step (grown_alloc G3 (.cells #[.int .i64 D, .bool s] 73)) hg4 (fun j hj => .inr (hw3.2.lt j hj).1)
      obtain ⟨A4, c4, rfl, _, _⟩ := hw4.form
      clear hw3 hown' hg4 hr3 G3 hs hs'
      go_wp2_with fail
      refine (pick_any g (q + 1) 20 _ hr4 (by omega) (by omega)).mono ?_
      rintro e w5 ⟨z, rfl, hz, hr5, hg5⟩
      have hw5 := hw4.kept hg5 (by intro j hj; injection hj with hj; omega)
      have G5 := grown_trans' G4 hg5
      have hz20 : z < 20 := by omega
      clear hw4 hr4 G4 hg5 hz
      go_wp2
      go_roundw
      case rel => exact ⟨k + 1, q + 1 + 1, _, _, by omega, by go_num, rfl, by omega, by omega, hw5, hr5, by omega, G5⟩
      case measure => simp [intOf]; omega
    · obtain rfl : k = n := by omega
      clear hlt
      obtain ⟨A, c, rfl, _, _⟩ := hw.form
      by_cases h0 : k = 0
      · subst h0
        go_wp2
        go_ret
        exact ⟨A, 0, c, l, q, rfl, hw, by omega, hr, by omega, G⟩
      · obtain ⟨G0, c0, e0, hG0, hG1, hkc⟩ := hw.head (by omega)
        injection e0 with e0 _ e2
        subst e0; subst e2
        have hk0 : 0 < k := by omega
        go_wp2_with fail
        refine (pick_any g q 40 _ hr (by omega) (by omega)).mono ?_
        rintro e w3 ⟨x, rfl, hx, hr3, hg3⟩
        have hw3 := hw.kept hg3 (by intro k hk; simp at hk; omega)
        have G3 := grown_trans' G hg3
        clear hw hr G hg3
        by_cases hx0 : x = 0
        · subst hx0
          obtain ⟨j, rfl⟩ : ∃ j, k = j + 1 := ⟨k - 1, by omega⟩
          have hjl : j < l.length := by rw [hw3.1]; omega
          obtain ⟨a, b, hab⟩ : ∃ a b, l[j]? = some (a, b) := ⟨l[j].1, l[j].2, List.getElem?_eq_getElem hjl⟩
          obtain ⟨f0, f1⟩ := hw3.layAt hab
          clear hab hjl
          go_wp2_with (at_builtin; (refine wpList_append_own _ rfl _ _ 27 rfl w.heap.size 73 i0 (.agg #[.int .i64 0, .bool false]) 2 16 Tryz.underlying27 hi hz0 hz1 hz2 rfl (by decide) _ _ _ rfl (hw3.2.alloc _) ⟨w3.heap.size, 0, none⟩ 1 1 [.int .i64 a, .bool b] rfl rfl ?d1 ?d2 ?d3 ?d4 ?d5 ?_))
          case d1 => exact cell_new2 _ _ _ _
          case d2 => exact one_LL _ _
          case d3 => unfold maxLen; omega
          case d4 => omega
          case d5 => have := G3.size; simp; omega
          intro v' w4 hown' hg4 _
          have hw4 : Own LL 2 w4 w.heap.size 73 v' (j + 1 + 1) (l ++ [(a, b)]) := Own.snoc hw3.1 hown'
          have hr4 := (hr3.alloc (.cells #[.int .i64 a, .bool b] 73)).grown hg4 (fun j hj => by have := (hw3.2.lt j hj).1; omega)
          have G4 := grown_step (grown_alloc G3 (.cells #[.int .i64 a, .bool b] 73)) hg4 (fun j hj => .inr (hw3.2.lt j hj).1)
          obtain ⟨A4, c4, rfl, _, _⟩ := hw4.form
          clear hw3 hown' hg4 hr3 G3 f0 f1
          go_wp2
          go_ret
          exact ⟨_, _, _, _, _, rfl, hw4, by omega, hr4, by omega, G4⟩
        · by_cases hx1 : x = 1
          · subst hx1
            have d0 : ((1 : Int) == 0) = false := rfl
            obtain ⟨j, rfl⟩ : ∃ j, k = j + 1 := ⟨k - 1, by omega⟩
            have hjl : j < l.length := by rw [hw3.1]; omega
            obtain ⟨a, b, hab⟩ : ∃ a b, l[j]? = some (a, b) := ⟨l[j].1, l[j].2, List.getElem?_eq_getElem hjl⟩
            obtain ⟨f0, f1⟩ := hw3.layAt hab
            have z1 := hw3.2.frozenAt (j * 2)
            have HS := Lib.hid (hw3.setLay0 hab 30001)
            have HR := Lib.hid (hr3.grown (grown_setCell (p := ⟨G0, j * 2, none⟩) (grown_refl _ (some G0)) (.inl rfl) (.int .i64 30001)) (by intro k hk; simp at hk; omega))
            have HG := Lib.hid (grown_setCell (p := ⟨G0, j * 2, none⟩) G3 (.inr hG0) (.int .i64 30001))
            clear hw3 hr3 G3 hab hjl
            go_wp2
            go_ret
            exact ⟨_, _, _, _, _, rfl, HS.out, by omega, HR.out, by omega, HG.out⟩
          · have d0 : ((x : Int) == 0) = false := by simp; omega
            have d1 : ((x : Int) == 1) = false := by simp; omega
            go_wp2
            go_ret
            exact ⟨_, _, _, l, _, rfl, hw3, by omega, hr3, by omega, G3⟩

end Go.Proofs.YtefadlbfkhndfaaGreatDoor

/-
  Contract: DrawLayersValid.
-/
namespace Go.Proofs.YtefadlbfkhndfaaGreatDoor
open Go.RowKit
set_option linter.unusedSimpArgs false
set_option linter.unusedVariables false

theorem undrew' {w w1 : World} {row : Option Nat} (h : w.drew.grownBy w1 row) : w.grownBy w1 row := ⟨h.os, h.tape, h.output, h.size, h.block⟩
set_option maxHeartbeats 2000000 in
theorem DrawLayersValid_any (A : Option Addr) (n c : Nat) (l : List Int) (w : World) (h : Arr BB 1 w w.heap.size A n l) (hby : ∀ x ∈ l, 0 ≤ x ∧ x ≤ 255) (hc : n ≤ c) :
    Calls Tryz.prog 19 #[.slice A n c] w (DrawnTop LL 2 73 w 9) := by
  have C := Lib.hid (l6Open_any A n c l w h hby hc)
  clear hby h
  go_enter Tryz.func19, Tryz.ntmps19
  go_wp2_with fail
  refine C.out.mono ?_
  rintro e w1 ⟨rfl, hr, hb, hs⟩
  clear C
  go_wp2_with fail
  refine (l92Layers_any _ 0 w1 hr (by omega)).mono ?_
  rintro e w2 ⟨A2, n2, c2, l2, p2, rfl, ho, hn, hr2, hp2, hg⟩
  have hb2 := hb.grown hg (by omega) (by intro k hk; simp at hk; omega)
  have hz2 := hg.size
  clear hr
  by_cases h1 : n2 ≤ 1
  · have f1 : ¬ (1 < (n2 : Int)) := by omega
    go_wp2_with fail
    go_ret
    exact ⟨A2, n2, c2, l2, rfl, ho.less (by omega), hn, hb2⟩
  · have f1 : 1 < (n2 : Int) := by omega
    have f2 : (0 : Int) < (n2 : Int) := by omega
    go_wp2_with fail
    refine (pick_any _ p2 6 _ hr2 (by omega) (by omega)).mono ?_
    rintro e w3 ⟨x, rfl, hx, hr3, hg3⟩
    have ho3 := ho.kept hg3 (by intro k hk; simp at hk; omega)
    have hb3 := hb2.grown hg3 (by omega) (by intro k hk; simp at hk; omega)
    have hz3 := hg3.size
    clear ho hr2 hg3 hg
    by_cases h0 : x = 0
    · subst h0
      obtain ⟨G0, c0, e0, hG0, hG1, hkc⟩ := ho3.head (by omega)
      injection e0 with e0 _ e2
      subst e0; subst e2
      have hjl : 0 < l2.length := by rw [ho3.1]; omega
      obtain ⟨a, b, hab⟩ : ∃ a b, l2[0]? = some (a, b) := ⟨l2[0].1, l2[0].2, List.getElem?_eq_getElem hjl⟩
      have HR := Lib.hid hr3
      have HO := Lib.hid ho3
      have HB := Lib.hid hb3
      have HAB := Lib.hid hab
      obtain ⟨f0, f1⟩ := ho3.layAt hab
      simp only [Nat.zero_mul, Nat.zero_add] at f0 f1
      clear hr3 ho3 hb3 hb2 hab hjl
      go_wp2_with fail
      go_region_with (first
        | (go_at_call 52; refine (pick_any _ (p2 + 1) 20 _ ?_ (by omega) (by omega)).mono ?_; exact (HR.out.below (Below.refl _ _).drew (Nat.lt_succ_self _)); rintro e w5 ⟨y, rfl, hy, hr5, hg5⟩; have ho5 := HO.out.kept (undrew' hg5) (by intro k hk; injection hk with hk; omega); obtain ⟨g0, g1⟩ := ho5.layAt HAB.out; have z1 := ho5.2.frozenAt (0 * 2); simp only [Nat.zero_mul, Nat.zero_add] at g0 g1 z1))
      all_goals
        have HO5 := Lib.hid ho5
        have HB5 := Lib.hid (HB.out.grown (undrew' hg5) HB.out.size (by intro k hk; injection hk with hk; omega))
        clear ho5 hg5 hr5
        go_wp2
        go_ret
        exact ⟨_, _, _, _, rfl, (HO5.out.setLay0 HAB.out _).less (by omega), hn, HB5.out.setCell (p := ⟨G0, 0, none⟩) (by simp; omega) _⟩
    · have d0 : ((x : Int) == 0) = false := by simp; omega
      go_wp2_with fail
      go_ret
      exact ⟨A2, n2, c2, l2, rfl, ho3.less (by omega), hn, hb3⟩
end Go.Proofs.YtefadlbfkhndfaaGreatDoor

/-
  The reference's draw of two depths; DrawLayersCount, DrawLayersAge.
-/
namespace Go.Proofs.YtefadlbfkhndfaaGreatDoor
open Go.RowKit
set_option linter.unusedSimpArgs false
set_option linter.unusedVariables false

theorem three_cells (w : World) (T : TypeId) (a b c : Int) {y : Nat} (hy : (y : Int) < 3 ∨ y = 0) : ∃ v : Int, (w.alloc (.cells #[.int .i64 a, .int .i64 b, .int .i64 c] T)).cell? ⟨w.heap.size, y, none⟩ = some (.int .i64 v) := by
  rcases (show y = 0 ∨ y = 1 ∨ y = 2 by omega) with rfl | rfl | rfl
  · exact ⟨a, (cell_of_row _ _ 0 _ _ _ (heap_alloc_new w _)).trans rfl⟩
  · exact ⟨b, (cell_of_row _ _ 1 _ _ _ (heap_alloc_new w _)).trans rfl⟩
  · exact ⟨c, (cell_of_row _ _ 2 _ _ _ (heap_alloc_new w _)).trans rfl⟩
theorem three_cells' {w w1 : World} {T : TypeId} {a b c : Int} {g y : Nat} (hg : (w.alloc (.cells #[.int .i64 a, .int .i64 b, .int .i64 c] T)).grownBy w1 (some g)) (hlt : g < w.heap.size) (hy : (y : Int) < 3 ∨ y = 0) :
    ∃ v : Int, w1.cell? ⟨w.heap.size, y, none⟩ = some (.int .i64 v) := by
  obtain ⟨v, hv⟩ := three_cells w T a b c hy
  exact ⟨v, hg.cell hv (by simp; omega)⟩
theorem two_ages (w : World) (T : TypeId) {y : Nat} (hy : (y : Int) < 2 ∨ y = 0) : ∃ v : Int, (w.alloc (.cells #[.int .i64 (-400001), .int .i64 400001] T)).cell? ⟨w.heap.size, y, none⟩ = some (.int .i64 v) ∧ -400001 ≤ v ∧ v ≤ 400001 := by
  rcases (show y = 0 ∨ y = 1 by omega) with rfl | rfl
  · exact ⟨-400001, (cell_of_row _ _ 0 _ _ _ (heap_alloc_new w _)).trans rfl, by decide, by decide⟩
  · exact ⟨400001, (cell_of_row _ _ 1 _ _ _ (heap_alloc_new w _)).trans rfl, by decide, by decide⟩
theorem two_ages' {w w1 : World} {T : TypeId} {g y : Nat} (hg : (w.alloc (.cells #[.int .i64 (-400001), .int .i64 400001] T)).grownBy w1 (some g)) (hlt : g < w.heap.size) (hy : (y : Int) < 2 ∨ y = 0) :
    ∃ v : Int, w1.cell? ⟨w.heap.size, y, none⟩ = some (.int .i64 v) ∧ -400001 ≤ v ∧ v ≤ 400001 := by
  obtain ⟨v, hv, h2⟩ := two_ages w T hy
  exact ⟨v, hg.cell hv (by simp; omega), h2⟩
/-- Two numbers, drawn. -/
def DrawnTwo (w : World) (g : Nat) (TR : TypeId) (p m : Nat) (e : Ending) (w' : World) : Prop :=
  ∃ (x y : Int) (p' : Nat), e = .returned (.tuple #[.int .i64 x, .int .i64 y]) ∧ Rd w' g TR p' ∧ p' ≤ p + m ∧ w.grownBy w' (some g) ∧ (0 ≤ x ∧ x ≤ 150)

set_option maxHeartbeats 2000000 in
theorem l91Span_any (g p : Nat) (w : World) (h : Rd w g 104 p) (hp : p ≤ 1000000) :
    Calls Tryz.prog 59 #[.pointer (some ⟨g, 0, none⟩)] w (DrawnTwo w g 104 p 1000) := by
  go_enter Tryz.func59, Tryz.ntmps59
  go_wp2_with fail
  refine (pick_any g p 150 _ h (by omega) (by omega)).mono ?_
  rintro e w1 ⟨x, rfl, hx, hr1, hg1⟩
  have hx2 : x < 150 := by omega
  clear hx
  go_wp2_with fail
  refine (pick_any g (p + 1) 16 _ hr1 (by omega) (by omega)).mono ?_
  rintro e w2 ⟨y, rfl, hy, hr2, hg2⟩
  have G2 := grown_trans' hg1 hg2
  clear hg1 hg2 hr1
  by_cases hy0 : y = 0
  · subst hy0
    have HR := Lib.hid hr2
    have HG := Lib.hid G2
    have hl3 := hr2.lt
    have e1 : IntKind.i64.wrap ((x : Int) - 1) = (x : Int) - 1 := IntWalk.i64_in _ ⟨by omega, by omega⟩
    clear hr2 G2
    go_wp2_with fail
    go_region_with (first
      | (go_at_call 52; refine (pick_any _ (p + 1 + 1) 3 _ ?_ (by omega) (by omega)).mono ?_; exact (HR.out.below (Below.refl _ _).drew (Nat.lt_succ_self _)).alloc _; rintro e w5 ⟨z, rfl, hz, hr5, hg5⟩; obtain ⟨v, kv⟩ := three_cells' (undrew hg5) hl3 hz; have hz2 : (z : Int) < 3 := by omega)
      | (go_at_call 52; refine (pick_any _ (p + 1 + 1) 3 _ ?_ (by omega) (by omega)).mono ?_; exact (HR.out.below (Below.refl _ _).drew (Nat.lt_succ_self _)); rintro e w5 ⟨z, rfl, hz, hr5, hg5⟩; obtain ⟨v, kv⟩ := three_cells w5 3 ((x : Int) - 1) 30001 30000 hz; have hz2 : (z : Int) < 3 := by omega))
    all_goals
      go_wp2
      go_ret2
      first
        | exact ⟨_, _, _, rfl, hr5, by omega, grown_trans' (grown_alloc HG.out _) (undrew hg5), by omega, by omega⟩
        | exact ⟨_, _, _, rfl, hr5.alloc _, by omega, grown_alloc (grown_trans' HG.out (undrew hg5)) _, by omega, by omega⟩
  · have d0 : ((y : Int) == 0) = false := by simp; omega
    go_wp2_with fail
    refine (pick_any g (p + 1 + 1) 120 _ hr2 (by omega) (by omega)).mono ?_
    rintro e w3 ⟨z, rfl, hz, hr3, hg3⟩
    have hz2 : z < 120 := by omega
    have e1 : wrap64 ((x : Int) + (z : Int)) = (x : Int) + (z : Int) := w64' ⟨by omega, by omega⟩
    go_wp2
    go_ret2
    exact ⟨_, _, _, rfl, hr3, by omega, grown_trans' G2 hg3, by omega, by omega⟩

/-- Layers and two numbers, drawn. -/
def DrawnLays (w : World) (e : Ending) (w' : World) : Prop :=
  ∃ (A : Option Addr) (n c : Nat) (l : List (Int × Bool)) (a b : Int), e = .returned (.tuple #[.slice A n c, .int .i64 a, .int .i64 b]) ∧ Own LL 2 w' w.heap.size 73 (.slice A n c) n l ∧ n ≤ 9 ∧ Below w.heap.size w w' ∧ -400001 ≤ a ∧ a ≤ 400001

set_option maxHeartbeats 1000000 in
theorem DrawLayersCount_any (A : Option Addr) (n c : Nat) (l : List Int) (w : World) (h : Arr BB 1 w w.heap.size A n l) (hby : ∀ x ∈ l, 0 ≤ x ∧ x ≤ 255) (hc : n ≤ c) :
    Calls Tryz.prog 25 #[.slice A n c] w (DrawnLays w) := by
  have C := Lib.hid (l6Open_any A n c l w h hby hc)
  clear hby h
  go_enter Tryz.func25, Tryz.ntmps25
  go_wp2_with fail
  refine C.out.mono ?_
  rintro e w1 ⟨rfl, hr, hb, hs⟩
  clear C
  go_wp2_with fail
  refine (l92Layers_any _ 0 w1 hr (by omega)).mono ?_
  rintro e w2 ⟨A2, n2, c2, l2, p2, rfl, ho, hn, hr2, hp2, hg⟩
  have hb2 := hb.grown hg (by omega) (by intro k hk; simp at hk; omega)
  have hs2 := hg.size
  clear hg hr hb
  go_wp2_with fail
  refine (l91Span_any _ p2 w2 hr2 (by omega)).mono ?_
  rintro e w3 ⟨x, y, p3, rfl, hr3, hp3, hg3, hx0, hx1⟩
  have ho3 := ho.kept hg3 (by intro k hk; simp at hk; omega)
  have hb3 := hb2.grown hg3 hb2.size (by intro k hk; simp at hk; omega)
  clear hr2 hr3 hg3 ho hb2
  obtain ⟨u, rfl⟩ : ∃ u : Nat, x = u := ⟨x.toNat, by omega⟩
  go_wp2
  go_ret3
  exact ⟨_, _, _, _, _, _, rfl, ho3.less (by omega), hn, hb3, by first | omega | (simp; omega), by first | omega | (simp; omega)⟩

set_option maxHeartbeats 2000000 in
theorem DrawLayersAge_any (A : Option Addr) (n c : Nat) (l : List Int) (w : World) (h : Arr BB 1 w w.heap.size A n l) (hby : ∀ x ∈ l, 0 ≤ x ∧ x ≤ 255) (hc : n ≤ c) :
    Calls Tryz.prog 29 #[.slice A n c] w (DrawnLays w) := by
  have C := Lib.hid (l6Open_any A n c l w h hby hc)
  clear hby h
  go_enter Tryz.func29, Tryz.ntmps29
  go_wp2_with fail
  refine C.out.mono ?_
  rintro e w1 ⟨rfl, hr, hb, hs⟩
  clear C
  go_wp2_with fail
  refine (l92Layers_any _ 0 w1 hr (by omega)).mono ?_
  rintro e w2 ⟨A2, n2, c2, l2, p2, rfl, ho, hn, hr2, hp2, hg⟩
  have hb2 := hb.grown hg (by omega) (by intro k hk; simp at hk; omega)
  have hs2 := hg.size
  clear hg hr hb
  go_wp2_with fail
  refine (pick_any _ p2 16 _ hr2 (by omega) (by omega)).mono ?_
  rintro e w3 ⟨x, rfl, hx, hr3, hg3⟩
  have ho3 := ho.kept hg3 (by intro k hk; simp at hk; omega)
  have hb3 := hb2.grown hg3 hb2.size (by intro k hk; simp at hk; omega)
  have hs3 := hg3.size
  clear hg3 hr2 hb2 ho
  by_cases hx0 : x = 0
  · subst hx0
    have HR := Lib.hid hr3
    have HO := Lib.hid ho3
    have HB := Lib.hid hb3
    have hl3 := hr3.lt
    clear hr3 ho3 hb3
    go_wp2_with fail
    go_region_with (first
      | (go_at_call 52; refine (pick_any _ (p2 + 1) 2 _ ?_ (by omega) (by omega)).mono ?_; exact (HR.out.below (Below.refl _ _).drew (Nat.lt_succ_self _)).alloc _; rintro e w5 ⟨y, rfl, hy, hr5, hg5⟩; obtain ⟨v, kv, hv0, hv1⟩ := two_ages' (undrew hg5) hl3 hy; have hy2 : (y : Int) < 2 := by omega)
      | (go_at_call 52; refine (pick_any _ (p2 + 1) 2 _ ?_ (by omega) (by omega)).mono ?_; exact (HR.out.below (Below.refl _ _).drew (Nat.lt_succ_self _)); rintro e w5 ⟨y, rfl, hy, hr5, hg5⟩; obtain ⟨v, kv, hv0, hv1⟩ := two_ages w5 3 hy; have hy2 : (y : Int) < 2 := by omega))
    all_goals
      go_wp2
      go_ret3
      first
        | exact ⟨_, _, _, _, _, _, rfl, ((HO.out.alloc _).kept (undrew hg5) (by intro k hk; injection hk with hk; omega)).less (by omega), hn, (HB.out.alloc HB.out.size _).grown (undrew hg5) (by have := HB.out.size; simp; omega) (by intro k hk; injection hk with hk; omega), hv0, hv1⟩
        | exact ⟨_, _, _, _, _, _, rfl, ((HO.out.kept (undrew hg5) (by intro k hk; injection hk with hk; omega)).alloc _).less (by omega), hn, (HB.out.grown (undrew hg5) HB.out.size (by intro k hk; injection hk with hk; omega)).alloc (by have := hg5.size; have h2 := HB.out.size; simp at this; omega) _, hv0, hv1⟩
  · have d0 : ((x : Int) == 0) = false := by simp; omega
    go_wp2_with fail
    refine (pick_any _ (p2 + 1) 200 _ hr3 (by omega) (by omega)).mono ?_
    rintro e w4 ⟨y, rfl, hy, hr4, hg4⟩
    have hy2 : y < 200 := by omega
    have ho4 := ho3.kept hg4 (by intro k hk; simp at hk; omega)
    have hb4 := hb3.grown hg4 hb3.size (by intro k hk; simp at hk; omega)
    have e1 : IntKind.i64.wrap ((y : Int) - 100) = (y : Int) - 100 := IntWalk.i64_in _ ⟨by omega, by omega⟩
    clear ho3 hb3 hr3 hg4
    go_wp2_with fail
    refine (pick_any _ (p2 + 1 + 1) 120 _ hr4 (by omega) (by omega)).mono ?_
    rintro e w5 ⟨z, rfl, hz, hr5, hg5⟩
    have hz2 : z < 120 := by omega
    have ho5 := ho4.kept hg5 (by intro k hk; simp at hk; omega)
    have hb5 := hb4.grown hg5 hb4.size (by intro k hk; simp at hk; omega)
    clear ho4 hb4 hr4 hg5
    go_wp2_with fail
    refine (pick_any _ (p2 + 1 + 1 + 1) 20 _ hr5 (by omega) (by omega)).mono ?_
    rintro e w6 ⟨t, rfl, ht, hr6, hg6⟩
    have ht2 : t < 20 := by omega
    have ho6 := ho5.kept hg6 (by intro k hk; simp at hk; omega)
    have hb6 := hb5.grown hg6 hb5.size (by intro k hk; simp at hk; omega)
    clear ho5 hb5 hr5 hg6
    go_wp2
    go_ret3
    exact ⟨_, _, _, _, _, _, rfl, ho6.less (by omega), hn, hb6, by omega, by omega⟩
end Go.Proofs.YtefadlbfkhndfaaGreatDoor
