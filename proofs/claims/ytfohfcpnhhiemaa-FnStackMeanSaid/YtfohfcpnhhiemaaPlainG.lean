/-
  Plain laws of means: some number is not more, some not less; turned rows; twice the rows. Rows that an own slice of slices holds.
-/
import Derived.Test.YtfohfcpnhhiemaaPlainF
import Derived.Test.YtfohfcpnhhiemaaPlainM
import Derived.Test.YtfohfcpnhhiemaaOwnR
namespace Go.Proofs.Ytfohfcpnhhiemaa
open Go.RowKit
set_option linter.unusedSimpArgs false
set_option linter.unusedVariables false

def sumC : List Int → Int
  | [] => 0
  | x :: t => x + sumC t
theorem sumAt_col (R : List (List Int)) (k : Nat) : sumAt R k = sumC (col R k) := by
  induction R with
  | nil => rfl
  | cons r t ih => simp only [sumAt, col, List.map_cons, sumC] at ih ⊢; rw [ih]
theorem sum_lt {C : List Int} {s n : Int} (h : ∀ x ∈ C, s < x * n) (h0 : C ≠ []) : (C.length : Int) * s < sumC C * n := by
  induction C with
  | nil => exact absurd rfl h0
  | cons x t ih =>
    have hx := h x (List.mem_cons_self ..)
    simp only [sumC, List.length_cons, Int.add_mul]
    have e : (((t.length + 1 : Nat)) : Int) * s = (t.length : Int) * s + s := by rw [Int.natCast_add, Int.add_mul]; simp
    rw [e]
    cases t with
    | nil => simp [sumC]; omega
    | cons y t =>
      have := ih (fun z hz => h z (List.mem_cons_of_mem _ hz)) (by simp)
      omega
theorem sum_gt {C : List Int} {s n : Int} (h : ∀ x ∈ C, x * n < s) (h0 : C ≠ []) : sumC C * n < (C.length : Int) * s := by
  induction C with
  | nil => exact absurd rfl h0
  | cons x t ih =>
    have hx := h x (List.mem_cons_self ..)
    simp only [sumC, List.length_cons, Int.add_mul]
    have e : (((t.length + 1 : Nat)) : Int) * s = (t.length : Int) * s + s := by rw [Int.natCast_add, Int.add_mul]; simp
    rw [e]
    cases t with
    | nil => simp [sumC]; omega
    | cons y t =>
      have := ih (fun z hz => h z (List.mem_cons_of_mem _ hz)) (by simp)
      omega
theorem some_low {C : List Int} {n : Nat} (hl : C.length = n) (h0 : C ≠ []) : ∃ x ∈ C, ¬ sumC C < x * n := by
  apply Classical.byContradiction
  intro h
  have h1 : ∀ x ∈ C, sumC C < x * n := fun x hx => Classical.byContradiction fun h2 => h ⟨x, hx, h2⟩
  have := sum_lt h1 h0
  rw [hl, Int.mul_comm] at this
  omega
theorem some_high {C : List Int} {n : Nat} (hl : C.length = n) (h0 : C ≠ []) : ∃ x ∈ C, ¬ x * n < sumC C := by
  apply Classical.byContradiction
  intro h
  have h1 : ∀ x ∈ C, x * n < sumC C := fun x hx => Classical.byContradiction fun h2 => h ⟨x, hx, h2⟩
  have := sum_gt h1 h0
  rw [hl, Int.mul_comm] at this
  omega
theorem sumAt_turn {R : List (List Int)} {r : List Int} (h : R[0]? = some r) (k : Nat) : sumAt (R.drop 1 ++ [r]) k = sumAt R k := by
  cases R with
  | nil => simp at h
  | cons a t => simp at h; subst h; rw [sumAt_append]; simp [sumAt]; omega
theorem rows_of_own {w w' : World} {T : TypeId} {v : Value} {A : Option Addr} {n c : Nat} {us : List Value} {Q : List (List Int)} (hv : v = .slice A n c) (h : Own VV 1 w' w.heap.size T v n us) (hl : Q.length = n)
    (hr : ∀ (q : Nat) u r, us[q]? = some u → Q[q]? = some r → RowV w w.heap.size u r) (hb : Below w.heap.size w w') : Rows2 w' w'.heap.size A n Q := by
  subst hv
  exact ⟨us, h.arr VV_length, by rw [h.1, hl], fun k u r hu hq => ((hr k u r hu hq).below hb).more hb.size⟩
theorem wid_all {R : List (List Int)} {m : Nat} (h0 : R ≠ []) (h : ∀ r ∈ R, r.length = m) : wid R = m := by
  cases R with
  | nil => exact absurd rfl h0
  | cons r t => exact h r (List.mem_cons_self ..)
theorem stack_of {R : List (List Int)} {m : Nat} (h : ∀ r ∈ R, r.all numB = true ∧ r.length = m) (hm : 1 ≤ m ∧ m ≤ 20) (hl : 1 ≤ R.length ∧ R.length ≤ 6) : stackB R = true ∧ wid R = m := by
  have hw : wid R = m := wid_all (by intro e; subst e; simp at hl) fun r hr => (h r hr).2
  refine ⟨(stackB_iff R).2 ⟨fun r hr => ⟨(rowB_iff r).2 ⟨(h r hr).1, by rw [(h r hr).2]; exact hm⟩, by rw [hw]; exact (h r hr).2⟩, hl⟩, hw⟩
theorem means_turn {R : List (List Int)} {r : List Int} (h : R[0]? = some r) (m : Nat) : means (R.drop 1 ++ [r]) m = means R m := by
  have hl : 0 < R.length := (List.getElem?_eq_some_iff.1 h).1
  unfold means
  apply List.map_congr_left
  intro k _
  rw [sumAt_turn h, List.length_append, List.length_drop]
  congr 1
  simp
  omega
theorem means_twice {R : List (List Int)} (h : 0 < R.length) (m : Nat) : means (R ++ R) m = means R m := by
  unfold means
  apply List.map_congr_left
  intro k _
  rw [sumAt_append, List.length_append, show sumAt R k + sumAt R k = 2 * sumAt R k by omega, show ((R.length + R.length : Nat) : Int) = 2 * (R.length : Int) by omega]
  exact fr_scale 2 (by omega) (by omega)
theorem mids_twice {R : List (List Int)} (h : 0 < R.length) (m : Nat) : mids (R ++ R) m = mids R m := by
  unfold mids
  apply List.map_congr_left
  intro k _
  rw [show col (R ++ R) k = col R k ++ col R k by simp [col]]
  exact mid_twice (by rw [col_length]; exact h)
theorem sums_twice (R : List (List Int)) (m : Nat) : sums (R ++ R) m = (sums R m).map (2 * ·) := by
  unfold sums
  rw [List.map_map]
  apply List.map_congr_left
  intro k _
  rw [sumAt_append]
  show _ = 2 * sumAt R k
  omega
def lowF (s n : Int) (x : Int) : Bool := !decide (s < x * n)
def highF (s n : Int) (x : Int) : Bool := !decide (x * n < s)
theorem low_any {R : List (List Int)} {n : Nat} (hl : R.length = n) (h0 : 0 < n) (k : Nat) : (col R k).any (lowF (sumAt R k) n) = true := by
  obtain ⟨x, hx, h⟩ := some_low (C := col R k) (n := n) (by rw [col_length, hl]) (by intro e; have := col_length R k; rw [e] at this; simp at this; omega)
  rw [← sumAt_col] at h
  exact List.any_eq_true.2 ⟨x, hx, by simp [lowF]; omega⟩
theorem high_any {R : List (List Int)} {n : Nat} (hl : R.length = n) (h0 : 0 < n) (k : Nat) : (col R k).any (highF (sumAt R k) n) = true := by
  obtain ⟨x, hx, h⟩ := some_high (C := col R k) (n := n) (by rw [col_length, hl]) (by intro e; have := col_length R k; rw [e] at this; simp at this; omega)
  rw [← sumAt_col] at h
  exact List.any_eq_true.2 ⟨x, hx, by simp [highF]; omega⟩
theorem any_take {C : List Int} {f : Int → Bool} {i : Nat} {x : Int} (h : C[i]? = some x) : (C.take (i + 1)).any f = ((C.take i).any f || f x) := by
  rw [take_snoc h, List.any_append]; simp
end Go.Proofs.Ytfohfcpnhhiemaa
