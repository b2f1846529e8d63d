/-
  Plain words on middles: counts, the sorted list, the middle one. No program in sight.
-/
import Derived.Test.YtfohfcpnhhiemaaPlainR
import Derived.Test.YtfohfcpnhhiemaaPlainS
namespace Go.Proofs.Ytfohfcpnhhiemaa
open Go.RowKit
set_option linter.unusedSimpArgs false
set_option linter.unusedVariables false

def sortI (l : List Int) : List Int := l.mergeSort fun x y => decide (x ≤ y)
def lessN (x : Int) (c : List Int) : Nat := c.countP fun y => decide (y < x)
def sameN (x : Int) (c : List Int) : Nat := c.countP fun y => decide (y = x)
def greatN (x : Int) (c : List Int) : Nat := c.countP fun y => decide (x < y)
def mid (c : List Int) : Int := (sortI c).getD ((c.length - 1) / 2) 0
theorem sortI_perm (l : List Int) : (sortI l).Perm l := List.mergeSort_perm l _
theorem sortI_length (l : List Int) : (sortI l).length = l.length := (sortI_perm l).length_eq
theorem sortI_sorted (l : List Int) : (sortI l).Pairwise (· ≤ ·) := by
  have := List.pairwise_mergeSort (le := fun x y : Int => decide (x ≤ y)) (fun a b c h1 h2 => by simp at h1 h2 ⊢; omega) (fun a b => by simp; omega) l
  exact this.imp fun h => by simpa using h
theorem count_split (x : Int) (c : List Int) : lessN x c + sameN x c + greatN x c = c.length := by
  induction c with
  | nil => rfl
  | cons y c ih =>
    simp only [lessN, sameN, greatN, List.countP_cons, List.length_cons] at ih ⊢
    rcases (show y < x ∨ y = x ∨ x < y by omega) with h | h | h
    · rw [if_pos (by simpa using h), if_neg (by simp; omega), if_neg (by simp; omega)]; omega
    · rw [if_neg (by simp; omega), if_pos (by simpa using h), if_neg (by simp; omega)]; omega
    · rw [if_neg (by simp; omega), if_neg (by simp; omega), if_pos (by simpa using h)]; omega
theorem sorted_split (x : Int) : ∀ {s : List Int}, s.Pairwise (· ≤ ·) → s = s.filter (fun y => decide (y < x)) ++ (s.filter (fun y => decide (y = x)) ++ s.filter (fun y => decide (x < y))) := by
  intro s
  induction s with
  | nil => intro _; rfl
  | cons y s ih =>
    intro h
    rw [List.pairwise_cons] at h
    have ih' := ih h.2
    rcases (show y < x ∨ y = x ∨ x < y by omega) with hy | hy | hy
    · rw [List.filter_cons_of_pos (by simpa using hy), List.filter_cons_of_neg (by simp; omega), List.filter_cons_of_neg (by simp; omega), List.cons_append, ← ih']
    · have e0 : s.filter (fun y => decide (y < x)) = [] := by
        rw [List.filter_eq_nil_iff]; intro z hz; have := h.1 z hz; simp; omega
      rw [List.filter_cons_of_neg (by simp; omega), List.filter_cons_of_pos (by simpa using hy), List.filter_cons_of_neg (by simp; omega), e0, List.nil_append, List.cons_append]
      rw [e0, List.nil_append] at ih'
      rw [← ih']
    · have e0 : s.filter (fun y => decide (y < x)) = [] := by
        rw [List.filter_eq_nil_iff]; intro z hz; have := h.1 z hz; simp; omega
      have e1 : s.filter (fun y => decide (y = x)) = [] := by
        rw [List.filter_eq_nil_iff]; intro z hz; have := h.1 z hz; simp; omega
      rw [List.filter_cons_of_neg (by simp; omega), List.filter_cons_of_neg (by simp; omega), List.filter_cons_of_pos (by simpa using hy), e0, e1, List.nil_append, List.nil_append]
      rw [e0, e1, List.nil_append, List.nil_append] at ih'
      rw [← ih']
theorem count_sort (p : Int → Bool) (c : List Int) : (sortI c).countP p = c.countP p := (sortI_perm c).countP_eq p
/-- The one at a place of the sorted list is the one with so many less. -/
theorem sorted_at {c : List Int} {x : Int} {k : Nat} (h1 : lessN x c ≤ k) (h2 : k < lessN x c + sameN x c) : (sortI c)[k]? = some x := by
  have hs := sorted_split x (sortI_sorted c)
  have l1 : ((sortI c).filter (fun y => decide (y < x))).length = lessN x c := by rw [← List.countP_eq_length_filter, count_sort]; rfl
  have l2 : ((sortI c).filter (fun y => decide (y = x))).length = sameN x c := by rw [← List.countP_eq_length_filter, count_sort]; rfl
  rw [hs, List.getElem?_append_right (by rw [l1]; exact h1), l1, List.getElem?_append_left (by rw [l2]; omega)]
  have hl : k - lessN x c < ((sortI c).filter (fun y => decide (y = x))).length := by rw [l2]; omega
  rw [List.getElem?_eq_getElem hl]
  have := List.mem_filter.1 (List.getElem_mem hl)
  simpa using this.2
theorem sorted_at_iff {c : List Int} {x : Int} {k : Nat} (h : (sortI c)[k]? = some x) : lessN x c ≤ k ∧ k < lessN x c + sameN x c := by
  have hs := sorted_split x (sortI_sorted c)
  have l1 : ((sortI c).filter (fun y => decide (y < x))).length = lessN x c := by rw [← List.countP_eq_length_filter, count_sort]; rfl
  have l2 : ((sortI c).filter (fun y => decide (y = x))).length = sameN x c := by rw [← List.countP_eq_length_filter, count_sort]; rfl
  rw [hs] at h
  constructor
  · rcases Nat.lt_or_ge k (lessN x c) with h1 | h1
    · rw [List.getElem?_append_left (by rw [l1]; exact h1)] at h
      have := (List.mem_filter.1 (List.mem_of_getElem? h)).2
      simp at this
    · exact h1
  · rcases Nat.lt_or_ge k (lessN x c + sameN x c) with h1 | h1
    · exact h1
    · rw [List.getElem?_append_right (by rw [l1]; omega), List.getElem?_append_right (by rw [l1, l2]; omega)] at h
      have := (List.mem_filter.1 (List.mem_of_getElem? h)).2
      simp at this
theorem mid_of {c : List Int} {x : Int} (h1 : lessN x c ≤ (c.length - 1) / 2) (h2 : (c.length - 1) / 2 < lessN x c + sameN x c) : mid c = x := by
  unfold mid
  rw [List.getD_eq_getElem?_getD, sorted_at h1 h2]
  rfl
theorem mid_at {c : List Int} (h : 0 < c.length) : (sortI c)[(c.length - 1) / 2]? = some (mid c) := by
  have hl : (c.length - 1) / 2 < (sortI c).length := by rw [sortI_length]; omega
  unfold mid
  rw [List.getD_eq_getElem?_getD, List.getElem?_eq_getElem hl]
  rfl
theorem mid_count {c : List Int} (h : 0 < c.length) : lessN (mid c) c ≤ (c.length - 1) / 2 ∧ (c.length - 1) / 2 < lessN (mid c) c + sameN (mid c) c := sorted_at_iff (mid_at h)
theorem mid_mem {c : List Int} (h : 0 < c.length) : mid c ∈ c := (sortI_perm c).mem_iff.1 (List.mem_of_getElem? (mid_at h))
theorem mid_perm {c c' : List Int} (h : c'.Perm c) (h0 : 0 < c.length) : mid c' = mid c := by
  have hc := mid_count h0
  have hl := h.length_eq
  refine mid_of ?_ ?_
  · rw [hl]; unfold lessN; rw [h.countP_eq]; exact hc.1
  · rw [hl]; unfold lessN sameN; rw [h.countP_eq, h.countP_eq]; exact hc.2
theorem mid_one (x : Int) : mid [x] = x := mid_of (by simp [lessN]) (by simp [lessN, sameN])
theorem mid_shift {c : List Int} (d : Int) (h0 : 0 < c.length) : mid (c.map (· + d)) = mid c + d := by
  have hc := mid_count h0
  have e1 : ∀ x, lessN (x + d) (c.map (· + d)) = lessN x c := fun x => by
    unfold lessN
    rw [List.countP_map]
    apply List.countP_congr
    intro y _
    simp
  have e2 : ∀ x, sameN (x + d) (c.map (· + d)) = sameN x c := fun x => by
    unfold sameN
    rw [List.countP_map]
    apply List.countP_congr
    intro y _
    simp
  exact mid_of (by rw [e1, List.length_map]; exact hc.1) (by rw [e1, e2, List.length_map]; exact hc.2)
theorem mid_twice {c : List Int} (h0 : 0 < c.length) : mid (c ++ c) = mid c := by
  have hc := mid_count h0
  refine mid_of ?_ ?_
  · unfold lessN at hc ⊢; rw [List.countP_append, List.length_append]; omega
  · unfold lessN sameN at hc ⊢; rw [List.countP_append, List.countP_append, List.length_append]; omega
/-- One further number that is the greatest: the middle one does not go down, and stays among the others. -/
theorem mid_wild {c : List Int} {m : Int} (h0 : 2 ≤ c.length) (hm : ∀ x ∈ c, x ≤ m) : mid c ≤ mid (c ++ [m]) ∧ ∃ x ∈ c, mid (c ++ [m]) ≤ x := by
  have hc := mid_count (c := c) (by omega)
  have hd := mid_count (c := c ++ [m]) (by simp)
  have hmm := mid_mem (c := c ++ [m]) (by simp)
  have hmc := hm _ (mid_mem (c := c) (by omega))
  have hle : mid (c ++ [m]) ≤ m := by
    rcases List.mem_append.1 hmm with h | h
    · exact hm _ h
    · simp at h; omega
  rw [List.length_append, List.length_singleton] at hd
  constructor
  · rcases Int.lt_or_le (mid (c ++ [m])) (mid c) with h | h
    · exfalso
      have : lessN (mid (c ++ [m])) (c ++ [m]) + sameN (mid (c ++ [m])) (c ++ [m]) ≤ lessN (mid c) c := by
        have key : ∀ (x y : Int) (l : List Int), x < y → lessN x l + sameN x l ≤ lessN y l := by
          intro x y l hxy
          induction l with
          | nil => simp [lessN, sameN]
          | cons z l ih =>
            simp only [lessN, sameN, List.countP_cons] at ih ⊢
            rcases (show z < x ∨ z = x ∨ x < z by omega) with hz | hz | hz
            · rw [if_pos (by simpa using hz), if_neg (by simp; omega), if_pos (by simp; omega)]; omega
            · rw [if_neg (by simp; omega), if_pos (by simpa using hz), if_pos (by simp; omega)]; omega
            · rw [if_neg (by simp; omega), if_neg (by simp; omega)]; omega
        have k := key _ _ (c ++ [m]) h
        have e : lessN (mid c) (c ++ [m]) = lessN (mid c) c := by
          unfold lessN
          rw [List.countP_append]
          simp
          omega
        omega
      omega
    · exact h
  · rcases List.mem_append.1 hmm with h | h
    · exact ⟨_, h, Int.le_refl _⟩
    · simp at h
      have hgt : ∃ x ∈ c, x = m := by
        rcases Classical.em (∃ x ∈ c, x = m) with h1 | h1
        · exact h1
        · exfalso
          have e : lessN m (c ++ [m]) = c.length := by
            unfold lessN
            rw [List.countP_append, List.countP_eq_length.2 (fun x hx => by
              have := hm x hx
              have h3 : x ≠ m := fun e => h1 ⟨x, hx, e⟩
              simp; omega)]
            simp
          rw [h, e] at hd
          omega
      obtain ⟨x, hx, e⟩ := hgt
      exact ⟨x, hx, by omega⟩
def col (R : List (List Int)) (k : Nat) : List Int := R.map fun r => at0 r k
theorem col_length (R : List (List Int)) (k : Nat) : (col R k).length = R.length := by simp [col]
theorem col_get {R : List (List Int)} {k i : Nat} {r : List Int} (h : R[i]? = some r) : (col R k)[i]? = some (at0 r k) := by simp [col, h]
def mids (R : List (List Int)) (m : Nat) : List Int := (List.range m).map fun k => mid (col R k)
theorem mids_length (R : List (List Int)) (m : Nat) : (mids R m).length = m := by simp [mids]
theorem mids_get (R : List (List Int)) {m k : Nat} (h : k < m) : (mids R m)[k]? = some (mid (col R k)) := by simp [mids, h]
theorem mids_succ (R : List (List Int)) (k : Nat) : mids R (k + 1) = mids R k ++ [mid (col R k)] := by unfold mids; rw [List.range_succ, List.map_append]; rfl
def midsR (R : List (List Int)) : List Int := if stackB R = true then mids R (wid R) else []
end Go.Proofs.Ytfohfcpnhhiemaa
