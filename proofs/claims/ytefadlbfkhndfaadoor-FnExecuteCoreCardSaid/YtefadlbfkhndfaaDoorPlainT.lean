/-
  Plain law: the bytes of a core's text.
-/
import Derived.Test.YtefadlbfkhndfaaDoorCoreText
namespace Go.Proofs.YtefadlbfkhndfaaDoor
open Go.RowKit
set_option linter.unusedSimpArgs false
set_option linter.unusedVariables false

theorem dec_digit : ∀ (u : Nat), ∀ x ∈ Lib.decDigits u, 48 ≤ x.toNat ∧ x.toNat ≤ 57 := by
  intro u
  induction u using Nat.strongRecOn with
  | ind u ih =>
    intro x hx
    rw [Lib.decDigits] at hx
    split at hx
    · simp only [List.mem_singleton] at hx
      subst hx
      have : (UInt8.ofNat (48 + u)).toNat = 48 + u := by simp; omega
      omega
    · rcases List.mem_append.1 hx with h | h
      · exact ih _ (by omega) x h
      · simp only [List.mem_singleton] at h
        subst h
        have : (UInt8.ofNat (48 + u % 10)).toNat = 48 + u % 10 := by simp; omega
        omega
theorem dec_count (u : Nat) (b : UInt8) (hb : b.toNat < 48) : (Lib.decDigits u).count b = 0 :=
  List.count_eq_zero.2 fun hm => by have := dec_digit u b hm; omega
theorem pcT_count (p : Pc) : (pcT p).count 45 = 1 ∧ (pcT p).count 32 = 0 := by
  unfold pcT
  rw [List.count_append, List.count_append, List.count_append, List.count_append, dec_count _ 45 (by decide), dec_count _ 32 (by decide), dec_count _ 45 (by decide), dec_count _ 32 (by decide)]
  decide
theorem rowsT_count (l : List Pc) : ∀ k, k < l.length → (rowsT (l.take (k + 1))).count 45 = k + 1 ∧ (rowsT (l.take (k + 1))).count 32 = k := by
  intro k
  induction k with
  | zero =>
    intro hk
    rw [rowsT_one (List.getElem?_eq_getElem hk)]
    exact pcT_count _
  | succ k ih =>
    intro hk
    have h := ih (by omega)
    have hp := pcT_count l[k + 1]
    rw [rowsT_snoc (List.getElem?_eq_getElem hk) (by omega)]
    rw [List.count_append, List.count_append, List.count_append, List.count_append, h.1, h.2, hp.1, hp.2]
    exact ⟨rfl, rfl⟩
theorem coreT_count {l : List Pc} (h : coreB l = true) (h0 : l.length ≠ 0) : (coreT l).count 45 = l.length ∧ (coreT l).count 32 = l.length - 1 := by
  unfold coreT
  rw [if_pos h, if_neg h0]
  have := rowsT_count l (l.length - 1) (by omega)
  rw [show l.length - 1 + 1 = l.length by omega, List.take_of_length_le (Nat.le_refl _)] at this
  exact this
theorem join_append (xs ys : List (List UInt8)) (sep : List UInt8) (h : xs ≠ []) (h' : ys ≠ []) : Lib.join (xs ++ ys) sep = Lib.join xs sep ++ (sep ++ Lib.join ys sep) := by
  cases xs with
  | nil => exact absurd rfl h
  | cons x t =>
    cases ys with
    | nil => exact absurd rfl h'
    | cons y s =>
      rw [List.cons_append, Lib.join_cons, Lib.join_cons, Lib.join_cons]
      simp [Lib.joinTail]
theorem coreT_parts {l : List Pc} (h : coreB l = true) {k : Nat} (h0 : 0 < k) (h1 : k < l.length) : coreT (l.take k) ++ ([32] ++ coreT (l.drop k)) = coreT l := by
  obtain ⟨hF, h20⟩ := (coreB_iff l).1 h
  have ht : coreB (l.take k) = true := (coreB_iff _).2 ⟨coreFrom_take k hF, by rw [List.length_take]; omega⟩
  have hd : coreB (l.drop k) = true := (coreB_iff _).2 ⟨coreFrom_drop k hF, by rw [List.length_drop]; omega⟩
  unfold coreT
  rw [if_pos h, if_pos ht, if_pos hd, if_neg (show ¬ l.length = 0 by omega), if_neg (show ¬ (l.take k).length = 0 by rw [List.length_take]; omega), if_neg (show ¬ (l.drop k).length = 0 by rw [List.length_drop]; omega)]
  unfold rowsT
  conv => rhs; rw [← List.take_append_drop k l, List.map_append]
  refine (join_append _ _ _ ?_ ?_).symm
  · intro e; have := congrArg List.length e; rw [List.length_map, List.length_take, List.length_nil] at this; omega
  · intro e; have := congrArg List.length e; rw [List.length_map, List.length_drop, List.length_nil] at this; omega
theorem coreT_len (l : List Pc) : (coreT l).length ≤ 280 := by
  unfold coreT
  split
  · rename_i h
    obtain ⟨hF, h20⟩ := (coreB_iff l).1 h
    split
    · decide
    · have key : ∀ k, k ≤ l.length → (rowsT (l.take k)).length ≤ 14 * k := by
        intro k
        induction k with
        | zero => intro _; simp [rowsT, Lib.join_nil]
        | succ k ih =>
          intro hk
          have hx : l[k]? = some l[k] := List.getElem?_eq_getElem (by omega)
          have hm := coreFrom_mem hF _ (List.getElem_mem (show k < l.length by omega))
          have hp : (pcT l[k]).length ≤ 13 := by
            unfold pcT
            have a1 := dec_short (u := l[k].1.toNat) (by omega)
            have a2 := dec_short (u := l[k].2.toNat) (by omega)
            simp only [List.length_append, List.length_cons, List.length_nil]
            omega
          have := ih (by omega)
          by_cases hk0 : k = 0
          · subst hk0
            rw [rowsT_one hx]; omega
          · rw [rowsT_snoc hx (by omega)]
            simp only [List.length_append, List.length_cons, List.length_nil]
            omega
      have := key l.length (Nat.le_refl _)
      rw [List.take_of_length_le (Nat.le_refl _)] at this
      omega
  · decide
theorem tx_toList (l : List UInt8) : (tx l).toList = l := by unfold tx; exact ByteArray.toList_mk l
theorem tx_get (l : List UInt8) (k : Nat) (h : k < (tx l).size) : (tx l)[k] = l[k]'(by rw [← tx_size]; exact h) := by
  unfold tx
  exact List.getElem_toArray _
theorem count_snoc {l : List UInt8} {k : Nat} (h : k < l.length) (b : UInt8) : (l.take (k + 1)).count b = (l.take k).count b + (if l[k].toNat = b.toNat then 1 else 0) := by
  rw [take_snoc (List.getElem?_eq_getElem h), List.count_append]
  congr 1
  rw [List.count_singleton]
  by_cases e : l[k] = b
  · rw [if_pos (show l[k].toNat = b.toNat by rw [e]), if_pos (show (l[k] == b) = true by rw [e]; exact beq_self_eq_true _)]
  · rw [if_neg (fun h => e (UInt8.toNat_inj.1 h)), if_neg (by simpa using e)]
end Go.Proofs.YtefadlbfkhndfaaDoor
