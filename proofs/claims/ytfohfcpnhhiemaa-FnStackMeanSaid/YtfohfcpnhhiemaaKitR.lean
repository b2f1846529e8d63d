/-
  Words for slices of rows of numbers.
-/
import Derived.Test.YtfohfcpnhhiemaaKit
namespace Go.Proofs.Ytfohfcpnhhiemaa
open Go.RowKit
set_option linter.unusedSimpArgs false
set_option linter.unusedVariables false

def VV (v : Value) : List Value := [v]
theorem VV_length (v : Value) : (VV v).length = 1 := rfl
/-- A value that is a slice which reads as a row. -/
def RowV (w : World) (B : Nat) (v : Value) (r : List Int) : Prop := ∃ A c, v = .slice A r.length c ∧ r.length ≤ c ∧ Arr II 1 w B A r.length r
/-- A slice of rows. -/
def Rows2 (w : World) (B : Nat) (A : Option Addr) (n : Nat) (R : List (List Int)) : Prop :=
  ∃ vs : List Value, Arr VV 1 w B A n vs ∧ vs.length = R.length ∧ ∀ (k : Nat) v r, vs[k]? = some v → R[k]? = some r → RowV w B v r
section
variable {w w' : World} {B B' : Nat} {A : Option Addr} {n : Nat} {R : List (List Int)} {v : Value} {r : List Int}
theorem RowV.keep (h : RowV w B v r) (hk : ∀ p : Addr, p.block < B → w'.cell? p = w.cell? p) : RowV w' B v r := by
  obtain ⟨A, c, e, hc, ha⟩ := h
  exact ⟨A, c, e, hc, ha.keep hk⟩
theorem RowV.more (h : RowV w B v r) (hB : B ≤ B') : RowV w B' v r := by
  obtain ⟨A, c, e, hc, ha⟩ := h
  exact ⟨A, c, e, hc, ha.more hB⟩
theorem RowV.below (h : RowV w B v r) (hb : Below B w w') : RowV w' B v r := h.keep fun _ hp => hb.cell hp
theorem Rows2.len (h : Rows2 w B A n R) : R.length = n := by obtain ⟨vs, h1, h2, _⟩ := h; rw [← h2, h1.1]
theorem Rows2.keep (h : Rows2 w B A n R) (hk : ∀ p : Addr, p.block < B → w'.cell? p = w.cell? p) : Rows2 w' B A n R := by
  obtain ⟨vs, h1, h2, h3⟩ := h
  exact ⟨vs, h1.keep hk, h2, fun k v r hv hr => (h3 k v r hv hr).keep hk⟩
theorem Rows2.more (h : Rows2 w B A n R) (hB : B ≤ B') : Rows2 w B' A n R := by
  obtain ⟨vs, h1, h2, h3⟩ := h
  exact ⟨vs, h1.more hB, h2, fun k v r hv hr => (h3 k v r hv hr).more hB⟩
theorem Rows2.below' (h : Rows2 w B A n R) (hb : Below B w w') : Rows2 w' B A n R := h.keep fun _ hp => hb.cell hp
theorem Rows2.below {C : Nat} (h : Rows2 w B A n R) (hb : Below C w w') (hC : B ≤ C) : Rows2 w' B A n R := h.keep fun _ hp => hb.cell (by omega)
theorem Rows2.alloc (h : Rows2 w B A n R) (hB : B ≤ w.heap.size) (o : Obj) : Rows2 (w.alloc o) B A n R := h.keep fun p hp => World.cell?_alloc_lt w o p (by omega)
theorem Rows2.nil_ (w : World) (B : Nat) (A : Option Addr) : Rows2 w B A 0 [] := ⟨[], Arr.nil_ _ _ _ _ _, rfl, fun k v r h => by simp at h⟩
/-- One row of a slice of rows. -/
theorem Rows2.row (h : Rows2 w B A n R) {k : Nat} (hk : k < n) :
    ∃ b off r A' c', A = some ⟨b, off, none⟩ ∧ b < B ∧ R[k]? = some r ∧ w.cell? ⟨b, off + k, none⟩ = some (.slice A' r.length c') ∧ r.length ≤ c' ∧ Arr II 1 w B A' r.length r := by
  have hl := h.len
  obtain ⟨vs, h1, h2, h3⟩ := h
  obtain ⟨b, off, e, hb, hc⟩ := h1.2 (by omega)
  have hkv : k < vs.length := by rw [h2, hl]; exact hk
  have hkR : k < R.length := by omega
  have hv := List.getElem?_eq_getElem hkv
  have hr := List.getElem?_eq_getElem hkR
  obtain ⟨A', c', e2, hc2, ha⟩ := h3 k _ _ hv hr
  refine ⟨b, off, R[k], A', c', e, hb, hr, ?_, hc2, ha⟩
  have := hc k _ hv 0 _ rfl
  rw [Nat.mul_one, Nat.add_zero, e2] at this
  exact this
theorem Rows2.take (h : Rows2 w B A n R) {k : Nat} (hk : k ≤ n) : Rows2 w B A k (R.take k) := by
  have hl := h.len
  obtain ⟨vs, h1, h2, h3⟩ := h
  refine ⟨vs.take k, h1.take hk, by rw [List.length_take, List.length_take, h2], fun i v r hv hr => ?_⟩
  rw [List.getElem?_take] at hv hr
  split at hv
  · rename_i hi
    rw [if_pos hi] at hr
    exact h3 i v r hv hr
  · cases hv
theorem Rows2.cutAt (h : Rows2 w B A n R) {k cap : Nat} (hk : k ≤ n) (hc : n ≤ cap) : Rows2 w B (if cap = k then A else A.map (·.add (k * 1))) (n - k) (R.drop k) := by
  have hl := h.len
  obtain ⟨vs, h1, h2, h3⟩ := h
  refine ⟨vs.drop k, h1.cutAt hk hc, by rw [List.length_drop, List.length_drop, h2], fun i v r hv hr => ?_⟩
  rw [List.getElem?_drop] at hv hr
  exact h3 _ v r hv hr
end

/-- Rows that the call made: the outer row is its own, the rows lie below B. -/
def OwnR (w : World) (base : Nat) (T : TypeId) (v : Value) (n : Nat) (R : List (List Int)) : Prop :=
  ∃ vs : List Value, Own VV 1 w base T v n vs ∧ vs.length = R.length ∧ ∀ (k : Nat) u r, vs[k]? = some u → R[k]? = some r → RowV w w.heap.size u r ∧ (∀ g, u.ownBlock = some g → v.ownBlock ≠ some g)
section
variable {w w' : World} {base base' : Nat} {T : TypeId} {v : Value} {A : Option Addr} {n c : Nat} {R : List (List Int)} {r : List Int}
theorem OwnR.len (h : OwnR w base T v n R) : R.length = n := by obtain ⟨vs, h1, h2, _⟩ := h; rw [← h2, h1.1]
theorem OwnR.form (h : OwnR w base T v n R) : ∃ A c, v = .slice A n c ∧ n ≤ c ∧ c ≤ maxLen := by obtain ⟨vs, h1, _⟩ := h; exact h1.form
theorem OwnR.rows (h : OwnR w base T (.slice A n c) n R) : Rows2 w w.heap.size A n R := by
  obtain ⟨vs, h1, h2, h3⟩ := h
  exact ⟨vs, h1.arr VV_length, h2, fun k u r hu hr => (h3 k u r hu hr).1⟩
theorem OwnR.below {C : Nat} (h : OwnR w base T v n R) (hb : Below C w w') (hC : w.heap.size ≤ C) : OwnR w' base T v n R := by
  obtain ⟨vs, h1, h2, h3⟩ := h
  exact ⟨vs, h1.below hb hC, h2, fun k u r hu hr => ⟨((h3 k u r hu hr).1.keep fun p hp => hb.cell (by omega)).more hb.size, (h3 k u r hu hr).2⟩⟩
theorem OwnR.alloc (h : OwnR w base T v n R) (o : Obj) : OwnR (w.alloc o) base T v n R := h.below ((Below.refl w.heap.size w).alloc (Nat.le_refl _) o) (Nat.le_refl _)
theorem OwnR.drewN (h : OwnR w base T v n R) (q : Nat) : OwnR (w.drewN q) base T v n R := h
theorem OwnR.less (h : OwnR w base T v n R) (hb : base' ≤ base) : OwnR w base' T v n R := by
  obtain ⟨vs, h1, h2, h3⟩ := h
  exact ⟨vs, h1.less hb, h2, h3⟩
theorem OwnR.nil_ (w : World) (base : Nat) (T : TypeId) : OwnR w base T (.slice none 0 0) 0 [] := ⟨[], Own.nil_ _ _ _ _ _, rfl, fun k v r h => by simp at h⟩
theorem OwnR.made (w : World) (base : Nat) (T : TypeId) (hb : base ≤ w.heap.size) : OwnR (w.alloc (.cells #[] T)) base T (.slice (some ⟨w.heap.size, 0, none⟩) 0 0) 0 [] := ⟨[], Own.made VV 1 w base T hb, rfl, fun k v r h => by simp at h⟩
end
theorem one_VV {v : Value} (h : v.oneCell' = true) : ∀ u ∈ ([v] : List Value), u.oneCell' = true := by
  intro u hu; simp at hu; subst hu; exact h
theorem flatMap_VV (l : List Value) : l.flatMap VV = l := by
  induction l with
  | nil => rfl
  | cons a l ih => rw [List.flatMap_cons, ih]; rfl
end Go.Proofs.Ytfohfcpnhhiemaa
