/-
  Slices of slices as one-cell elements: what a spread append of rows needs.
-/
import Derived.Test.YtfohfcpnhhiemaaKitR
import Derived.Test.YtfohfcpnhhiemaaAppend
namespace Go.Proofs.Ytfohfcpnhhiemaa
open Go.RowKit
set_option linter.unusedSimpArgs false
set_option linter.unusedVariables false

def svOf (s : Option Addr × Nat × Nat) : Value := .slice s.1 s.2.1 s.2.2
def SV (s : Option Addr × Nat × Nat) : List Value := [svOf s]
theorem SV_length (s : Option Addr × Nat × Nat) : (SV s).length = 1 := rfl
theorem one_SV (s : Option Addr × Nat × Nat) : ∀ u ∈ SV s, u.oneCell' = true := by
  intro u hu; simp [SV] at hu; subst hu; rfl
theorem flatMap_SV (l : List (Option Addr × Nat × Nat)) : l.flatMap SV = (l.map svOf).flatMap VV := by
  induction l with
  | nil => rfl
  | cons a l ih => rw [List.flatMap_cons, ih]; rfl
def unSV : Value → Option Addr × Nat × Nat
  | .slice A n c => (A, n, c)
  | _ => (none, 0, 0)
section
variable {w : World} {B base sz : Nat} {T : TypeId} {v : Value} {A : Option Addr} {n : Nat} {R : List (List Int)} {ss : List (Option Addr × Nat × Nat)}
theorem Own.ofSV (h : Own SV sz w base T v n ss) : Own VV sz w base T v n (ss.map svOf) := ⟨by rw [List.length_map]; exact h.1, by rw [← flatMap_SV]; exact h.2⟩
theorem Rows2.toSV (h : Rows2 w B A n R) : ∃ ss : List (Option Addr × Nat × Nat), Arr SV 1 w B A n ss ∧ ∀ (k : Nat) u r, (ss.map svOf)[k]? = some u → R[k]? = some r → RowV w B u r := by
  obtain ⟨vs, h1, h2, h3⟩ := h
  have key : ∀ (k : Nat) v, vs[k]? = some v → svOf (unSV v) = v := fun k v hv => by
    have hk : k < R.length := by rw [← h2]; exact (List.getElem?_eq_some_iff.1 hv).1
    obtain ⟨A', c', e, _⟩ := h3 k v _ hv (List.getElem?_eq_getElem hk)
    subst e
    rfl
  refine ⟨vs.map unSV, ⟨by rw [List.length_map]; exact h1.1, fun h0 => ?_⟩, fun k u r hu hr => ?_⟩
  · obtain ⟨b, off, e, hb, hc⟩ := h1.2 h0
    refine ⟨b, off, e, hb, fun k x hx j u hu => ?_⟩
    rw [List.getElem?_map] at hx
    cases hv : vs[k]? with
    | none => rw [hv] at hx; simp at hx
    | some v =>
      rw [hv] at hx
      simp at hx
      subst hx
      unfold SV at hu
      rw [key k v hv] at hu
      exact hc k v hv j u hu
  · rw [List.map_map, List.getElem?_map] at hu
    cases hv : vs[k]? with
    | none => rw [hv] at hu; simp at hu
    | some v =>
      rw [hv] at hu
      simp at hu
      rw [key k v hv] at hu
      subst hu
      exact h3 k v r hv hr
end
end Go.Proofs.Ytfohfcpnhhiemaa
