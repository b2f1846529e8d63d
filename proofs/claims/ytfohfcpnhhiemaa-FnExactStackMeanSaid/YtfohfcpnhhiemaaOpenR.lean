/-
  How an argument's reading gives the walks' own words: a slice of rows of numbers.
-/
import Derived.Test.YtfohfcpnhhiemaaOpen
import Derived.Test.YtfohfcpnhhiemaaKitR
import Derived.Deep.Matrix
namespace Go.Proofs.Ytfohfcpnhhiemaa
open Go.ChangeShapes Go.WideShapes Go.ChangeAt Go.RowKit Go.Deep
set_option linter.unusedSimpArgs false
set_option linter.unusedVariables false

section
variable {H : Type} {enc : TypeId × Value → H} {P : Program} {w : World}
theorem arr_of_rows {t e q : TypeId} {a : Option Addr} {len cap : Nat} {d : DataW H} {p : List MemPlace} (ht : P.underlying t = some (.slice e)) (he : P.underlying e = some (.slice q)) (hq : P.underlying q = some (.int .i64))
    (ce : P.cellsOf e = 1) (cq : P.cellsOf q = 1)
    (h : DataW.Trod enc P w 0 (fun _ => true) true t (.slice a len cap) d p) : ∃ R : List (List Int), Rows2 w w.heap.size a len R ∧ len ≤ 9223372036854775807 ∧ ∀ r ∈ R, r.length ≤ 9223372036854775807 := by
  obtain ⟨fuel, hf⟩ := h
  rcases open_int_rows ht he hq ce cq hf with ⟨hcs, _⟩ | ⟨ad, l, c, AA, L, C, Z, hcs, _, hl, hm, _, hc⟩
  · simp [Value.cells] at hcs
    obtain ⟨rfl, rfl, rfl⟩ := hcs
    exact ⟨[], Rows2.nil_ _ _ _, by omega, by simp⟩
  · simp [Value.cells] at hcs
    obtain ⟨rfl, rfl, rfl⟩ := hcs
    have hcap : cap ≤ 9223372036854775807 := by unfold maxLen at hm; omega
    have hlen : ∀ k, k < len → ((Z k).take (L k)).length = L k := fun k hk => by
      obtain ⟨_, h1, _, h2, _⟩ := hc k (by omega)
      rw [List.length_take]; omega
    refine ⟨(List.range len).map fun k => (Z k).take (L k), ⟨(List.range len).map fun k => .slice (AA k) (L k) (C k), ⟨by simp, fun hn => ?_⟩, by simp, fun k v r hv hr => ?_⟩, by omega, fun r hr => ?_⟩
    · obtain ⟨b, off, spot⟩ := ad
      have h0 := (hc 0 (by omega)).1
      have hspot : spot = none := by simpa [Addr.add] using World.cell?_spot h0
      subst hspot
      have hlt := World.block_lt_of_cell? w _ h0
      refine ⟨b, off, rfl, by simpa [Addr.add_lit] using hlt, fun k x hx j u hu => ?_⟩
      have hk : k < len := by
        have := (List.getElem?_eq_some_iff.1 hx).1
        simpa using this
      rw [List.getElem?_map, List.getElem?_range hk] at hx
      simp at hx
      subst hx
      have g := (hc k (by omega)).1
      rw [Addr.add_lit] at g
      rcases j with _ | j
      · simp [VV] at hu; subst hu; simpa using g
      · simp [VV] at hu
    · have hk : k < len := by
        have := (List.getElem?_eq_some_iff.1 hv).1
        simpa using this
      rw [List.getElem?_map, List.getElem?_range hk] at hv hr
      simp at hv hr
      subst hv; subst hr
      obtain ⟨_, h1, h2, h3, _, h5, h6⟩ := hc k (by omega)
      have hl' := hlen k hk
      refine ⟨AA k, C k, by rw [hl'], by rw [hl']; exact h1, ⟨rfl, fun h0 => ?_⟩⟩
      rw [hl'] at h0
      cases hA : AA k with
      | none => have := h5 hA; omega
      | some a' =>
        obtain ⟨_, h7⟩ := h6 a' hA
        obtain ⟨b, off, spot⟩ := a'
        have g0 := h7 0 (by omega)
        have hspot : spot = none := by simpa [Addr.add] using World.cell?_spot g0
        subst hspot
        have hlt := World.block_lt_of_cell? w _ g0
        refine ⟨b, off, rfl, by simpa [Addr.add_lit] using hlt, fun i x hx j u hu => ?_⟩
        have hi : i < L k := by
          have := (List.getElem?_eq_some_iff.1 hx).1
          rw [hl'] at this
          exact this
        have g := h7 i (by omega)
        rw [Addr.add_lit] at g
        rcases j with _ | j
        · simp [II] at hu; subst hu
          rw [Nat.mul_one, Nat.add_zero, g]
          rw [List.getElem?_take, if_pos hi] at hx
          rw [List.getD_eq_getElem?_getD, hx]
          rfl
        · simp [II] at hu
    · rw [List.mem_map] at hr
      obtain ⟨k, hk, rfl⟩ := hr
      have hk' : k < len := by simpa using hk
      rw [hlen k hk']
      obtain ⟨_, h1, h2, _⟩ := hc k (by omega)
      unfold maxLen at h2
      omega
end
end Go.Proofs.Ytfohfcpnhhiemaa
