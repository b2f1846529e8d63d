/-
  How an argument's reading gives the walks' own words: slices of structs of two numbers, of bytes.
-/
import Derived.Test.YtefadlbfkhndfaaGreatDoorGA
import Derived.ProofKit
import Derived.OpenShut
import Derived.ShutString
import Derived.ChangeOld
import Derived.Deep.SlicePairs
namespace Go.Proofs.YtefadlbfkhndfaaGreatDoor
open Go.ChangeShapes Go.WideShapes Go.ChangeAt Go.RowKit Go.Deep
set_option linter.unusedSimpArgs false
set_option linter.unusedVariables false

theorem laidOut : laidOutB Tryz.prog = true := by kernel_rfl
theorem own : ownKnob Tryz.prog.godebug = none := by kernel_rfl

section
variable {H : Type} {enc : TypeId × Value → H} {P : Program} {w : World}
theorem arr_of_pairs {t e ti : TypeId} {f0 f1 : Field} {a : Option Addr} {len cap : Nat} {d : DataW H} {p : List MemPlace} (ht : P.underlying t = some (.slice e)) (he : P.underlying e = some (.struct #[f0, f1]))
    (ce : P.cellsOf e = 2) (o0 : f0.offset = 0) (o1 : f1.offset = 1) (t0 : f0.type = ti) (t1 : f1.type = ti) (hti : P.underlying ti = some (.int .i64)) (c0 : P.cellsOf ti = 1)
    (h : DataW.Trod enc P w 0 (fun _ => true) true t (.slice a len cap) d p) : ∃ l, Arr PP 2 w w.heap.size a len l ∧ len ≤ 9223372036854775807 := by
  obtain ⟨fuel, hf⟩ := h
  rcases open_slice_pairs ht he ce o0 o1 (by rw [t0]; exact c0) (by rw [t1]; exact c0) hf with ⟨hcs, _⟩ | ⟨ad, l, c, m, n, V0, V1, D0, D1, P0, P1, hcs, _, hl, hm, hmm, _, hc⟩
  · simp [Value.cells] at hcs
    obtain ⟨rfl, rfl, rfl⟩ := hcs
    exact ⟨[], Arr.nil_ _ _ _ _ _, by omega⟩
  · simp [Value.cells] at hcs
    obtain ⟨rfl, rfl, rfl⟩ := hcs
    have hmc : m = cap := by simpa using hmm
    have ex : ∀ i, i < m → ∃ x y : Int, V0 i = .int .i64 x ∧ V1 i = .int .i64 y := by
      intro i hi
      obtain ⟨_, _, g0, g1⟩ := hc i hi
      rw [t0] at g0
      rw [t1] at g1
      obtain ⟨x, e0, _⟩ := DataW.trod_int hti g0
      obtain ⟨y, e1, _⟩ := DataW.trod_int hti g1
      exact ⟨x, y, by simpa using e0, by simpa using e1⟩
    let pr : Nat → Int × Int := fun i => (match V0 i with | .int _ x => x | _ => 0, match V1 i with | .int _ x => x | _ => 0)
    have hcap : cap ≤ 9223372036854775807 := by unfold maxLen at hm; omega
    refine ⟨(List.range len).map pr, ⟨by simp, fun hn => ?_⟩, by omega⟩
    obtain ⟨b, off, spot⟩ := ad
    have h0 := (hc 0 (by omega)).1
    have hspot : spot = none := by simpa [Addr.add] using World.cell?_spot h0
    subst hspot
    have hlt := World.block_lt_of_cell? w _ h0
    refine ⟨b, off, rfl, by simpa [Addr.add_lit] using hlt, fun k x hx j u hu => ?_⟩
    have hk : k < len := by
      have := (List.getElem?_eq_some_iff.1 hx).1
      simpa using this
    have hx' : x = pr k := by
      rw [List.getElem?_map, List.getElem?_range hk] at hx
      simpa using hx.symm
    obtain ⟨g0, g1, _, _⟩ := hc k (by omega)
    obtain ⟨x0, y0, e0, e1⟩ := ex k (by omega)
    rw [Addr.add_lit] at g0 g1
    have hp : pr k = (x0, y0) := by simp only [pr, e0, e1]
    rw [hx', hp] at hu
    rcases j with _ | _ | j
    · simp [PP] at hu; subst hu; rw [← e0]; exact g0
    · simp [PP] at hu; subst hu; rw [← e1]; rw [Nat.add_assoc]; exact g1
    · simp [PP] at hu

theorem arr_of_bytes {t e : TypeId} {a : Option Addr} {len cap : Nat} {d : DataW H} {p : List MemPlace} (ht : P.underlying t = some (.slice e)) (he : P.underlying e = some (.int .u8)) (ce : P.cellsOf e = 1)
    (h : DataW.Trod enc P w 0 (fun _ => true) true t (.slice a len cap) d p) : ∃ l, Arr BB 1 w w.heap.size a len l ∧ (∀ x ∈ l, 0 ≤ x ∧ x ≤ 255) ∧ len ≤ cap := by
  obtain ⟨fuel, hf⟩ := h
  rcases open_ints ht he ce hf with ⟨hcs, _⟩ | ⟨ad, l, c, zs, hcs, _, hl, hm, hz, _, hcell, hwz⟩
  · simp [Value.cells] at hcs
    obtain ⟨rfl, rfl, rfl⟩ := hcs
    exact ⟨[], Arr.nil_ _ _ _ _ _, by simp, Nat.le_refl _⟩
  · simp [Value.cells] at hcs
    obtain ⟨rfl, rfl, rfl⟩ := hcs
    have hz' : zs.length = cap := by simpa using hz
    refine ⟨zs.take len, ⟨by rw [List.length_take]; omega, fun hn => ?_⟩, ?_, hl⟩
    · obtain ⟨b, off, spot⟩ := ad
      have h0 := hcell 0 (by omega)
      have hspot : spot = none := by simpa [Addr.add] using World.cell?_spot h0
      subst hspot
      have hlt := World.block_lt_of_cell? w _ h0
      refine ⟨b, off, rfl, by simpa [Addr.add_lit] using hlt, fun k x hx j u hu => ?_⟩
      have hk : k < len := by
        have := (List.getElem?_eq_some_iff.1 hx).1
        rw [List.length_take] at this
        omega
      have g := hcell k (by omega)
      rw [Addr.add_lit] at g
      rcases j with _ | j
      · simp [BB] at hu; subst hu
        rw [Nat.mul_one, Nat.add_zero, g]
        rw [List.getElem?_take, if_pos hk] at hx
        rw [List.getD_eq_getElem?_getD, hx]
        rfl
      · simp [BB] at hu
    · intro x hx
      have := hwz x (List.mem_of_mem_take hx)
      simpa [Lit.wf, IntKind.min, IntKind.max, IntKind.signed, IntKind.bits] using this

theorem arr_of_layers {t e ti tb : TypeId} {f0 f1 : Field} {a : Option Addr} {len cap : Nat} {d : DataW H} {p : List MemPlace} (ht : P.underlying t = some (.slice e)) (he : P.underlying e = some (.struct #[f0, f1]))
    (ce : P.cellsOf e = 2) (o0 : f0.offset = 0) (o1 : f1.offset = 1) (t0 : f0.type = ti) (t1 : f1.type = tb) (hti : P.underlying ti = some (.int .i64)) (htb : P.underlying tb = some .bool) (c0 : P.cellsOf ti = 1) (c1 : P.cellsOf tb = 1)
    (h : DataW.Trod enc P w 0 (fun _ => true) true t (.slice a len cap) d p) : ∃ l, Arr LL 2 w w.heap.size a len l ∧ len ≤ 9223372036854775807 := by
  obtain ⟨fuel, hf⟩ := h
  rcases open_slice_pairs ht he ce o0 o1 (by rw [t0]; exact c0) (by rw [t1]; exact c1) hf with ⟨hcs, _⟩ | ⟨ad, l, c, m, n, V0, V1, D0, D1, P0, P1, hcs, _, hl, hm, hmm, _, hc⟩
  · simp [Value.cells] at hcs
    obtain ⟨rfl, rfl, rfl⟩ := hcs
    exact ⟨[], Arr.nil_ _ _ _ _ _, by omega⟩
  · simp [Value.cells] at hcs
    obtain ⟨rfl, rfl, rfl⟩ := hcs
    have hmc : m = cap := by simpa using hmm
    have ex : ∀ i, i < m → ∃ (x : Int) (y : Bool), V0 i = .int .i64 x ∧ V1 i = .bool y := by
      intro i hi
      obtain ⟨_, _, g0, g1⟩ := hc i hi
      rw [t0] at g0
      rw [t1] at g1
      obtain ⟨x, e0, _⟩ := DataW.trod_int hti g0
      obtain ⟨y, e1, _⟩ := DataW.trod_bool htb g1
      exact ⟨x, y, by simpa using e0, by simpa using e1⟩
    let pr : Nat → Int × Bool := fun i => (match V0 i with | .int _ x => x | _ => 0, match V1 i with | .bool x => x | _ => false)
    have hcap : cap ≤ 9223372036854775807 := by unfold maxLen at hm; omega
    refine ⟨(List.range len).map pr, ⟨by simp, fun hn => ?_⟩, by omega⟩
    obtain ⟨b, off, spot⟩ := ad
    have h0 := (hc 0 (by omega)).1
    have hspot : spot = none := by simpa [Addr.add] using World.cell?_spot h0
    subst hspot
    have hlt := World.block_lt_of_cell? w _ h0
    refine ⟨b, off, rfl, by simpa [Addr.add_lit] using hlt, fun k x hx j u hu => ?_⟩
    have hk : k < len := by
      have := (List.getElem?_eq_some_iff.1 hx).1
      simpa using this
    have hx' : x = pr k := by
      rw [List.getElem?_map, List.getElem?_range hk] at hx
      simpa using hx.symm
    obtain ⟨g0, g1, _, _⟩ := hc k (by omega)
    obtain ⟨x0, y0, e0, e1⟩ := ex k (by omega)
    rw [Addr.add_lit] at g0 g1
    have hp : pr k = (x0, y0) := by simp only [pr, e0, e1]
    rw [hx', hp] at hu
    rcases j with _ | _ | j
    · simp [LL] at hu; subst hu; rw [← e0]; exact g0
    · simp [LL] at hu; subst hu; rw [← e1]; rw [Nat.add_assoc]; exact g1
    · simp [LL] at hu
end
end Go.Proofs.YtefadlbfkhndfaaGreatDoor
