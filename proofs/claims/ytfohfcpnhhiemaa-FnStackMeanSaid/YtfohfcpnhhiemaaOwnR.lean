/-
  Rows that the call made: an outer row of its own, inner rows of its own, all in blocks apart.
-/
import Derived.Test.YtfohfcpnhhiemaaKitR
namespace Go.Proofs.Ytfohfcpnhhiemaa
open Go.RowKit
set_option linter.unusedSimpArgs false
set_option linter.unusedVariables false

structure OwnRR (w : World) (base : Nat) (T T' : TypeId) (v : Value) (n : Nat) (vs : List Value) (R : List (List Int)) : Prop where
  own : Own VV 1 w base T v n vs
  len : vs.length = R.length
  row : ∀ (k : Nat) u r, vs[k]? = some u → R[k]? = some r → Own II 1 w base T' u r.length r
  out : ∀ (k : Nat) u, vs[k]? = some u → ∀ g, u.ownBlock = some g → v.ownBlock ≠ some g
  apart : ∀ (i j : Nat) u u', i ≠ j → vs[i]? = some u → vs[j]? = some u' → ∀ g, u.ownBlock = some g → u'.ownBlock ≠ some g
section
variable {w w' : World} {base base' : Nat} {T T' : TypeId} {v v' : Value} {A : Option Addr} {n c : Nat} {vs : List Value} {R : List (List Int)} {r : List Int} {u : Value}
theorem OwnRR.lenR (h : OwnRR w base T T' v n vs R) : R.length = n := by rw [← h.len, h.own.1]
theorem OwnRR.kept {row : Option Nat} (h : OwnRR w base T T' v n vs R) (hg : w.grownBy w' row) (hr : ∀ g, row = some g → g < base) : OwnRR w' base T T' v n vs R :=
  ⟨h.own.kept hg hr, h.len, fun k u r hu hk => (h.row k u r hu hk).kept hg hr, h.out, h.apart⟩
theorem OwnRR.below {C : Nat} (h : OwnRR w base T T' v n vs R) (hb : Below C w w') (hC : w.heap.size ≤ C) : OwnRR w' base T T' v n vs R :=
  ⟨h.own.below hb hC, h.len, fun k u r hu hk => (h.row k u r hu hk).below hb hC, h.out, h.apart⟩
theorem OwnRR.alloc (h : OwnRR w base T T' v n vs R) (o : Obj) : OwnRR (w.alloc o) base T T' v n vs R := h.below ((Below.refl w.heap.size w).alloc (Nat.le_refl _) o) (Nat.le_refl _)
theorem OwnRR.drewN (h : OwnRR w base T T' v n vs R) (q : Nat) : OwnRR (w.drewN q) base T T' v n vs R := ⟨h.own, h.len, h.row, h.out, h.apart⟩
theorem OwnRR.less (h : OwnRR w base T T' v n vs R) (hb : base' ≤ base) : OwnRR w base' T T' v n vs R :=
  ⟨h.own.less hb, h.len, fun k u r hu hk => (h.row k u r hu hk).less hb, h.out, h.apart⟩
theorem OwnRR.nil_ (w : World) (base : Nat) (T T' : TypeId) : OwnRR w base T T' (.slice none 0 0) 0 [] [] := ⟨Own.nil_ _ _ _ _ _, rfl, fun k u r h => by simp at h, fun k u h => by simp at h, fun i j u u' _ h => by simp at h⟩
theorem OwnRR.made (w : World) (base : Nat) (T T' : TypeId) (hb : base ≤ w.heap.size) : OwnRR (w.alloc (.cells #[] T)) base T T' (.slice (some ⟨w.heap.size, 0, none⟩) 0 0) 0 [] [] :=
  ⟨Own.made VV 1 w base T hb, rfl, fun k u r h => by simp at h, fun k u h => by simp at h, fun i j u u' _ h => by simp at h⟩
/-- Every block of the rows lies below the heap's end. -/
theorem OwnRR.lt (h : OwnRR w base T T' v n vs R) {k : Nat} (hk : vs[k]? = some u) : ∀ g, u.ownBlock = some g → base ≤ g ∧ g < w.heap.size := by
  intro g hg
  have hkl : k < R.length := by rw [← h.len]; exact (List.getElem?_eq_some_iff.1 hk).1
  exact (h.row k u _ hk (List.getElem?_eq_getElem hkl)).2.lt g hg
theorem OwnRR.rows (h : OwnRR w base T T' (.slice A n c) n vs R) : Rows2 w w.heap.size A n R := by
  refine ⟨vs, h.own.arr VV_length, h.len, fun k u r hu hr => ?_⟩
  have ho := h.row k u r hu hr
  obtain ⟨A', c', e, hc, _⟩ := ho.form
  subst e
  exact ⟨A', c', rfl, hc, ho.arr II_length⟩
/-- A further row is appended. -/
theorem OwnRR.snoc {B0 : Nat} (h : OwnRR w base T T' v n vs R) (hu : Own II 1 w base T' u r.length r) (hd : ∀ g, u.ownBlock = some g → B0 ≤ g ∧ g < w.heap.size)
    (hv : ∀ g, v.ownBlock = some g → g < B0) (ho : ∀ (k : Nat) u', vs[k]? = some u' → ∀ g, u'.ownBlock = some g → g < B0)
    (hO : w'.ownsRow base T 1 v' (n + 1) (vs.flatMap VV ++ [u])) (hg : (w.alloc (.cells #[u] T)).grownBy w' v.ownBlock) (hat : v'.ownBlock = v.ownBlock ∨ v'.ownBlock = some (w.alloc (.cells #[u] T)).heap.size) :
    OwnRR w' base T T' v' (n + 1) (vs ++ [u]) (R ++ [r]) := by
  have hne : ∀ g, v.ownBlock = some g → u.ownBlock ≠ some g := fun g h1 h2 => by have := hv g h1; have := (hd g h2).1; omega
  have hgu : ∀ (k : Nat) u', vs[k]? = some u' → ∀ g, u'.ownBlock = some g → v'.ownBlock ≠ some g := fun k u' hk g h1 h2 => by
    rcases hat with h3 | h3
    · exact h.out k u' hk g h1 (h3.symm.trans h2)
    · rw [h2] at h3
      injection h3 with h3
      have := (h.lt hk g h1).2
      simp only [World.size_alloc] at h3
      omega
  refine ⟨Own.snoc' h.own.1 (by simp [VV]) hO, by simp [h.len], fun k u' r' hk hr => ?_, fun k u' hk g h1 h2 => ?_, fun i j u1 u2 hij hi hj g h1 h2 => ?_⟩
  · rcases Nat.lt_or_ge k vs.length with hl | hl
    · rw [List.getElem?_append_left hl] at hk
      rw [List.getElem?_append_left (by rw [← h.len]; exact hl)] at hr
      have := (h.row k u' r' hk hr).alloc (.cells #[u] T)
      refine ⟨this.1, this.2.kept hg ?_⟩
      cases hub : u'.ownBlock with
      | none => exact .inl rfl
      | some g => exact .inr fun e => h.out k u' hk g hub e.symm
    · rw [List.getElem?_append_right hl] at hk
      rw [List.getElem?_append_right (by rw [← h.len]; exact hl)] at hr
      have e0 : k - vs.length = 0 := by have := (List.getElem?_eq_some_iff.1 hk).1; simp at this; omega
      rw [e0] at hk
      rw [← h.len, e0] at hr
      simp at hk hr
      subst hk; subst hr
      have := hu.alloc (.cells #[u] T)
      refine ⟨this.1, this.2.kept hg ?_⟩
      cases hub : u.ownBlock with
      | none => exact .inl rfl
      | some g => exact .inr fun e => hne g e.symm hub
  · rcases Nat.lt_or_ge k vs.length with hl | hl
    · rw [List.getElem?_append_left hl] at hk
      exact hgu k u' hk g h1 h2
    · rw [List.getElem?_append_right hl] at hk
      have e0 : k - vs.length = 0 := by have := (List.getElem?_eq_some_iff.1 hk).1; simp at this; omega
      rw [e0] at hk
      simp at hk
      subst hk
      rcases hat with h3 | h3
      · exact hne g (h3.symm.trans h2) h1
      · rw [h2] at h3
        injection h3 with h3
        have := (hd g h1).2
        simp only [World.size_alloc] at h3
        omega
  · rcases Nat.lt_or_ge i vs.length with hl | hl
    · rw [List.getElem?_append_left hl] at hi
      rcases Nat.lt_or_ge j vs.length with hl2 | hl2
      · rw [List.getElem?_append_left hl2] at hj
        exact h.apart i j u1 u2 hij hi hj g h1 h2
      · rw [List.getElem?_append_right hl2] at hj
        have e0 : j - vs.length = 0 := by have := (List.getElem?_eq_some_iff.1 hj).1; simp at this; omega
        rw [e0] at hj
        simp at hj
        subst hj
        have := ho i u1 hi g h1
        have := (hd g h2).1
        omega
    · rw [List.getElem?_append_right hl] at hi
      have e0 : i - vs.length = 0 := by have := (List.getElem?_eq_some_iff.1 hi).1; simp at this; omega
      rw [e0] at hi
      simp at hi
      subst hi
      rcases Nat.lt_or_ge j vs.length with hl2 | hl2
      · rw [List.getElem?_append_left hl2] at hj
        have := ho j u2 hj g h2
        have := (hd g h1).1
        omega
      · have := (List.getElem?_eq_some_iff.1 hj).1
        simp at this
        omega
/-- One of the rows is turned (in its own block or a new one); the outer row holds it. -/
theorem OwnRR.turn {k : Nat} {g : Nat} {u' : Value} {r' : List Int} (h : OwnRR w base T T' (.slice (some ⟨g, 0, none⟩) n c) n vs R) (hk : vs[k]? = some u)
    (hu : Own II 1 w' base T' u' r'.length r') (hg : w.grownBy w' u.ownBlock) (hat : u'.ownBlock = u.ownBlock ∨ (∃ g', u'.ownBlock = some g' ∧ w.heap.size ≤ g')) :
    OwnRR (w'.setCell ⟨g, k, none⟩ u') base T T' (.slice (some ⟨g, 0, none⟩) n c) n (vs.set k u') (R.set k r') := by
  have hkl : k < vs.length := (List.getElem?_eq_some_iff.1 hk).1
  have hgo := h.own.2.lt g rfl
  have hout : ∀ (j : Nat) x, vs[j]? = some x → x.ownBlock ≠ some g := fun j x hx e => h.out j x hx g e rfl
  have hu'g : u'.ownBlock ≠ some g := by
    rcases hat with h1 | ⟨g', h1, h2⟩
    · rw [h1]; exact hout k u hk
    · rw [h1]; intro e; injection e with e; omega
  have hapart : ∀ (j : Nat) x, j ≠ k → vs[j]? = some x → ∀ b, x.ownBlock = some b → u'.ownBlock ≠ some b := fun j x hjk hx b h1 h2 => by
    rcases hat with h3 | ⟨g', h3, h4⟩
    · exact h.apart j k x u hjk hx hk b h1 (h3.symm.trans h2)
    · rw [h3] at h2
      injection h2 with h2
      have := (h.lt hx b h1).2
      omega
  have hown' : w'.ownsRow base T 1 (.slice (some ⟨g, 0, none⟩) n c) n (vs.flatMap VV) := h.own.2.kept hg (.inr fun e => hout k u hk e.symm)
  have hset := hown'.stored k u'
  have keepRow : ∀ x (l : List Int), Own II 1 w' base T' x l.length l → x.ownBlock ≠ some g → Own II 1 (w'.setCell ⟨g, k, none⟩ u') base T' x l.length l := fun x l hx hne =>
    ⟨hx.1, hx.2.kept hset.2 (.inr hne)⟩
  refine ⟨⟨by rw [List.length_set]; exact h.own.1, ?_⟩, by simp [h.len], fun j x l hx hl => ?_, fun j x hx b h1 h2 => ?_, fun i j x y hij hx hy b h1 h2 => ?_⟩
  · have := hset.1
    rw [flatMap_VV] at this
    rw [flatMap_VV]
    exact this
  · rw [List.getElem?_set] at hx hl
    split at hx
    · rename_i e
      subst e
      rw [if_pos rfl] at hl
      try rw [if_pos hkl] at hx
      rw [if_pos (by rw [← h.len]; exact hkl)] at hl
      injection hx with hx
      injection hl with hl
      subst hx; subst hl
      exact keepRow _ _ hu hu'g
    · rename_i e
      rw [if_neg e] at hl
      have h0 := h.row j x l hx hl
      refine keepRow _ _ ⟨h0.1, h0.2.kept hg ?_⟩ (hout j x hx)
      cases hxb : x.ownBlock with
      | none => exact .inl rfl
      | some b => exact .inr fun e2 => h.apart j k x u (fun e3 => e e3.symm) hx hk b hxb e2.symm
  · rw [List.getElem?_set] at hx
    split at hx
    · try rw [if_pos hkl] at hx
      injection hx with hx
      subst hx
      simp [Value.ownBlock] at h2
      subst h2
      exact hu'g h1
    · exact h.out j x hx b h1 h2
  · rw [List.getElem?_set] at hx hy
    split at hx
    · rename_i e
      subst e
      try rw [if_pos hkl] at hx
      injection hx with hx
      subst hx
      rw [if_neg (fun e2 => hij e2)] at hy
      exact hapart j y (fun e2 => hij e2.symm) hy b h2 h1
    · rename_i e
      split at hy
      · rename_i e2
        try rw [if_pos hkl] at hy
        injection hy with hy
        subst hy
        exact hapart i x (fun e3 => e e3.symm) hx b h1 h2
      · exact h.apart i j x y hij hx hy b h1 h2
end
end Go.Proofs.Ytfohfcpnhhiemaa
