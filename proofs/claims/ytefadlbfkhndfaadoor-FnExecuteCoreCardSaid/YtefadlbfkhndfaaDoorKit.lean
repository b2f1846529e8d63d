/-
  Words for memory that all the walks of this seat share: a slice that reads as a list ('Arr'), the reader of a code ('Rd'), and what keeps them.
-/
import Derived.Test.YtefadlbfkhndfaaDoorProg
import Derived.WalkKit
import Derived.Handy
import Derived.BigQuiet
import Derived.Deep.QuietTactic
import Derived.Deep.LoopGhost
import Derived.Lib.Hide
namespace Go.Proofs.YtefadlbfkhndfaaDoor
open Go.RowKit
set_option linter.unusedSimpArgs false
set_option linter.unusedVariables false

/-! ### A slice that reads as a list -/
def Arr {α : Type} (f : α → List Value) (sz : Nat) (w : World) (B : Nat) (A : Option Addr) (n : Nat) (l : List α) : Prop :=
  l.length = n ∧ (0 < n → ∃ b off, A = some ⟨b, off, none⟩ ∧ b < B ∧ ∀ k x, l[k]? = some x → ∀ j u, (f x)[j]? = some u → w.cell? ⟨b, off + k * sz + j, none⟩ = some u)

def PP (p : Int × Int) : List Value := [.int .i64 p.1, .int .i64 p.2]
def II (x : Int) : List Value := [.int .i64 x]
def BB (x : Int) : List Value := [.int .u8 x]
def LL (p : Int × Bool) : List Value := [.int .i64 p.1, .bool p.2]
theorem PP_length (p : Int × Int) : (PP p).length = 2 := rfl
theorem II_length (p : Int) : (II p).length = 1 := rfl
theorem BB_length (p : Int) : (BB p).length = 1 := rfl
theorem LL_length (p : Int × Bool) : (LL p).length = 2 := rfl

section
variable {α : Type} {f : α → List Value} {sz : Nat} {w w' : World} {B B' : Nat} {A : Option Addr} {n : Nat} {l : List α}

theorem Arr.nil_ (f : α → List Value) (sz : Nat) (w : World) (B : Nat) (A : Option Addr) : Arr f sz w B A 0 [] := ⟨rfl, fun h => absurd h (by omega)⟩
theorem Arr.keep (h : Arr f sz w B A n l) (hk : ∀ p : Addr, p.block < B → w'.cell? p = w.cell? p) : Arr f sz w' B A n l :=
  ⟨h.1, fun hn => by
    obtain ⟨b, off, e, hb, hc⟩ := h.2 hn
    exact ⟨b, off, e, hb, fun k x hx j u hu => (hk _ hb).trans (hc k x hx j u hu)⟩⟩
theorem Arr.more (h : Arr f sz w B A n l) (hB : B ≤ B') : Arr f sz w B' A n l :=
  ⟨h.1, fun hn => by
    obtain ⟨b, off, e, hb, hc⟩ := h.2 hn
    exact ⟨b, off, e, by omega, hc⟩⟩
theorem Arr.below {C : Nat} (h : Arr f sz w B A n l) (hb : Below C w w') (hC : B ≤ C) : Arr f sz w' B A n l := h.keep fun _ hp => hb.cell (by omega)
theorem Arr.below' (h : Arr f sz w B A n l) (hb : Below B w w') : Arr f sz w' B A n l := h.below hb (Nat.le_refl _)
theorem Arr.alloc (h : Arr f sz w B A n l) (hB : B ≤ w.heap.size) (o : Obj) : Arr f sz (w.alloc o) B A n l := h.keep fun p hp => World.cell?_alloc_lt w o p (by omega)
theorem Arr.setCell (h : Arr f sz w B A n l) {p : Addr} (hB : B ≤ p.block) (u : Value) : Arr f sz (w.setCell p u) B A n l :=
  h.keep fun q hq => World.cell?_setCell_other w p q u (fun e => by subst e; omega)
theorem Arr.grown (h : Arr f sz w B A n l) {row : Option Nat} (hg : w.grownBy w' row) (hB : B ≤ w.heap.size) (hr : ∀ g, row = some g → B ≤ g) : Arr f sz w' B A n l :=
  h.keep fun p hp => World.cell?_of_block (hg.block p.block (by omega) (fun e => by have := hr _ e.symm; omega))
theorem Arr.take (h : Arr f sz w B A n l) {k : Nat} (hk : k ≤ n) : Arr f sz w B A k (l.take k) := by
  refine ⟨by rw [List.length_take, h.1]; omega, fun hk0 => ?_⟩
  obtain ⟨b, off, e, hb, hc⟩ := h.2 (by omega)
  refine ⟨b, off, e, hb, fun i x hx => hc i x ?_⟩
  rw [List.getElem?_take] at hx
  split at hx
  · exact hx
  · cases hx
theorem Arr.cutAt (h : Arr f sz w B A n l) {k cap : Nat} (hk : k ≤ n) (hc : n ≤ cap) :
    Arr f sz w B (if cap = k then A else A.map (·.add (k * sz))) (n - k) (l.drop k) := by
  refine ⟨by rw [List.length_drop, h.1], fun hn => ?_⟩
  obtain ⟨b, off, rfl, hb, hcell⟩ := h.2 (by omega)
  rw [if_neg (by omega)]
  refine ⟨b, off + k * sz, by simp [Addr.add_lit], hb, fun i x hx j u hu => ?_⟩
  rw [List.getElem?_drop] at hx
  have := hcell (k + i) x hx j u hu
  rw [show off + k * sz + i * sz + j = off + (k + i) * sz + j by rw [Nat.add_mul, Nat.add_assoc off]]
  exact this
end

theorem getElem?_flatMap {α : Type} {f : α → List Value} {sz : Nat} (hf : ∀ x, (f x).length = sz) : ∀ (l : List α) (k : Nat) (x : α) (j : Nat), l[k]? = some x → j < sz → (l.flatMap f)[k * sz + j]? = (f x)[j]? := by
  intro l
  induction l with
  | nil => intro k x j h; simp at h
  | cons y l ih =>
    intro k x j h hj
    rw [List.flatMap_cons]
    cases k with
    | zero =>
      simp at h; subst h
      rw [List.getElem?_append_left (by rw [hf]; omega)]
      simp
    | succ k =>
      rw [List.getElem?_append_right (by rw [hf, Nat.add_mul]; omega), hf]
      rw [show (k + 1) * sz + j - sz = k * sz + j by rw [Nat.add_mul]; omega]
      exact ih k x j (by simpa using h) hj

theorem length_flatMap {α : Type} {f : α → List Value} {sz : Nat} (hf : ∀ x, (f x).length = sz) (l : List α) : (l.flatMap f).length = l.length * sz := by
  induction l with
  | nil => simp
  | cons y l ih => rw [List.flatMap_cons, List.length_append, hf, ih, List.length_cons, Nat.add_mul]; omega

/-! ### A row of the call's own that reads as a list -/
def Own {α : Type} (f : α → List Value) (sz : Nat) (w : World) (base : Nat) (T : TypeId) (v : Value) (n : Nat) (l : List α) : Prop :=
  l.length = n ∧ w.ownsRow base T sz v n (l.flatMap f)

section
variable {α : Type} {f : α → List Value} {sz : Nat} {w w' : World} {base base' : Nat} {T : TypeId} {v : Value} {A : Option Addr} {n c : Nat} {l : List α}
theorem Own.form (h : Own f sz w base T v n l) : ∃ A c, v = .slice A n c ∧ n ≤ c ∧ c ≤ maxLen := by
  rcases h.2.2 with ⟨rfl, rfl⟩ | ⟨g, cap, cur, rfl, _, _, h1, h2, _⟩
  · exact ⟨none, 0, rfl, by omega, by unfold maxLen; omega⟩
  · exact ⟨_, _, rfl, h1, h2⟩
theorem Own.arr (h : Own f sz w base T (.slice A n c) n l) (hf : ∀ x, (f x).length = sz) : Arr f sz w w.heap.size A n l := by
  refine ⟨h.1, fun hn => ?_⟩
  rcases h.2.2 with ⟨_, h0⟩ | ⟨g, cap, cur, hv, hb, hg, hnc, _, hcs, htake⟩
  · omega
  · injection hv with hA _ _
    subst hA
    refine ⟨g, 0, rfl, (Array.getElem?_eq_some_iff.1 hg).1, fun k x hx j u hu => ?_⟩
    have hj : j < sz := by rw [← hf x]; exact (List.getElem?_eq_some_iff.1 hu).1
    have h1 := getElem?_flatMap hf l k x j hx hj
    rw [hu] at h1
    have := h.2.cells (g := g) rfl (k * sz + j) u h1
    rw [Addr.add_lit] at this
    rw [show 0 + k * sz + j = 0 + (k * sz + j) by omega]
    exact this
theorem Own.kept {row : Option Nat} (h : Own f sz w base T v n l) (hg : w.grownBy w' row) (hne : ∀ g, row = some g → g < base) : Own f sz w' base T v n l := by
  refine ⟨h.1, h.2.kept hg ?_⟩
  cases hv : v.ownBlock with
  | none => exact .inl rfl
  | some k =>
    right
    intro e
    have := hne k e.symm
    have := (h.2.lt k hv).1
    omega
theorem Own.below {C : Nat} (h : Own f sz w base T v n l) (hb : Below C w w') (hC : w.heap.size ≤ C) : Own f sz w' base T v n l :=
  ⟨h.1, h.2.kept (row := none) ⟨hb.os, hb.tape, hb.output, hb.size, fun k hk _ => hb.block k (by omega)⟩ (by cases v.ownBlock <;> simp)⟩
theorem Own.alloc (h : Own f sz w base T v n l) (o : Obj) : Own f sz (w.alloc o) base T v n l := ⟨h.1, h.2.alloc o⟩
theorem Own.drew (h : Own f sz w base T v n l) : Own f sz w.drew base T v n l := ⟨h.1, h.2.drew⟩
theorem Own.drewN (h : Own f sz w base T v n l) (k : Nat) : Own f sz (w.drewN k) base T v n l := h
theorem Own.less (h : Own f sz w base T v n l) (hb : base' ≤ base) : Own f sz w base' T v n l := by
  refine ⟨h.1, h.2.1, ?_⟩
  rcases h.2.2 with h0 | ⟨g, cap, cur, hv, hbg, r⟩
  · exact .inl h0
  · exact .inr ⟨g, cap, cur, hv, by omega, r⟩
theorem Own.relen {l' : List α} (h : Own f sz w base T v n l) (e : l' = l) : Own f sz w base T v l'.length l' := by
  subst e
  have := h.1
  rw [this]
  exact h
theorem Own.snoc' {x : α} {xs : List Value} (h1 : l.length = n) (e : xs = l.flatMap f ++ f x) (h : w.ownsRow base T sz v (n + 1) xs) : Own f sz w base T v (n + 1) (l ++ [x]) :=
  ⟨by simp [h1], by rw [e] at h; simpa using h⟩
theorem Own.nil_ (f : α → List Value) (sz : Nat) (w : World) (base : Nat) (T : TypeId) : Own f sz w base T (.slice none 0 0) 0 [] := ⟨rfl, World.ownsRow_nil w base T sz⟩
theorem Own.snoc {x : α} (h1 : l.length = n) (h : w.ownsRow base T sz v (n + 1) (l.flatMap f ++ f x)) : Own f sz w base T v (n + 1) (l ++ [x]) :=
  ⟨by simp [h1], by simpa using h⟩
end

theorem set_flatMap_PP : ∀ (L : List (Int × Int)) (k : Nat) (x y : Int), k < L.length → ((L.flatMap PP).set (k * 2) (.int .i64 x)).set (k * 2 + 1) (.int .i64 y) = (L.set k (x, y)).flatMap PP := by
  intro L
  induction L with
  | nil => intro k x y h; simp at h
  | cons o L ih =>
    intro k x y h
    cases k with
    | zero => simp [PP]
    | succ k =>
      rw [show (k + 1) * 2 = k * 2 + 2 by omega]
      simp only [List.flatMap_cons, PP, List.cons_append, List.nil_append, List.set_cons_succ, List.set_cons_succ]
      rw [ih k x y (by simpa using h)]
theorem set_flatMap_PP0 : ∀ (L : List (Int × Int)) (k : Nat) (x : Int) (o : Int × Int), L[k]? = some o → (L.flatMap PP).set (k * 2) (.int .i64 x) = (L.set k (x, o.2)).flatMap PP := by
  intro L
  induction L with
  | nil => intro k x y h; simp at h
  | cons o L ih =>
    intro k x y h
    cases k with
    | zero => simp at h; subst h; simp [PP]
    | succ k =>
      rw [show (k + 1) * 2 = k * 2 + 2 by omega]
      simp only [List.flatMap_cons, PP, List.cons_append, List.nil_append, List.set_cons_succ, List.set_cons_succ]
      rw [ih k x y (by simpa using h)]
theorem set_flatMap_PP1 : ∀ (L : List (Int × Int)) (k : Nat) (x : Int) (o : Int × Int), L[k]? = some o → (L.flatMap PP).set (k * 2 + 1) (.int .i64 x) = (L.set k (o.1, x)).flatMap PP := by
  intro L
  induction L with
  | nil => intro k x y h; simp at h
  | cons o L ih =>
    intro k x y h
    cases k with
    | zero => simp at h; subst h; simp [PP]
    | succ k =>
      rw [show (k + 1) * 2 + 1 = (k * 2 + 1) + 2 by omega]
      simp only [List.flatMap_cons, PP, List.cons_append, List.nil_append, List.set_cons_succ, List.set_cons_succ]
      rw [ih k x y (by simpa using h)]
theorem set_flatMap_II : ∀ (L : List Int) (k : Nat) (x : Int), (L.flatMap II).set k (.int .i64 x) = (L.set k x).flatMap II := by
  intro L
  induction L with
  | nil => intro k x; simp
  | cons o L ih =>
    intro k x
    cases k with
    | zero => simp [II]
    | succ k =>
      simp only [List.flatMap_cons, II, List.cons_append, List.nil_append, List.set_cons_succ]
      rw [← ih k x]

theorem mid_zero {α : Type} {l : List α} {n k : Nat} (z : α) (hl : l.length = n) (hk : k < n) : (l.take k ++ List.replicate (n - k) z)[k]? = some z := by
  have e : (l.take k).length = k := by rw [List.length_take]; omega
  rw [List.getElem?_append_right (by omega), e, Nat.sub_self, List.getElem?_replicate, if_pos (by omega)]
theorem mid_set {α : Type} {l : List α} {n k : Nat} {z x : α} (hl : l.length = n) (hk : k < n) (hx : l[k]? = some x) : (l.take k ++ List.replicate (n - k) z).set k x = l.take (k + 1) ++ List.replicate (n - (k + 1)) z := by
  have e : (l.take k).length = k := by rw [List.length_take]; omega
  rw [List.set_append_right _ _ (by omega), e, Nat.sub_self, List.take_add_one, hx, show n - k = (n - (k + 1)) + 1 by omega, List.replicate_succ]
  simp
theorem mid_end {α : Type} {l : List α} {n : Nat} (z : α) (hl : l.length = n) : l.take n ++ List.replicate (n - n) z = l := by
  rw [List.take_of_length_le (by omega)]; simp
theorem zeros_two (a b : Value) (n : Nat) : (madeCells #[a, b] (n * 2)).toList = (List.replicate n ()).flatMap fun _ => [a, b] := by
  induction n with
  | zero => simp [madeCells]
  | succ n ih =>
    rw [List.replicate_succ', List.flatMap_append, ← ih]
    apply List.ext_getElem?
    intro j
    rcases Nat.lt_or_ge j (n * 2) with h | h
    · rw [List.getElem?_append_left (by simp [madeCells]; omega)]
      simp only [madeCells, Array.toList_map, List.getElem?_map, Array.toList_range, List.getElem?_range h, List.getElem?_range (show j < (n + 1) * 2 by omega)]
    · rw [List.getElem?_append_right (by simp [madeCells]; omega)]
      rcases (show j = n * 2 ∨ j = n * 2 + 1 ∨ (n + 1) * 2 ≤ j by omega) with rfl | rfl | h2
      · simp [madeCells, Nat.add_mul]
      · simp [madeCells, Nat.add_mul, Nat.mul_add_mod]
      · rw [List.getElem?_eq_none (by simp [madeCells]; omega), List.getElem?_eq_none (by simp [madeCells]; omega)]
theorem flatMap_unit {α : Type} (f : α → List Value) (z : α) (n : Nat) : (List.replicate n ()).flatMap (fun _ => f z) = (List.replicate n z).flatMap f := by
  induction n with
  | zero => rfl
  | succ n ih => simp only [List.replicate_succ, List.flatMap_cons, ih]
theorem zeros_PP (n : Nat) : (List.replicate n ((0 : Int), (0 : Int))).flatMap PP = (madeCells (Value.agg #[.int .i64 0, .int .i64 0]).cells (n * 2)).toList := by
  rw [← flatMap_unit PP]
  exact (zeros_two _ _ n).symm
theorem zeros_LL (n : Nat) : (List.replicate n ((0 : Int), false)).flatMap LL = (madeCells (Value.agg #[.int .i64 0, .bool false]).cells (n * 2)).toList := by
  rw [← flatMap_unit LL]
  exact (zeros_two _ _ n).symm

section
variable {w : World} {base g n c k : Nat} {T : TypeId}
theorem Own.pairAt {L : List (Int × Int)} {x y : Int} (h : Own PP 2 w base T (.slice (some ⟨g, 0, none⟩) n c) n L) (hk : L[k]? = some (x, y)) :
    w.cell? ⟨g, k * 2, none⟩ = some (.int .i64 x) ∧ w.cell? ⟨g, k * 2 + 1, none⟩ = some (.int .i64 y) := by
  have hl : k < n := by rw [← h.1]; exact (List.getElem?_eq_some_iff.1 hk).1
  have h0 := h.2.cellAt (k * 2) (by omega)
  have h1 := h.2.cellAt (k * 2 + 1) (by omega)
  have g0 := getElem?_flatMap PP_length L k _ 0 hk (by omega)
  have g1 := getElem?_flatMap PP_length L k _ 1 hk (by omega)
  exact ⟨h0.trans g0, h1.trans g1⟩
theorem Own.intAt {L : List Int} {x : Int} (h : Own II 1 w base T (.slice (some ⟨g, 0, none⟩) n c) n L) (hk : L[k]? = some x) :
    w.cell? ⟨g, k, none⟩ = some (.int .i64 x) := by
  have hl : k < n := by rw [← h.1]; exact (List.getElem?_eq_some_iff.1 hk).1
  have h0 := h.2.cellAt k (by omega)
  have g0 := getElem?_flatMap II_length L k _ 0 hk (by omega)
  simp only [Nat.mul_one, Nat.add_zero] at g0
  exact h0.trans g0
theorem Own.setPair {L : List (Int × Int)} (h : Own PP 2 w base T (.slice (some ⟨g, 0, none⟩) n c) n L) (hk : k < n) (x y : Int) :
    Own PP 2 ((w.setCell ⟨g, k * 2, none⟩ (.int .i64 x)).setCell ⟨g, k * 2 + 1, none⟩ (.int .i64 y)) base T (.slice (some ⟨g, 0, none⟩) n c) n (L.set k (x, y)) := by
  have h1 := (h.2.stored (k * 2) (.int .i64 x)).1
  have h2 := (h1.stored (k * 2 + 1) (.int .i64 y)).1
  rw [set_flatMap_PP L k x y (by rw [h.1]; exact hk)] at h2
  exact ⟨by rw [List.length_set]; exact h.1, h2⟩
theorem Own.set0 {L : List (Int × Int)} {o : Int × Int} (h : Own PP 2 w base T (.slice (some ⟨g, 0, none⟩) n c) n L) (hk : L[k]? = some o) (x : Int) :
    Own PP 2 (w.setCell ⟨g, k * 2, none⟩ (.int .i64 x)) base T (.slice (some ⟨g, 0, none⟩) n c) n (L.set k (x, o.2)) := by
  have h1 := (h.2.stored (k * 2) (.int .i64 x)).1
  rw [set_flatMap_PP0 L k x o hk] at h1
  exact ⟨by rw [List.length_set]; exact h.1, h1⟩
theorem Own.set1 {L : List (Int × Int)} {o : Int × Int} (h : Own PP 2 w base T (.slice (some ⟨g, 0, none⟩) n c) n L) (hk : L[k]? = some o) (x : Int) :
    Own PP 2 (w.setCell ⟨g, k * 2 + 1, none⟩ (.int .i64 x)) base T (.slice (some ⟨g, 0, none⟩) n c) n (L.set k (o.1, x)) := by
  have h1 := (h.2.stored (k * 2 + 1) (.int .i64 x)).1
  rw [set_flatMap_PP1 L k x o hk] at h1
  exact ⟨by rw [List.length_set]; exact h.1, h1⟩
theorem Own.setInt {L : List Int} (h : Own II 1 w base T (.slice (some ⟨g, 0, none⟩) n c) n L) (x : Int) :
    Own II 1 (w.setCell ⟨g, k, none⟩ (.int .i64 x)) base T (.slice (some ⟨g, 0, none⟩) n c) n (L.set k x) := by
  have h1 := (h.2.stored k (.int .i64 x)).1
  rw [set_flatMap_II L k x] at h1
  exact ⟨by rw [List.length_set]; exact h.1, h1⟩
/-- A row of one element or more: its block, and where it lies. -/
theorem Own.head {α : Type} {f : α → List Value} {sz : Nat} {v : Value} {L : List α} (h : Own f sz w base T v n L) (hn : 0 < n) : ∃ g c, v = .slice (some ⟨g, 0, none⟩) n c ∧ base ≤ g ∧ g < w.heap.size ∧ n ≤ c := by
  rcases h.2.2 with ⟨_, h0⟩ | ⟨g, cap, cur, rfl, hb, hg, hnc, _⟩
  · omega
  · exact ⟨g, cap, rfl, hb, (Array.getElem?_eq_some_iff.1 hg).1, hnc⟩
theorem Own.block {α : Type} {f : α → List Value} {sz : Nat} {L : List α} (h : Own f sz w base T (.slice (some ⟨g, 0, none⟩) n c) n L) : base ≤ g ∧ g < w.heap.size := h.2.lt g rfl
end

/-- A call hands back a row of its own that reads as l; nothing that was there has turned. -/
def RetOwn {α : Type} (f : α → List Value) (sz : Nat) (T : TypeId) (w : World) (n : Nat) (l : List α) (e : Ending) (w' : World) : Prop :=
  ∃ A c, e = .returned (.slice A n c) ∧ Own f sz w' w.heap.size T (.slice A n c) n l ∧ Below w.heap.size w w'

theorem cell_new2 (w : World) (a b : Value) (T : TypeId) : ∀ j u, ([a, b] : List Value)[j]? = some u → (w.alloc (.cells #[a, b] T)).cell? ((⟨w.heap.size, 0, none⟩ : Addr).add j) = some u := by
  intro j u hu
  have hg : (w.alloc (.cells #[a, b] T)).heap[w.heap.size]? = some (.cells #[a, b] T (0, 0)) := heap_alloc_new w _
  rw [Addr.add_lit, Nat.zero_add, cell_of_row _ _ j _ _ _ hg]
  simpa using hu
theorem cell_new1 (w : World) (a : Value) (T : TypeId) : ∀ j u, ([a] : List Value)[j]? = some u → (w.alloc (.cells #[a] T)).cell? ((⟨w.heap.size, 0, none⟩ : Addr).add j) = some u := by
  intro j u hu
  have hg : (w.alloc (.cells #[a] T)).heap[w.heap.size]? = some (.cells #[a] T (0, 0)) := heap_alloc_new w _
  rw [Addr.add_lit, Nat.zero_add, cell_of_row _ _ j _ _ _ hg]
  simpa using hu
theorem one_PP (x y : Int) : ∀ u ∈ ([.int .i64 x, .int .i64 y] : List Value), u.oneCell' = true := by
  intro u hu; simp at hu; rcases hu with rfl | rfl <;> rfl
theorem one_LL (x : Int) (y : Bool) : ∀ u ∈ ([.int .i64 x, .bool y] : List Value), u.oneCell' = true := by
  intro u hu; simp at hu; rcases hu with rfl | rfl <;> rfl
theorem one_II (x : Int) : ∀ u ∈ ([.int .i64 x] : List Value), u.oneCell' = true := by
  intro u hu; simp at hu; subst hu; rfl
/-- A slice literal of no element: a row of the call's own. -/
theorem Own.made {α : Type} (f : α → List Value) (sz : Nat) (w : World) (base : Nat) (T : TypeId) (hb : base ≤ w.heap.size) : Own f sz (w.alloc (.cells #[] T)) base T (.slice (some ⟨w.heap.size, 0, none⟩) 0 0) 0 [] :=
  ⟨rfl, World.ownsRow_made w #[] 0 hb (by unfold maxLen; omega) (by simp)⟩

/-- The cells of a block that was made ahead of a step which turns another block. -/
theorem grown_cellAt {w w1 : World} {cs : Array Value} {T : TypeId} {g i : Nat} {v : Value} (hg : (w.alloc (.cells cs T)).grownBy w1 (some g)) (hlt : g < w.heap.size) (hv : cs[i]? = some v) :
    w1.cell? ⟨w.heap.size, i, none⟩ = some v := by
  have hn : (w.alloc (.cells cs T)).heap[w.heap.size]? = some (.cells cs T (0, 0)) := heap_alloc_new w _
  have := cell_of_row _ w.heap.size i _ _ _ hn
  exact hg.cell (this.trans hv) (by simp; omega)
theorem Own.first {w : World} {base G n c : Nat} {T : TypeId} {l : List (Int × Int)} (h : Own PP 2 w base T (.slice (some ⟨G, 0, none⟩) n c) n l) (hn : 0 < n) :
    ∃ a b, l[0]? = some (a, b) ∧ w.cell? ⟨G, 0, none⟩ = some (.int .i64 a) ∧ w.cell? ⟨G, 1, none⟩ = some (.int .i64 b) ∧ w.frozen? ⟨G, 0, none⟩ = false ∧ w.frozen? ⟨G, 1, none⟩ = false := by
  have hl : 0 < l.length := by rw [h.1]; exact hn
  have h0 : l[0]? = some (l[0].1, l[0].2) := List.getElem?_eq_getElem hl
  obtain ⟨c0, c1⟩ := h.pairAt h0
  simp only [Nat.zero_mul, Nat.zero_add] at c0 c1
  exact ⟨_, _, h0, c0, c1, h.2.frozenAt 0, h.2.frozenAt 1⟩

/-! ### The reader of a code -/
/-- Block g holds a reader: the bytes of the code (they lie below it) and its place. -/
def Rd (w : World) (g : Nat) (T : TypeId) (p : Nat) : Prop :=
  ∃ A n c l, w.heap[g]? = some (.cells #[.slice A n c, .int .i64 p] T (0, 0)) ∧ Arr BB 1 w g A n l ∧ (∀ x ∈ l, 0 ≤ x ∧ x ≤ 255) ∧ n ≤ 2000

theorem Rd.lt {w : World} {g : Nat} {T : TypeId} {p : Nat} (h : Rd w g T p) : g < w.heap.size := by
  obtain ⟨_, _, _, _, h, _⟩ := h
  exact (Array.getElem?_eq_some_iff.1 h).1
theorem Rd.kept {w w' : World} {g : Nat} {T : TypeId} {p : Nat} (h : Rd w g T p) (hb : ∀ k, k ≤ g → w'.heap[k]? = w.heap[k]?) : Rd w' g T p := by
  obtain ⟨A, n, c, l, h1, h2, h3, h4⟩ := h
  exact ⟨A, n, c, l, (hb g (Nat.le_refl _)).trans h1, h2.keep fun p hp => World.cell?_of_block (hb _ (by omega)), h3, h4⟩
theorem Rd.below {w w' : World} {g : Nat} {T : TypeId} {p : Nat} {C : Nat} (h : Rd w g T p) (hb : Below C w w') (hC : g < C) : Rd w' g T p := h.kept fun k hk => hb.block k (by omega)
theorem Rd.alloc {w : World} {g : Nat} {T : TypeId} {p : Nat} (h : Rd w g T p) (o : Obj) : Rd (w.alloc o) g T p := h.kept fun k hk => Below.heap_alloc w o k (by have := h.lt; omega)
theorem Rd.grown {w w' : World} {g : Nat} {T : TypeId} {p : Nat} {row : Option Nat} (h : Rd w g T p) (hg : w.grownBy w' row) (hr : ∀ k, row = some k → g < k) : Rd w' g T p :=
  h.kept fun k hk => hg.block k (by have := h.lt; omega) (fun e => by have := hr k e.symm; omega)

theorem grown_trans' {a b c : World} {row : Option Nat} (h : a.grownBy b row) (k : b.grownBy c row) : a.grownBy c row :=
  ⟨k.os.trans h.os, k.tape.trans h.tape, k.output.trans h.output, Nat.le_trans h.size k.size, fun i hi hn => (k.block i (Nat.lt_of_lt_of_le hi h.size) hn).trans (h.block i hi hn)⟩
theorem grown_of_below {a b : World} {C : Nat} (h : Below C a b) (hC : a.heap.size ≤ C) (row : Option Nat) : a.grownBy b row := ⟨h.os, h.tape, h.output, h.size, fun i hi _ => h.block i (by omega)⟩
theorem below_of_grown {a b : World} {row : Option Nat} {C : Nat} (h : a.grownBy b row) (hC : C ≤ a.heap.size) (hr : ∀ k, row = some k → C ≤ k) : Below C a b := (Below.refl C a).grown h hC hr
/-- What the call's own rows grow by is, for the caller, only what its named block and new blocks are. -/
theorem grown_step {a b c : World} {row row' : Option Nat} (h : a.grownBy b row) (k : b.grownBy c row') (hr : ∀ g, row' = some g → row = some g ∨ a.heap.size ≤ g) : a.grownBy c row :=
  ⟨k.os.trans h.os, k.tape.trans h.tape, k.output.trans h.output, Nat.le_trans h.size k.size, fun i hi hn => (k.block i (Nat.lt_of_lt_of_le hi h.size) (fun e => by
    rcases hr i e.symm with h1 | h1
    · exact hn h1.symm
    · omega)).trans (h.block i hi hn)⟩
theorem grown_alloc {a b : World} {row : Option Nat} (h : a.grownBy b row) (o : Obj) : a.grownBy (b.alloc o) row := grown_trans' h (World.grownBy_alloc b o row)
theorem grown_setCell {a b : World} {row : Option Nat} (h : a.grownBy b row) {p : Addr} (hp : row = some p.block ∨ a.heap.size ≤ p.block) (u : Value) : a.grownBy (b.setCell p u) row :=
  ⟨h.os, h.tape, h.output, by simpa [World.setCell] using h.size, fun i hi hn => (Below.heap_setCell b p u i (by
    rintro rfl
    rcases hp with hp | hp
    · exact hn hp.symm
    · omega)).trans (h.block i hi hn)⟩
theorem grown_drew {a b : World} {row : Option Nat} (h : a.grownBy b row) : a.grownBy b.drew row := ⟨h.os, h.tape, h.output, h.size, h.block⟩
theorem grown_drewN {a b : World} {row : Option Nat} (h : a.grownBy b row) (n : Nat) : a.grownBy (b.drewN n) row := ⟨h.os, h.tape, h.output, h.size, h.block⟩
theorem grown_refl (a : World) (row : Option Nat) : a.grownBy a row := World.grownBy.refl a row
theorem below_drewN {B : Nat} {a w : World} (h : Below B a w) (n : Nat) : Below B a (w.drewN n) := ⟨h.os, h.tape, h.output, h.size, h.block⟩
theorem w64 {n : Int} (h : 0 ≤ n ∧ n ≤ 4611686018427387904) : wrap64 n = n := IntWalk.wrap64_in n ⟨by omega, by omega⟩
theorem w64' {n : Int} (h : -4611686018427387904 ≤ n ∧ n ≤ 4611686018427387904) : wrap64 n = n := IntWalk.wrap64_in n ⟨by omega, by omega⟩
theorem ret_int {k : IntKind} {a b : Int} (h : a = b) : Ending.returned (.int k a) = .returned (.int k b) := by rw [h]
theorem ret_bool {a b : Bool} (h : a = b) : Ending.returned (.bool a) = .returned (.bool b) := by rw [h]

/-! ### The cells of an element, in the walk's own spelling -/
theorem Arr.pair {w : World} {B : Nat} {A : Option Addr} {n : Nat} {l : List (Int × Int)} (h : Arr PP 2 w B A n l) {k : Nat} (hk : k < n) :
    ∃ b off x y, A = some ⟨b, off, none⟩ ∧ b < B ∧ l[k]? = some (x, y) ∧ w.cell? ⟨b, off + k * 2, none⟩ = some (.int .i64 x) ∧ w.cell? ⟨b, off + k * 2 + 1, none⟩ = some (.int .i64 y) := by
  obtain ⟨b, off, e, hb, hc⟩ := h.2 (by omega)
  have hl : k < l.length := by have := h.1; omega
  exact ⟨b, off, l[k].1, l[k].2, e, hb, List.getElem?_eq_getElem hl, hc k _ (List.getElem?_eq_getElem hl) 0 _ rfl, hc k _ (List.getElem?_eq_getElem hl) 1 _ rfl⟩
theorem Arr.layer {w : World} {B : Nat} {A : Option Addr} {n : Nat} {l : List (Int × Bool)} (h : Arr LL 2 w B A n l) {k : Nat} (hk : k < n) :
    ∃ b off x y, A = some ⟨b, off, none⟩ ∧ b < B ∧ l[k]? = some (x, y) ∧ w.cell? ⟨b, off + k * 2, none⟩ = some (.int .i64 x) ∧ w.cell? ⟨b, off + k * 2 + 1, none⟩ = some (.bool y) := by
  obtain ⟨b, off, e, hb, hc⟩ := h.2 (by omega)
  have hl : k < l.length := by have := h.1; omega
  exact ⟨b, off, l[k].1, l[k].2, e, hb, List.getElem?_eq_getElem hl, hc k _ (List.getElem?_eq_getElem hl) 0 _ rfl, hc k _ (List.getElem?_eq_getElem hl) 1 _ rfl⟩
theorem Arr.int {w : World} {B : Nat} {A : Option Addr} {n : Nat} {l : List Int} (h : Arr II 1 w B A n l) {k : Nat} (hk : k < n) :
    ∃ b off x, A = some ⟨b, off, none⟩ ∧ b < B ∧ l[k]? = some x ∧ w.cell? ⟨b, off + k, none⟩ = some (.int .i64 x) := by
  obtain ⟨b, off, e, hb, hc⟩ := h.2 (by omega)
  have hl : k < l.length := by have := h.1; omega
  exact ⟨b, off, l[k], e, hb, List.getElem?_eq_getElem hl, by have := hc k _ (List.getElem?_eq_getElem hl) 0 _ rfl; simpa using this⟩
theorem Arr.byte {w : World} {B : Nat} {A : Option Addr} {n : Nat} {l : List Int} (h : Arr BB 1 w B A n l) {k : Nat} (hk : k < n) :
    ∃ b off x, A = some ⟨b, off, none⟩ ∧ b < B ∧ l[k]? = some x ∧ w.cell? ⟨b, off + k, none⟩ = some (.int .u8 x) := by
  obtain ⟨b, off, e, hb, hc⟩ := h.2 (by omega)
  have hl : k < l.length := by have := h.1; omega
  exact ⟨b, off, l[k], e, hb, List.getElem?_eq_getElem hl, by have := hc k _ (List.getElem?_eq_getElem hl) 0 _ rfl; simpa using this⟩
end Go.Proofs.YtefadlbfkhndfaaDoor
