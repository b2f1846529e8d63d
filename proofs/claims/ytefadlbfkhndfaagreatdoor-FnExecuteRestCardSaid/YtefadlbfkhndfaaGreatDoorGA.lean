/-
  What the texts below prove: contracts and plain laws, each with its conditions.
-/
import Derived.Test.YtefadlbfkhndfaaGreatDoorProg
import Derived.WalkKit
import Derived.Handy
import Derived.BigQuiet
import Derived.Deep.QuietTactic
import Derived.Deep.LoopGhost
import Derived.Lib.Hide
import Derived.Maps.AppendAt
import Derived.Deep.AppendLies
import Derived.Deep.RegionLaw
import Derived.RegionTactic
import Derived.OwnWalk
import Derived.StillTailTactics

/-
  Words for memory that all the walks of this seat share: a slice that reads as a list ('Arr'), the reader of a code ('Rd'), and what keeps them.
-/
namespace Go.Proofs.YtefadlbfkhndfaaGreatDoor
open Go.RowKit
set_option linter.unusedSimpArgs false
set_option linter.unusedVariables false

/-! ### A slice that reads as a list -/
def Arr {α : Type} (f : α → List Value) (sz : Nat) (w : World) (B : Nat) (A : Option Addr) (n : Nat) (l : List α) : Prop :=
  l.length = n ∧ (0 < n → ∃ b off, A = some ⟨b, off, none⟩ ∧ b < B ∧ ∀ k x, l[k]? = some x → ∀ j u, (f x)[j]? = some u → w.cell? ⟨b, off + k * sz + j, none⟩ = some u)

def PP (p : Int × Int) : List Value := [.int .i64 p.1, .int .i64 p.2]
def II (x : Int) : List Value := [.int .i64 x]
def BB (x : Int) : List Value := [.int .u8 x]
def LL (p : Int × Bool) : List Value := [.int .i64 p.1, .bool p.2]
theorem PP_length (p : Int × Int) : (PP p).length = 2 := rfl
theorem II_length (p : Int) : (II p).length = 1 := rfl
theorem BB_length (p : Int) : (BB p).length = 1 := rfl
theorem LL_length (p : Int × Bool) : (LL p).length = 2 := rfl

section
variable {α : Type} {f : α → List Value} {sz : Nat} {w w' : World} {B B' : Nat} {A : Option Addr} {n : Nat} {l : List α}

theorem Arr.nil_ (f : α → List Value) (sz : Nat) (w : World) (B : Nat) (A : Option Addr) : Arr f sz w B A 0 [] := ⟨rfl, fun h => absurd h (by omega)⟩
theorem Arr.keep (h : Arr f sz w B A n l) (hk : ∀ p : Addr, p.block < B → w'.cell? p = w.cell? p) : Arr f sz w' B A n l :=
  ⟨h.1, fun hn => by
    obtain ⟨b, off, e, hb, hc⟩ := h.2 hn
    exact ⟨b, off, e, hb, fun k x hx j u hu => (hk _ hb).trans (hc k x hx j u hu)⟩⟩
theorem Arr.more (h : Arr f sz w B A n l) (hB : B ≤ B') : Arr f sz w B' A n l :=
  ⟨h.1, fun hn => by
    obtain ⟨b, off, e, hb, hc⟩ := h.2 hn
    exact ⟨b, off, e, by omega, hc⟩⟩
theorem Arr.below {C : Nat} (h : Arr f sz w B A n l) (hb : Below C w w') (hC : B ≤ C) : Arr f sz w' B A n l := h.keep fun _ hp => hb.cell (by omega)
theorem Arr.below' (h : Arr f sz w B A n l) (hb : Below B w w') : Arr f sz w' B A n l := h.below hb (Nat.le_refl _)
theorem Arr.alloc (h : Arr f sz w B A n l) (hB : B ≤ w.heap.size) (o : Obj) : Arr f sz (w.alloc o) B A n l := h.keep fun p hp => World.cell?_alloc_lt w o p (by omega)
theorem Arr.setCell (h : Arr f sz w B A n l) {p : Addr} (hB : B ≤ p.block) (u : Value) : Arr f sz (w.setCell p u) B A n l :=
  h.keep fun q hq => World.cell?_setCell_other w p q u (fun e => by subst e; omega)
theorem Arr.grown (h : Arr f sz w B A n l) {row : Option Nat} (hg : w.grownBy w' row) (hB : B ≤ w.heap.size) (hr : ∀ g, row = some g → B ≤ g) : Arr f sz w' B A n l :=
  h.keep fun p hp => World.cell?_of_block (hg.block p.block (by omega) (fun e => by have := hr _ e.symm; omega))
theorem Arr.take (h : Arr f sz w B A n l) {k : Nat} (hk : k ≤ n) : Arr f sz w B A k (l.take k) := by
  refine ⟨by rw [List.length_take, h.1]; omega, fun hk0 => ?_⟩
  obtain ⟨b, off, e, hb, hc⟩ := h.2 (by omega)
  refine ⟨b, off, e, hb, fun i x hx => hc i x ?_⟩
  rw [List.getElem?_take] at hx
  split at hx
  · exact hx
  · cases hx
theorem Arr.cutAt (h : Arr f sz w B A n l) {k cap : Nat} (hk : k ≤ n) (hc : n ≤ cap) :
    Arr f sz w B (if cap = k then A else A.map (·.add (k * sz))) (n - k) (l.drop k) := by
  refine ⟨by rw [List.length_drop, h.1], fun hn => ?_⟩
  obtain ⟨b, off, rfl, hb, hcell⟩ := h.2 (by omega)
  rw [if_neg (by omega)]
  refine ⟨b, off + k * sz, by simp [Addr.add_lit], hb, fun i x hx j u hu => ?_⟩
  rw [List.getElem?_drop] at hx
  have := hcell (k + i) x hx j u hu
  rw [show off + k * sz + i * sz + j = off + (k + i) * sz + j by rw [Nat.add_mul, Nat.add_assoc off]]
  exact this
end

theorem getElem?_flatMap {α : Type} {f : α → List Value} {sz : Nat} (hf : ∀ x, (f x).length = sz) : ∀ (l : List α) (k : Nat) (x : α) (j : Nat), l[k]? = some x → j < sz → (l.flatMap f)[k * sz + j]? = (f x)[j]? := by
  intro l
  induction l with
  | nil => intro k x j h; simp at h
  | cons y l ih =>
    intro k x j h hj
    rw [List.flatMap_cons]
    cases k with
    | zero =>
      simp at h; subst h
      rw [List.getElem?_append_left (by rw [hf]; omega)]
      simp
    | succ k =>
      rw [List.getElem?_append_right (by rw [hf, Nat.add_mul]; omega), hf]
      rw [show (k + 1) * sz + j - sz = k * sz + j by rw [Nat.add_mul]; omega]
      exact ih k x j (by simpa using h) hj

theorem length_flatMap {α : Type} {f : α → List Value} {sz : Nat} (hf : ∀ x, (f x).length = sz) (l : List α) : (l.flatMap f).length = l.length * sz := by
  induction l with
  | nil => simp
  | cons y l ih => rw [List.flatMap_cons, List.length_append, hf, ih, List.length_cons, Nat.add_mul]; omega

/-! ### A row of the call's own that reads as a list -/
def Own {α : Type} (f : α → List Value) (sz : Nat) (w : World) (base : Nat) (T : TypeId) (v : Value) (n : Nat) (l : List α) : Prop :=
  l.length = n ∧ w.ownsRow base T sz v n (l.flatMap f)

section
variable {α : Type} {f : α → List Value} {sz : Nat} {w w' : World} {base base' : Nat} {T : TypeId} {v : Value} {A : Option Addr} {n c : Nat} {l : List α}
theorem Own.form (h : Own f sz w base T v n l) : ∃ A c, v = .slice A n c ∧ n ≤ c ∧ c ≤ maxLen := by
  rcases h.2.2 with ⟨rfl, rfl⟩ | ⟨g, cap, cur, rfl, _, _, h1, h2, _⟩
  · exact ⟨none, 0, rfl, by omega, by unfold maxLen; omega⟩
  · exact ⟨_, _, rfl, h1, h2⟩
theorem Own.arr (h : Own f sz w base T (.slice A n c) n l) (hf : ∀ x, (f x).length = sz) : Arr f sz w w.heap.size A n l := by
  refine ⟨h.1, fun hn => ?_⟩
  rcases h.2.2 with ⟨_, h0⟩ | ⟨g, cap, cur, hv, hb, hg, hnc, _, hcs, htake⟩
  · omega
  · injection hv with hA _ _
    subst hA
    refine ⟨g, 0, rfl, (Array.getElem?_eq_some_iff.1 hg).1, fun k x hx j u hu => ?_⟩
    have hj : j < sz := by rw [← hf x]; exact (List.getElem?_eq_some_iff.1 hu).1
    have h1 := getElem?_flatMap hf l k x j hx hj
    rw [hu] at h1
    have := h.2.cells (g := g) rfl (k * sz + j) u h1
    rw [Addr.add_lit] at this
    rw [show 0 + k * sz + j = 0 + (k * sz + j) by omega]
    exact this
theorem Own.kept {row : Option Nat} (h : Own f sz w base T v n l) (hg : w.grownBy w' row) (hne : ∀ g, row = some g → g < base) : Own f sz w' base T v n l := by
  refine ⟨h.1, h.2.kept hg ?_⟩
  cases hv : v.ownBlock with
  | none => exact .inl rfl
  | some k =>
    right
    intro e
    have := hne k e.symm
    have := (h.2.lt k hv).1
    omega
theorem Own.below {C : Nat} (h : Own f sz w base T v n l) (hb : Below C w w') (hC : w.heap.size ≤ C) : Own f sz w' base T v n l :=
  ⟨h.1, h.2.kept (row := none) ⟨hb.os, hb.tape, hb.output, hb.size, fun k hk _ => hb.block k (by omega)⟩ (by cases v.ownBlock <;> simp)⟩
theorem Own.alloc (h : Own f sz w base T v n l) (o : Obj) : Own f sz (w.alloc o) base T v n l := ⟨h.1, h.2.alloc o⟩
theorem Own.drew (h : Own f sz w base T v n l) : Own f sz w.drew base T v n l := ⟨h.1, h.2.drew⟩
theorem Own.drewN (h : Own f sz w base T v n l) (k : Nat) : Own f sz (w.drewN k) base T v n l := h
theorem Own.less (h : Own f sz w base T v n l) (hb : base' ≤ base) : Own f sz w base' T v n l := by
  refine ⟨h.1, h.2.1, ?_⟩
  rcases h.2.2 with h0 | ⟨g, cap, cur, hv, hbg, r⟩
  · exact .inl h0
  · exact .inr ⟨g, cap, cur, hv, by omega, r⟩
theorem Own.relen {l' : List α} (h : Own f sz w base T v n l) (e : l' = l) : Own f sz w base T v l'.length l' := by
  subst e
  have := h.1
  rw [this]
  exact h
theorem Own.snoc' {x : α} {xs : List Value} (h1 : l.length = n) (e : xs = l.flatMap f ++ f x) (h : w.ownsRow base T sz v (n + 1) xs) : Own f sz w base T v (n + 1) (l ++ [x]) :=
  ⟨by simp [h1], by rw [e] at h; simpa using h⟩
theorem Own.nil_ (f : α → List Value) (sz : Nat) (w : World) (base : Nat) (T : TypeId) : Own f sz w base T (.slice none 0 0) 0 [] := ⟨rfl, World.ownsRow_nil w base T sz⟩
theorem Own.snoc {x : α} (h1 : l.length = n) (h : w.ownsRow base T sz v (n + 1) (l.flatMap f ++ f x)) : Own f sz w base T v (n + 1) (l ++ [x]) :=
  ⟨by simp [h1], by simpa using h⟩
end

theorem set_flatMap_PP : ∀ (L : List (Int × Int)) (k : Nat) (x y : Int), k < L.length → ((L.flatMap PP).set (k * 2) (.int .i64 x)).set (k * 2 + 1) (.int .i64 y) = (L.set k (x, y)).flatMap PP := by
  intro L
  induction L with
  | nil => intro k x y h; simp at h
  | cons o L ih =>
    intro k x y h
    cases k with
    | zero => simp [PP]
    | succ k =>
      rw [show (k + 1) * 2 = k * 2 + 2 by omega]
      simp only [List.flatMap_cons, PP, List.cons_append, List.nil_append, List.set_cons_succ, List.set_cons_succ]
      rw [ih k x y (by simpa using h)]
theorem set_flatMap_PP0 : ∀ (L : List (Int × Int)) (k : Nat) (x : Int) (o : Int × Int), L[k]? = some o → (L.flatMap PP).set (k * 2) (.int .i64 x) = (L.set k (x, o.2)).flatMap PP := by
  intro L
  induction L with
  | nil => intro k x y h; simp at h
  | cons o L ih =>
    intro k x y h
    cases k with
    | zero => simp at h; subst h; simp [PP]
    | succ k =>
      rw [show (k + 1) * 2 = k * 2 + 2 by omega]
      simp only [List.flatMap_cons, PP, List.cons_append, List.nil_append, List.set_cons_succ, List.set_cons_succ]
      rw [ih k x y (by simpa using h)]
theorem set_flatMap_PP1 : ∀ (L : List (Int × Int)) (k : Nat) (x : Int) (o : Int × Int), L[k]? = some o → (L.flatMap PP).set (k * 2 + 1) (.int .i64 x) = (L.set k (o.1, x)).flatMap PP := by
  intro L
  induction L with
  | nil => intro k x y h; simp at h
  | cons o L ih =>
    intro k x y h
    cases k with
    | zero => simp at h; subst h; simp [PP]
    | succ k =>
      rw [show (k + 1) * 2 + 1 = (k * 2 + 1) + 2 by omega]
      simp only [List.flatMap_cons, PP, List.cons_append, List.nil_append, List.set_cons_succ, List.set_cons_succ]
      rw [ih k x y (by simpa using h)]
theorem set_flatMap_II : ∀ (L : List Int) (k : Nat) (x : Int), (L.flatMap II).set k (.int .i64 x) = (L.set k x).flatMap II := by
  intro L
  induction L with
  | nil => intro k x; simp
  | cons o L ih =>
    intro k x
    cases k with
    | zero => simp [II]
    | succ k =>
      simp only [List.flatMap_cons, II, List.cons_append, List.nil_append, List.set_cons_succ]
      rw [← ih k x]

theorem mid_zero {α : Type} {l : List α} {n k : Nat} (z : α) (hl : l.length = n) (hk : k < n) : (l.take k ++ List.replicate (n - k) z)[k]? = some z := by
  have e : (l.take k).length = k := by rw [List.length_take]; omega
  rw [List.getElem?_append_right (by omega), e, Nat.sub_self, List.getElem?_replicate, if_pos (by omega)]
theorem mid_set {α : Type} {l : List α} {n k : Nat} {z x : α} (hl : l.length = n) (hk : k < n) (hx : l[k]? = some x) : (l.take k ++ List.replicate (n - k) z).set k x = l.take (k + 1) ++ List.replicate (n - (k + 1)) z := by
  have e : (l.take k).length = k := by rw [List.length_take]; omega
  rw [List.set_append_right _ _ (by omega), e, Nat.sub_self, List.take_add_one, hx, show n - k = (n - (k + 1)) + 1 by omega, List.replicate_succ]
  simp
theorem mid_end {α : Type} {l : List α} {n : Nat} (z : α) (hl : l.length = n) : l.take n ++ List.replicate (n - n) z = l := by
  rw [List.take_of_length_le (by omega)]; simp
theorem zeros_two (a b : Value) (n : Nat) : (madeCells #[a, b] (n * 2)).toList = (List.replicate n ()).flatMap fun _ => [a, b] := by
  induction n with
  | zero => simp [madeCells]
  | succ n ih =>
    rw [List.replicate_succ', List.flatMap_append, ← ih]
    apply List.ext_getElem?
    intro j
    rcases Nat.lt_or_ge j (n * 2) with h | h
    · rw [List.getElem?_append_left (by simp [madeCells]; omega)]
      simp only [madeCells, Array.toList_map, List.getElem?_map, Array.toList_range, List.getElem?_range h, List.getElem?_range (show j < (n + 1) * 2 by omega)]
    · rw [List.getElem?_append_right (by simp [madeCells]; omega)]
      rcases (show j = n * 2 ∨ j = n * 2 + 1 ∨ (n + 1) * 2 ≤ j by omega) with rfl | rfl | h2
      · simp [madeCells, Nat.add_mul]
      · simp [madeCells, Nat.add_mul, Nat.mul_add_mod]
      · rw [List.getElem?_eq_none (by simp [madeCells]; omega), List.getElem?_eq_none (by simp [madeCells]; omega)]
theorem flatMap_unit {α : Type} (f : α → List Value) (z : α) (n : Nat) : (List.replicate n ()).flatMap (fun _ => f z) = (List.replicate n z).flatMap f := by
  induction n with
  | zero => rfl
  | succ n ih => simp only [List.replicate_succ, List.flatMap_cons, ih]
theorem zeros_PP (n : Nat) : (List.replicate n ((0 : Int), (0 : Int))).flatMap PP = (madeCells (Value.agg #[.int .i64 0, .int .i64 0]).cells (n * 2)).toList := by
  rw [← flatMap_unit PP]
  exact (zeros_two _ _ n).symm
theorem zeros_LL (n : Nat) : (List.replicate n ((0 : Int), false)).flatMap LL = (madeCells (Value.agg #[.int .i64 0, .bool false]).cells (n * 2)).toList := by
  rw [← flatMap_unit LL]
  exact (zeros_two _ _ n).symm

section
variable {w : World} {base g n c k : Nat} {T : TypeId}
theorem Own.pairAt {L : List (Int × Int)} {x y : Int} (h : Own PP 2 w base T (.slice (some ⟨g, 0, none⟩) n c) n L) (hk : L[k]? = some (x, y)) :
    w.cell? ⟨g, k * 2, none⟩ = some (.int .i64 x) ∧ w.cell? ⟨g, k * 2 + 1, none⟩ = some (.int .i64 y) := by
  have hl : k < n := by rw [← h.1]; exact (List.getElem?_eq_some_iff.1 hk).1
  have h0 := h.2.cellAt (k * 2) (by omega)
  have h1 := h.2.cellAt (k * 2 + 1) (by omega)
  have g0 := getElem?_flatMap PP_length L k _ 0 hk (by omega)
  have g1 := getElem?_flatMap PP_length L k _ 1 hk (by omega)
  exact ⟨h0.trans g0, h1.trans g1⟩
theorem Own.intAt {L : List Int} {x : Int} (h : Own II 1 w base T (.slice (some ⟨g, 0, none⟩) n c) n L) (hk : L[k]? = some x) :
    w.cell? ⟨g, k, none⟩ = some (.int .i64 x) := by
  have hl : k < n := by rw [← h.1]; exact (List.getElem?_eq_some_iff.1 hk).1
  have h0 := h.2.cellAt k (by omega)
  have g0 := getElem?_flatMap II_length L k _ 0 hk (by omega)
  simp only [Nat.mul_one, Nat.add_zero] at g0
  exact h0.trans g0
theorem Own.setPair {L : List (Int × Int)} (h : Own PP 2 w base T (.slice (some ⟨g, 0, none⟩) n c) n L) (hk : k < n) (x y : Int) :
    Own PP 2 ((w.setCell ⟨g, k * 2, none⟩ (.int .i64 x)).setCell ⟨g, k * 2 + 1, none⟩ (.int .i64 y)) base T (.slice (some ⟨g, 0, none⟩) n c) n (L.set k (x, y)) := by
  have h1 := (h.2.stored (k * 2) (.int .i64 x)).1
  have h2 := (h1.stored (k * 2 + 1) (.int .i64 y)).1
  rw [set_flatMap_PP L k x y (by rw [h.1]; exact hk)] at h2
  exact ⟨by rw [List.length_set]; exact h.1, h2⟩
theorem Own.set0 {L : List (Int × Int)} {o : Int × Int} (h : Own PP 2 w base T (.slice (some ⟨g, 0, none⟩) n c) n L) (hk : L[k]? = some o) (x : Int) :
    Own PP 2 (w.setCell ⟨g, k * 2, none⟩ (.int .i64 x)) base T (.slice (some ⟨g, 0, none⟩) n c) n (L.set k (x, o.2)) := by
  have h1 := (h.2.stored (k * 2) (.int .i64 x)).1
  rw [set_flatMap_PP0 L k x o hk] at h1
  exact ⟨by rw [List.length_set]; exact h.1, h1⟩
theorem Own.set1 {L : List (Int × Int)} {o : Int × Int} (h : Own PP 2 w base T (.slice (some ⟨g, 0, none⟩) n c) n L) (hk : L[k]? = some o) (x : Int) :
    Own PP 2 (w.setCell ⟨g, k * 2 + 1, none⟩ (.int .i64 x)) base T (.slice (some ⟨g, 0, none⟩) n c) n (L.set k (o.1, x)) := by
  have h1 := (h.2.stored (k * 2 + 1) (.int .i64 x)).1
  rw [set_flatMap_PP1 L k x o hk] at h1
  exact ⟨by rw [List.length_set]; exact h.1, h1⟩
theorem Own.setInt {L : List Int} (h : Own II 1 w base T (.slice (some ⟨g, 0, none⟩) n c) n L) (x : Int) :
    Own II 1 (w.setCell ⟨g, k, none⟩ (.int .i64 x)) base T (.slice (some ⟨g, 0, none⟩) n c) n (L.set k x) := by
  have h1 := (h.2.stored k (.int .i64 x)).1
  rw [set_flatMap_II L k x] at h1
  exact ⟨by rw [List.length_set]; exact h.1, h1⟩
/-- A row of one element or more: its block, and where it lies. -/
theorem Own.head {α : Type} {f : α → List Value} {sz : Nat} {v : Value} {L : List α} (h : Own f sz w base T v n L) (hn : 0 < n) : ∃ g c, v = .slice (some ⟨g, 0, none⟩) n c ∧ base ≤ g ∧ g < w.heap.size ∧ n ≤ c := by
  rcases h.2.2 with ⟨_, h0⟩ | ⟨g, cap, cur, rfl, hb, hg, hnc, _⟩
  · omega
  · exact ⟨g, cap, rfl, hb, (Array.getElem?_eq_some_iff.1 hg).1, hnc⟩
theorem Own.block {α : Type} {f : α → List Value} {sz : Nat} {L : List α} (h : Own f sz w base T (.slice (some ⟨g, 0, none⟩) n c) n L) : base ≤ g ∧ g < w.heap.size := h.2.lt g rfl
end

/-- A call hands back a row of its own that reads as l; nothing that was there has turned. -/
def RetOwn {α : Type} (f : α → List Value) (sz : Nat) (T : TypeId) (w : World) (n : Nat) (l : List α) (e : Ending) (w' : World) : Prop :=
  ∃ A c, e = .returned (.slice A n c) ∧ Own f sz w' w.heap.size T (.slice A n c) n l ∧ Below w.heap.size w w'

theorem cell_new2 (w : World) (a b : Value) (T : TypeId) : ∀ j u, ([a, b] : List Value)[j]? = some u → (w.alloc (.cells #[a, b] T)).cell? ((⟨w.heap.size, 0, none⟩ : Addr).add j) = some u := by
  intro j u hu
  have hg : (w.alloc (.cells #[a, b] T)).heap[w.heap.size]? = some (.cells #[a, b] T (0, 0)) := heap_alloc_new w _
  rw [Addr.add_lit, Nat.zero_add, cell_of_row _ _ j _ _ _ hg]
  simpa using hu
theorem cell_new1 (w : World) (a : Value) (T : TypeId) : ∀ j u, ([a] : List Value)[j]? = some u → (w.alloc (.cells #[a] T)).cell? ((⟨w.heap.size, 0, none⟩ : Addr).add j) = some u := by
  intro j u hu
  have hg : (w.alloc (.cells #[a] T)).heap[w.heap.size]? = some (.cells #[a] T (0, 0)) := heap_alloc_new w _
  rw [Addr.add_lit, Nat.zero_add, cell_of_row _ _ j _ _ _ hg]
  simpa using hu
theorem one_PP (x y : Int) : ∀ u ∈ ([.int .i64 x, .int .i64 y] : List Value), u.oneCell' = true := by
  intro u hu; simp at hu; rcases hu with rfl | rfl <;> rfl
theorem one_LL (x : Int) (y : Bool) : ∀ u ∈ ([.int .i64 x, .bool y] : List Value), u.oneCell' = true := by
  intro u hu; simp at hu; rcases hu with rfl | rfl <;> rfl
theorem one_II (x : Int) : ∀ u ∈ ([.int .i64 x] : List Value), u.oneCell' = true := by
  intro u hu; simp at hu; subst hu; rfl
/-- A slice literal of no element: a row of the call's own. -/
theorem Own.made {α : Type} (f : α → List Value) (sz : Nat) (w : World) (base : Nat) (T : TypeId) (hb : base ≤ w.heap.size) : Own f sz (w.alloc (.cells #[] T)) base T (.slice (some ⟨w.heap.size, 0, none⟩) 0 0) 0 [] :=
  ⟨rfl, World.ownsRow_made w #[] 0 hb (by unfold maxLen; omega) (by simp)⟩

/-- The cells of a block that was made ahead of a step which turns another block. -/
theorem grown_cellAt {w w1 : World} {cs : Array Value} {T : TypeId} {g i : Nat} {v : Value} (hg : (w.alloc (.cells cs T)).grownBy w1 (some g)) (hlt : g < w.heap.size) (hv : cs[i]? = some v) :
    w1.cell? ⟨w.heap.size, i, none⟩ = some v := by
  have hn : (w.alloc (.cells cs T)).heap[w.heap.size]? = some (.cells cs T (0, 0)) := heap_alloc_new w _
  have := cell_of_row _ w.heap.size i _ _ _ hn
  exact hg.cell (this.trans hv) (by simp; omega)
theorem Own.first {w : World} {base G n c : Nat} {T : TypeId} {l : List (Int × Int)} (h : Own PP 2 w base T (.slice (some ⟨G, 0, none⟩) n c) n l) (hn : 0 < n) :
    ∃ a b, l[0]? = some (a, b) ∧ w.cell? ⟨G, 0, none⟩ = some (.int .i64 a) ∧ w.cell? ⟨G, 1, none⟩ = some (.int .i64 b) ∧ w.frozen? ⟨G, 0, none⟩ = false ∧ w.frozen? ⟨G, 1, none⟩ = false := by
  have hl : 0 < l.length := by rw [h.1]; exact hn
  have h0 : l[0]? = some (l[0].1, l[0].2) := List.getElem?_eq_getElem hl
  obtain ⟨c0, c1⟩ := h.pairAt h0
  simp only [Nat.zero_mul, Nat.zero_add] at c0 c1
  exact ⟨_, _, h0, c0, c1, h.2.frozenAt 0, h.2.frozenAt 1⟩

/-! ### The reader of a code -/
/-- Block g holds a reader: the bytes of the code (they lie below it) and its place. -/
def Rd (w : World) (g : Nat) (T : TypeId) (p : Nat) : Prop :=
  ∃ A n c l, w.heap[g]? = some (.cells #[.slice A n c, .int .i64 p] T (0, 0)) ∧ Arr BB 1 w g A n l ∧ (∀ x ∈ l, 0 ≤ x ∧ x ≤ 255) ∧ n ≤ 2000

theorem Rd.lt {w : World} {g : Nat} {T : TypeId} {p : Nat} (h : Rd w g T p) : g < w.heap.size := by
  obtain ⟨_, _, _, _, h, _⟩ := h
  exact (Array.getElem?_eq_some_iff.1 h).1
theorem Rd.kept {w w' : World} {g : Nat} {T : TypeId} {p : Nat} (h : Rd w g T p) (hb : ∀ k, k ≤ g → w'.heap[k]? = w.heap[k]?) : Rd w' g T p := by
  obtain ⟨A, n, c, l, h1, h2, h3, h4⟩ := h
  exact ⟨A, n, c, l, (hb g (Nat.le_refl _)).trans h1, h2.keep fun p hp => World.cell?_of_block (hb _ (by omega)), h3, h4⟩
theorem Rd.below {w w' : World} {g : Nat} {T : TypeId} {p : Nat} {C : Nat} (h : Rd w g T p) (hb : Below C w w') (hC : g < C) : Rd w' g T p := h.kept fun k hk => hb.block k (by omega)
theorem Rd.alloc {w : World} {g : Nat} {T : TypeId} {p : Nat} (h : Rd w g T p) (o : Obj) : Rd (w.alloc o) g T p := h.kept fun k hk => Below.heap_alloc w o k (by have := h.lt; omega)
theorem Rd.grown {w w' : World} {g : Nat} {T : TypeId} {p : Nat} {row : Option Nat} (h : Rd w g T p) (hg : w.grownBy w' row) (hr : ∀ k, row = some k → g < k) : Rd w' g T p :=
  h.kept fun k hk => hg.block k (by have := h.lt; omega) (fun e => by have := hr k e.symm; omega)

theorem grown_trans' {a b c : World} {row : Option Nat} (h : a.grownBy b row) (k : b.grownBy c row) : a.grownBy c row :=
  ⟨k.os.trans h.os, k.tape.trans h.tape, k.output.trans h.output, Nat.le_trans h.size k.size, fun i hi hn => (k.block i (Nat.lt_of_lt_of_le hi h.size) hn).trans (h.block i hi hn)⟩
theorem grown_of_below {a b : World} {C : Nat} (h : Below C a b) (hC : a.heap.size ≤ C) (row : Option Nat) : a.grownBy b row := ⟨h.os, h.tape, h.output, h.size, fun i hi _ => h.block i (by omega)⟩
theorem below_of_grown {a b : World} {row : Option Nat} {C : Nat} (h : a.grownBy b row) (hC : C ≤ a.heap.size) (hr : ∀ k, row = some k → C ≤ k) : Below C a b := (Below.refl C a).grown h hC hr
/-- What the call's own rows grow by is, for the caller, only what its named block and new blocks are. -/
theorem grown_step {a b c : World} {row row' : Option Nat} (h : a.grownBy b row) (k : b.grownBy c row') (hr : ∀ g, row' = some g → row = some g ∨ a.heap.size ≤ g) : a.grownBy c row :=
  ⟨k.os.trans h.os, k.tape.trans h.tape, k.output.trans h.output, Nat.le_trans h.size k.size, fun i hi hn => (k.block i (Nat.lt_of_lt_of_le hi h.size) (fun e => by
    rcases hr i e.symm with h1 | h1
    · exact hn h1.symm
    · omega)).trans (h.block i hi hn)⟩
theorem grown_alloc {a b : World} {row : Option Nat} (h : a.grownBy b row) (o : Obj) : a.grownBy (b.alloc o) row := grown_trans' h (World.grownBy_alloc b o row)
theorem grown_setCell {a b : World} {row : Option Nat} (h : a.grownBy b row) {p : Addr} (hp : row = some p.block ∨ a.heap.size ≤ p.block) (u : Value) : a.grownBy (b.setCell p u) row :=
  ⟨h.os, h.tape, h.output, by simpa [World.setCell] using h.size, fun i hi hn => (Below.heap_setCell b p u i (by
    rintro rfl
    rcases hp with hp | hp
    · exact hn hp.symm
    · omega)).trans (h.block i hi hn)⟩
theorem grown_drew {a b : World} {row : Option Nat} (h : a.grownBy b row) : a.grownBy b.drew row := ⟨h.os, h.tape, h.output, h.size, h.block⟩
theorem grown_drewN {a b : World} {row : Option Nat} (h : a.grownBy b row) (n : Nat) : a.grownBy (b.drewN n) row := ⟨h.os, h.tape, h.output, h.size, h.block⟩
theorem grown_refl (a : World) (row : Option Nat) : a.grownBy a row := World.grownBy.refl a row
theorem below_drewN {B : Nat} {a w : World} (h : Below B a w) (n : Nat) : Below B a (w.drewN n) := ⟨h.os, h.tape, h.output, h.size, h.block⟩
theorem w64 {n : Int} (h : 0 ≤ n ∧ n ≤ 4611686018427387904) : wrap64 n = n := IntWalk.wrap64_in n ⟨by omega, by omega⟩
theorem w64' {n : Int} (h : -4611686018427387904 ≤ n ∧ n ≤ 4611686018427387904) : wrap64 n = n := IntWalk.wrap64_in n ⟨by omega, by omega⟩
theorem ret_int {k : IntKind} {a b : Int} (h : a = b) : Ending.returned (.int k a) = .returned (.int k b) := by rw [h]
theorem ret_bool {a b : Bool} (h : a = b) : Ending.returned (.bool a) = .returned (.bool b) := by rw [h]

/-! ### The cells of an element, in the walk's own spelling -/
theorem Arr.pair {w : World} {B : Nat} {A : Option Addr} {n : Nat} {l : List (Int × Int)} (h : Arr PP 2 w B A n l) {k : Nat} (hk : k < n) :
    ∃ b off x y, A = some ⟨b, off, none⟩ ∧ b < B ∧ l[k]? = some (x, y) ∧ w.cell? ⟨b, off + k * 2, none⟩ = some (.int .i64 x) ∧ w.cell? ⟨b, off + k * 2 + 1, none⟩ = some (.int .i64 y) := by
  obtain ⟨b, off, e, hb, hc⟩ := h.2 (by omega)
  have hl : k < l.length := by have := h.1; omega
  exact ⟨b, off, l[k].1, l[k].2, e, hb, List.getElem?_eq_getElem hl, hc k _ (List.getElem?_eq_getElem hl) 0 _ rfl, hc k _ (List.getElem?_eq_getElem hl) 1 _ rfl⟩
theorem Arr.layer {w : World} {B : Nat} {A : Option Addr} {n : Nat} {l : List (Int × Bool)} (h : Arr LL 2 w B A n l) {k : Nat} (hk : k < n) :
    ∃ b off x y, A = some ⟨b, off, none⟩ ∧ b < B ∧ l[k]? = some (x, y) ∧ w.cell? ⟨b, off + k * 2, none⟩ = some (.int .i64 x) ∧ w.cell? ⟨b, off + k * 2 + 1, none⟩ = some (.bool y) := by
  obtain ⟨b, off, e, hb, hc⟩ := h.2 (by omega)
  have hl : k < l.length := by have := h.1; omega
  exact ⟨b, off, l[k].1, l[k].2, e, hb, List.getElem?_eq_getElem hl, hc k _ (List.getElem?_eq_getElem hl) 0 _ rfl, hc k _ (List.getElem?_eq_getElem hl) 1 _ rfl⟩
theorem Arr.int {w : World} {B : Nat} {A : Option Addr} {n : Nat} {l : List Int} (h : Arr II 1 w B A n l) {k : Nat} (hk : k < n) :
    ∃ b off x, A = some ⟨b, off, none⟩ ∧ b < B ∧ l[k]? = some x ∧ w.cell? ⟨b, off + k, none⟩ = some (.int .i64 x) := by
  obtain ⟨b, off, e, hb, hc⟩ := h.2 (by omega)
  have hl : k < l.length := by have := h.1; omega
  exact ⟨b, off, l[k], e, hb, List.getElem?_eq_getElem hl, by have := hc k _ (List.getElem?_eq_getElem hl) 0 _ rfl; simpa using this⟩
theorem Arr.byte {w : World} {B : Nat} {A : Option Addr} {n : Nat} {l : List Int} (h : Arr BB 1 w B A n l) {k : Nat} (hk : k < n) :
    ∃ b off x, A = some ⟨b, off, none⟩ ∧ b < B ∧ l[k]? = some x ∧ w.cell? ⟨b, off + k, none⟩ = some (.int .u8 x) := by
  obtain ⟨b, off, e, hb, hc⟩ := h.2 (by omega)
  have hl : k < l.length := by have := h.1; omega
  exact ⟨b, off, l[k], e, hb, List.getElem?_eq_getElem hl, by have := hc k _ (List.getElem?_eq_getElem hl) 0 _ rfl; simpa using this⟩
end Go.Proofs.YtefadlbfkhndfaaGreatDoor

/-
  Plain words on cores: valid cores, lengths, the saw. No program in sight.
-/
namespace Go.Proofs.YtefadlbfkhndfaaGreatDoor
open Go.RowKit
set_option linter.unusedSimpArgs false
set_option linter.unusedVariables false

abbrev Pc := Int × Int
def coreFrom : Int → List Pc → Bool
  | _, [] => true
  | d, p :: t => decide (d ≤ p.1 ∧ p.1 < p.2 ∧ p.2 ≤ 30000) && coreFrom p.2 t
def coreB (l : List Pc) : Bool := coreFrom 0 l && decide (l.length ≤ 20)
def lenOf : List Pc → Int
  | [] => 0
  | p :: t => (p.2 - p.1) + lenOf t
def coreLen (l : List Pc) : Int := if coreB l = true then lenOf l else -1

theorem coreFrom_cons (d : Int) (p : Pc) (t : List Pc) : coreFrom d (p :: t) = true ↔ (d ≤ p.1 ∧ p.1 < p.2 ∧ p.2 ≤ 30000) ∧ coreFrom p.2 t = true := by simp [coreFrom]
theorem coreFrom_mono : ∀ {l : List Pc} {d d' : Int}, coreFrom d l = true → d' ≤ d → coreFrom d' l = true := by
  intro l
  cases l with
  | nil => intro _ _ _ _; rfl
  | cons p t => intro d d' h hd; rw [coreFrom_cons] at h ⊢; exact ⟨⟨by omega, h.1.2⟩, h.2⟩
theorem coreFrom_drop : ∀ {l : List Pc} {d : Int} (k : Nat), coreFrom d l = true → coreFrom d (l.drop k) = true := by
  intro l
  induction l with
  | nil => intro d k h; simp; exact h
  | cons p t ih =>
    intro d k h
    cases k with
    | zero => exact h
    | succ k => rw [coreFrom_cons] at h; exact ih k (coreFrom_mono h.2 (by omega))
theorem coreFrom_mem : ∀ {l : List Pc} {d : Int}, coreFrom d l = true → ∀ p ∈ l, d ≤ p.1 ∧ p.1 < p.2 ∧ p.2 ≤ 30000 := by
  intro l
  induction l with
  | nil => intro d h p hp; cases hp
  | cons q t ih =>
    intro d h p hp
    rw [coreFrom_cons] at h
    rcases List.mem_cons.1 hp with rfl | hp
    · exact h.1
    · have := ih h.2 p hp; omega
theorem coreB_iff (l : List Pc) : coreB l = true ↔ coreFrom 0 l = true ∧ l.length ≤ 20 := by simp [coreB]
theorem coreLen_good {l : List Pc} (h : coreB l = true) : coreLen l = lenOf l := by unfold coreLen; rw [if_pos h]
theorem coreLen_bad {l : List Pc} (h : coreB l = false) : coreLen l = -1 := by unfold coreLen; rw [if_neg (by rw [h]; simp)]
theorem lenOf_bd : ∀ {l : List Pc} {d : Int}, coreFrom d l = true → 0 ≤ lenOf l ∧ (lenOf l = 0 ∨ lenOf l ≤ 30000 - d) := by
  intro l
  induction l with
  | nil => intro d h; simp [lenOf]
  | cons p t ih =>
    intro d h
    rw [coreFrom_cons] at h
    have := ih h.2
    simp only [lenOf]
    omega
theorem lenOf_bd' {l : List Pc} (h : coreFrom 0 l = true) : 0 ≤ lenOf l ∧ lenOf l ≤ 30000 := by have := lenOf_bd h; omega
theorem lenOf_append (a b : List Pc) : lenOf (a ++ b) = lenOf a + lenOf b := by
  induction a with
  | nil => simp [lenOf]
  | cons p a ih => simp only [List.cons_append, lenOf, ih]; omega
theorem lenOf_snoc (a : List Pc) (x y : Int) : lenOf (a ++ [(x, y)]) = lenOf a + (y - x) := by rw [lenOf_append]; simp [lenOf]
theorem coreFrom_take : ∀ {l : List Pc} {d : Int} (k : Nat), coreFrom d l = true → coreFrom d (l.take k) = true := by
  intro l
  induction l with
  | nil => intro d k h; simp; exact h
  | cons p t ih =>
    intro d k h
    cases k with
    | zero => rfl
    | succ k => rw [coreFrom_cons] at h; rw [List.take_succ_cons, coreFrom_cons]; exact ⟨h.1, ih k h.2⟩
theorem drop_cons {α : Type} {l : List α} {k : Nat} {x : α} (h : l[k]? = some x) : l.drop k = x :: l.drop (k + 1) := by
  obtain ⟨hk, e⟩ := List.getElem?_eq_some_iff.1 h
  rw [List.drop_eq_getElem_cons hk, e]
theorem drop_end {α : Type} {l : List α} {k : Nat} (h : l.length ≤ k) : l.drop k = [] := List.drop_eq_nil_of_le h

/-! ### The saw -/
def restL (a : Int) (p : Pc) (t : List Pc) : List Pc := if min a p.2 < p.2 then (min a p.2, p.2) :: t else t
def cutL (w kf : Int) : List Pc → Option (Int × List Pc)
  | [] => none
  | p :: t => if p.2 - p.1 < w then cutL w kf t else some (p.1, restL (p.1 + w + kf) p t)
def cnt (w kf : Int) : List Pc → Int
  | [] => 0
  | p :: t => (p.2 - p.1 + kf) / (w + kf) + cnt w kf t

theorem cnt_nonneg {w kf : Int} (hw : 1 ≤ w) (hk : 0 ≤ kf) : ∀ {l : List Pc} {d : Int}, coreFrom d l = true → 0 ≤ cnt w kf l := by
  intro l
  induction l with
  | nil => intro d h; simp [cnt]
  | cons p t ih =>
    intro d h
    rw [coreFrom_cons] at h
    have h1 := ih h.2
    have h2 : 0 ≤ (p.2 - p.1 + kf) / (w + kf) := Int.ediv_nonneg (by omega) (by omega)
    simp only [cnt]
    omega
theorem cnt_le {w kf : Int} (hw : 1 ≤ w) (hk : 0 ≤ kf) : ∀ {l : List Pc} {d : Int}, coreFrom d l = true → cnt w kf l * w ≤ lenOf l := by
  intro l
  induction l with
  | nil => intro d h; simp [cnt, lenOf]
  | cons p t ih =>
    intro d h
    rw [coreFrom_cons] at h
    have h1 := ih h.2
    simp only [cnt, lenOf, Int.add_mul]
    have hq : 0 ≤ (p.2 - p.1 + kf) / (w + kf) := Int.ediv_nonneg (by omega) (by omega)
    have hm : (p.2 - p.1 + kf) / (w + kf) * (w + kf) ≤ p.2 - p.1 + kf := Int.ediv_mul_le _ (by omega)
    obtain ⟨q, hq'⟩ : ∃ q, q = (p.2 - p.1 + kf) / (w + kf) := ⟨_, rfl⟩
    rw [← hq'] at hq hm ⊢
    have : q * w ≤ p.2 - p.1 := by
      by_cases h0 : q = 0
      · subst h0; omega
      · have h3 : kf ≤ q * kf := by have := Int.mul_le_mul_of_nonneg_right (show 1 ≤ q by omega) hk; omega
        rw [Int.mul_add] at hm
        omega
    omega
theorem cnt_le_len {w kf : Int} (hw : 1 ≤ w) (hk : 0 ≤ kf) {l : List Pc} {d : Int} (h : coreFrom d l = true) : cnt w kf l ≤ lenOf l := by
  have h1 := cnt_le hw hk h
  have h2 := cnt_nonneg hw hk h
  have := Int.mul_le_mul_of_nonneg_left hw h2
  omega

theorem restL_good {a d : Int} {p : Pc} {t : List Pc} (h : coreFrom d (p :: t) = true) (ha : p.1 ≤ a) : coreFrom d (restL a p t) = true ∧ (restL a p t).length ≤ t.length + 1 := by
  rw [coreFrom_cons] at h
  unfold restL
  split
  · rename_i hlt
    rw [coreFrom_cons]
    refine ⟨⟨⟨?_, ?_, ?_⟩, h.2⟩, by simp⟩
    · show d ≤ min a p.2; omega
    · exact hlt
    · exact h.1.2.2
  · exact ⟨coreFrom_mono h.2 (by omega), by omega⟩

theorem cutL_good {w kf : Int} (hw : 1 ≤ w) (hk : 0 ≤ kf) : ∀ {l : List Pc} {d : Int}, coreFrom d l = true → ∀ {x : Int} {l' : List Pc}, cutL w kf l = some (x, l') →
    coreFrom d l' = true ∧ l'.length ≤ l.length ∧ d ≤ x ∧ x + w ≤ 30000 := by
  intro l
  induction l with
  | nil => intro d h x l' e; simp [cutL] at e
  | cons p t ih =>
    intro d h x l' e
    have h' := (coreFrom_cons d p t).1 h
    unfold cutL at e
    split at e
    · have := ih (coreFrom_mono h'.2 (show d ≤ p.2 by omega)) e
      simp only [List.length_cons]
      exact ⟨this.1, by omega, this.2.2⟩
    · injection e with e
      injection e with e1 e2
      subst e1; subst e2
      have := restL_good (a := p.1 + w + kf) h (by omega)
      simp only [List.length_cons]
      exact ⟨this.1, this.2, by omega, by omega⟩

theorem cut_cnt {w kf : Int} (hw : 1 ≤ w) (hk : 0 ≤ kf) : ∀ {l : List Pc} {d : Int}, coreFrom d l = true →
    (cutL w kf l = none → cnt w kf l = 0) ∧ (∀ {x : Int} {l' : List Pc}, cutL w kf l = some (x, l') → cnt w kf l = 1 + cnt w kf l') := by
  intro l
  induction l with
  | nil => intro d h; exact ⟨fun _ => rfl, fun e => by simp [cutL] at e⟩
  | cons p t ih =>
    intro d h
    have h' := (coreFrom_cons d p t).1 h
    have ih' := ih (coreFrom_mono h'.2 (show d ≤ p.2 by omega))
    by_cases hlt : p.2 - p.1 < w
    · have h0 : (p.2 - p.1 + kf) / (w + kf) = 0 := Int.ediv_eq_zero_of_lt (by omega) (by omega)
      have e0 : cutL w kf (p :: t) = cutL w kf t := by rw [cutL, if_pos hlt]
      rw [e0]
      simp only [cnt, h0, Int.zero_add]
      exact ih'
    · have e0 : cutL w kf (p :: t) = some (p.1, restL (p.1 + w + kf) p t) := by rw [cutL, if_neg hlt]
      rw [e0]
      refine ⟨fun e => (by cases e), fun {x l'} e => ?_⟩
      injection e with e
      injection e with e1 e2
      subst e1; subst e2
      have hd : (p.2 - p.1 + kf) / (w + kf) = 1 + (p.2 - p.1 - w) / (w + kf) := by
        have : p.2 - p.1 + kf = (p.2 - p.1 - w) + 1 * (w + kf) := by omega
        rw [this, Int.add_mul_ediv_right _ _ (by omega)]
        omega
      simp only [cnt]
      rw [hd]
      unfold restL
      by_cases hm : p.1 + w + kf < p.2
      · have e1 : min (p.1 + w + kf) p.2 = p.1 + w + kf := by omega
        rw [e1, if_pos hm]
        simp only [cnt]
        rw [show p.2 - (p.1 + w + kf) + kf = p.2 - p.1 - w by omega]
        omega
      · have e1 : min (p.1 + w + kf) p.2 = p.2 := by omega
        rw [e1, if_neg (by omega)]
        have : (p.2 - p.1 - w) / (w + kf) = 0 := Int.ediv_eq_zero_of_lt (by omega) (by omega)
        omega

/-- All samples of a list of widths, one after the other. -/
def cutW (kf : Int) : List Int → List Pc → Option (List Int × List Pc)
  | [], l => some ([], l)
  | w :: ws, l => match cutL w kf l with
    | none => none
    | some (x, l') => match cutW kf ws l' with
      | none => none
      | some (xs, l'') => some (x :: xs, l'')
theorem cutW_append (kf : Int) : ∀ (a b : List Int) (l : List Pc), cutW kf (a ++ b) l = match cutW kf a l with
    | none => none
    | some (xs, l') => match cutW kf b l' with
      | none => none
      | some (ys, l'') => some (xs ++ ys, l'') := by
  intro a
  induction a with
  | nil => intro b l; simp only [List.nil_append, cutW]; cases cutW kf b l with
    | none => rfl
    | some q => rfl
  | cons w a ih =>
    intro b l
    simp only [List.cons_append, cutW]
    cases cutL w kf l with
    | none => rfl
    | some q =>
      obtain ⟨x, l'⟩ := q
      simp only [ih b l']
      cases cutW kf a l' with
      | none => rfl
      | some r =>
        obtain ⟨xs, l2⟩ := r
        simp only
        cases cutW kf b l2 with
        | none => rfl
        | some z => rfl
theorem cutW_snoc {kf : Int} {a : List Int} {l l' : List Pc} {xs : List Int} (w : Int) (h : cutW kf a l = some (xs, l')) : cutW kf (a ++ [w]) l = match cutL w kf l' with
    | none => none
    | some (x, l'') => some (xs ++ [x], l'') := by
  rw [cutW_append, h]
  simp only [cutW]
  cases cutL w kf l' with
  | none => rfl
  | some q => rfl
theorem cutW_none {kf : Int} {a b : List Int} {l : List Pc} (h : cutW kf a l = none) : cutW kf (a ++ b) l = none := by rw [cutW_append, h]
theorem cutW_good {kf : Int} (hk : 0 ≤ kf) : ∀ {ws : List Int}, (∀ w ∈ ws, 1 ≤ w) → ∀ {l : List Pc} {d : Int}, coreFrom d l = true → ∀ {xs : List Int} {l' : List Pc}, cutW kf ws l = some (xs, l') →
    coreFrom d l' = true ∧ l'.length ≤ l.length ∧ xs.length = ws.length := by
  intro ws
  induction ws with
  | nil => intro hw l d h xs l' e; simp only [cutW, Option.some.injEq, Prod.mk.injEq] at e; obtain ⟨rfl, rfl⟩ := e; exact ⟨h, Nat.le_refl _, rfl⟩
  | cons w ws ih =>
    intro hw l d h xs l' e
    unfold cutW at e
    cases hc : cutL w kf l with
    | none => rw [hc] at e; cases e
    | some q =>
      obtain ⟨x, l1⟩ := q
      rw [hc] at e
      simp only at e
      have g := cutL_good (hw w (List.mem_cons_self ..)) hk h hc
      cases hc2 : cutW kf ws l1 with
      | none => rw [hc2] at e; cases e
      | some r =>
        obtain ⟨ys, l2⟩ := r
        rw [hc2] at e
        simp only [Option.some.injEq, Prod.mk.injEq] at e
        obtain ⟨rfl, rfl⟩ := e
        have g2 := ih (fun w hw' => hw w (List.mem_cons_of_mem _ hw')) g.1 hc2
        exact ⟨g2.1, by omega, by simp [g2.2.2]⟩

/-! ### The reference's saw: a place and a depth -/
def absL : List Pc → Int → List Pc
  | [], _ => []
  | p :: t, d => if max d p.1 < p.2 then (max d p.1, p.2) :: t else t
def placeL (w : Int) : List Pc → Int → Nat → Option (Nat × Int)
  | [], _, _ => none
  | p :: t, d, i => if max d p.1 + w ≤ p.2 then some (i, max d p.1) else placeL w t d (i + 1)
theorem absL_cons (p : Pc) (t : List Pc) (d : Int) : absL (p :: t) d = if max d p.1 < p.2 then (max d p.1, p.2) :: t else t := rfl
theorem absL_self {t : List Pc} {d d0 : Int} (h : coreFrom d0 t = true) (hd : d ≤ d0) : absL t d = t := by
  cases t with
  | nil => rfl
  | cons q t =>
    rw [coreFrom_cons] at h
    rw [absL_cons]
    have : max d q.1 = q.1 := by omega
    rw [this, if_pos h.1.2.1]
theorem place_cut {w kf : Int} (hw : 1 ≤ w) (hk : 0 ≤ kf) : ∀ {t : List Pc} {d d0 : Int} {i : Nat}, coreFrom d0 t = true → (∀ p tl, t = p :: tl → d ≤ p.2) →
    (placeL w t d i = none → cutL w kf (absL t d) = none) ∧
    (∀ {j : Nat} {fr : Int}, placeL w t d i = some (j, fr) → ∃ q tl, i ≤ j ∧ t.drop (j - i) = q :: tl ∧ q.1 ≤ fr ∧ d ≤ fr ∧ fr + w ≤ q.2 ∧ (∀ p ∈ t.take (j - i), p.2 ≤ fr) ∧ cutL w kf (absL t d) = some (fr, absL (q :: tl) (min q.2 (fr + w + kf)))) := by
  intro t
  induction t with
  | nil => intro d d0 i h hd; exact ⟨fun _ => rfl, fun e => by simp [placeL] at e⟩
  | cons p t ih =>
    intro d d0 i h hd
    have h' := (coreFrom_cons d0 p t).1 h
    have hdp := hd p t rfl
    by_cases hp : max d p.1 + w ≤ p.2
    · have e0 : placeL w (p :: t) d i = some (i, max d p.1) := by rw [placeL, if_pos hp]
      rw [e0]
      refine ⟨fun e => (by cases e), fun {j fr} e => ?_⟩
      injection e with e
      injection e with e1 e2
      subst e1; subst e2
      refine ⟨p, t, Nat.le_refl _, by simp, by omega, by omega, hp, by simp, ?_⟩
      have a1 : absL (p :: t) d = (max d p.1, p.2) :: t := by rw [absL, if_pos (by omega)]
      rw [a1, cutL, if_neg (by show ¬ p.2 - max d p.1 < w; omega)]
      have m1 : max (min p.2 (max d p.1 + w + kf)) p.1 = min (max d p.1 + w + kf) p.2 := by omega
      simp only [restL, absL, m1]
    · have e0 : placeL w (p :: t) d i = placeL w t d (i + 1) := by rw [placeL, if_neg hp]
      have c0 : cutL w kf (absL (p :: t) d) = cutL w kf t := by
        rw [absL_cons]
        split
        · rw [cutL, if_pos (by show p.2 - max d p.1 < w; omega)]
        · rfl
      have hd' : ∀ q tl, t = q :: tl → d ≤ q.2 := by
        intro q tl e
        subst e
        have := (coreFrom_cons _ _ _).1 h'.2
        omega
      have ih' := ih (d := d) (i := i + 1) h'.2 hd'
      rw [absL_self h'.2 hdp] at ih'
      rw [e0, c0]
      refine ⟨ih'.1, fun {j fr} e => ?_⟩
      obtain ⟨q, tl, hij, hdr, hq, hdf, hfr, hpre, hcut⟩ := ih'.2 e
      refine ⟨q, tl, by omega, ?_, hq, hdf, hfr, ?_, hcut⟩
      · rw [show j - i = (j - (i + 1)) + 1 by omega]; exact hdr
      · intro r hr
        rw [show j - i = (j - (i + 1)) + 1 by omega, List.take_succ_cons] at hr
        rcases List.mem_cons.1 hr with rfl | hr
        · have hqm : q ∈ t := by have : q ∈ t.drop (j - (i + 1)) := by rw [hdr]; exact List.mem_cons_self ..
                                 exact List.mem_of_mem_drop this
          have := coreFrom_mem h'.2 q hqm
          omega
        · exact hpre r hr
def behind (d : Int) : List Pc → Int
  | [] => 0
  | p :: t => max 0 (p.2 - max d p.1) + behind d t
theorem behind_cons (p : Pc) (t : List Pc) (d : Int) : behind d (p :: t) = max 0 (p.2 - max d p.1) + behind d t := rfl
theorem behind_append (d : Int) (a b : List Pc) : behind d (a ++ b) = behind d a + behind d b := by
  induction a with
  | nil => simp [behind]
  | cons p a ih => simp only [List.cons_append, behind, ih]; omega
theorem behind_pre {d : Int} : ∀ {a : List Pc}, (∀ p ∈ a, p.2 ≤ d) → behind d a = 0 := by
  intro a
  induction a with
  | nil => intro _; rfl
  | cons p a ih =>
    intro h
    have := h p (List.mem_cons_self ..)
    simp only [behind, ih fun q hq => h q (List.mem_cons_of_mem _ hq)]
    omega
theorem behind_self : ∀ {t : List Pc} {d d0 : Int}, coreFrom d0 t = true → d ≤ d0 → behind d t = lenOf t := by
  intro t
  induction t with
  | nil => intro _ _ _ _; rfl
  | cons p t ih =>
    intro d d0 h hd
    rw [coreFrom_cons] at h
    simp only [behind, lenOf, ih h.2 (show d ≤ p.2 by omega)]
    omega
theorem behind_abs {t : List Pc} {d d0 : Int} (h : coreFrom d0 t = true) (hd : ∀ p tl, t = p :: tl → d ≤ p.2) : behind d t = lenOf (absL t d) := by
  cases t with
  | nil => rfl
  | cons p t =>
    have h' := (coreFrom_cons d0 p t).1 h
    have hp := hd p t rfl
    rw [absL_cons, behind_cons, behind_self h'.2 hp]
    split
    · simp only [lenOf]; omega
    · omega
theorem absL_good {t : List Pc} {d d0 : Int} (h : coreFrom d0 t = true) : coreFrom d0 (absL t d) = true ∧ (absL t d).length ≤ t.length := by
  cases t with
  | nil => exact ⟨h, Nat.le_refl _⟩
  | cons p t =>
    have h' := (coreFrom_cons d0 p t).1 h
    rw [absL_cons]
    split
    · rw [coreFrom_cons]
      exact ⟨⟨⟨by show d0 ≤ max d p.1; omega, by assumption, h'.1.2.2⟩, h'.2⟩, by simp⟩
    · exact ⟨coreFrom_mono h'.2 (by omega), by simp⟩
end Go.Proofs.YtefadlbfkhndfaaGreatDoor

/-
  Plain words on samples: orders, needs, widths. No program in sight.
-/
namespace Go.Proofs.YtefadlbfkhndfaaGreatDoor
open Go.RowKit
set_option linter.unusedSimpArgs false
set_option linter.unusedVariables false

def okOrder (o : Int × Int) : Bool := decide (1 ≤ o.1 ∧ o.1 ≤ 1000 ∧ 1 ≤ o.2 ∧ o.2 ≤ 20)
theorem okOrder_iff (x y : Int) : okOrder (x, y) = true ↔ 1 ≤ x ∧ x ≤ 1000 ∧ 1 ≤ y ∧ y ≤ 20 := by simp [okOrder]
def needOf : List (Int × Int) → Int
  | [] => 0
  | o :: l => o.1 * o.2 + needOf l
def ordersB (l : List (Int × Int)) : Bool := l.all okOrder && decide (l.length ≤ 8)
def need (l : List (Int × Int)) : Int := if ordersB l = true then needOf l else -1

theorem needOf_append (a b : List (Int × Int)) : needOf (a ++ b) = needOf a + needOf b := by
  induction a with
  | nil => simp [needOf]
  | cons o a ih => simp only [List.cons_append, needOf, ih]; omega

theorem prod_bd {x y : Int} (h : okOrder (x, y) = true) : 1 ≤ x * y ∧ x * y ≤ 20000 ∧ y ≤ x * y := by
  rw [okOrder_iff] at h
  obtain ⟨h1, h2, h3, h4⟩ := h
  refine ⟨?_, ?_, ?_⟩
  · have := Int.mul_le_mul h1 h3 (by omega) (by omega); omega
  · have := Int.mul_le_mul h2 h4 (by omega) (by omega); omega
  · have := Int.mul_le_mul_of_nonneg_right h1 (show 0 ≤ y by omega); omega

theorem needOf_bd : ∀ {l : List (Int × Int)}, l.all okOrder = true → 0 ≤ needOf l ∧ needOf l ≤ 20000 * l.length := by
  intro l
  induction l with
  | nil => intro _; simp [needOf]
  | cons o l ih =>
    intro h
    simp only [List.all_cons, Bool.and_eq_true] at h
    have h1 := ih h.2
    have h2 := prod_bd (x := o.1) (y := o.2) h.1
    simp only [needOf, List.length_cons]
    omega

theorem take_snoc {α : Type} {l : List α} {k : Nat} {x : α} (h : l[k]? = some x) : l.take (k + 1) = l.take k ++ [x] := by
  rw [List.take_add_one, h]; rfl
theorem all_snoc {α : Type} {p : α → Bool} {l : List α} {x : α} (h : l.all p = true) (hx : p x = true) : (l ++ [x]).all p = true := by simp only [List.all_append, h, hx, List.all_cons, List.all_nil, Bool.and_self]
theorem not_all {α : Type} {p : α → Bool} {l : List α} {k : Nat} {x : α} (h : l[k]? = some x) (hx : p x = false) : l.all p = false := by
  rw [Bool.eq_false_iff]
  intro hall
  have := List.all_eq_true.1 hall x (List.mem_of_getElem? h)
  rw [hx] at this
  cases this
theorem needOf_snoc (l : List (Int × Int)) (x y : Int) : needOf (l ++ [(x, y)]) = needOf l + x * y := by rw [needOf_append]; simp [needOf]
theorem ordersB_iff (l : List (Int × Int)) : ordersB l = true ↔ l.all okOrder = true ∧ l.length ≤ 8 := by simp [ordersB]
theorem need_bad {l : List (Int × Int)} (h : l.all okOrder = false) : need l = -1 := by unfold need ordersB; rw [h]; rfl
theorem need_long {l : List (Int × Int)} (h : 8 < l.length) : need l = -1 := by unfold need; rw [if_neg]; rw [ordersB_iff]; omega
theorem need_good {l : List (Int × Int)} (h : l.all okOrder = true) (h8 : l.length ≤ 8) : need l = needOf l := by unfold need; rw [if_pos ((ordersB_iff l).2 ⟨h, h8⟩)]
theorem need_nonneg {l : List (Int × Int)} (h : 0 ≤ need l) : ordersB l = true := by
  unfold need at h
  split at h
  · assumption
  · omega

/-! ### Widths -/
def widths (l : List (Int × Int)) : List Int := l.flatMap fun o => List.replicate o.2.toNat o.1
theorem widths_snoc (l : List (Int × Int)) (x y : Int) : widths (l ++ [(x, y)]) = widths l ++ List.replicate y.toNat x := by simp [widths]
theorem widths_bd : ∀ {l : List (Int × Int)}, l.all okOrder = true → (widths l).length ≤ 20 * l.length := by
  intro l
  induction l with
  | nil => intro _; simp [widths]
  | cons o l ih =>
    intro h
    simp only [List.all_cons, Bool.and_eq_true] at h
    have h1 := ih h.2
    have h2 := (okOrder_iff o.1 o.2).1 h.1
    simp only [widths, List.flatMap_cons, List.length_append, List.length_replicate, List.length_cons] at h1 ⊢
    omega
theorem widths_need : ∀ {l : List (Int × Int)}, l.all okOrder = true → ((widths l).length : Int) ≤ needOf l ∧ (widths l).foldl (· + ·) 0 = needOf l := by
  have fold : ∀ (a : List Int) (s : Int), a.foldl (· + ·) s = s + a.foldl (· + ·) 0 := by
    intro a
    induction a with
    | nil => intro s; simp
    | cons x a ih => intro s; simp only [List.foldl_cons]; rw [ih (s + x), ih (0 + x)]; omega
  have rep : ∀ (n : Nat) (x : Int), (List.replicate n x).foldl (· + ·) 0 = n * x := by
    intro n x
    induction n with
    | zero => simp
    | succ n ih => rw [List.replicate_succ, List.foldl_cons, fold, ih]; rw [show ((n + 1 : Nat) : Int) = (n : Int) + 1 by omega, Int.add_mul]; omega
  intro l
  induction l with
  | nil => intro _; simp [widths, needOf]
  | cons o l ih =>
    intro h
    simp only [List.all_cons, Bool.and_eq_true] at h
    have h1 := ih h.2
    have h2 := (okOrder_iff o.1 o.2).1 h.1
    have h3 := prod_bd (x := o.1) (y := o.2) h.1
    have e : widths (o :: l) = List.replicate o.2.toNat o.1 ++ widths l := by simp [widths]
    rw [e, List.length_append, List.length_replicate, List.foldl_append, fold, rep, h1.2]
    simp only [needOf]
    have : ((o.2.toNat : Nat) : Int) = o.2 := by omega
    refine ⟨by omega, ?_⟩
    rw [this, Int.mul_comm]
def sumI : List Int → Int
  | [] => 0
  | x :: l => x + sumI l
theorem sumI_append (a b : List Int) : sumI (a ++ b) = sumI a + sumI b := by
  induction a with
  | nil => simp [sumI]
  | cons x a ih => simp only [List.cons_append, sumI, ih]; omega
theorem sumI_replicate (n : Nat) (x : Int) : sumI (List.replicate n x) = n * x := by
  induction n with
  | zero => simp [sumI]
  | succ n ih => rw [List.replicate_succ, sumI, ih, show ((n + 1 : Nat) : Int) = (n : Int) + 1 by omega, Int.add_mul]; omega
theorem sumI_widths : ∀ {l : List (Int × Int)}, l.all okOrder = true → sumI (widths l) = needOf l := by
  intro l
  induction l with
  | nil => intro _; rfl
  | cons o l ih =>
    intro h
    simp only [List.all_cons, Bool.and_eq_true] at h
    have h2 := (okOrder_iff o.1 o.2).1 h.1
    have e : widths (o :: l) = List.replicate o.2.toNat o.1 ++ widths l := by simp [widths]
    rw [e, sumI_append, sumI_replicate, ih h.2, needOf, show ((o.2.toNat : Nat) : Int) = o.2 by omega, Int.mul_comm]
theorem widths_all : ∀ {l : List (Int × Int)}, l.all okOrder = true → ∀ x ∈ widths l, 1 ≤ x ∧ x ≤ 1000 := by
  intro l h x hx
  simp only [widths, List.mem_flatMap] at hx
  obtain ⟨o, ho, hx⟩ := hx
  have := List.eq_of_mem_replicate hx
  subst this
  have := (okOrder_iff o.1 o.2).1 (List.all_eq_true.1 h o ho)
  omega
end Go.Proofs.YtefadlbfkhndfaaGreatDoor

/-
  Plain laws on samples: counts, lengths, parts, joined cores, places. No program in sight.
-/
namespace Go.Proofs.YtefadlbfkhndfaaGreatDoor
open Go.RowKit
set_option linter.unusedSimpArgs false
set_option linter.unusedVariables false

theorem cnt_mono {w kf w' kf' : Int} (hw : 1 ≤ w) (hk : 0 ≤ kf) (hw' : 1 ≤ w') (hk' : 0 ≤ kf') (step : ∀ x : Int, 0 ≤ x → (x + kf') / (w' + kf') ≤ (x + kf) / (w + kf)) : ∀ {l : List Pc} {d : Int}, coreFrom d l = true → cnt w' kf' l ≤ cnt w kf l := by
  intro l
  induction l with
  | nil => intro d h; simp [cnt]
  | cons p t ih =>
    intro d h
    rw [coreFrom_cons] at h
    have h1 := ih h.2
    have h2 := step (p.2 - p.1) (by omega)
    simp only [cnt]
    omega
theorem cnt_wider {w kf : Int} (hw : 1 ≤ w) (hk : 0 ≤ kf) {l : List Pc} {d : Int} (h : coreFrom d l = true) : cnt (w + 1) kf l ≤ cnt w kf l :=
  cnt_mono hw hk (by omega) hk (fun x hx => by
    have h1 : (x + kf) / (w + 1 + kf) * (w + 1 + kf) ≤ x + kf := Int.ediv_mul_le _ (by omega)
    have h0 : 0 ≤ (x + kf) / (w + 1 + kf) := Int.ediv_nonneg (by omega) (by omega)
    rw [Int.le_ediv_iff_mul_le (by omega)]
    generalize (x + kf) / (w + 1 + kf) = q at h0 h1
    rw [show w + 1 + kf = (w + kf) + 1 by omega, Int.mul_add] at h1
    omega) h
theorem cnt_thicker {w kf : Int} (hw : 1 ≤ w) (hk : 0 ≤ kf) {l : List Pc} {d : Int} (h : coreFrom d l = true) : cnt w (kf + 1) l ≤ cnt w kf l :=
  cnt_mono hw hk hw (by omega) (fun x hx => by
    have h1 : (x + (kf + 1)) / (w + (kf + 1)) * (w + (kf + 1)) ≤ x + (kf + 1) := Int.ediv_mul_le _ (by omega)
    have h0 : 0 ≤ (x + (kf + 1)) / (w + (kf + 1)) := Int.ediv_nonneg (by omega) (by omega)
    rw [Int.le_ediv_iff_mul_le (by omega)]
    generalize (x + (kf + 1)) / (w + (kf + 1)) = q at h0 h1
    by_cases hq : q = 0
    · subst hq; omega
    · rw [show w + (kf + 1) = (w + kf) + 1 by omega, Int.mul_add] at h1
      omega) h
theorem cnt_one : ∀ {l : List Pc}, cnt 1 0 l = lenOf l := by
  intro l
  induction l with
  | nil => rfl
  | cons p t ih => simp only [cnt, lenOf, ih, Int.add_zero, Int.ediv_one]

theorem cutL_len {w kf : Int} (hw : 1 ≤ w) (hk : 0 ≤ kf) : ∀ {l : List Pc} {d x : Int} {l' : List Pc}, coreFrom d l = true → cutL w kf l = some (x, l') → lenOf l' + w ≤ lenOf l := by
  intro l
  induction l with
  | nil => intro d x l' h e; simp [cutL] at e
  | cons p t ih =>
    intro d x l' h e
    have h' := (coreFrom_cons d p t).1 h
    unfold cutL at e
    split at e
    · have := ih h'.2 e
      simp only [lenOf]; omega
    · injection e with e; injection e with e1 e2
      subst e2
      unfold restL
      split <;> simp only [lenOf] <;> omega
theorem cutW_cons {kf w : Int} {ws : List Int} {l l'' : List Pc} {xs : List Int} (e : cutW kf (w :: ws) l = some (xs, l'')) : ∃ x l' ys, cutL w kf l = some (x, l') ∧ cutW kf ws l' = some (ys, l'') ∧ xs = x :: ys := by
  unfold cutW at e
  cases hc : cutL w kf l with
  | none => rw [hc] at e; cases e
  | some q =>
    obtain ⟨x, l1⟩ := q
    rw [hc] at e
    simp only at e
    cases hc2 : cutW kf ws l1 with
    | none => rw [hc2] at e; cases e
    | some r =>
      obtain ⟨ys, l2⟩ := r
      rw [hc2] at e
      simp only [Option.some.injEq, Prod.mk.injEq] at e
      obtain ⟨rfl, rfl⟩ := e
      exact ⟨x, l1, ys, rfl, hc2, rfl⟩
theorem cutW_len {kf : Int} (hk : 0 ≤ kf) : ∀ {ws : List Int}, (∀ w ∈ ws, 1 ≤ w) → ∀ {l : List Pc} {d : Int}, coreFrom d l = true → ∀ {xs : List Int} {l' : List Pc}, cutW kf ws l = some (xs, l') → lenOf l' + sumI ws ≤ lenOf l := by
  intro ws
  induction ws with
  | nil => intro hw l d h xs l' e; simp only [cutW, Option.some.injEq, Prod.mk.injEq] at e; obtain ⟨rfl, rfl⟩ := e; simp [sumI]
  | cons w ws ih =>
    intro hw l d h xs l' e
    obtain ⟨x, l1, ys, e1, e2, rfl⟩ := cutW_cons e
    have g := cutL_good (hw w (List.mem_cons_self ..)) hk h e1
    have h1 := cutL_len (hw w (List.mem_cons_self ..)) hk h e1
    have h2 := ih (fun w hw' => hw w (List.mem_cons_of_mem _ hw')) g.1 e2
    simp only [sumI]
    omega

def oneP (a s : Int) : List Pc := if 0 < s then [(a, a + s)] else []
theorem sumI_nonneg : ∀ {ws : List Int}, (∀ w ∈ ws, 1 ≤ w) → 0 ≤ sumI ws := by
  intro ws
  induction ws with
  | nil => intro _; simp [sumI]
  | cons w ws ih =>
    intro h
    have h1 := ih fun x hx => h x (List.mem_cons_of_mem _ hx)
    have h2 := h w (List.mem_cons_self ..)
    simp only [sumI]
    omega
/-- A piece as long as all samples is used up by a saw without a kerf. -/
theorem cutW_full : ∀ {ws : List Int}, (∀ w ∈ ws, 1 ≤ w) → ∀ a : Int, ∃ xs, cutW 0 ws (oneP a (sumI ws)) = some (xs, []) ∧ xs.length = ws.length := by
  intro ws
  induction ws with
  | nil => intro _ a; exact ⟨[], rfl, rfl⟩
  | cons w ws ih =>
    intro h a
    have h2 := h w (List.mem_cons_self ..)
    have h1 := sumI_nonneg fun x hx => h x (List.mem_cons_of_mem _ hx)
    obtain ⟨xs, e, hl⟩ := ih (fun x hx => h x (List.mem_cons_of_mem _ hx)) (a + w)
    refine ⟨a :: xs, ?_, by simp [hl]⟩
    simp only [sumI]
    have hc : cutL w 0 (oneP a (w + sumI ws)) = some (a, oneP (a + w) (sumI ws)) := by
      rw [oneP, if_pos (by omega), cutL, if_neg (by show ¬ a + (w + sumI ws) - a < w; omega)]
      simp only [restL, oneP, Int.add_zero]
      by_cases h0 : 0 < sumI ws
      · rw [if_pos (by omega), if_pos h0]
        have : min (a + w) (a + (w + sumI ws)) = a + w := by omega
        rw [this, Int.add_assoc]
      · rw [if_neg (by omega), if_neg h0]
    simp only [cutW, hc, e]

theorem cutW_rep {w kf : Int} (hw : 1 ≤ w) (hk : 0 ≤ kf) : ∀ (m : Nat) {l : List Pc} {d : Int}, coreFrom d l = true → ((cutW kf (List.replicate m w) l).isSome = true ↔ (m : Int) ≤ cnt w kf l) := by
  intro m
  induction m with
  | zero => intro l d h; have := cnt_nonneg hw hk h; simp [cutW]; omega
  | succ m ih =>
    intro l d h
    have hc := cut_cnt hw hk h
    rw [List.replicate_succ]
    cases hq : cutL w kf l with
    | none =>
      have h0 := hc.1 hq
      simp only [cutW, hq]
      simp
      omega
    | some q =>
      obtain ⟨x, l'⟩ := q
      have h0 := hc.2 hq
      have g := cutL_good hw hk h hq
      have h1 := ih g.1
      simp only [cutW, hq]
      cases hz : cutW kf (List.replicate m w) l' with
      | none => rw [hz] at h1; simp at h1 ⊢; omega
      | some r => rw [hz] at h1; simp at h1 ⊢; omega
theorem cutW_thin {kf : Int} (hk : 1 ≤ kf) {ws : List Int} {w : Int} (hall : ∀ x ∈ ws, x = w) (hw : 1 ≤ w) {l : List Pc} {d : Int} (h : coreFrom d l = true) (hs : (cutW kf ws l).isSome = true) : (cutW (kf - 1) ws l).isSome = true := by
  have e : ws = List.replicate ws.length w := List.eq_replicate_iff.2 ⟨rfl, hall⟩
  rw [e] at hs ⊢
  rw [cutW_rep hw (by omega) _ h] at hs ⊢
  have := cnt_thicker (kf := kf - 1) hw (by omega) h
  rw [show kf - 1 + 1 = kf by omega] at this
  omega

theorem cutL_single {w kf : Int} (hk : 0 ≤ kf) (hw : 1 ≤ w) : ∀ {l : List Pc} {x : Int} {l' : List Pc}, l.length ≤ 1 → cutL w kf l = some (x, l') → l'.length ≤ 1 ∧ lenOf l ≤ lenOf l' + w + kf := by
  intro l x l' hl e
  match l, hl with
  | [], _ => simp [cutL] at e
  | [p], _ =>
    unfold cutL at e
    split at e
    · simp [cutL] at e
    · injection e with e; injection e with e1 e2
      subst e2
      unfold restL
      split <;> simp [lenOf] <;> omega
theorem cutW_single {kf : Int} (hk : 0 ≤ kf) : ∀ {ws : List Int}, (∀ w ∈ ws, 1 ≤ w) → ∀ {l : List Pc} {xs : List Int} {l' : List Pc}, l.length ≤ 1 → cutW kf ws l = some (xs, l') → lenOf l ≤ lenOf l' + sumI ws + kf * ws.length := by
  intro ws
  induction ws with
  | nil => intro hw l xs l' hl e; simp only [cutW, Option.some.injEq, Prod.mk.injEq] at e; obtain ⟨rfl, rfl⟩ := e; simp [sumI]
  | cons w ws ih =>
    intro hw l xs l' hl e
    obtain ⟨x, l1, ys, e1, e2, rfl⟩ := cutW_cons e
    have g := cutL_single hk (hw w (List.mem_cons_self ..)) hl e1
    have h2 := ih (fun w hw' => hw w (List.mem_cons_of_mem _ hw')) g.1 e2
    simp only [sumI, List.length_cons]
    rw [show ((ws.length + 1 : Nat) : Int) = (ws.length : Int) + 1 by omega, Int.mul_add]
    omega

theorem cutW_part {kf : Int} (hk : 0 ≤ kf) {a b : List Int} (hb : ∀ w ∈ b, 1 ≤ w) (ha : ∀ w ∈ a, 1 ≤ w) {l l'' : List Pc} {d : Int} {xs : List Int} (h : coreFrom d l = true) (e : cutW kf (a ++ b) l = some (xs, l'')) :
    ∃ ys l', cutW kf a l = some (ys, l') ∧ ys.length ≤ xs.length ∧ xs.take ys.length = ys ∧ lenOf l'' ≤ lenOf l' := by
  rw [cutW_append] at e
  cases hc : cutW kf a l with
  | none => rw [hc] at e; cases e
  | some q =>
    obtain ⟨ys, l'⟩ := q
    rw [hc] at e
    simp only at e
    have g := cutW_good hk ha h hc
    cases hc2 : cutW kf b l' with
    | none => rw [hc2] at e; cases e
    | some r =>
      obtain ⟨zs, l2⟩ := r
      rw [hc2] at e
      simp only [Option.some.injEq, Prod.mk.injEq] at e
      obtain ⟨rfl, rfl⟩ := e
      have h1 := cutW_len hk hb g.1 hc2
      have h2 := sumI_nonneg hb
      exact ⟨ys, l', rfl, by simp, by simp, by omega⟩

/-- One step of the reference's saw, told of all samples so far. -/
theorem cut_step {kf x : Int} (hx : 1 ≤ x) (hk : 0 ≤ kf) {l : List Pc} (hF : coreFrom 0 l = true) {ws xs : List Int} {k : Nat} {d : Int} (hcut : cutW kf ws l = some (xs, absL (l.drop k) d)) (hdp : ∀ p tl, l.drop k = p :: tl → d ≤ p.2) (hpre : ∀ p ∈ l.take k, p.2 ≤ d) :
    (placeL x (l.drop k) d k = none → cutW kf (ws ++ [x]) l = none) ∧
    (∀ j fr, placeL x (l.drop k) d k = some (j, fr) → ∃ q : Pc, k ≤ j ∧ l[j]? = some q ∧ q.1 ≤ fr ∧ d ≤ fr ∧ fr + x ≤ q.2 ∧ cutW kf (ws ++ [x]) l = some (xs ++ [fr], absL (l.drop j) (min q.2 (fr + x + kf))) ∧
      (∀ p tl, l.drop j = p :: tl → min q.2 (fr + x + kf) ≤ p.2) ∧ (∀ p ∈ l.take j, p.2 ≤ min q.2 (fr + x + kf))) := by
  have PC := place_cut (w := x) (kf := kf) hx hk (t := l.drop k) (d := d) (i := k) (coreFrom_drop k hF) hdp
  have SN := cutW_snoc x hcut
  refine ⟨fun h => by rw [SN, PC.1 h], fun j fr h => ?_⟩
  obtain ⟨q, tl, hkj, hdr, hq, hdf, hfr, hp, hc⟩ := PC.2 h
  rw [List.drop_drop, show k + (j - k) = j by omega] at hdr
  have hl : l[j]? = some q := by have := congrArg (fun t => t[0]?) hdr; simpa using this
  refine ⟨q, hkj, hl, hq, hdf, hfr, by rw [SN, hc, hdr], fun p tl' e => ?_, fun p hp' => ?_⟩
  · rw [hdr] at e
    injection e with e _
    rw [← e]
    omega
  · have e : l.take j = l.take k ++ (l.drop k).take (j - k) := by
      rw [← List.take_append_drop k (l.take j), List.take_take, List.drop_take]
      congr 2
      omega
    rw [e] at hp'
    rcases List.mem_append.1 hp' with h1 | h1
    · have := hpre p h1
      omega
    · have := hp p h1
      omega

/-! ### Joined cores -/
def joinAcc (cur : Pc) : List Pc → List Pc
  | [] => [cur]
  | p :: t => if cur.2 = p.1 then joinAcc (cur.1, p.2) t else cur :: joinAcc p t
def joinL : List Pc → List Pc
  | [] => []
  | p :: t => joinAcc p t
theorem joinAcc_good : ∀ {t : List Pc} {cur : Pc} {d : Int}, coreFrom d (cur :: t) = true → coreFrom d (joinAcc cur t) = true ∧ (joinAcc cur t).length ≤ t.length + 1 := by
  intro t
  induction t with
  | nil => intro cur d h; exact ⟨h, by simp [joinAcc]⟩
  | cons p t ih =>
    intro cur d h
    have h1 := (coreFrom_cons _ _ _).1 h
    have h2 := (coreFrom_cons _ _ _).1 h1.2
    rw [joinAcc]
    split
    · rename_i e
      have := ih (cur := (cur.1, p.2)) (d := d) ((coreFrom_cons _ _ _).2 ⟨⟨h1.1.1, by show cur.1 < p.2; omega, h2.1.2.2⟩, h2.2⟩)
      exact ⟨this.1, by simp only [List.length_cons]; omega⟩
    · have := ih (cur := p) h1.2
      exact ⟨(coreFrom_cons _ _ _).2 ⟨h1.1, this.1⟩, by simp only [List.length_cons]; omega⟩
theorem joinL_good {l : List Pc} (h : coreB l = true) : coreB (joinL l) = true := by
  rw [coreB_iff] at h ⊢
  cases l with
  | nil => exact ⟨rfl, by simp [joinL]⟩
  | cons p t =>
    have := joinAcc_good h.1
    simp only [List.length_cons] at h
    exact ⟨this.1, by show (joinAcc p t).length ≤ 20; omega⟩
theorem joinAcc_long {w kf : Int} : ∀ {t : List Pc} {cur : Pc} {d : Int}, coreFrom d (cur :: t) = true → w ≤ cur.2 - cur.1 → ∃ l', cutL w kf (joinAcc cur t) = some (cur.1, l') := by
  intro t
  induction t with
  | nil => intro cur d h hw; exact ⟨_, by rw [joinAcc, cutL, if_neg (by omega)]⟩
  | cons p t ih =>
    intro cur d h hw
    have h1 := (coreFrom_cons _ _ _).1 h
    have h2 := (coreFrom_cons _ _ _).1 h1.2
    rw [joinAcc]
    split
    · exact ih (cur := (cur.1, p.2)) (d := d) ((coreFrom_cons _ _ _).2 ⟨⟨h1.1.1, by show cur.1 < p.2; omega, h2.1.2.2⟩, h2.2⟩) (by show w ≤ p.2 - cur.1; omega)
    · exact ⟨_, by rw [cutL, if_neg (by omega)]⟩
theorem cutL_ge {w kf : Int} (hw : 1 ≤ w) (hk : 0 ≤ kf) {l l' : List Pc} {d x : Int} (h : coreFrom d l = true) (e : cutL w kf l = some (x, l')) : d ≤ x := (cutL_good hw hk h e).2.2.1
theorem joinAcc_cut {w kf : Int} (hw : 1 ≤ w) (hk : 0 ≤ kf) : ∀ {t : List Pc} {cur : Pc} {d x : Int} {l' : List Pc}, coreFrom d (cur :: t) = true → cutL w kf (cur :: t) = some (x, l') → ∃ y l2, y ≤ x ∧ cutL w kf (joinAcc cur t) = some (y, l2) := by
  intro t
  induction t with
  | nil => intro cur d x l' h e; exact ⟨x, l', Int.le_refl _, e⟩
  | cons p t ih =>
    intro cur d x l' h e
    have h1 := (coreFrom_cons _ _ _).1 h
    have h2 := (coreFrom_cons _ _ _).1 h1.2
    by_cases hc : cur.2 - cur.1 < w
    · rw [cutL, if_pos hc] at e
      have hx := cutL_ge hw hk h1.2 e
      rw [joinAcc]
      split
      · rename_i ej
        have hF : coreFrom d ((cur.1, p.2) :: t) = true := (coreFrom_cons _ _ _).2 ⟨⟨h1.1.1, by show cur.1 < p.2; omega, h2.1.2.2⟩, h2.2⟩
        by_cases hl : w ≤ p.2 - cur.1
        · obtain ⟨l2, e2⟩ := joinAcc_long (w := w) (kf := kf) hF hl
          exact ⟨_, _, by show cur.1 ≤ x; omega, e2⟩
        · have e' : cutL w kf ((cur.1, p.2) :: t) = some (x, l') := by
            rw [cutL, if_pos (by show p.2 - cur.1 < w; omega)]
            rw [cutL, if_pos (by omega)] at e
            exact e
          exact ih hF e'
      · obtain ⟨y, l2, hy, e2⟩ := ih h1.2 e
        exact ⟨y, l2, hy, by rw [cutL, if_pos hc]; exact e2⟩
    · rw [cutL, if_neg hc] at e
      injection e with e; injection e with e1 e2
      subst e1
      obtain ⟨l2, e2⟩ := joinAcc_long (w := w) (kf := kf) h (by omega)
      exact ⟨_, _, Int.le_refl _, e2⟩
theorem joinL_cut {w kf : Int} (hw : 1 ≤ w) (hk : 0 ≤ kf) {l l' : List Pc} {d x : Int} (h : coreFrom d l = true) (e : cutL w kf l = some (x, l')) : ∃ y l2, y ≤ x ∧ cutL w kf (joinL l) = some (y, l2) := by
  cases l with
  | nil => simp [cutL] at e
  | cons p t => exact joinAcc_cut hw hk h e

/-! ### Places of samples -/
def SubC (l0 l : List Pc) : Prop := ∀ q ∈ l, ∃ p ∈ l0, p.1 ≤ q.1 ∧ q.2 = p.2
theorem subC_refl (l : List Pc) : SubC l l := fun q hq => ⟨q, hq, Int.le_refl _, rfl⟩
theorem cutL_sub {w kf : Int} (hw : 1 ≤ w) (hk : 0 ≤ kf) {l0 : List Pc} : ∀ {l : List Pc} {d x : Int} {l' : List Pc}, SubC l0 l → coreFrom d l = true → cutL w kf l = some (x, l') →
    SubC l0 l' ∧ ∃ p ∈ l0, p.1 ≤ x ∧ x + w ≤ p.2 ∧ coreFrom (min p.2 (x + w + kf)) l' = true := by
  intro l
  induction l with
  | nil => intro d x l' hs h e; simp [cutL] at e
  | cons q t ih =>
    intro d x l' hs h e
    have h1 := (coreFrom_cons _ _ _).1 h
    unfold cutL at e
    split at e
    · exact ih (fun q hq => hs q (List.mem_cons_of_mem _ hq)) h1.2 e
    · injection e with e; injection e with e1 e2
      subst e1; subst e2
      obtain ⟨p, hp, hp1, hp2⟩ := hs q (List.mem_cons_self ..)
      refine ⟨fun r hr => ?_, p, hp, hp1, by omega, ?_⟩
      · unfold restL at hr
        split at hr
        · rcases List.mem_cons.1 hr with rfl | hr
          · exact ⟨p, hp, by show p.1 ≤ min _ _; omega, hp2⟩
          · exact hs r (List.mem_cons_of_mem _ hr)
        · exact hs r (List.mem_cons_of_mem _ hr)
      · unfold restL
        split
        · rw [coreFrom_cons]; exact ⟨⟨by show min p.2 _ ≤ min _ _; omega, by assumption, h1.1.2.2⟩, h1.2⟩
        · exact coreFrom_mono h1.2 (by omega)
def TopsOk (kf : Int) (l0 : List Pc) (ws xs : List Int) : Prop :=
  ∀ i x w, xs[i]? = some x → ws[i]? = some w → ∃ p ∈ l0, p.1 ≤ x ∧ x + w ≤ p.2 ∧ ∀ y, xs[i + 1]? = some y → min p.2 (x + w + kf) ≤ y
theorem cutW_tops {kf : Int} (hk : 0 ≤ kf) {l0 : List Pc} : ∀ {ws : List Int}, (∀ w ∈ ws, 1 ≤ w) → ∀ {l : List Pc} {d : Int}, SubC l0 l → coreFrom d l = true → ∀ {xs : List Int} {l' : List Pc}, cutW kf ws l = some (xs, l') → TopsOk kf l0 ws xs ∧ ∀ y, xs[0]? = some y → d ≤ y := by
  intro ws
  induction ws with
  | nil =>
    intro hw l d hs h xs l' e
    simp only [cutW, Option.some.injEq, Prod.mk.injEq] at e
    obtain ⟨rfl, rfl⟩ := e
    exact ⟨fun i x w hx _ => by simp at hx, fun y hy => by simp at hy⟩
  | cons w ws ih =>
    intro hw l d hs h xs l' e
    obtain ⟨x, l1, ys, e1, e2, rfl⟩ := cutW_cons e
    have hw1 := hw w (List.mem_cons_self ..)
    obtain ⟨hs1, p, hp, hp1, hp2, hF⟩ := cutL_sub hw1 hk hs h e1
    obtain ⟨i1, i2⟩ := ih (fun w hw' => hw w (List.mem_cons_of_mem _ hw')) hs1 hF e2
    refine ⟨fun i x' w' hx hw' => ?_, fun y hy => ?_⟩
    · cases i with
      | zero =>
        simp only [List.getElem?_cons_zero, Option.some.injEq] at hx hw'
        subst hx; subst hw'
        exact ⟨p, hp, hp1, hp2, fun y hy => i2 y (by simpa using hy)⟩
      | succ i =>
        obtain ⟨p', r⟩ := i1 i x' w' (by simpa using hx) (by simpa using hw')
        exact ⟨p', r⟩
    · simp only [List.getElem?_cons_zero, Option.some.injEq] at hy
      subst hy
      exact cutL_ge hw1 hk h e1
end Go.Proofs.YtefadlbfkhndfaaGreatDoor

/-
  A region that draws its order, whose operations read old memory and whose callees may make new memory: one walk in the order of the text, in the class of worlds that are as w0 was below block B.
-/
namespace Go.Proofs.YtefadlbfkhndfaaGreatDoor
open Go.RowKit
set_option linter.unusedSimpArgs false
set_option linter.unusedVariables false

def Later (B : Nat) (w0 : World) : Type := { w' : World // Below B w0 w' }

instance laterNonempty (B : Nat) (w0 : World) : Nonempty (Later B w0) := ⟨⟨w0, Below.refl _ _⟩⟩

section
variable {P : Program} {B : Nat} {w0 : World}
theorem wp_region_under {id : Nat} {Q : Exit → Act → World → Prop} {a : Act} {w : World} {l : List Oper} (hm : P.follows .mixedOrders = true) (hB : Region.lexB .any l.toArray = true) (h0 : Below B w0 w)
    (h : wpQuiet P l.toArray (fun w' => ∃ u : Later B w0, w' = u.1) (fun a' => ∀ w', (∃ u : Later B w0, w' = u.1) → Q .normal a' w') l a) : (Code.region id l.toArray true).wp P Q a w :=
  wp_region_quiet (C := fun w' => ∃ u : Later B w0, w' = u.1) hm hB ⟨⟨_, h0.drew⟩, rfl⟩ (by simpa using h)
theorem Calls.under {f : FuncId} {args : Array Value} {v : Value} {u : Later B w0} (hB : B ≤ w0.heap.size) (h : Calls P f args u.1 fun e w' => e = .returned v ∧ Below u.1.heap.size u.1 w') :
    Calls P f args u.1 fun e w'' => e = .returned v ∧ ∃ u' : Later B w0, w'' = u'.1 :=
  h.mono fun _ w' ⟨he, hb⟩ => ⟨he, ⟨w', u.2.trans (hb.mono (Nat.le_trans hB u.2.size))⟩, rfl⟩
theorem Calls.underSame {f : FuncId} {args : Array Value} {v : Value} {u : Later B w0} (h : Calls P f args u.1 fun e w' => e = .returned v ∧ u.1 = w') :
    Calls P f args u.1 fun e w'' => e = .returned v ∧ ∃ u' : Later B w0, w'' = u'.1 :=
  h.mono fun _ w' ⟨he, hb⟩ => ⟨he, u, hb.symm⟩
theorem Later.cell {a : Addr} {v : Value} (hb : a.block < B) (h : w0.cell? a = some v) : ∀ u : Later B w0, u.1.cell? a = some v := fun u => (u.2.cell hb).trans h
end
end Go.Proofs.YtefadlbfkhndfaaGreatDoor

/-
  'append(out, xs...)' onto a row of the call's own, the source nil, empty or not.
-/
namespace Go.Proofs.YtefadlbfkhndfaaGreatDoor
open Go.RowKit
set_option linter.unusedSimpArgs false
set_option linter.unusedVariables false

theorem Arr.cells {α : Type} {f : α → List Value} {sz : Nat} {w : World} {B : Nat} {A : Option Addr} {n : Nat} {l : List α} (h : Arr f sz w B A n l) (hf : ∀ x, (f x).length = sz) (hsz : 0 < sz) (hn : 0 < n) :
    ∃ ad, A = some ad ∧ ∀ i u, (l.flatMap f)[i]? = some u → w.cell? (ad.add i) = some u := by
  obtain ⟨b, off, e, hb, hc⟩ := h.2 hn
  refine ⟨_, e, fun i u hu => ?_⟩
  have hi : i < l.length * sz := by
    have := (List.getElem?_eq_some_iff.1 hu).1
    rw [length_flatMap hf] at this
    exact this
  have hk : i / sz < l.length := by rw [Nat.div_lt_iff_lt_mul hsz]; exact hi
  have hj : i % sz < sz := Nat.mod_lt _ hsz
  have e1 : i / sz * sz + i % sz = i := by rw [Nat.mul_comm]; exact Nat.div_add_mod i sz
  have hx := List.getElem?_eq_getElem hk
  have := getElem?_flatMap hf l (i / sz) _ (i % sz) hx hj
  rw [e1, hu] at this
  have h2 := hc (i / sz) _ hx (i % sz) u this.symm
  rw [Nat.add_assoc, e1] at h2
  rw [Addr.add_lit]
  exact h2

section
variable {α : Type} {f : α → List Value} {P : Program} (w : World)
theorem run_append_arr (base : Nat) (t ty e : TypeId) (i : TypeInfo) (z : Value) (size bytes : Nat) (ht : P.underlying t = some (.slice e)) (hi : P.info? e = some i) (hz : i.zero = some z)
    (hsize : i.size = size) (hby : i.bytes = bytes) (hzs : z.cells.size = size) (hsz : 0 < size) (hf : ∀ x, (f x).length = size) (h1 : ∀ x, ∀ u ∈ f x, u.oneCell' = true)
    (v : Value) (n : Nat) (l : List α) (hown : Own f size w base e v n l)
    (B : Nat) (A : Option Addr) (m c : Nat) (l2 : List α) (hr : Arr f size w B A m l2)
    (h63 : n + m ≤ maxLen) (hbytes : (n + m) * bytes ≤ 140737488355328) (hbase : base ≤ w.heap.size) :
    ∃ v' w', (Builtin.append_ #[t, t] ty #[v, .slice A m c]).run P w = .ok v' w' ∧ Own f size w' base e v' (n + m) (l ++ l2) ∧ w.grownBy w' v.ownBlock ∧
      (v'.ownBlock = v.ownBlock ∨ v'.ownBlock = some w.heap.size) := by
  have hlen : (l2.flatMap f).length = m * size := by rw [length_flatMap hf, hr.1]
  rcases A with _ | ad
  · have hm : m = 0 := by
      rcases Nat.eq_zero_or_pos m with h0 | h0
      · exact h0
      · obtain ⟨b, off, h, _⟩ := hr.2 h0
        cases h
    subst hm
    have hl2 : l2 = [] := List.eq_nil_of_length_eq_zero hr.1
    subst hl2
    refine ⟨v, w, ?_, ⟨by simpa using hown.1, by simpa using hown.2⟩, World.grownBy.refl w _, .inl rfl⟩
    rcases hown.2.2 with ⟨rfl, rfl⟩ | ⟨g, cap, cur, rfl, _, _, hnc, _⟩
    · simp [Builtin.append_, run_underlying ht, sizeOf, typeInfo, hi, Builtin.lenOf, Builtin.firstCells]
    · simp [Builtin.append_, run_underlying ht, sizeOf, typeInfo, hi, Builtin.lenOf, Builtin.firstCells, hnc, storeCells]
  · have hcells : ∀ j u, (l2.flatMap f)[j]? = some u → w.cell? (ad.add j) = some u := by
      intro j u hu
      rcases Nat.eq_zero_or_pos m with h0 | h0
      · subst h0
        have hl2 : l2 = [] := List.eq_nil_of_length_eq_zero hr.1
        subst hl2
        simp at hu
      · obtain ⟨ad', h, hc⟩ := hr.cells hf hsz h0
        injection h with h
        subst h
        exact hc j u hu
    obtain ⟨v', w', hrun, h2, h3, _, h5⟩ := run_append_own_at (P := P) w base t ty e i z size bytes ht hi hz hsize hby hzs hsz v n _ hown.2 ad m c _ hlen hcells
      (fun u hu => by obtain ⟨x, _, hx⟩ := List.mem_flatMap.1 hu; exact h1 x u hx) h63 hbytes hbase
    exact ⟨v', w', hrun, ⟨by rw [List.length_append, hown.1, hr.1], by rw [List.flatMap_append]; exact h2⟩, h3, h5⟩

theorem wp_append_arr {o : Oper} {a : Act} {K : Act → World → Prop} {Q : Exit → Act → World → Prop} (s x : Operand) (t : TypeId)
    (ho : o.op = .call { callee := .builtin .append, args := #[s, x], argTypes := #[t, t] })
    (base : Nat) (e : TypeId) (i : TypeInfo) (z : Value) (size bytes : Nat) (ht : P.underlying t = some (.slice e)) (hi : P.info? e = some i) (hz : i.zero = some z)
    (hsize : i.size = size) (hby : i.bytes = bytes) (hzs : z.cells.size = size) (hsz : 0 < size) (hf : ∀ x, (f x).length = size) (h1 : ∀ x, ∀ u ∈ f x, u.oneCell' = true)
    (v : Value) (n : Nat) (l : List α) (hs : a.eval s = v) (hown : Own f size w base e v n l)
    (B : Nat) (A : Option Addr) (m c : Nat) (l2 : List α) (hx : a.eval x = .slice A m c) (hr : Arr f size w B A m l2)
    (h63 : n + m ≤ maxLen) (hbytes : (n + m) * bytes ≤ 140737488355328) (hbase : base ≤ w.heap.size)
    (h : ∀ v' w', Own f size w' base e v' (n + m) (l ++ l2) → w.grownBy w' v.ownBlock → (v'.ownBlock = v.ownBlock ∨ v'.ownBlock = some w.heap.size) → K (a.put o.dst v') w') : o.wp P a w K Q := by
  obtain ⟨v', w', hrun, h2, h3, h4⟩ := run_append_arr (P := P) w base t o.type e i z size bytes ht hi hz hsize hby hzs hsz hf h1 v n l hown B A m c l2 hr h63 hbytes hbase
  unfold Oper.wp execOp
  simp only [ho, resolve, invoke, builtin, Sem.run_bind, Sem.run_pure, Result.andThen_ok, List.map_toArray, List.map_cons, List.map_nil, hs, hx, hrun]
  exact h v' w' h2 h3 h4

theorem wpList_append_arr {ops : Array Oper} {rest : List Oper} {o : Oper} {a : Act} {Q : Exit → Act → World → Prop} (hgd : o.guard = none) (s x : Operand) (t : TypeId)
    (ho : o.op = .call { callee := .builtin .append, args := #[s, x], argTypes := #[t, t] })
    (base : Nat) (e : TypeId) (i : TypeInfo) (z : Value) (size bytes : Nat) (ht : P.underlying t = some (.slice e)) (hi : P.info? e = some i) (hz : i.zero = some z)
    (hsize : i.size = size) (hby : i.bytes = bytes) (hzs : z.cells.size = size) (hsz : 0 < size) (hf : ∀ x, (f x).length = size) (h1 : ∀ x, ∀ u ∈ f x, u.oneCell' = true)
    (v : Value) (n : Nat) (l : List α) (hs : a.eval s = v) (hown : Own f size w base e v n l)
    (B : Nat) (A : Option Addr) (m c : Nat) (l2 : List α) (hx : a.eval x = .slice A m c) (hr : Arr f size w B A m l2)
    (h63 : n + m ≤ maxLen) (hbytes : (n + m) * bytes ≤ 140737488355328) (hbase : base ≤ w.heap.size)
    (h : ∀ v' w', Own f size w' base e v' (n + m) (l ++ l2) → w.grownBy w' v.ownBlock → (v'.ownBlock = v.ownBlock ∨ v'.ownBlock = some w.heap.size) → wpList P ops Q rest (a.put o.dst v') w') : wpList P ops Q (o :: rest) a w :=
  wpList_plain hgd fun _ hK => wp_append_arr w s x t ho base e i z size bytes ht hi hz hsize hby hzs hsz hf h1 v n l hs hown B A m c l2 hx hr h63 hbytes hbase fun v' w' h2 h3 h4 => hK _ _ (h v' w' h2 h3 h4)

theorem step_append_arr {ops : Array Oper} {o : Oper} {a : Act} {K : Act → World → Prop} {Q : Exit → Act → World → Prop} {E : Prop} (hgd : o.guard = none) (s x : Operand) (t : TypeId)
    (ho : o.op = .call { callee := .builtin .append, args := #[s, x], argTypes := #[t, t] })
    (base : Nat) (e : TypeId) (i : TypeInfo) (z : Value) (size bytes : Nat) (ht : P.underlying t = some (.slice e)) (hi : P.info? e = some i) (hz : i.zero = some z)
    (hsize : i.size = size) (hby : i.bytes = bytes) (hzs : z.cells.size = size) (hsz : 0 < size) (hf : ∀ x, (f x).length = size) (h1 : ∀ x, ∀ u ∈ f x, u.oneCell' = true)
    (v : Value) (n : Nat) (l : List α) (hs : a.eval s = v) (hown : Own f size w base e v n l)
    (B : Nat) (A : Option Addr) (m c : Nat) (l2 : List α) (hx : a.eval x = .slice A m c) (hr : Arr f size w B A m l2)
    (h63 : n + m ≤ maxLen) (hbytes : (n + m) * bytes ≤ 140737488355328) (hbase : base ≤ w.heap.size)
    (h : ∀ v' w', Own f size w' base e v' (n + m) (l ++ l2) → w.grownBy w' v.ownBlock → (v'.ownBlock = v.ownBlock ∨ v'.ownBlock = some w.heap.size) → K (a.put o.dst v') w') :
    if Region.wanted o (yielded ops a.tmps) = true then Oper.wp P o a w K Q else E := by
  have hw : Region.wanted o (yielded ops a.tmps) = true := by simp [Region.wanted, hgd]
  rw [if_pos hw]
  exact wp_append_arr w s x t ho base e i z size bytes ht hi hz hsize hby hzs hsz hf h1 v n l hs hown B A m c l2 hx hr h63 hbytes hbase h
end
theorem one_PP' (x : Int × Int) : ∀ u ∈ PP x, u.oneCell' = true := one_PP x.1 x.2
theorem one_LL' (x : Int × Bool) : ∀ u ∈ LL x, u.oneCell' = true := one_LL x.1 x.2
theorem one_II' (x : Int) : ∀ u ∈ II x, u.oneCell' = true := one_II x
end Go.Proofs.YtefadlbfkhndfaaGreatDoor

/-
  The exact laws' own words on a slice of Layer: its size, its copy, its comparison.
-/
namespace Go.Proofs.YtefadlbfkhndfaaGreatDoor
open Go.RowKit
set_option linter.unusedSimpArgs false
set_option linter.unusedVariables false

theorem set_flatMap_LL : ∀ (L : List (Int × Bool)) (k : Nat) (x : Int) (y : Bool), k < L.length → ((L.flatMap LL).set (k * 2) (.int .i64 x)).set (k * 2 + 1) (.bool y) = (L.set k (x, y)).flatMap LL := by
  intro L
  induction L with
  | nil => intro k x y h; simp at h
  | cons o L ih =>
    intro k x y h
    cases k with
    | zero => simp [LL]
    | succ k =>
      rw [show (k + 1) * 2 = k * 2 + 2 by omega]
      simp only [List.flatMap_cons, LL, List.cons_append, List.nil_append, List.set_cons_succ, List.set_cons_succ]
      rw [ih k x y (by simpa using h)]
section
variable {w : World} {base g n c k : Nat} {T : TypeId}
theorem Own.layAt {L : List (Int × Bool)} {x : Int} {y : Bool} (h : Own LL 2 w base T (.slice (some ⟨g, 0, none⟩) n c) n L) (hk : L[k]? = some (x, y)) :
    w.cell? ⟨g, k * 2, none⟩ = some (.int .i64 x) ∧ w.cell? ⟨g, k * 2 + 1, none⟩ = some (.bool y) := by
  have hl : k < n := by rw [← h.1]; exact (List.getElem?_eq_some_iff.1 hk).1
  have h0 := h.2.cellAt (k * 2) (by omega)
  have h1 := h.2.cellAt (k * 2 + 1) (by omega)
  have g0 := getElem?_flatMap LL_length L k _ 0 hk (by omega)
  have g1 := getElem?_flatMap LL_length L k _ 1 hk (by omega)
  exact ⟨h0.trans g0, h1.trans g1⟩
theorem Own.setLay {L : List (Int × Bool)} (h : Own LL 2 w base T (.slice (some ⟨g, 0, none⟩) n c) n L) (hk : k < n) (x : Int) (y : Bool) :
    Own LL 2 ((w.setCell ⟨g, k * 2, none⟩ (.int .i64 x)).setCell ⟨g, k * 2 + 1, none⟩ (.bool y)) base T (.slice (some ⟨g, 0, none⟩) n c) n (L.set k (x, y)) := by
  have h1 := (h.2.stored (k * 2) (.int .i64 x)).1
  have h2 := (h1.stored (k * 2 + 1) (.bool y)).1
  rw [set_flatMap_LL L k x y (by rw [h.1]; exact hk)] at h2
  exact ⟨by rw [List.length_set]; exact h.1, h2⟩
end

theorem infoLayer : (Tryz.prog.info? 73).map (fun i => (i.zero, i.size, i.bytes)) = some (some (.agg #[.int .i64 0, .bool false]), 2, 16) := by kernel_rfl

end Go.Proofs.YtefadlbfkhndfaaGreatDoor

/-
  The exact laws' own words on a slice of Piece: its size, its copy, its comparison.
-/
namespace Go.Proofs.YtefadlbfkhndfaaGreatDoor
open Go.RowKit
set_option linter.unusedSimpArgs false
set_option linter.unusedVariables false

theorem infoPiece : (Tryz.prog.info? 69).map (fun i => (i.zero, i.size, i.bytes)) = some (some (.agg #[.int .i64 0, .int .i64 0]), 2, 16) := by kernel_rfl

end Go.Proofs.YtefadlbfkhndfaaGreatDoor

/-
  The row of the table of types: a piece.
-/
namespace Go.Proofs.YtefadlbfkhndfaaGreatDoor
theorem infoPc : (Tryz.prog.info? 69).map (fun i => (i.zero, i.size, i.bytes)) = some (some (.agg #[.int .i64 0, .int .i64 0]), 2, 16) := by kernel_rfl
end Go.Proofs.YtefadlbfkhndfaaGreatDoor
