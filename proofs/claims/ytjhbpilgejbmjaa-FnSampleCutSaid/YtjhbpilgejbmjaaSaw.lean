/-
  Contract: the saw's cut.
-/
import Derived.Test.YtjhbpilgejbmjaaCore
import Derived.Test.YtjhbpilgejbmjaaPlainS
import Derived.Test.YtjhbpilgejbmjaaPairPiece
import Derived.Test.YtjhbpilgejbmjaaAppend
import Derived.StillTailTactics
namespace Go.Proofs.Ytjhbpilgejbmjaa
open Go.RowKit
set_option linter.unusedSimpArgs false
set_option linter.unusedVariables false

variable {Z : Nat → Prop}
/-- A block that is neither the saw's nor one of those that the saw must not touch. -/
def Off (Z : Nat → Prop) (g b : Nat) : Prop := b ≠ g ∧ ¬ Z b
/-- Block g holds a saw: what is left of the core, and the kerf. -/
def Saw (Z : Nat → Prop) (w : World) (g : Nat) (T : TypeId) (kf : Int) (n : Nat) (L : List Pc) : Prop :=
  ∃ A c, w.heap[g]? = some (.cells #[.slice A n c, .int .i64 kf] T (0, 0)) ∧ n ≤ c ∧ Arr PP 2 w w.heap.size A n L ∧ (∀ b off, 0 < n → A = some ⟨b, off, none⟩ → Off Z g b)
def lenAt (w : World) (g : Nat) : Nat :=
  match w.heap[g]? with
  | some (.cells cs _ _) => match cs[0]? with
    | some (Value.slice _ n _) => n
    | _ => 0
  | _ => 0
theorem Saw.len {w : World} {g : Nat} {T : TypeId} {kf : Int} {n : Nat} {L : List Pc} (h : Saw Z w g T kf n L) : lenAt w g = n := by
  obtain ⟨A, c, hg, _⟩ := h
  unfold lenAt
  rw [hg]
  rfl
theorem Saw.lt {w : World} {g : Nat} {T : TypeId} {kf : Int} {n : Nat} {L : List Pc} (h : Saw Z w g T kf n L) : g < w.heap.size := by
  obtain ⟨A, c, hg, _⟩ := h
  exact (Array.getElem?_eq_some_iff.1 hg).1
theorem Arr.ne_keep {α : Type} {f : α → List Value} {sz : Nat} {w w' : World} {B B' : Nat} {A : Option Addr} {n g : Nat} {l : List α} (h : Arr f sz w B A n l) (hne : ∀ b off, 0 < n → A = some ⟨b, off, none⟩ → b ≠ g) (hB : B ≤ B')
    (hk : ∀ p : Addr, p.block < B → p.block ≠ g → w'.cell? p = w.cell? p) : Arr f sz w' B' A n l :=
  ⟨h.1, fun hn => by
    obtain ⟨b, off, e, hb, hc⟩ := h.2 hn
    exact ⟨b, off, e, by omega, fun k x hx j u hu => (hk _ hb (hne b off hn e)).trans (hc k x hx j u hu)⟩⟩
theorem Saw.kept {w w' : World} {g : Nat} {T : TypeId} {kf : Int} {n : Nat} {L : List Pc} (h : Saw Z w g T kf n L) (hb : Below w.heap.size w w') : Saw Z w' g T kf n L := by
  have hg := h.lt
  obtain ⟨A, c, h1, h2, h3, h4⟩ := h
  exact ⟨A, c, (hb.block g hg).trans h1, h2, (h3.below' hb).more hb.size, h4⟩
/-- The saw's field is stored: another row is left. -/
theorem saw_set {w w1 : World} {g : Nat} {T : TypeId} {kf : Int} {A A' : Option Addr} {n n' c c' : Nat} {L' : List Pc} (hg : w1.heap[g]? = some (.cells #[.slice A n c, .int .i64 kf] T (0, 0)))
    (hA : Arr PP 2 w1 w1.heap.size A' n' L') (hc : n' ≤ c') (hne : ∀ b off, 0 < n' → A' = some ⟨b, off, none⟩ → Off Z g b) (hG : w.grownBy w1 (some g)) :
    Saw Z (w1.setCell ⟨g, 0, none⟩ (.slice A' n' c')) g T kf n' L' ∧ w.grownBy (w1.setCell ⟨g, 0, none⟩ (.slice A' n' c')) (some g) := by
  have h0 := heap_setCell_same w1 g 0 _ _ (.slice A' n' c') hg
  refine ⟨⟨A', c', by rw [h0]; simp, hc, hA.ne_keep (fun b off hn e => (hne b off hn e).1) (by simp [World.setCell]) fun p _ hp => World.cell?_setCell_other _ _ _ _ (fun e => hp (by rw [← e])), hne⟩, grown_setCell hG (.inl rfl) _⟩

/-- A saw whose left pieces begin at a known place. -/
structure SawAt (Z : Nat → Prop) (w : World) (g : Nat) (T : TypeId) (kf : Int) (A : Option Addr) (n c : Nat) (L : List Pc) : Prop where
  hg : w.heap[g]? = some (.cells #[.slice A n c, .int .i64 kf] T (0, 0))
  hA : Arr PP 2 w w.heap.size A n L
  hne : ∀ b off, 0 < n → A = some ⟨b, off, none⟩ → Off Z g b
  hc : n ≤ c
section
variable {w : World} {g : Nat} {T : TypeId} {kf : Int} {A : Option Addr} {n c : Nat} {L : List Pc}
theorem SawAt.c0 (h : SawAt Z w g T kf A n c L) : w.cell? ⟨g, 0, none⟩ = some (.slice A n c) := by rw [cell_of_row w g 0 _ _ _ h.hg]; rfl
theorem SawAt.c1 (h : SawAt Z w g T kf A n c L) : w.cell? ⟨g, 1, none⟩ = some (.int .i64 kf) := by rw [cell_of_row w g 1 _ _ _ h.hg]; rfl
theorem SawAt.f0 (h : SawAt Z w g T kf A n c L) : w.frozen? ⟨g, 0, none⟩ = false := frozen_of_row w g 0 _ _ h.hg
theorem SawAt.lt (h : SawAt Z w g T kf A n c L) : g < w.heap.size := (Array.getElem?_eq_some_iff.1 h.hg).1
theorem SawAt.alloc (h : SawAt Z w g T kf A n c L) (o : Obj) : SawAt Z (w.alloc o) g T kf A n c L :=
  ⟨(Below.heap_alloc w o g h.lt).trans h.hg, (h.hA.alloc (Nat.le_refl _) o).more (by simp), h.hne, h.hc⟩
theorem SawAt.drewN (h : SawAt Z w g T kf A n c L) (q : Nat) : SawAt Z (w.drewN q) g T kf A n c L := ⟨h.hg, h.hA, h.hne, h.hc⟩
theorem SawAt.drew (h : SawAt Z w g T kf A n c L) : SawAt Z w.drew g T kf A n c L := ⟨h.hg, h.hA, h.hne, h.hc⟩
theorem SawAt.saw (h : SawAt Z w g T kf A n c L) : Saw Z w g T kf n L := ⟨A, c, h.hg, h.hc, h.hA, h.hne⟩
theorem SawAt.set {A' : Option Addr} {n' c' : Nat} {L' : List Pc} (h : SawAt Z w g T kf A n c L) (hA : Arr PP 2 w w.heap.size A' n' L') (hc : n' ≤ c') (hne : ∀ b off, 0 < n' → A' = some ⟨b, off, none⟩ → Off Z g b) :
    SawAt Z (w.setCell ⟨g, 0, none⟩ (.slice A' n' c')) g T kf A' n' c' L' := by
  have h0 := heap_setCell_same w g 0 _ _ (.slice A' n' c') h.hg
  exact ⟨by rw [h0]; simp, hA.ne_keep (fun b off hn e => (hne b off hn e).1) (by simp [World.setCell]) fun p _ hp => World.cell?_setCell_other _ _ _ _ (fun e => hp (by rw [← e])), hne, hc⟩
theorem SawAt.saw' (h : SawAt Z w g T kf A n c L) : Saw Z w g T kf L.length L := by rw [h.hA.1]; exact h.saw
theorem SawAt.below {w' : World} (h : SawAt Z w g T kf A n c L) (hb : Below w.heap.size w w') : SawAt Z w' g T kf A n c L :=
  ⟨(hb.block g h.lt).trans h.hg, (h.hA.below' hb).more hb.size, h.hne, h.hc⟩
/-- What is left behind the first piece. -/
theorem SawAt.tail {b off : Nat} (h : SawAt Z w g T kf (some ⟨b, off, none⟩) n c L) (hn : 0 < n) :
    Arr PP 2 w w.heap.size (if c = 1 then some (⟨b, off, none⟩ : Addr) else some ⟨b, off + 2, none⟩) (n - 1) (L.drop 1) ∧ (∀ b' off', 0 < n - 1 → (if c = 1 then some (⟨b, off, none⟩ : Addr) else some ⟨b, off + 2, none⟩) = some ⟨b', off', none⟩ → Off Z g b') ∧ n - 1 ≤ c - 1 := by
  have h1 := h.hA.cutAt (k := 1) (by omega) h.hc
  have hc := h.hc
  have e : (if c = 1 then some (⟨b, off, none⟩ : Addr) else Option.map (fun (x : Addr) => x.add (1 * 2)) (some (⟨b, off, none⟩ : Addr))) = (if c = 1 then some (⟨b, off, none⟩ : Addr) else some ⟨b, off + 2, none⟩) := by
    simp [Addr.add_lit]
  rw [e] at h1
  refine ⟨h1, fun b' off' _ e' => ?_, by omega⟩
  have hb := h.hne b off hn rfl
  split at e'
  · injection e' with e'; injection e' with e1 _; rw [← e1]; exact hb
  · injection e' with e'; injection e' with e1 _; rw [← e1]; exact hb
end

def CutPost (Z : Nat → Prop) (w : World) (g : Nat) (T : TypeId) (kf : Int) (L : List Pc) (width : Int) (e : Ending) (w' : World) : Prop :=
  (match cutL width kf L with
   | none => e = .returned (.tuple #[.int .i64 0, .bool false]) ∧ Saw Z w' g T kf 0 []
   | some (x, L') => e = .returned (.tuple #[.int .i64 x, .bool true]) ∧ Saw Z w' g T kf L'.length L') ∧ w.grownBy w' (some g)

theorem cutPost_some {w w' : World} {g : Nat} {T : TypeId} {kf width x : Int} {L L' : List Pc} (hc : cutL width kf L = some (x, L')) (hS : Saw Z w' g T kf L'.length L') (hG : w.grownBy w' (some g)) :
    CutPost Z w g T kf L width (.returned (.tuple #[.int .i64 x, .bool true])) w' := ⟨by rw [hc]; exact ⟨rfl, hS⟩, hG⟩
theorem cutPost_none {w w' : World} {g : Nat} {T : TypeId} {kf width : Int} {L : List Pc} (hc : cutL width kf L = none) (hS : Saw Z w' g T kf 0 []) (hG : w.grownBy w' (some g)) :
    CutPost Z w g T kf L width (.returned (.tuple #[.int .i64 0, .bool false])) w' := ⟨by rw [hc]; exact ⟨rfl, hS⟩, hG⟩
theorem cut_frame {w w' : World} {o : Obj} {c : Nat} (hg : (w.drew.alloc o).grownBy w' (Value.slice (some ⟨w.heap.size, 0, none⟩) 1 c).ownBlock) : Below w.heap.size w w' :=
  ((Below.refl w.heap.size w).drew.alloc (Nat.le_refl _) o).grown hg (by simp) (by intro k hk; simp [Value.ownBlock] at hk; omega)
theorem Own.lit1 (w : World) (base : Nat) (T : TypeId) (x y : Int) (hb : base ≤ w.heap.size) : Own PP 2 (w.alloc (.cells #[.int .i64 x, .int .i64 y] T)) base T (.slice (some ⟨w.heap.size, 0, none⟩) 1 1) 1 [(x, y)] :=
  ⟨rfl, World.ownsRow_lit w #[.int .i64 x, .int .i64 y] 1 hb (by unfold maxLen; omega) rfl⟩

set_option maxHeartbeats 2000000 in
theorem cut_any (g n : Nat) (kf width : Int) (L : List Pc) (w : World) (h : Saw Z w g 63 kf n L) (hn : n ≤ 20) (hL : coreFrom 0 L = true) (hw : 1 ≤ width ∧ width ≤ 1000) (hkf : 0 ≤ kf ∧ kf ≤ 100) (hZ : ∀ b, Z b → b < w.heap.size) :
    Calls Try.prog 42 #[.pointer (some ⟨g, 0, none⟩), .int .i64 width] w (CutPost Z w g 63 kf L width) := by
  obtain ⟨i0, hi, hz0, hz1, hz2⟩ := info_parts infoPiece
  obtain ⟨w1l, w1h⟩ := hw
  obtain ⟨k0, k1⟩ := hkf
  have hL' := Lib.hid hL
  have hZ' := Lib.hid hZ
  clear hL hZ
  go_enter Try.func42, Try.ntmps42
  go_wp2
  go_loopw [8] (fun _ wr => ∃ (n' : Nat) (L' : List Pc), n' ≤ n ∧ Saw Z wr g 63 kf n' L' ∧ coreFrom 0 L' = true ∧ cutL width kf L' = cutL width kf L ∧ w.grownBy wr (some g)) (fun _ wr => lenAt wr g)
  case atStart => exact ⟨n, L, Nat.le_refl _, h, hL'.out, rfl, grown_refl _ _⟩
  case round =>
    obtain ⟨n', L', hn', hS, hL2, hcut, hG⟩ := hrel
    have hS' := Lib.hid hS
    obtain ⟨A, c, hg, hnc, hA, hne⟩ := hS
    have hL2' := Lib.hid hL2
    have hcut' := Lib.hid hcut
    have c0 : wr.cell? ⟨g, 0, none⟩ = some (.slice A n' c) := by rw [cell_of_row wr g 0 _ _ _ hg]; rfl
    have c1 : wr.cell? ⟨g, 1, none⟩ = some (.int .i64 kf) := by rw [cell_of_row wr g 1 _ _ _ hg]; rfl
    have f0 : wr.frozen? ⟨g, 0, none⟩ = false := frozen_of_row wr g 0 _ _ hg
    have hgl := (Array.getElem?_eq_some_iff.1 hg).1
    have HG := Lib.hid hg
    clear hg hL2 hcut
    by_cases h0 : n' = 0
    · subst h0
      have hl0 : L' = [] := List.eq_nil_of_length_eq_zero hA.1
      have hc0 : cutL width kf L = none := by rw [← hcut'.out, hl0]; rfl
      have hc0' := Lib.hid hc0
      have hS0 : ∀ q, Hid (Saw Z (wr.drewN q) g 63 kf 0 [] ∧ w.grownBy (wr.drewN q) (some g)) := fun q => ⟨by rw [hl0] at hS'; exact hS'.out.kept (below_drewN (Below.refl _ _) q), grown_drewN hG q⟩
      clear hc0 hl0
      go_wp2_with fail
      go_quiet (fail)
      have HS0 := Lib.hid (hS0 nq).out
      clear hS0
      go_wp2
      go_ret2
      exact cutPost_none hc0'.out HS0.out.1 HS0.out.2
    · have hn0 : 0 < n' := by omega
      obtain ⟨b, off, x, y, rfl, hbB, hx, e1, e2⟩ := hA.pair hn0
      have hbg : ¬ b = g := (hne b off hn0 rfl).1
      simp only [Nat.zero_mul, Nat.add_zero] at e1 e2
      have hn0' : (0 : Int) < (n' : Int) := by omega
      have hx' := Lib.hid hx
      have hm := coreFrom_mem hL2'.out _ (List.mem_of_getElem? hx)
      have m0 : (0 : Int) ≤ x := hm.1
      have m1 : x < y := hm.2.1
      have m2 : y ≤ 30000 := hm.2.2
      clear hm hx
      have Bs : -4611686018427387904 ≤ y - x ∧ y - x ≤ 4611686018427387904 := by omega
      have ws : wrap64 (y - x) = y - x := w64' Bs
      clear Bs
      by_cases hlt : y - x < width
      · have HSA := (SawAt.mk HG.out hA hne hnc)
        have HT := HSA.tail hn0
        obtain ⟨A1, hA1e⟩ : ∃ X, (if c = 1 then some (⟨b, off, none⟩ : Addr) else some ⟨b, off + 2, none⟩) = X := ⟨_, rfl⟩
        rw [hA1e] at HT
        obtain ⟨t1, t2, t3⟩ := HT
        have i1 : (1 : Int) ≤ (n' : Int) := by omega
        have i2 : 1 ≤ c := by omega
        have HE : L' = (x, y) :: L'.drop 1 := by cases L' with | nil => cases hx'.out | cons p t => have := hx'.out; simp at this; subst this; rfl
        have hce : cutL width kf (L'.drop 1) = cutL width kf L := by rw [← hcut'.out]; conv => rhs; rw [HE, cutL, if_pos (by show y - x < width; omega)]
        have hlf : lenAt wr g = n' := hS'.out.len
        have R : ∀ q, Hid (Saw Z ((wr.drewN q).setCell ⟨g, 0, none⟩ (.slice A1 (n' - 1) (c - 1))) g 63 kf (n' - 1) (L'.drop 1) ∧ coreFrom 0 (L'.drop 1) = true ∧ cutL width kf (L'.drop 1) = cutL width kf L ∧ w.grownBy ((wr.drewN q).setCell ⟨g, 0, none⟩ (.slice A1 (n' - 1) (c - 1))) (some g) ∧ lenAt wr g = n') :=
          fun q => ⟨((HSA.drewN q).set t1 t3 t2).saw, coreFrom_drop 1 hL2'.out, hce, grown_setCell (grown_drewN hG q) (.inl rfl) _, hlf⟩
        clear HE hce HSA t1 t2 t3 hne hlf hA
        go_wp2_with fail
        go_quiet (fail)
        have RR := Lib.hid (R nq).out
        clear R
        go_wp2
        go_roundw
        case rel => exact ⟨n' - 1, L'.drop 1, by omega, RR.out.1, RR.out.2.1, RR.out.2.2.1, RR.out.2.2.2.1⟩
        case measure => rw [RR.out.1.len, RR.out.2.2.2.2]; omega
      · have hd : decide (y - x < width) = false := decide_eq_false hlt
        have E : ∀ q, Hid ((wr.drewN q).cell? ⟨b, off, none⟩ = some (.int .i64 x) ∧ (wr.drewN q).cell? ⟨b, off + 1, none⟩ = some (.int .i64 y) ∧ (wr.drewN q).cell? ⟨g, 0, none⟩ = some (.slice (some ⟨b, off, none⟩) n' c) ∧ (wr.drewN q).cell? ⟨g, 1, none⟩ = some (.int .i64 kf) ∧ (wr.drewN q).frozen? ⟨g, 0, none⟩ = false ∧ g < (wr.drewN q).heap.size ∧ b < (wr.drewN q).heap.size ∧ w.grownBy (wr.drewN q) (some g) ∧ (wr.drewN q).heap[g]? = some (.cells #[.slice (some ⟨b, off, none⟩) n' c, .int .i64 kf] 63 (0, 0)) ∧ Arr PP 2 (wr.drewN q) (wr.drewN q).heap.size (some ⟨b, off, none⟩) n' L') :=
          fun q => ⟨e1, e2, c0, c1, f0, hgl, hbB, grown_drewN hG q, HG.out, hA⟩
        go_wp2_with fail
        go_quiet (fail)
        have Eq := (E nq).out
        clear E e1 e2 c0 c1 f0 hgl hbB hG HG hA
        generalize wr.drewN nq = w2 at Eq ⊢
        obtain ⟨e1, e2, c0, c1, f0, hgl, hbB, hG, hg2, hA⟩ := Eq
        have HG := Lib.hid hg2
        clear hg2
        have s1 : wrap64 (x + width) = x + width := w64 ⟨by omega, by omega⟩
        have s2 : wrap64 (x + width + kf) = x + width + kf := w64 ⟨by omega, by omega⟩
        go_wp2
        have EE : (w2.alloc (.cells #[.int .i64 x, .int .i64 y] 42)).cell? ⟨w2.heap.size, 0, none⟩ = some (.int .i64 x) ∧ (w2.alloc (.cells #[.int .i64 x, .int .i64 y] 42)).cell? ⟨w2.heap.size, 1, none⟩ = some (.int .i64 y) ∧
            SawAt Z (w2.alloc (.cells #[.int .i64 x, .int .i64 y] 42)) g 63 kf (some ⟨b, off, none⟩) n' c L' ∧ w.grownBy (w2.alloc (.cells #[.int .i64 x, .int .i64 y] 42)) (some g) ∧ w2.heap.size < (w2.alloc (.cells #[.int .i64 x, .int .i64 y] 42)).heap.size ∧ g < w2.heap.size :=
          ⟨by rw [cell_of_row _ _ 0 _ _ _ (heap_alloc_new w2 _)]; rfl, by rw [cell_of_row _ _ 1 _ _ _ (heap_alloc_new w2 _)]; rfl, SawAt.alloc ⟨HG.out, hA, hne, hnc⟩ _, grown_alloc hG _, by simp, hgl⟩
        clear e1 e2 c0 c1 f0 HG hA hG hgl hbB
        generalize hbp : w2.heap.size = bp at EE ⊢
        generalize w2.alloc (.cells #[.int .i64 x, .int .i64 y] 42) = w3 at EE ⊢
        clear hbp
        obtain ⟨q0, q1, hSA, hG, hbp, hgb⟩ := EE
        have hgne : ¬ g = bp := by omega
        have c0 := hSA.c0
        have c1 := hSA.c1
        have f0 := hSA.f0
        have HSA := Lib.hid hSA
        clear hSA
        have hgl := HSA.out.lt
        by_cases hm : x + width + kf < y
        · have hm' : x + width + kf ≤ y := by omega
          go_region
          have HT := HSA.out.tail hn0
          obtain ⟨A1, hA1e⟩ : ∃ X, (if c = 1 then some (⟨b, off, none⟩ : Addr) else some ⟨b, off + 2, none⟩) = X := ⟨_, rfl⟩
          rw [hA1e] at HT
          obtain ⟨t1, t2, t3⟩ := HT
          have i1 : (1 : Int) ≤ (n' : Int) := by omega
          have i2 : 1 ≤ c := by omega
          have hp3 : ¬ g = w3.heap.size := by omega
          have S4 := Lib.hid (HSA.out.set t1 t3 t2)
          have G4 := grown_setCell hG (p := ⟨g, 0, none⟩) (.inl rfl) (.slice A1 (n' - 1) (c - 1))
          have HE := Lib.hid (show L' = (x, y) :: L'.drop 1 by cases L' with | nil => cases hx'.out | cons p t => have := hx'.out; simp at this; subst this; rfl)
          have q0' := (World.cell?_setCell_other w3 ⟨g, 0, none⟩ ⟨bp, 0, none⟩ (.slice A1 (n' - 1) (c - 1)) (by intro e; injection e with e; exact hgne e)).trans q0
          have hs4 : w3.heap.size = (w3.setCell ⟨g, 0, none⟩ (.slice A1 (n' - 1) (c - 1))).heap.size := by simp [World.setCell]
          have Hs4 := Lib.hid hs4
          clear hne hG t1 t2 t3 hs4
          have hcutE : cutL width kf L = some (x, (x + width + kf, y) :: L'.drop 1) := by
            rw [← hcut'.out, HE.out, cutL, if_neg (by show ¬ y - x < width; omega)]
            have e1 : min (x + width + kf) y = x + width + kf := by omega
            simp only [restL, e1, if_pos hm]
            rfl
          have hcE := Lib.hid hcutE
          clear hcutE
          go_wp2
          have S5 := Lib.hid ((S4.out.alloc (.cells #[.int .i64 (x + width + kf), .int .i64 y] 42)).drew)
          have G5 := grown_drew (grown_alloc G4 (.cells #[.int .i64 (x + width + kf), .int .i64 y] 42))
          have p0 : ((w3.setCell ⟨g, 0, none⟩ (.slice A1 (n' - 1) (c - 1))).alloc (.cells #[.int .i64 (x + width + kf), .int .i64 y] 42)).drew.cell? ⟨w3.heap.size, 0, none⟩ = some (.int .i64 (x + width + kf)) := by
            rw [Hs4.out]
            exact (cell_of_row _ _ 0 _ _ _ (heap_alloc_new _ _)).trans rfl
          have p1 : ((w3.setCell ⟨g, 0, none⟩ (.slice A1 (n' - 1) (c - 1))).alloc (.cells #[.int .i64 (x + width + kf), .int .i64 y] 42)).drew.cell? ⟨w3.heap.size, 1, none⟩ = some (.int .i64 y) := by
            rw [Hs4.out]
            exact (cell_of_row _ _ 1 _ _ _ (heap_alloc_new _ _)).trans rfl
          have q5 : ((w3.setCell ⟨g, 0, none⟩ (.slice A1 (n' - 1) (c - 1))).alloc (.cells #[.int .i64 (x + width + kf), .int .i64 y] 42)).drew.cell? ⟨bp, 0, none⟩ = some (.int .i64 x) :=
            (World.cell?_alloc_lt _ _ ⟨bp, 0, none⟩ (by rw [← Hs4.out]; exact hbp)).trans q0'
          have z5 : w3.heap.size < ((w3.setCell ⟨g, 0, none⟩ (.slice A1 (n' - 1) (c - 1))).alloc (.cells #[.int .i64 (x + width + kf), .int .i64 y] 42)).drew.heap.size := by
            have := Hs4.out
            show _ < ((w3.setCell ⟨g, 0, none⟩ (.slice A1 (n' - 1) (c - 1))).alloc (.cells #[.int .i64 (x + width + kf), .int .i64 y] 42)).heap.size
            simp only [World.size_alloc]
            omega
          generalize ((w3.setCell ⟨g, 0, none⟩ (.slice A1 (n' - 1) (c - 1))).alloc (.cells #[.int .i64 (x + width + kf), .int .i64 y] 42)).drew = w4 at S5 G5 p0 p1 q5 z5 ⊢
          generalize w3.heap.size = b3 at p0 p1 z5 hbp ⊢
          have hbp4 : bp < w4.heap.size := by omega
          clear S4 G4 q0 q1 q0' Hs4 HSA c0 c1 f0 hgl
          have c0 := S5.out.c0
          have f0 := S5.out.f0
          have hgl := S5.out.lt
          have M1 : 1 + (n' - 1) ≤ maxLen := by unfold maxLen; omega
          have M2 : (1 + (n' - 1)) * 16 ≤ 140737488355328 := by omega
          go_region_law (first
            | (refine step_append_arr _ rfl (.tmp 83) (.tmp 87) 23 rfl w4.heap.size 42 i0 (.agg #[.int .i64 0, .int .i64 0]) 2 16 Try.underlying23 hi hz0 hz1 hz2 rfl (by decide) PP_length one_PP' (.slice (some ⟨w4.heap.size, 0, none⟩) 1 1) 1 [(x + width + kf, y)] (by simp [Act.eval, Act.put]) (Own.lit1 w4.drew w4.heap.size 42 (x + width + kf) y (Nat.le_refl _)) w4.heap.size A1 (n' - 1) (c - 1) (L'.drop 1) (by simp [Act.eval, Act.put]) (Arr.alloc (w := w4.drew) S5.out.hA (Nat.le_refl _) _) M1 M2 (by simp) ?_; intro v6 w6 hO6 hg6 hat6; obtain ⟨G6, c6, rfl, hG6, hG6l, hc6⟩ := hO6.head (by omega); have B6 := cut_frame hg6; have c06 := (B6.cell (by exact hgl)).trans c0; have f06 := (B6.frozen (by exact hgl)).trans f0; have q6 := (B6.cell (p := ⟨bp, 0, none⟩) hbp4).trans q5))
          all_goals
            have hne6 : ∀ b off, 0 < 1 + (n' - 1) → some (⟨G6, 0, none⟩ : Addr) = some ⟨b, off, none⟩ → Off Z g b := fun b off _ e => by injection e with e; injection e with e1 _; refine ⟨by omega, fun hz => ?_⟩; have h1 := hZ'.out b hz; have h2 := G5.size; omega
            have S7 := Lib.hid ((S5.out.below B6).set (hO6.arr PP_length) hc6 hne6)
            have G7 := Lib.hid (grown_setCell (p := ⟨g, 0, none⟩) (grown_step G5 (grown_of_below B6 (Nat.le_refl _) none) (fun k hk => by cases hk)) (.inl rfl) (.slice (some ⟨G6, 0, none⟩) (1 + (n' - 1)) c6))
            have hgne' : ¬ g = bp := hgne
            go_wp2
            all_goals
              go_ret2
              exact cutPost_some hcE.out S7.out.saw' G7.out
        · have hm2' : y ≤ x + width + kf := by omega
          go_region
          all_goals
            have HT := HSA.out.tail hn0
            obtain ⟨A1, hA1e⟩ : ∃ X, (if c = 1 then some (⟨b, off, none⟩ : Addr) else some ⟨b, off + 2, none⟩) = X := ⟨_, rfl⟩
            rw [hA1e] at HT
            obtain ⟨t1, t2, t3⟩ := HT
            have i1 : (1 : Int) ≤ (n' : Int) := by omega
            have i2 : 1 ≤ c := by omega
            have hp3 : ¬ g = w3.heap.size := by omega
            have S4 := Lib.hid (HSA.out.set t1 t3 t2)
            have G4 := grown_setCell hG (p := ⟨g, 0, none⟩) (.inl rfl) (.slice A1 (n' - 1) (c - 1))
            have HE := Lib.hid (show L' = (x, y) :: L'.drop 1 by cases L' with | nil => cases hx'.out | cons p t => have := hx'.out; simp at this; subst this; rfl)
            have q0' := (World.cell?_setCell_other w3 ⟨g, 0, none⟩ ⟨bp, 0, none⟩ (.slice A1 (n' - 1) (c - 1)) (by intro e; injection e with e; exact hgne e)).trans q0
            have hs4 : w3.heap.size = (w3.setCell ⟨g, 0, none⟩ (.slice A1 (n' - 1) (c - 1))).heap.size := by simp [World.setCell]
            have Hs4 := Lib.hid hs4
            clear hne hG t1 t2 t3 hs4
            have hm2 : y ≤ x + width + kf := by omega
            have hcutE : cutL width kf L = some (x, L'.drop 1) := by
              rw [← hcut'.out, HE.out, cutL, if_neg (by show ¬ y - x < width; omega)]
              have e1 : min (x + width + kf) y = y := by omega
              simp only [restL, e1]
              rw [if_neg (by omega)]
              rfl
            have hcE := Lib.hid hcutE
            clear hcutE hm
            have S5 := Lib.hid (fun cs : Array Value => ((S4.out.alloc (.cells cs 42)).drew))
            have G5 := Lib.hid (fun cs : Array Value => grown_drew (grown_alloc G4 (.cells cs 42)))
            clear S4 G4
            go_wp2
            all_goals
              go_ret2
              exact cutPost_some hcE.out (S5.out _).saw' (G5.out _)
end Go.Proofs.Ytjhbpilgejbmjaa
