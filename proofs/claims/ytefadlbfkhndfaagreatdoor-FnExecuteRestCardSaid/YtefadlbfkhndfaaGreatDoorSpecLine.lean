/-
  Contracts: l51Line of the reference.
-/
import Derived.Test.YtefadlbfkhndfaaGreatDoorSpecAsk
import Derived.Test.YtefadlbfkhndfaaGreatDoorSpecPiece
import Derived.Test.YtefadlbfkhndfaaGreatDoorSpecLayer
import Derived.Test.YtefadlbfkhndfaaGreatDoorGN
import Derived.Deep.RegionHeld3
namespace Go.Proofs.YtefadlbfkhndfaaGreatDoor
open Go.RowKit
set_option linter.unusedSimpArgs false
set_option linter.unusedVariables false

/-- Where a line begins. -/
structure LineAt (w w1 : World) (Ac : Option Addr) (nc cc : Nat) (Al : Option Addr) (nl cl : Nat) : Prop where
  z : w1.heap.size = w.heap.size + 1 + 1
  b : Below w.heap.size w w1
  hb : w1.heap[w.heap.size]? = some (.cells #[.slice Ac nc cc, .slice Al nl cl] 47 (0, 0))
  hr : w1.heap[w.heap.size + 1]? = some (.cells #[.slice none 0 0, .slice none 0 0] 47 (0, 0))
theorem lineAt (w : World) (Ac : Option Addr) (nc cc : Nat) (Al : Option Addr) (nl cl : Nat) :
    LineAt w ((w.alloc (.cells #[.slice Ac nc cc, .slice Al nl cl] 47)).alloc (.cells #[.slice none 0 0, .slice none 0 0] 47)) Ac nc cc Al nl cl := by
  have h1 := (MapKept.heap_alloc w (.cells #[.slice Ac nc cc, .slice Al nl cl] 47)).1
  have z1 : (w.alloc (.cells #[.slice Ac nc cc, .slice Al nl cl] 47)).heap.size = w.heap.size + 1 := by simp
  have B1 := (Below.refl w.heap.size w).alloc (Nat.le_refl _) (.cells #[.slice Ac nc cc, .slice Al nl cl] 47)
  generalize w.alloc (.cells #[.slice Ac nc cc, .slice Al nl cl] 47) = w1 at h1 z1 B1 ⊢
  have h2 := (MapKept.heap_alloc w1 (.cells #[.slice none 0 0, .slice none 0 0] 47)).1
  have z2 : (w1.alloc (.cells #[.slice none 0 0, .slice none 0 0] 47)).heap.size = w.heap.size + 1 + 1 := by simp [z1]
  have B2 := (Below.refl w1.heap.size w1).alloc (Nat.le_refl _) (.cells #[.slice none 0 0, .slice none 0 0] 47)
  rw [z1] at h2
  exact ⟨z2, B1.trans (B2.mono B1.size), (B2.block _ (by omega)).trans h1, h2⟩
theorem Arr.other {α : Type} {f : α → List Value} {sz : Nat} {w w' : World} {B n g : Nat} {A : Option Addr} {l : List α} (h : Arr f sz w B A n l) (hg : w.grownBy w' (some g)) (hne : ∀ i u, w.cell? ⟨g, i, none⟩ = some u → ∀ x, u ∉ f x) : Arr f sz w' B A n l := by
  refine ⟨h.1, fun hn => ?_⟩
  obtain ⟨b, o, e, hb, hc⟩ := h.2 hn
  refine ⟨b, o, e, hb, fun k x hx j u hj => hg.cell (hc k x hx j u hj) ?_⟩
  intro e
  injection e with e
  simp only at e
  subst e
  exact hne _ u (hc k x hx j u hj) x (List.mem_of_getElem? hj)
theorem res_slice {w : World} {g : Nat} {A A' : Option Addr} {n c n' c' : Nat} {T : TypeId} (h : w.heap[g]? = some (.cells #[.slice A n c, .slice A' n' c'] T (0, 0))) (i : Nat) (u : Value) (hu : w.cell? ⟨g, i, none⟩ = some u) : ∃ A n c, u = .slice A n c := by
  rw [Lib.cell_of_heap h i] at hu
  match i, hu with
  | 0, hu => simp at hu; exact ⟨_, _, _, hu.symm⟩
  | 1, hu => simp at hu; exact ⟨_, _, _, hu.symm⟩
  | i + 2, hu => simp at hu
theorem res_pp {w : World} {g : Nat} {A A' : Option Addr} {n c n' c' : Nat} {T : TypeId} (h : w.heap[g]? = some (.cells #[.slice A n c, .slice A' n' c'] T (0, 0))) : ∀ i u, w.cell? ⟨g, i, none⟩ = some u → ∀ x, u ∉ PP x := fun i u hu x hm => by
  obtain ⟨_, _, _, rfl⟩ := res_slice h i u hu
  simp [PP] at hm
theorem res_ll {w : World} {g : Nat} {A A' : Option Addr} {n c n' c' : Nat} {T : TypeId} (h : w.heap[g]? = some (.cells #[.slice A n c, .slice A' n' c'] T (0, 0))) : ∀ i u, w.cell? ⟨g, i, none⟩ = some u → ∀ x, u ∉ LL x := fun i u hu x hm => by
  obtain ⟨_, _, _, rfl⟩ := res_slice h i u hu
  simp [LL] at hm
theorem tupl_fst {v : Value} {t : ByteArray} {x y : Value} (h : Ending.returned (.tuple #[v, .string t]) = .returned (.tuple #[x, y])) : v = x ∧ y = .string t := by
  injection h with h
  injection h with h
  simp at h
  exact ⟨h.1, h.2.symm⟩

set_option maxRecDepth 100000 in
set_option maxHeartbeats 8000000 in
theorem l51Line_piece (k c : Nat) (a : List UInt8) (ha9 : a.length ≤ 1000000) (b : List UInt8) (hb9 : b.length ≤ 1000000) (s : St) (w : World) (v : Value) (h : SV w v s) (hl1 : s.core.length ≤ 900) (hl2 : s.lays.length ≤ 900)  (hk : k < w.heap.size) (c0 : w.cell? ⟨k, 0, none⟩ = some (.string (tx wPiece))) (c1 : w.cell? ⟨k, 1, none⟩ = some (.string (tx a))) (c2 : w.cell? ⟨k, 2, none⟩ = some (.string (tx b))) :
    Calls Tryz.prog 42 #[v, .slice (some ⟨k, 0, none⟩) 3 c] w (RetS w (lineX s [wPiece, a, b]).1 ((lineX s [wPiece, a, b]).2 ++ [10])) := by
  obtain ⟨Ac, nc, cc, Al, nl, cl, rfl, hA, hL, hcc, hcl⟩ := h
  have hnc : nc ≤ 900 := by rw [← hA.1]; exact hl1
  have hnl : nl ≤ 900 := by rw [← hL.1]; exact hl2
  have AT := lineAt w Ac nc cc Al nl cl
  have HA := Lib.hid hA
  have HL := Lib.hid hL
  have e0 := (AT.b.cell (p := ⟨k, 0, none⟩) hk).trans c0
  have e1 := (AT.b.cell (p := ⟨k, 1, none⟩) hk).trans c1
  have e2 := (AT.b.cell (p := ⟨k, 2, none⟩) hk).trans c2
  have q0 : ((tx wPiece).toList == [112, 105, 101, 99, 101]) = true := teq wPiece
  obtain ⟨x, hx⟩ : ∃ z, z = dig a := ⟨_, rfl⟩
  have Cx0 : ∀ W, Calls Tryz.prog 71 #[.string (tx a)] W fun e w' => e = .returned (.int .i64 x) ∧ W = w' := fun W => by rw [hx]; exact l1Digits_any a (by omega) W
  obtain ⟨Ta, hTa⟩ : ∃ z, z = tx a := ⟨_, rfl⟩
  rw [← hTa] at Cx0 e1 c1
  have Cx := Lib.hid Cx0
  clear Cx0 hTa
  obtain ⟨y, hy⟩ : ∃ z, z = dig b := ⟨_, rfl⟩
  have Cy0 : ∀ W, Calls Tryz.prog 71 #[.string (tx b)] W fun e w' => e = .returned (.int .i64 y) ∧ W = w' := fun W => by rw [hy]; exact l1Digits_any b (by omega) W
  obtain ⟨Tb, hTb⟩ : ∃ z, z = tx b := ⟨_, rfl⟩
  rw [← hTb] at Cy0 e2 c2
  have Cy := Lib.hid Cy0
  clear Cy0 hTb
  have HP := Lib.hid (show lineX s [wPiece, a, b] = addPiece s x y by rw [line_piece, hx, hy])
  clear hx hy
  clear hA hL
  go_enter Tryz.func42, Tryz.ntmps42
  go_upto_region 2 with fail
  generalize ((w.alloc (.cells #[.slice Ac nc cc, .slice Al nl cl] 47)).alloc (.cells #[.slice none 0 0, .slice none 0 0] 47)) = w1 at AT e0 e1 e2 ⊢
  obtain ⟨z1, b1, hb, hr⟩ := AT
  obtain ⟨r0, r1, _, _⟩ := blkA hb
  have hzl : w.heap.size ≤ w1.heap.size := by omega
  have hk1 : k < w1.heap.size := by omega
  have hP1 : w.heap.size < w1.heap.size := by omega
  have hHR := Lib.hid hr
  have hHB := Lib.hid hb
  have HB1 := Lib.hid b1
  have SV0 : Hid (∀ W, Below w1.heap.size w1 W → SV W (.agg #[.slice Ac nc cc, .slice Al nl cl]) s) := Lib.hid (fun W hW => ⟨Ac, nc, cc, Al, nl, cl, rfl, (HA.out.below (b1.trans (hW.mono hzl)) (Nat.le_refl _)).more (b1.trans (hW.mono hzl)).size, (HL.out.below (b1.trans (hW.mono hzl)) (Nat.le_refl _)).more (b1.trans (hW.mono hzl)).size, hcc, hcl⟩)
  clear hb hr b1
  have KB := Lib.hid (fun W (hW : Below w1.heap.size w1 W) => (And.intro ((hW.cell (p := ⟨w.heap.size, 0, none⟩) (by simp; omega)).trans r0) (And.intro ((hW.cell (p := ⟨w.heap.size, 1, none⟩) (by simp; omega)).trans r1) (And.intro ((hW.cell (p := ⟨k, 1, none⟩) (by simp; omega)).trans e1) ((hW.cell (p := ⟨k, 2, none⟩) (by simp; omega)).trans e2)))))
  have KB5 := Lib.hid (fun W (hW : Below w1.heap.size w1 W) (X Y : Value) => (And.intro ((setCell2_grown W (w.heap.size + 1) X Y).cell ((hW.cell (p := ⟨w.heap.size, 0, none⟩) (by simp; omega)).trans r0) (by simp <;> omega)) (And.intro ((setCell2_grown W (w.heap.size + 1) X Y).cell ((hW.cell (p := ⟨w.heap.size, 1, none⟩) (by simp; omega)).trans r1) (by simp <;> omega)) (And.intro ((setCell2_grown W (w.heap.size + 1) X Y).cell ((hW.cell (p := ⟨k, 1, none⟩) (by simp; omega)).trans e1) (by simp <;> omega)) ((setCell2_grown W (w.heap.size + 1) X Y).cell ((hW.cell (p := ⟨k, 2, none⟩) (by simp; omega)).trans e2) (by simp <;> omega))))))
  have BD : Below w1.heap.size w1 w1.drew := (Below.refl _ _).drew
  have S2 := BD
  go_region_held3 (fun w' => w'.cell? ⟨w.heap.size, 0, none⟩ = some (.slice Ac nc cc) ∧ w'.cell? ⟨w.heap.size, 1, none⟩ = some (.slice Al nl cl) ∧ w'.cell? ⟨k, 1, none⟩ = some (.string Ta) ∧ w'.cell? ⟨k, 2, none⟩ = some (.string Tb)) (first | (with_reducible exact KB.out _ BD) | (exact KB.out _ S3) | (exact KB5.out w3 S3 _ _) | (go_keep; done)) (first
    | (go_at_call 71; with_reducible refine (Cx.out _).mono ?_; rintro e w' ⟨rfl, rfl⟩)
    | (go_at_call 71; with_reducible refine (Cy.out _).mono ?_; rintro e w' ⟨rfl, rfl⟩)
    | (go_at_call 70; refine (l51Piece_any _ s x y w1.drew (SV0.out _ BD) hl1).mono ?_; rintro e w3 ⟨vv, rfl, sv3, b3⟩; obtain ⟨Bc, mc, dc, Bl, ml, dl, rfl, sA, sL, sc, sl⟩ := sv3; have S3 : Below w1.heap.size w1 w3 := S2.trans (b3.mono S2.size); have h3r := (S3.block (w.heap.size + 1) (by omega)).trans hHR.out; obtain ⟨p0, p1, pf0, pf1⟩ := blkA h3r))
  all_goals
    go_wp2
    obtain ⟨y0, y1⟩ := st_set (a := .slice Bc mc dc) (b := .slice Bl ml dl) p0 p1
    refine bodyPost_ret (v := .tuple #[.agg #[.slice Bc mc dc, .slice Bl ml dl], .string (tx ((addPiece s x y).2 ++ [10]))]) (by simp [results, Tryz.results42, go_sem, y0, y1]) rfl ?_
    have g7 := setCell2_grown w3 (w.heap.size + 1) (.slice Bc mc dc) (.slice Bl ml dl)
    have B7 := ((HB1.out.trans (S3.mono hzl)).setCell (p := ⟨w.heap.size + 1, 0, none⟩) (by simp) (.slice Bc mc dc)).setCell (p := ⟨w.heap.size + 1, 1, none⟩) (by simp) (.slice Bl ml dl)
    rw [HP.out]
    exact ⟨_, rfl, ⟨Bc, mc, dc, Bl, ml, dl, rfl, (sA.other g7 (res_pp h3r)).more g7.size, (sL.other g7 (res_ll h3r)).more g7.size, sc, sl⟩, B7⟩

set_option maxRecDepth 100000 in
set_option maxHeartbeats 8000000 in
theorem l51Line_layer (k c : Nat) (a : List UInt8) (ha9 : a.length ≤ 1000000) (s : St) (w : World) (v : Value) (h : SV w v s) (hl1 : s.core.length ≤ 900) (hl2 : s.lays.length ≤ 900)  (hk : k < w.heap.size) (c0 : w.cell? ⟨k, 0, none⟩ = some (.string (tx wLayer))) (c1 : w.cell? ⟨k, 1, none⟩ = some (.string (tx a))) :
    Calls Tryz.prog 42 #[v, .slice (some ⟨k, 0, none⟩) 2 c] w (RetS w (lineX s [wLayer, a]).1 ((lineX s [wLayer, a]).2 ++ [10])) := by
  obtain ⟨Ac, nc, cc, Al, nl, cl, rfl, hA, hL, hcc, hcl⟩ := h
  have hnc : nc ≤ 900 := by rw [← hA.1]; exact hl1
  have hnl : nl ≤ 900 := by rw [← hL.1]; exact hl2
  have AT := lineAt w Ac nc cc Al nl cl
  have HA := Lib.hid hA
  have HL := Lib.hid hL
  have e0 := (AT.b.cell (p := ⟨k, 0, none⟩) hk).trans c0
  have e1 := (AT.b.cell (p := ⟨k, 1, none⟩) hk).trans c1
  have q0 : ((tx wLayer).toList == [112, 105, 101, 99, 101]) = false := tne (a := wLayer) (b := wPiece) (by decide)
  have q1 : ((tx wLayer).toList == [99, 117, 116]) = false := tne (a := wLayer) (b := wCut) (by decide)
  have q2 : ((tx wLayer).toList == [106, 111, 105, 110]) = false := tne (a := wLayer) (b := wJoin) (by decide)
  have q3 : ((tx wLayer).toList == [108, 97, 121, 101, 114]) = true := teq wLayer
  have KL0 := fun W V hV => l51Layer_any V s a ha9 W hV hl2
  obtain ⟨Ta, hTa⟩ : ∃ z, z = tx a := ⟨_, rfl⟩
  rw [← hTa] at KL0 e1 c1
  have KL := Lib.hid KL0
  have HP := Lib.hid (line_layer s a)
  clear KL0 hTa
  clear hA hL
  go_enter Tryz.func42, Tryz.ntmps42
  go_upto_region 10 with fail
  generalize ((w.alloc (.cells #[.slice Ac nc cc, .slice Al nl cl] 47)).alloc (.cells #[.slice none 0 0, .slice none 0 0] 47)) = w1 at AT e0 e1 ⊢
  obtain ⟨z1, b1, hb, hr⟩ := AT
  obtain ⟨r0, r1, _, _⟩ := blkA hb
  have hzl : w.heap.size ≤ w1.heap.size := by omega
  have hk1 : k < w1.heap.size := by omega
  have hP1 : w.heap.size < w1.heap.size := by omega
  have hHR := Lib.hid hr
  have hHB := Lib.hid hb
  have HB1 := Lib.hid b1
  have SV0 : Hid (∀ W, Below w1.heap.size w1 W → SV W (.agg #[.slice Ac nc cc, .slice Al nl cl]) s) := Lib.hid (fun W hW => ⟨Ac, nc, cc, Al, nl, cl, rfl, (HA.out.below (b1.trans (hW.mono hzl)) (Nat.le_refl _)).more (b1.trans (hW.mono hzl)).size, (HL.out.below (b1.trans (hW.mono hzl)) (Nat.le_refl _)).more (b1.trans (hW.mono hzl)).size, hcc, hcl⟩)
  clear hb hr b1
  have KB := Lib.hid (fun W (hW : Below w1.heap.size w1 W) => (And.intro ((hW.cell (p := ⟨w.heap.size, 0, none⟩) (by simp; omega)).trans r0) (And.intro ((hW.cell (p := ⟨w.heap.size, 1, none⟩) (by simp; omega)).trans r1) ((hW.cell (p := ⟨k, 1, none⟩) (by simp; omega)).trans e1))))
  have KB5 := Lib.hid (fun W (hW : Below w1.heap.size w1 W) (X Y : Value) => (And.intro ((setCell2_grown W (w.heap.size + 1) X Y).cell ((hW.cell (p := ⟨w.heap.size, 0, none⟩) (by simp; omega)).trans r0) (by simp <;> omega)) (And.intro ((setCell2_grown W (w.heap.size + 1) X Y).cell ((hW.cell (p := ⟨w.heap.size, 1, none⟩) (by simp; omega)).trans r1) (by simp <;> omega)) ((setCell2_grown W (w.heap.size + 1) X Y).cell ((hW.cell (p := ⟨k, 1, none⟩) (by simp; omega)).trans e1) (by simp <;> omega)))))
  have BD : Below w1.heap.size w1 w1.drew := (Below.refl _ _).drew
  have S2 := BD
  go_region_held3 (fun w' => w'.cell? ⟨w.heap.size, 0, none⟩ = some (.slice Ac nc cc) ∧ w'.cell? ⟨w.heap.size, 1, none⟩ = some (.slice Al nl cl) ∧ w'.cell? ⟨k, 1, none⟩ = some (.string Ta)) (first | (with_reducible exact KB.out _ BD) | (exact KB.out _ S3) | (exact KB5.out w3 S3 _ _) | (go_keep; done)) (first
    | (go_at_call 73; refine (KL.out w1.drew _ (SV0.out _ BD)).mono ?_; rintro e w3 ⟨vv, rfl, sv3, b3⟩; obtain ⟨Bc, mc, dc, Bl, ml, dl, rfl, sA, sL, sc, sl⟩ := sv3; have S3 : Below w1.heap.size w1 w3 := S2.trans (b3.mono S2.size); have h3r := (S3.block (w.heap.size + 1) (by omega)).trans hHR.out; obtain ⟨p0, p1, pf0, pf1⟩ := blkA h3r))
  all_goals
    go_wp2
    obtain ⟨y0, y1⟩ := st_set (a := .slice Bc mc dc) (b := .slice Bl ml dl) p0 p1
    refine bodyPost_ret (v := .tuple #[.agg #[.slice Bc mc dc, .slice Bl ml dl], .string (tx ((addLayer s a).2 ++ [10]))]) (by simp [results, Tryz.results42, go_sem, y0, y1]) rfl ?_
    have g7 := setCell2_grown w3 (w.heap.size + 1) (.slice Bc mc dc) (.slice Bl ml dl)
    have B7 := ((HB1.out.trans (S3.mono hzl)).setCell (p := ⟨w.heap.size + 1, 0, none⟩) (by simp) (.slice Bc mc dc)).setCell (p := ⟨w.heap.size + 1, 1, none⟩) (by simp) (.slice Bl ml dl)
    rw [HP.out]
    exact ⟨_, rfl, ⟨Bc, mc, dc, Bl, ml, dl, rfl, (sA.other g7 (res_pp h3r)).more g7.size, (sL.other g7 (res_ll h3r)).more g7.size, sc, sl⟩, B7⟩

end Go.Proofs.YtefadlbfkhndfaaGreatDoor
