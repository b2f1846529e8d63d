/-
  Contracts: l51Line of the reference.
-/
import Derived.Test.YtefadlbfkhndfaaGreatDoorSpecLine
import Derived.Test.YtefadlbfkhndfaaGreatDoorSpecPiece
import Derived.Test.YtefadlbfkhndfaaGreatDoorSpecLayer
import Derived.Test.YtefadlbfkhndfaaGreatDoorGN
import Derived.Deep.RegionHeld3
namespace Go.Proofs.YtefadlbfkhndfaaGreatDoor
open Go.RowKit
set_option linter.unusedSimpArgs false
set_option linter.unusedVariables false

set_option maxRecDepth 100000 in
set_option maxHeartbeats 8000000 in
theorem l51Line_ask (k n c : Nat) (C Z : List UInt8) (s : St) (w : World) (v : Value) (h : SV w v s) (hn : 1 ≤ n) (hk : k < w.heap.size) (c0 : w.cell? ⟨k, 0, none⟩ = some (.string (tx C)))
    (hW : (C = wPiece → n ≠ 3) ∧ (C = wCut → n ≠ 2) ∧ (C = wJoin → n ≠ 1) ∧ (C = wLayer → n ≠ 2))
    (KA0 : ∀ W V, SV W V s → Below w.heap.size w W → Calls Tryz.prog 74 #[V, .slice (some ⟨k, 0, none⟩) n c] W fun e w' => e = .returned (.string (tx Z)) ∧ Below W.heap.size W w') :
    Calls Tryz.prog 42 #[v, .slice (some ⟨k, 0, none⟩) n c] w (RetS w s Z) := by
  obtain ⟨Ac, nc, cc, Al, nl, cl, rfl, hA, hL, hcc, hcl⟩ := h
  have KA := Lib.hid KA0
  have AT := lineAt w Ac nc cc Al nl cl
  have HA := Lib.hid hA
  have HL := Lib.hid hL
  have e0 := (AT.b.cell (p := ⟨k, 0, none⟩) hk).trans c0
  obtain ⟨h0, h1, h2, h3⟩ := hW
  have n0 : (0 : Int) < (n : Int) := by omega
  clear KA0
  by_cases u0 : C = wPiece
  · subst u0
    have m : ((n : Int) == 3) = false := by have := h0 rfl; simp; omega
    have q0 : ((tx wPiece).toList == [112, 105, 101, 99, 101]) = true := teq wPiece
    have q1 : ((tx wPiece).toList == [99, 117, 116]) = false := tne (a := wPiece) (b := wCut) (by decide)
    have q2 : ((tx wPiece).toList == [106, 111, 105, 110]) = false := tne (a := wPiece) (b := wJoin) (by decide)
    have q3 : ((tx wPiece).toList == [108, 97, 121, 101, 114]) = false := tne (a := wPiece) (b := wLayer) (by decide)
    clear h0 h1 h2 h3
    clear hA hL
    go_enter Tryz.func42, Tryz.ntmps42
    go_upto_region 11 with fail
    generalize ((w.alloc (.cells #[.slice Ac nc cc, .slice Al nl cl] 47)).alloc (.cells #[.slice none 0 0, .slice none 0 0] 47)) = w1 at AT e0 ⊢
    obtain ⟨z1, b1, hb, hr⟩ := AT
    obtain ⟨r0, r1, _, _⟩ := blkA hb
    have hzl : w.heap.size ≤ w1.heap.size := by omega
    have hk1 : k < w1.heap.size := by omega
    have hP1 : w.heap.size < w1.heap.size := by omega
    have hHR := Lib.hid hr
    have hHB := Lib.hid hb
    have HB1 := Lib.hid b1
    have SV0 : Hid (∀ W, Below w1.heap.size w1 W → SV W (.agg #[.slice Ac nc cc, .slice Al nl cl]) s) := Lib.hid (fun W hW => ⟨Ac, nc, cc, Al, nl, cl, rfl, (HA.out.below (b1.trans (hW.mono hzl)) (Nat.le_refl _)).more (b1.trans (hW.mono hzl)).size, (HL.out.below (b1.trans (hW.mono hzl)) (Nat.le_refl _)).more (b1.trans (hW.mono hzl)).size, hcc, hcl⟩)
    clear hb hr b1
    have KB := Lib.hid (fun W (hW : Below w1.heap.size w1 W) => (And.intro ((hW.cell (p := ⟨w.heap.size, 0, none⟩) (by simp; omega)).trans r0) ((hW.cell (p := ⟨w.heap.size, 1, none⟩) (by simp; omega)).trans r1)))
    have KB5 := Lib.hid (fun W (hW : Below w1.heap.size w1 W) (X Y : Value) => (And.intro ((setCell2_grown W (w.heap.size + 1) X Y).cell ((hW.cell (p := ⟨w.heap.size, 0, none⟩) (by simp; omega)).trans r0) (by simp <;> omega)) ((setCell2_grown W (w.heap.size + 1) X Y).cell ((hW.cell (p := ⟨w.heap.size, 1, none⟩) (by simp; omega)).trans r1) (by simp <;> omega))))
    have BD : Below w1.heap.size w1 w1.drew := (Below.refl _ _).drew
    have S2 := BD
    go_region_held3 (fun w' => w'.cell? ⟨w.heap.size, 0, none⟩ = some (.slice Ac nc cc) ∧ w'.cell? ⟨w.heap.size, 1, none⟩ = some (.slice Al nl cl)) (first | (with_reducible exact KB.out _ BD) | (exact KB.out _ S3) | (exact KB5.out w3 S3 _ _) | (go_keep; done)) (first
      | (go_at_call 74; refine (KA.out w1.drew _ (SV0.out _ BD) (HB1.out.trans (BD.mono hzl))).mono ?_; rintro e w3 ⟨rfl, b3⟩; have S3 : Below w1.heap.size w1 w3 := S2.trans (b3.mono S2.size); have h3r := (S3.block (w.heap.size + 1) (by omega)).trans hHR.out; obtain ⟨p0, p1, pf0, pf1⟩ := blkA h3r))
    all_goals
      go_wp2
      obtain ⟨y0, y1⟩ := st_set (a := .slice Ac nc cc) (b := .slice Al nl cl) p0 p1
      refine bodyPost_ret (v := .tuple #[.agg #[.slice Ac nc cc, .slice Al nl cl], .string (tx Z)]) (by simp [results, Tryz.results42, go_sem, y0, y1]) rfl ?_
      have B7 := ((HB1.out.trans (S3.mono hzl)).setCell (p := ⟨w.heap.size + 1, 0, none⟩) (by simp) (.slice Ac nc cc)).setCell (p := ⟨w.heap.size + 1, 1, none⟩) (by simp) (.slice Al nl cl)
      exact ⟨_, rfl, ⟨Ac, nc, cc, Al, nl, cl, rfl, (HA.out.below B7 (Nat.le_refl _)).more B7.size, (HL.out.below B7 (Nat.le_refl _)).more B7.size, hcc, hcl⟩, B7⟩
  by_cases u1 : C = wCut
  · subst u1
    have m : ((n : Int) == 2) = false := by have := h1 rfl; simp; omega
    have q0 : ((tx wCut).toList == [112, 105, 101, 99, 101]) = false := tne (a := wCut) (b := wPiece) (by decide)
    have q1 : ((tx wCut).toList == [99, 117, 116]) = true := teq wCut
    have q2 : ((tx wCut).toList == [106, 111, 105, 110]) = false := tne (a := wCut) (b := wJoin) (by decide)
    have q3 : ((tx wCut).toList == [108, 97, 121, 101, 114]) = false := tne (a := wCut) (b := wLayer) (by decide)
    clear h0 h1 h2 h3
    clear hA hL
    go_enter Tryz.func42, Tryz.ntmps42
    go_upto_region 11 with fail
    generalize ((w.alloc (.cells #[.slice Ac nc cc, .slice Al nl cl] 47)).alloc (.cells #[.slice none 0 0, .slice none 0 0] 47)) = w1 at AT e0 ⊢
    obtain ⟨z1, b1, hb, hr⟩ := AT
    obtain ⟨r0, r1, _, _⟩ := blkA hb
    have hzl : w.heap.size ≤ w1.heap.size := by omega
    have hk1 : k < w1.heap.size := by omega
    have hP1 : w.heap.size < w1.heap.size := by omega
    have hHR := Lib.hid hr
    have hHB := Lib.hid hb
    have HB1 := Lib.hid b1
    have SV0 : Hid (∀ W, Below w1.heap.size w1 W → SV W (.agg #[.slice Ac nc cc, .slice Al nl cl]) s) := Lib.hid (fun W hW => ⟨Ac, nc, cc, Al, nl, cl, rfl, (HA.out.below (b1.trans (hW.mono hzl)) (Nat.le_refl _)).more (b1.trans (hW.mono hzl)).size, (HL.out.below (b1.trans (hW.mono hzl)) (Nat.le_refl _)).more (b1.trans (hW.mono hzl)).size, hcc, hcl⟩)
    clear hb hr b1
    have KB := Lib.hid (fun W (hW : Below w1.heap.size w1 W) => (And.intro ((hW.cell (p := ⟨w.heap.size, 0, none⟩) (by simp; omega)).trans r0) ((hW.cell (p := ⟨w.heap.size, 1, none⟩) (by simp; omega)).trans r1)))
    have KB5 := Lib.hid (fun W (hW : Below w1.heap.size w1 W) (X Y : Value) => (And.intro ((setCell2_grown W (w.heap.size + 1) X Y).cell ((hW.cell (p := ⟨w.heap.size, 0, none⟩) (by simp; omega)).trans r0) (by simp <;> omega)) ((setCell2_grown W (w.heap.size + 1) X Y).cell ((hW.cell (p := ⟨w.heap.size, 1, none⟩) (by simp; omega)).trans r1) (by simp <;> omega))))
    have BD : Below w1.heap.size w1 w1.drew := (Below.refl _ _).drew
    have S2 := BD
    go_region_held3 (fun w' => w'.cell? ⟨w.heap.size, 0, none⟩ = some (.slice Ac nc cc) ∧ w'.cell? ⟨w.heap.size, 1, none⟩ = some (.slice Al nl cl)) (first | (with_reducible exact KB.out _ BD) | (exact KB.out _ S3) | (exact KB5.out w3 S3 _ _) | (go_keep; done)) (first
      | (go_at_call 74; refine (KA.out w1.drew _ (SV0.out _ BD) (HB1.out.trans (BD.mono hzl))).mono ?_; rintro e w3 ⟨rfl, b3⟩; have S3 : Below w1.heap.size w1 w3 := S2.trans (b3.mono S2.size); have h3r := (S3.block (w.heap.size + 1) (by omega)).trans hHR.out; obtain ⟨p0, p1, pf0, pf1⟩ := blkA h3r))
    all_goals
      go_wp2
      obtain ⟨y0, y1⟩ := st_set (a := .slice Ac nc cc) (b := .slice Al nl cl) p0 p1
      refine bodyPost_ret (v := .tuple #[.agg #[.slice Ac nc cc, .slice Al nl cl], .string (tx Z)]) (by simp [results, Tryz.results42, go_sem, y0, y1]) rfl ?_
      have B7 := ((HB1.out.trans (S3.mono hzl)).setCell (p := ⟨w.heap.size + 1, 0, none⟩) (by simp) (.slice Ac nc cc)).setCell (p := ⟨w.heap.size + 1, 1, none⟩) (by simp) (.slice Al nl cl)
      exact ⟨_, rfl, ⟨Ac, nc, cc, Al, nl, cl, rfl, (HA.out.below B7 (Nat.le_refl _)).more B7.size, (HL.out.below B7 (Nat.le_refl _)).more B7.size, hcc, hcl⟩, B7⟩
  by_cases u2 : C = wJoin
  · subst u2
    have m : ((n : Int) == 1) = false := by have := h2 rfl; simp; omega
    have q0 : ((tx wJoin).toList == [112, 105, 101, 99, 101]) = false := tne (a := wJoin) (b := wPiece) (by decide)
    have q1 : ((tx wJoin).toList == [99, 117, 116]) = false := tne (a := wJoin) (b := wCut) (by decide)
    have q2 : ((tx wJoin).toList == [106, 111, 105, 110]) = true := teq wJoin
    have q3 : ((tx wJoin).toList == [108, 97, 121, 101, 114]) = false := tne (a := wJoin) (b := wLayer) (by decide)
    clear h0 h1 h2 h3
    clear hA hL
    go_enter Tryz.func42, Tryz.ntmps42
    go_upto_region 11 with fail
    generalize ((w.alloc (.cells #[.slice Ac nc cc, .slice Al nl cl] 47)).alloc (.cells #[.slice none 0 0, .slice none 0 0] 47)) = w1 at AT e0 ⊢
    obtain ⟨z1, b1, hb, hr⟩ := AT
    obtain ⟨r0, r1, _, _⟩ := blkA hb
    have hzl : w.heap.size ≤ w1.heap.size := by omega
    have hk1 : k < w1.heap.size := by omega
    have hP1 : w.heap.size < w1.heap.size := by omega
    have hHR := Lib.hid hr
    have hHB := Lib.hid hb
    have HB1 := Lib.hid b1
    have SV0 : Hid (∀ W, Below w1.heap.size w1 W → SV W (.agg #[.slice Ac nc cc, .slice Al nl cl]) s) := Lib.hid (fun W hW => ⟨Ac, nc, cc, Al, nl, cl, rfl, (HA.out.below (b1.trans (hW.mono hzl)) (Nat.le_refl _)).more (b1.trans (hW.mono hzl)).size, (HL.out.below (b1.trans (hW.mono hzl)) (Nat.le_refl _)).more (b1.trans (hW.mono hzl)).size, hcc, hcl⟩)
    clear hb hr b1
    have KB := Lib.hid (fun W (hW : Below w1.heap.size w1 W) => (And.intro ((hW.cell (p := ⟨w.heap.size, 0, none⟩) (by simp; omega)).trans r0) ((hW.cell (p := ⟨w.heap.size, 1, none⟩) (by simp; omega)).trans r1)))
    have KB5 := Lib.hid (fun W (hW : Below w1.heap.size w1 W) (X Y : Value) => (And.intro ((setCell2_grown W (w.heap.size + 1) X Y).cell ((hW.cell (p := ⟨w.heap.size, 0, none⟩) (by simp; omega)).trans r0) (by simp <;> omega)) ((setCell2_grown W (w.heap.size + 1) X Y).cell ((hW.cell (p := ⟨w.heap.size, 1, none⟩) (by simp; omega)).trans r1) (by simp <;> omega))))
    have BD : Below w1.heap.size w1 w1.drew := (Below.refl _ _).drew
    have S2 := BD
    go_region_held3 (fun w' => w'.cell? ⟨w.heap.size, 0, none⟩ = some (.slice Ac nc cc) ∧ w'.cell? ⟨w.heap.size, 1, none⟩ = some (.slice Al nl cl)) (first | (with_reducible exact KB.out _ BD) | (exact KB.out _ S3) | (exact KB5.out w3 S3 _ _) | (go_keep; done)) (first
      | (go_at_call 74; refine (KA.out w1.drew _ (SV0.out _ BD) (HB1.out.trans (BD.mono hzl))).mono ?_; rintro e w3 ⟨rfl, b3⟩; have S3 : Below w1.heap.size w1 w3 := S2.trans (b3.mono S2.size); have h3r := (S3.block (w.heap.size + 1) (by omega)).trans hHR.out; obtain ⟨p0, p1, pf0, pf1⟩ := blkA h3r))
    all_goals
      go_wp2
      obtain ⟨y0, y1⟩ := st_set (a := .slice Ac nc cc) (b := .slice Al nl cl) p0 p1
      refine bodyPost_ret (v := .tuple #[.agg #[.slice Ac nc cc, .slice Al nl cl], .string (tx Z)]) (by simp [results, Tryz.results42, go_sem, y0, y1]) rfl ?_
      have B7 := ((HB1.out.trans (S3.mono hzl)).setCell (p := ⟨w.heap.size + 1, 0, none⟩) (by simp) (.slice Ac nc cc)).setCell (p := ⟨w.heap.size + 1, 1, none⟩) (by simp) (.slice Al nl cl)
      exact ⟨_, rfl, ⟨Ac, nc, cc, Al, nl, cl, rfl, (HA.out.below B7 (Nat.le_refl _)).more B7.size, (HL.out.below B7 (Nat.le_refl _)).more B7.size, hcc, hcl⟩, B7⟩
  by_cases u3 : C = wLayer
  · subst u3
    have m : ((n : Int) == 2) = false := by have := h3 rfl; simp; omega
    have q0 : ((tx wLayer).toList == [112, 105, 101, 99, 101]) = false := tne (a := wLayer) (b := wPiece) (by decide)
    have q1 : ((tx wLayer).toList == [99, 117, 116]) = false := tne (a := wLayer) (b := wCut) (by decide)
    have q2 : ((tx wLayer).toList == [106, 111, 105, 110]) = false := tne (a := wLayer) (b := wJoin) (by decide)
    have q3 : ((tx wLayer).toList == [108, 97, 121, 101, 114]) = true := teq wLayer
    clear h0 h1 h2 h3
    clear hA hL
    go_enter Tryz.func42, Tryz.ntmps42
    go_upto_region 11 with fail
    generalize ((w.alloc (.cells #[.slice Ac nc cc, .slice Al nl cl] 47)).alloc (.cells #[.slice none 0 0, .slice none 0 0] 47)) = w1 at AT e0 ⊢
    obtain ⟨z1, b1, hb, hr⟩ := AT
    obtain ⟨r0, r1, _, _⟩ := blkA hb
    have hzl : w.heap.size ≤ w1.heap.size := by omega
    have hk1 : k < w1.heap.size := by omega
    have hP1 : w.heap.size < w1.heap.size := by omega
    have hHR := Lib.hid hr
    have hHB := Lib.hid hb
    have HB1 := Lib.hid b1
    have SV0 : Hid (∀ W, Below w1.heap.size w1 W → SV W (.agg #[.slice Ac nc cc, .slice Al nl cl]) s) := Lib.hid (fun W hW => ⟨Ac, nc, cc, Al, nl, cl, rfl, (HA.out.below (b1.trans (hW.mono hzl)) (Nat.le_refl _)).more (b1.trans (hW.mono hzl)).size, (HL.out.below (b1.trans (hW.mono hzl)) (Nat.le_refl _)).more (b1.trans (hW.mono hzl)).size, hcc, hcl⟩)
    clear hb hr b1
    have KB := Lib.hid (fun W (hW : Below w1.heap.size w1 W) => (And.intro ((hW.cell (p := ⟨w.heap.size, 0, none⟩) (by simp; omega)).trans r0) ((hW.cell (p := ⟨w.heap.size, 1, none⟩) (by simp; omega)).trans r1)))
    have KB5 := Lib.hid (fun W (hW : Below w1.heap.size w1 W) (X Y : Value) => (And.intro ((setCell2_grown W (w.heap.size + 1) X Y).cell ((hW.cell (p := ⟨w.heap.size, 0, none⟩) (by simp; omega)).trans r0) (by simp <;> omega)) ((setCell2_grown W (w.heap.size + 1) X Y).cell ((hW.cell (p := ⟨w.heap.size, 1, none⟩) (by simp; omega)).trans r1) (by simp <;> omega))))
    have BD : Below w1.heap.size w1 w1.drew := (Below.refl _ _).drew
    have S2 := BD
    go_region_held3 (fun w' => w'.cell? ⟨w.heap.size, 0, none⟩ = some (.slice Ac nc cc) ∧ w'.cell? ⟨w.heap.size, 1, none⟩ = some (.slice Al nl cl)) (first | (with_reducible exact KB.out _ BD) | (exact KB.out _ S3) | (exact KB5.out w3 S3 _ _) | (go_keep; done)) (first
      | (go_at_call 74; refine (KA.out w1.drew _ (SV0.out _ BD) (HB1.out.trans (BD.mono hzl))).mono ?_; rintro e w3 ⟨rfl, b3⟩; have S3 : Below w1.heap.size w1 w3 := S2.trans (b3.mono S2.size); have h3r := (S3.block (w.heap.size + 1) (by omega)).trans hHR.out; obtain ⟨p0, p1, pf0, pf1⟩ := blkA h3r))
    all_goals
      go_wp2
      obtain ⟨y0, y1⟩ := st_set (a := .slice Ac nc cc) (b := .slice Al nl cl) p0 p1
      refine bodyPost_ret (v := .tuple #[.agg #[.slice Ac nc cc, .slice Al nl cl], .string (tx Z)]) (by simp [results, Tryz.results42, go_sem, y0, y1]) rfl ?_
      have B7 := ((HB1.out.trans (S3.mono hzl)).setCell (p := ⟨w.heap.size + 1, 0, none⟩) (by simp) (.slice Ac nc cc)).setCell (p := ⟨w.heap.size + 1, 1, none⟩) (by simp) (.slice Al nl cl)
      exact ⟨_, rfl, ⟨Ac, nc, cc, Al, nl, cl, rfl, (HA.out.below B7 (Nat.le_refl _)).more B7.size, (HL.out.below B7 (Nat.le_refl _)).more B7.size, hcc, hcl⟩, B7⟩
  · have q0 : ((tx C).toList == [112, 105, 101, 99, 101]) = false := tne (b := wPiece) u0
    have q1 : ((tx C).toList == [99, 117, 116]) = false := tne (b := wCut) u1
    have q2 : ((tx C).toList == [106, 111, 105, 110]) = false := tne (b := wJoin) u2
    have q3 : ((tx C).toList == [108, 97, 121, 101, 114]) = false := tne (b := wLayer) u3
    clear h0 h1 h2 h3
    clear hA hL
    go_enter Tryz.func42, Tryz.ntmps42
    go_upto_region 11 with fail
    generalize ((w.alloc (.cells #[.slice Ac nc cc, .slice Al nl cl] 47)).alloc (.cells #[.slice none 0 0, .slice none 0 0] 47)) = w1 at AT e0 ⊢
    obtain ⟨z1, b1, hb, hr⟩ := AT
    obtain ⟨r0, r1, _, _⟩ := blkA hb
    have hzl : w.heap.size ≤ w1.heap.size := by omega
    have hk1 : k < w1.heap.size := by omega
    have hP1 : w.heap.size < w1.heap.size := by omega
    have hHR := Lib.hid hr
    have hHB := Lib.hid hb
    have HB1 := Lib.hid b1
    have SV0 : Hid (∀ W, Below w1.heap.size w1 W → SV W (.agg #[.slice Ac nc cc, .slice Al nl cl]) s) := Lib.hid (fun W hW => ⟨Ac, nc, cc, Al, nl, cl, rfl, (HA.out.below (b1.trans (hW.mono hzl)) (Nat.le_refl _)).more (b1.trans (hW.mono hzl)).size, (HL.out.below (b1.trans (hW.mono hzl)) (Nat.le_refl _)).more (b1.trans (hW.mono hzl)).size, hcc, hcl⟩)
    clear hb hr b1
    have KB := Lib.hid (fun W (hW : Below w1.heap.size w1 W) => (And.intro ((hW.cell (p := ⟨w.heap.size, 0, none⟩) (by simp; omega)).trans r0) ((hW.cell (p := ⟨w.heap.size, 1, none⟩) (by simp; omega)).trans r1)))
    have KB5 := Lib.hid (fun W (hW : Below w1.heap.size w1 W) (X Y : Value) => (And.intro ((setCell2_grown W (w.heap.size + 1) X Y).cell ((hW.cell (p := ⟨w.heap.size, 0, none⟩) (by simp; omega)).trans r0) (by simp <;> omega)) ((setCell2_grown W (w.heap.size + 1) X Y).cell ((hW.cell (p := ⟨w.heap.size, 1, none⟩) (by simp; omega)).trans r1) (by simp <;> omega))))
    have BD : Below w1.heap.size w1 w1.drew := (Below.refl _ _).drew
    have S2 := BD
    go_region_held3 (fun w' => w'.cell? ⟨w.heap.size, 0, none⟩ = some (.slice Ac nc cc) ∧ w'.cell? ⟨w.heap.size, 1, none⟩ = some (.slice Al nl cl)) (first | (with_reducible exact KB.out _ BD) | (exact KB.out _ S3) | (exact KB5.out w3 S3 _ _) | (go_keep; done)) (first
      | (go_at_call 74; refine (KA.out w1.drew _ (SV0.out _ BD) (HB1.out.trans (BD.mono hzl))).mono ?_; rintro e w3 ⟨rfl, b3⟩; have S3 : Below w1.heap.size w1 w3 := S2.trans (b3.mono S2.size); have h3r := (S3.block (w.heap.size + 1) (by omega)).trans hHR.out; obtain ⟨p0, p1, pf0, pf1⟩ := blkA h3r))
    all_goals
      go_wp2
      obtain ⟨y0, y1⟩ := st_set (a := .slice Ac nc cc) (b := .slice Al nl cl) p0 p1
      refine bodyPost_ret (v := .tuple #[.agg #[.slice Ac nc cc, .slice Al nl cl], .string (tx Z)]) (by simp [results, Tryz.results42, go_sem, y0, y1]) rfl ?_
      have B7 := ((HB1.out.trans (S3.mono hzl)).setCell (p := ⟨w.heap.size + 1, 0, none⟩) (by simp) (.slice Ac nc cc)).setCell (p := ⟨w.heap.size + 1, 1, none⟩) (by simp) (.slice Al nl cl)
      exact ⟨_, rfl, ⟨Ac, nc, cc, Al, nl, cl, rfl, (HA.out.below B7 (Nat.le_refl _)).more B7.size, (HL.out.below B7 (Nat.le_refl _)).more B7.size, hcc, hcl⟩, B7⟩
end Go.Proofs.YtefadlbfkhndfaaGreatDoor
