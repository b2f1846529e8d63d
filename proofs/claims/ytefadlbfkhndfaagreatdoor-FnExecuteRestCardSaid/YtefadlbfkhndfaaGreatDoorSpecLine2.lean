/-
  Contracts: l51Line of the reference.
-/
import Derived.Test.YtefadlbfkhndfaaGreatDoorSpecLine
import Derived.Test.YtefadlbfkhndfaaGreatDoorSpecPiece
import Derived.Test.YtefadlbfkhndfaaGreatDoorSpecLayer
import Derived.Test.YtefadlbfkhndfaaGreatDoorGN
import Derived.Deep.RegionHeld3
namespace Go.Proofs.YtefadlbfkhndfaaGreatDoor
open Go.RowKit
set_option linter.unusedSimpArgs false
set_option linter.unusedVariables false

set_option maxRecDepth 100000 in
set_option maxHeartbeats 8000000 in
theorem l51Line_join (k c : Nat)  (s : St) (w : World) (v : Value) (h : SV w v s) (hl1 : s.core.length ≤ 900) (hl2 : s.lays.length ≤ 900) (hB : coreB s.core = true) (hk : k < w.heap.size) (c0 : w.cell? ⟨k, 0, none⟩ = some (.string (tx wJoin)))  :
    Calls Tryz.prog 42 #[v, .slice (some ⟨k, 0, none⟩) 1 c] w (RetS w (lineX s [wJoin]).1 ((lineX s [wJoin]).2 ++ [10])) := by
  obtain ⟨Ac, nc, cc, Al, nl, cl, rfl, hA, hL, hcc, hcl⟩ := h
  have hnc : nc ≤ 900 := by rw [← hA.1]; exact hl1
  have hnl : nl ≤ 900 := by rw [← hL.1]; exact hl2
  have AT := lineAt w Ac nc cc Al nl cl
  have HA := Lib.hid hA
  have HL := Lib.hid hL
  have e0 := (AT.b.cell (p := ⟨k, 0, none⟩) hk).trans c0
  have q0 : ((tx wJoin).toList == [112, 105, 101, 99, 101]) = false := tne (a := wJoin) (b := wPiece) (by decide)
  have q1 : ((tx wJoin).toList == [99, 117, 116]) = false := tne (a := wJoin) (b := wCut) (by decide)
  have q2 : ((tx wJoin).toList == [106, 111, 105, 110]) = true := teq wJoin
  have HP := Lib.hid (show lineX s [wJoin] = ({ s with core := joinL s.core }, okT) by rw [line_join, if_pos hB])
  have HBB := Lib.hid hB
  clear hA hL
  go_enter Tryz.func42, Tryz.ntmps42
  go_upto_region 7 with fail
  generalize ((w.alloc (.cells #[.slice Ac nc cc, .slice Al nl cl] 47)).alloc (.cells #[.slice none 0 0, .slice none 0 0] 47)) = w1 at AT e0 ⊢
  obtain ⟨z1, b1, hb, hr⟩ := AT
  obtain ⟨r0, r1, _, _⟩ := blkA hb
  have hzl : w.heap.size ≤ w1.heap.size := by omega
  have hk1 : k < w1.heap.size := by omega
  have hP1 : w.heap.size < w1.heap.size := by omega
  have hHR := Lib.hid hr
  have hHB := Lib.hid hb
  have HB1 := Lib.hid b1
  have SV0 : Hid (∀ W, Below w1.heap.size w1 W → SV W (.agg #[.slice Ac nc cc, .slice Al nl cl]) s) := Lib.hid (fun W hW => ⟨Ac, nc, cc, Al, nl, cl, rfl, (HA.out.below (b1.trans (hW.mono hzl)) (Nat.le_refl _)).more (b1.trans (hW.mono hzl)).size, (HL.out.below (b1.trans (hW.mono hzl)) (Nat.le_refl _)).more (b1.trans (hW.mono hzl)).size, hcc, hcl⟩)
  clear hb hr b1
  have KJ0 := specCoreJoin_any Ac nc cc s.core w1 ((HA.out.below HB1.out (Nat.le_refl _)).more HB1.out.size) (by omega)
  rw [show joinR s.core = joinL s.core by unfold joinR; rw [if_pos HBB.out], HBB.out] at KJ0
  have KJ := Lib.hid KJ0
  clear KJ0
  go_wp2_with (go_at_call 40; refine KJ.out.mono ?_; rintro e w2 ⟨A2, n2, c2, rfl, o2, b2⟩; have S2 : Below w1.heap.size w1 w2 := b2; obtain ⟨s0, s1, sf0, sf1⟩ := blkA ((b2.block w.heap.size (by omega)).trans hHB.out))
  have hc2 : n2 ≤ c2 := by
    obtain ⟨_, _, eo, hc2, _⟩ := o2.form
    injection eo with _ eo2 eo3
    omega
  go_wp2_with (go_at_call 72; refine (l51Core_yes (.slice Ac nc cc) (.slice Al nl cl) (.slice A2 n2 c2) w2 ⟨_, _, _, rfl⟩ ⟨_, _, _, rfl⟩ ⟨_, _, _, rfl⟩).mono ?_; rintro e w3 ⟨rfl, b3⟩; have S3 : Below w1.heap.size w1 w3 := S2.trans (b3.mono S2.size); have h3r := (S3.block (w.heap.size + 1) (by omega)).trans hHR.out; obtain ⟨p0, p1, pf0, pf1⟩ := blkA h3r)
  obtain ⟨y0, y1⟩ := st_set (a := .slice A2 n2 c2) (b := .slice Al nl cl) p0 p1
  refine bodyPost_ret (v := .tuple #[.agg #[.slice A2 n2 c2, .slice Al nl cl], .string (tx (saidT true))]) (by simp [results, Tryz.results42, go_sem, y0, y1]) rfl ?_
  have g7 := setCell2_grown w3 (w.heap.size + 1) (.slice A2 n2 c2) (.slice Al nl cl)
  have B7 := ((HB1.out.trans (S3.mono hzl)).setCell (p := ⟨w.heap.size + 1, 0, none⟩) (by simp) (.slice A2 n2 c2)).setCell (p := ⟨w.heap.size + 1, 1, none⟩) (by simp) (.slice Al nl cl)
  rw [HP.out]
  exact ⟨_, rfl, ⟨A2, n2, c2, Al, nl, cl, rfl, (((o2.below b3 (Nat.le_refl _)).arr PP_length).other g7 (res_pp h3r)).more g7.size, (HL.out.below B7 (Nat.le_refl _)).more B7.size, hc2, hcl⟩, B7⟩

set_option maxRecDepth 100000 in
set_option maxHeartbeats 8000000 in
theorem l51Line_cut_yes (k c : Nat) (a : List UInt8) (ha9 : a.length ≤ 1000000) (s : St) (w : World) (v : Value) (h : SV w v s) (hl1 : s.core.length ≤ 900) (hl2 : s.lays.length ≤ 900) (L' : List Pc) (hcut : coreCutL s.core (dig a) = some L') (hk : k < w.heap.size) (c0 : w.cell? ⟨k, 0, none⟩ = some (.string (tx wCut))) (c1 : w.cell? ⟨k, 1, none⟩ = some (.string (tx a))) :
    Calls Tryz.prog 42 #[v, .slice (some ⟨k, 0, none⟩) 2 c] w (RetS w (lineX s [wCut, a]).1 ((lineX s [wCut, a]).2 ++ [10])) := by
  obtain ⟨Ac, nc, cc, Al, nl, cl, rfl, hA, hL, hcc, hcl⟩ := h
  have hnc : nc ≤ 900 := by rw [← hA.1]; exact hl1
  have hnl : nl ≤ 900 := by rw [← hL.1]; exact hl2
  have AT := lineAt w Ac nc cc Al nl cl
  have HA := Lib.hid hA
  have HL := Lib.hid hL
  have e0 := (AT.b.cell (p := ⟨k, 0, none⟩) hk).trans c0
  have e1 := (AT.b.cell (p := ⟨k, 1, none⟩) hk).trans c1
  have q0 : ((tx wCut).toList == [112, 105, 101, 99, 101]) = false := tne (a := wCut) (b := wPiece) (by decide)
  have q1 : ((tx wCut).toList == [99, 117, 116]) = true := teq wCut
  obtain ⟨x, hx⟩ : ∃ z, z = dig a := ⟨_, rfl⟩
  have Cx0 : ∀ W, Calls Tryz.prog 71 #[.string (tx a)] W fun e w' => e = .returned (.int .i64 x) ∧ W = w' := fun W => by rw [hx]; exact l1Digits_any a (by omega) W
  have HP := Lib.hid (show lineX s [wCut, a] = ({ s with core := L' }, okT) by rw [line_cut, hcut]; rfl)
  rw [← hx] at hcut
  obtain ⟨Ta, hTa⟩ : ∃ z, z = tx a := ⟨_, rfl⟩
  rw [← hTa] at Cx0 e1 c1
  have Cx := Lib.hid Cx0
  have HCUT := Lib.hid hcut
  clear Cx0 hTa hx hcut
  clear hA hL
  go_enter Tryz.func42, Tryz.ntmps42
  go_upto_region 4 with fail
  generalize ((w.alloc (.cells #[.slice Ac nc cc, .slice Al nl cl] 47)).alloc (.cells #[.slice none 0 0, .slice none 0 0] 47)) = w1 at AT e0 e1 ⊢
  obtain ⟨z1, b1, hb, hr⟩ := AT
  obtain ⟨r0, r1, _, _⟩ := blkA hb
  have hzl : w.heap.size ≤ w1.heap.size := by omega
  have hk1 : k < w1.heap.size := by omega
  have hP1 : w.heap.size < w1.heap.size := by omega
  have hHR := Lib.hid hr
  have hHB := Lib.hid hb
  have HB1 := Lib.hid b1
  have SV0 : Hid (∀ W, Below w1.heap.size w1 W → SV W (.agg #[.slice Ac nc cc, .slice Al nl cl]) s) := Lib.hid (fun W hW => ⟨Ac, nc, cc, Al, nl, cl, rfl, (HA.out.below (b1.trans (hW.mono hzl)) (Nat.le_refl _)).more (b1.trans (hW.mono hzl)).size, (HL.out.below (b1.trans (hW.mono hzl)) (Nat.le_refl _)).more (b1.trans (hW.mono hzl)).size, hcc, hcl⟩)
  clear hb hr b1
  have KB := Lib.hid (fun W (hW : Below w1.heap.size w1 W) => (And.intro ((hW.cell (p := ⟨w.heap.size, 0, none⟩) (by simp; omega)).trans r0) ((hW.cell (p := ⟨k, 1, none⟩) (by simp; omega)).trans e1)))
  have KB5 := Lib.hid (fun W (hW : Below w1.heap.size w1 W) (X Y : Value) => (And.intro ((setCell2_grown W (w.heap.size + 1) X Y).cell ((hW.cell (p := ⟨w.heap.size, 0, none⟩) (by simp; omega)).trans r0) (by simp <;> omega)) ((setCell2_grown W (w.heap.size + 1) X Y).cell ((hW.cell (p := ⟨k, 1, none⟩) (by simp; omega)).trans e1) (by simp <;> omega))))
  have BD : Below w1.heap.size w1 w1.drew := (Below.refl _ _).drew
  have KC0 := specCoreCut_any Ac nc cc s.core x w1.drew ((HA.out.below (HB1.out.trans (BD.mono hzl)) (Nat.le_refl _)).more (HB1.out.trans (BD.mono hzl)).size) (by omega) hcc
  rw [HCUT.out] at KC0
  have KC := Lib.hid KC0
  clear KC0
  go_region_held3 (fun w' => w'.cell? ⟨w.heap.size, 0, none⟩ = some (.slice Ac nc cc) ∧ w'.cell? ⟨k, 1, none⟩ = some (.string Ta)) (first | (with_reducible exact KB.out _ BD) | (exact KB.out _ S2) | (go_keep; done)) (first
    | (go_at_call 71; with_reducible refine (Cx.out _).mono ?_; rintro e w' ⟨rfl, rfl⟩)
    | (go_at_call 34; refine KC.out.mono ?_; rintro e w2 ⟨A2, n2, c2, rfl, o2, b2⟩; have S2 : Below w1.heap.size w1 w2 := BD.trans b2))
  all_goals
    obtain ⟨s0, s1, sf0, sf1⟩ := blkA ((S2.block w.heap.size (by omega)).trans hHB.out)
    have hc2 : n2 ≤ c2 := by
      obtain ⟨_, _, eo, hc2, _⟩ := o2.form
      injection eo with _ eo2 eo3
      omega
    go_wp2_with (go_at_call 72; refine (l51Core_yes (.slice Ac nc cc) (.slice Al nl cl) (.slice A2 n2 c2) w2 ⟨_, _, _, rfl⟩ ⟨_, _, _, rfl⟩ ⟨_, _, _, rfl⟩).mono ?_; rintro e w3 ⟨rfl, b3⟩; have S3 : Below w1.heap.size w1 w3 := S2.trans (b3.mono S2.size); have h3r := (S3.block (w.heap.size + 1) (by omega)).trans hHR.out; obtain ⟨p0, p1, pf0, pf1⟩ := blkA h3r)
    obtain ⟨y0, y1⟩ := st_set (a := .slice A2 n2 c2) (b := .slice Al nl cl) p0 p1
    refine bodyPost_ret (v := .tuple #[.agg #[.slice A2 n2 c2, .slice Al nl cl], .string (tx (saidT true))]) (by simp [results, Tryz.results42, go_sem, y0, y1]) rfl ?_
    have g7 := setCell2_grown w3 (w.heap.size + 1) (.slice A2 n2 c2) (.slice Al nl cl)
    have B7 := ((HB1.out.trans (S3.mono hzl)).setCell (p := ⟨w.heap.size + 1, 0, none⟩) (by simp) (.slice A2 n2 c2)).setCell (p := ⟨w.heap.size + 1, 1, none⟩) (by simp) (.slice Al nl cl)
    rw [HP.out]
    exact ⟨_, rfl, ⟨A2, n2, c2, Al, nl, cl, rfl, (((o2.below b3 (Nat.le_refl _)).arr PP_length).other g7 (res_pp h3r)).more g7.size, (HL.out.below B7 (Nat.le_refl _)).more B7.size, hc2, hcl⟩, B7⟩

set_option maxRecDepth 100000 in
set_option maxHeartbeats 8000000 in
theorem l51Line_cut_no (k c : Nat) (a : List UInt8) (ha9 : a.length ≤ 1000000) (s : St) (w : World) (v : Value) (h : SV w v s) (hl1 : s.core.length ≤ 900) (hl2 : s.lays.length ≤ 900) (hcut : coreCutL s.core (dig a) = none) (hk : k < w.heap.size) (c0 : w.cell? ⟨k, 0, none⟩ = some (.string (tx wCut))) (c1 : w.cell? ⟨k, 1, none⟩ = some (.string (tx a))) :
    Calls Tryz.prog 42 #[v, .slice (some ⟨k, 0, none⟩) 2 c] w (RetS w (lineX s [wCut, a]).1 ((lineX s [wCut, a]).2 ++ [10])) := by
  obtain ⟨Ac, nc, cc, Al, nl, cl, rfl, hA, hL, hcc, hcl⟩ := h
  have hnc : nc ≤ 900 := by rw [← hA.1]; exact hl1
  have hnl : nl ≤ 900 := by rw [← hL.1]; exact hl2
  have AT := lineAt w Ac nc cc Al nl cl
  have HA := Lib.hid hA
  have HL := Lib.hid hL
  have e0 := (AT.b.cell (p := ⟨k, 0, none⟩) hk).trans c0
  have e1 := (AT.b.cell (p := ⟨k, 1, none⟩) hk).trans c1
  have q0 : ((tx wCut).toList == [112, 105, 101, 99, 101]) = false := tne (a := wCut) (b := wPiece) (by decide)
  have q1 : ((tx wCut).toList == [99, 117, 116]) = true := teq wCut
  obtain ⟨x, hx⟩ : ∃ z, z = dig a := ⟨_, rfl⟩
  have Cx0 : ∀ W, Calls Tryz.prog 71 #[.string (tx a)] W fun e w' => e = .returned (.int .i64 x) ∧ W = w' := fun W => by rw [hx]; exact l1Digits_any a (by omega) W
  have HP := Lib.hid (show lineX s [wCut, a] = (s, noT) by rw [line_cut, hcut]; rfl)
  rw [← hx] at hcut
  obtain ⟨Ta, hTa⟩ : ∃ z, z = tx a := ⟨_, rfl⟩
  rw [← hTa] at Cx0 e1 c1
  have Cx := Lib.hid Cx0
  have HCUT := Lib.hid hcut
  clear Cx0 hTa hx hcut
  clear hA hL
  go_enter Tryz.func42, Tryz.ntmps42
  go_upto_region 4 with fail
  generalize ((w.alloc (.cells #[.slice Ac nc cc, .slice Al nl cl] 47)).alloc (.cells #[.slice none 0 0, .slice none 0 0] 47)) = w1 at AT e0 e1 ⊢
  obtain ⟨z1, b1, hb, hr⟩ := AT
  obtain ⟨r0, r1, _, _⟩ := blkA hb
  have hzl : w.heap.size ≤ w1.heap.size := by omega
  have hk1 : k < w1.heap.size := by omega
  have hP1 : w.heap.size < w1.heap.size := by omega
  have hHR := Lib.hid hr
  have hHB := Lib.hid hb
  have HB1 := Lib.hid b1
  have SV0 : Hid (∀ W, Below w1.heap.size w1 W → SV W (.agg #[.slice Ac nc cc, .slice Al nl cl]) s) := Lib.hid (fun W hW => ⟨Ac, nc, cc, Al, nl, cl, rfl, (HA.out.below (b1.trans (hW.mono hzl)) (Nat.le_refl _)).more (b1.trans (hW.mono hzl)).size, (HL.out.below (b1.trans (hW.mono hzl)) (Nat.le_refl _)).more (b1.trans (hW.mono hzl)).size, hcc, hcl⟩)
  clear hb hr b1
  have KB := Lib.hid (fun W (hW : Below w1.heap.size w1 W) => (And.intro ((hW.cell (p := ⟨w.heap.size, 0, none⟩) (by simp; omega)).trans r0) ((hW.cell (p := ⟨k, 1, none⟩) (by simp; omega)).trans e1)))
  have KB5 := Lib.hid (fun W (hW : Below w1.heap.size w1 W) (X Y : Value) => (And.intro ((setCell2_grown W (w.heap.size + 1) X Y).cell ((hW.cell (p := ⟨w.heap.size, 0, none⟩) (by simp; omega)).trans r0) (by simp <;> omega)) ((setCell2_grown W (w.heap.size + 1) X Y).cell ((hW.cell (p := ⟨k, 1, none⟩) (by simp; omega)).trans e1) (by simp <;> omega))))
  have BD : Below w1.heap.size w1 w1.drew := (Below.refl _ _).drew
  have KC0 := specCoreCut_any Ac nc cc s.core x w1.drew ((HA.out.below (HB1.out.trans (BD.mono hzl)) (Nat.le_refl _)).more (HB1.out.trans (BD.mono hzl)).size) (by omega) hcc
  rw [HCUT.out] at KC0
  have KC := Lib.hid KC0
  clear KC0
  go_region_held3 (fun w' => w'.cell? ⟨w.heap.size, 0, none⟩ = some (.slice Ac nc cc) ∧ w'.cell? ⟨k, 1, none⟩ = some (.string Ta)) (first | (with_reducible exact KB.out _ BD) | (exact KB.out _ S2) | (go_keep; done)) (first
    | (go_at_call 71; with_reducible refine (Cx.out _).mono ?_; rintro e w' ⟨rfl, rfl⟩)
    | (go_at_call 34; refine KC.out.mono ?_; rintro e w2 ⟨A2, n2, c2, rfl, o2, b2⟩; have S2 : Below w1.heap.size w1 w2 := BD.trans b2))
  all_goals
    obtain ⟨s0, s1, sf0, sf1⟩ := blkA ((S2.block w.heap.size (by omega)).trans hHB.out)
    have hc2 : n2 ≤ c2 := by
      obtain ⟨_, _, eo, hc2, _⟩ := o2.form
      injection eo with _ eo2 eo3
      omega
    go_wp2_with (go_at_call 72; refine (l51Core_no (.slice Ac nc cc) (.slice Al nl cl) (.slice A2 n2 c2) w2 ⟨_, _, _, rfl⟩ ⟨_, _, _, rfl⟩ ⟨_, _, _, rfl⟩).mono ?_; rintro e w3 ⟨rfl, b3⟩; have S3 : Below w1.heap.size w1 w3 := S2.trans (b3.mono S2.size); have h3r := (S3.block (w.heap.size + 1) (by omega)).trans hHR.out; obtain ⟨p0, p1, pf0, pf1⟩ := blkA h3r)
    obtain ⟨y0, y1⟩ := st_set (a := .slice Ac nc cc) (b := .slice Al nl cl) p0 p1
    refine bodyPost_ret (v := .tuple #[.agg #[.slice Ac nc cc, .slice Al nl cl], .string (tx (saidT false))]) (by simp [results, Tryz.results42, go_sem, y0, y1]) rfl ?_
    have g7 := setCell2_grown w3 (w.heap.size + 1) (.slice Ac nc cc) (.slice Al nl cl)
    have B7 := ((HB1.out.trans (S3.mono hzl)).setCell (p := ⟨w.heap.size + 1, 0, none⟩) (by simp) (.slice Ac nc cc)).setCell (p := ⟨w.heap.size + 1, 1, none⟩) (by simp) (.slice Al nl cl)
    rw [HP.out]
    exact ⟨_, rfl, ⟨Ac, nc, cc, Al, nl, cl, rfl, (HA.out.below B7 (Nat.le_refl _)).more B7.size, (HL.out.below B7 (Nat.le_refl _)).more B7.size, hcc, hcl⟩, B7⟩

end Go.Proofs.YtefadlbfkhndfaaGreatDoor
