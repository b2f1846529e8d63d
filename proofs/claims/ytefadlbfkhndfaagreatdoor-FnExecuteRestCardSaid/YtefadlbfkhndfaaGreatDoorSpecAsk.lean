/-
  Contracts: l51Ask of the reference.
-/
import Derived.Test.YtefadlbfkhndfaaGreatDoorSpecTwo
import Derived.Test.YtefadlbfkhndfaaGreatDoorGK
import Derived.Test.YtefadlbfkhndfaaGreatDoorGD
import Derived.Test.YtefadlbfkhndfaaGreatDoorGC
import Derived.Test.YtefadlbfkhndfaaGreatDoorGA
import Derived.Test.YtefadlbfkhndfaaGreatDoorGH
import Derived.BigQuiet
namespace Go.Proofs.YtefadlbfkhndfaaGreatDoor
open Go.RowKit
set_option linter.unusedSimpArgs false
set_option linter.unusedVariables false

theorem blkA {w : World} {g : Nat} {a b : Value} {T : TypeId} (h : w.heap[g]? = some (.cells #[a, b] T (0, 0))) : w.cell? ⟨g, 0, none⟩ = some a ∧ w.cell? ⟨g, 1, none⟩ = some b ∧ w.frozen? ⟨g, 0, none⟩ = false ∧ w.frozen? ⟨g, 1, none⟩ = false :=
  ⟨(Lib.cell_of_heap h 0).trans rfl, (Lib.cell_of_heap h 1).trans rfl, Lib.frozen_of_heap h 0, Lib.frozen_of_heap h 1⟩
theorem specLayersAge0_any (A : Option Addr) (n c : Nat) (l : List Ly) (d : Int) (w : World) (h : Arr LL 2 w w.heap.size A n l) (hn : n ≤ 1000) :
    Calls Tryz.prog 31 #[.slice A n c, .int .i64 0, .int .i64 d] w fun e w' => e = .returned (.tuple #[.int .i64 (oA (countL l 0 d)), .int .i64 (oB (countL l 0 d)), .bool (countL l 0 d).isSome]) ∧ Below w.heap.size w w' := by
  have C := specLayersAge_any A n c l 0 d w h hn (by decide)
  obtain ⟨e1, e2, e3⟩ := ageL_zero l d
  rw [e1, e2, e3] at C
  exact C

set_option maxRecDepth 100000 in
set_option maxHeartbeats 4000000 in
theorem l51Ask_core (k c : Nat)  (s : St) (w : World) (v : Value) (h : SV w v s) (hl1 : s.core.length ≤ 900) (hl2 : s.lays.length ≤ 900)  (hk : k < w.heap.size) (c0 : w.cell? ⟨k, 0, none⟩ = some (.string (tx wCore)))  :
    Calls Tryz.prog 74 #[v, .slice (some ⟨k, 0, none⟩) 1 c] w fun e w' => e = .returned (.string (tx (coreT s.core ++ [10]))) ∧ Below w.heap.size w w' := by
  obtain ⟨Ac, nc, cc, Al, nl, cl, rfl, hA, hL, hcc, hcl⟩ := h
  have hnc : nc ≤ 900 := by rw [← hA.1]; exact hl1
  have hnl : nl ≤ 900 := by rw [← hL.1]; exact hl2
  have B1 := (Below.refl w.heap.size w).alloc (Nat.le_refl _) (.cells #[.slice Ac nc cc, .slice Al nl cl] 47)
  have z1 : (w.alloc (.cells #[.slice Ac nc cc, .slice Al nl cl] 47)).heap.size = w.heap.size + 1 := by simp
  have e0 := (B1.cell (p := ⟨k, 0, none⟩) hk).trans c0
  have HA := Lib.hid ((hA.below B1 (Nat.le_refl _)).more B1.size)
  have HL := Lib.hid ((hL.below B1 (Nat.le_refl _)).more B1.size)
  have HB1 := Lib.hid B1
  have K0 := specCoreText_any Ac nc cc s.core (w.alloc (.cells #[.slice Ac nc cc, .slice Al nl cl] 47)) HA.out (by omega)
  have hz := coreT_len s.core
  obtain ⟨Z, hZ⟩ : ∃ Z, Z = tx (coreT s.core) := ⟨_, rfl⟩
  obtain ⟨T, hT⟩ : ∃ Z, Z = tx (coreT s.core ++ [10]) := ⟨_, rfl⟩
  have A1 : ∀ W : World, (Op.stringOp .add Z (ByteArray.mk #[10])).run Tryz.prog W = .ok (.string T) W := by rw [hZ, hT]; exact add_tx _ [10] _ rfl (by simp; omega)
  rw [← hZ] at K0
  have K := Lib.hid K0
  rw [← hT]
  clear K0 hZ hT hz
  clear hA hL B1 hl1 hl2
  have q0 : ((tx wCore).toList == [99, 111, 114, 101]) = true := teq wCore
  go_enter Tryz.func74, Tryz.ntmps74
  go_wp2_with (go_at_call 94; refine K.out.mono ?_; rintro e w2 ⟨rfl, b2⟩)
  go_ret
  exact ⟨rfl, HB1.out.trans (b2.mono HB1.out.size)⟩

set_option maxRecDepth 100000 in
set_option maxHeartbeats 4000000 in
theorem l51Ask_length (k c : Nat)  (s : St) (w : World) (v : Value) (h : SV w v s) (hl1 : s.core.length ≤ 900) (hl2 : s.lays.length ≤ 900) (u : Nat) (hu : coreLen s.core = (u : Int)) (hu9 : u ≤ 10000000) (hk : k < w.heap.size) (c0 : w.cell? ⟨k, 0, none⟩ = some (.string (tx wLength)))  :
    Calls Tryz.prog 74 #[v, .slice (some ⟨k, 0, none⟩) 1 c] w fun e w' => e = .returned (.string (tx (dec u ++ [10]))) ∧ Below w.heap.size w w' := by
  obtain ⟨Ac, nc, cc, Al, nl, cl, rfl, hA, hL, hcc, hcl⟩ := h
  have hnc : nc ≤ 900 := by rw [← hA.1]; exact hl1
  have hnl : nl ≤ 900 := by rw [← hL.1]; exact hl2
  have B1 := (Below.refl w.heap.size w).alloc (Nat.le_refl _) (.cells #[.slice Ac nc cc, .slice Al nl cl] 47)
  have z1 : (w.alloc (.cells #[.slice Ac nc cc, .slice Al nl cl] 47)).heap.size = w.heap.size + 1 := by simp
  have e0 := (B1.cell (p := ⟨k, 0, none⟩) hk).trans c0
  have HA := Lib.hid ((hA.below B1 (Nat.le_refl _)).more B1.size)
  have HL := Lib.hid ((hL.below B1 (Nat.le_refl _)).more B1.size)
  have HB1 := Lib.hid B1
  have K0 := specCoreLength_any Ac nc cc s.core (w.alloc (.cells #[.slice Ac nc cc, .slice Al nl cl] 47)) HA.out (by omega)
  rw [hu] at K0
  have I0 : ∀ W, Calls Tryz.prog 43 #[.int .i64 u] W fun e w' => e = .returned (.string (tx (dec u))) ∧ Below W.heap.size W w' := fun W => l6DecB_any u W hu9
  have hz : (dec u).length ≤ 8 := dec_len 7 u (by omega)
  obtain ⟨Z, hZ⟩ : ∃ Z, Z = tx (dec u) := ⟨_, rfl⟩
  obtain ⟨T, hT⟩ : ∃ Z, Z = tx (dec u ++ [10]) := ⟨_, rfl⟩
  have A1 : ∀ W : World, (Op.stringOp .add Z (ByteArray.mk #[10])).run Tryz.prog W = .ok (.string T) W := by rw [hZ, hT]; exact add_tx _ [10] _ rfl (by simp; omega)
  rw [← hZ] at I0
  have K := Lib.hid K0
  have I := Lib.hid I0
  rw [← hT]
  clear K0 I0 hZ hT hz hu
  clear hA hL B1 hl1 hl2
  have q0 : ((tx wLength).toList == [99, 111, 114, 101]) = false := tne (a := wLength) (b := wCore) (by decide)
  have q1 : ((tx wLength).toList == [108, 101, 110, 103, 116, 104]) = true := teq wLength
  go_enter Tryz.func74, Tryz.ntmps74
  go_wp2_with (first
    | (go_at_call 95; refine K.out.mono ?_; rintro e w2 ⟨rfl, b2⟩)
    | (go_at_call 43; refine (I.out _).mono ?_; rintro e w3 ⟨rfl, b3⟩))
  go_ret
  exact ⟨rfl, HB1.out.trans ((b2.trans (b3.mono b2.size)).mono HB1.out.size)⟩

set_option maxRecDepth 100000 in
set_option maxHeartbeats 4000000 in
theorem l51Ask_count (k c : Nat) (a : List UInt8) (ha9 : a.length ≤ 1000000) (b : List UInt8) (hb9 : b.length ≤ 1000000) (s : St) (w : World) (v : Value) (h : SV w v s) (hl1 : s.core.length ≤ 900) (hl2 : s.lays.length ≤ 900)  (hk : k < w.heap.size) (c0 : w.cell? ⟨k, 0, none⟩ = some (.string (tx wCount))) (c1 : w.cell? ⟨k, 1, none⟩ = some (.string (tx a))) (c2 : w.cell? ⟨k, 2, none⟩ = some (.string (tx b))) :
    Calls Tryz.prog 74 #[v, .slice (some ⟨k, 0, none⟩) 3 c] w fun e w' => e = .returned (.string (tx (twoT (countL s.lays (dig a) (dig b)) ++ [10]))) ∧ Below w.heap.size w w' := by
  obtain ⟨Ac, nc, cc, Al, nl, cl, rfl, hA, hL, hcc, hcl⟩ := h
  have hnc : nc ≤ 900 := by rw [← hA.1]; exact hl1
  have hnl : nl ≤ 900 := by rw [← hL.1]; exact hl2
  have B1 := (Below.refl w.heap.size w).alloc (Nat.le_refl _) (.cells #[.slice Ac nc cc, .slice Al nl cl] 47)
  have z1 : (w.alloc (.cells #[.slice Ac nc cc, .slice Al nl cl] 47)).heap.size = w.heap.size + 1 := by simp
  have e0 := (B1.cell (p := ⟨k, 0, none⟩) hk).trans c0
  have e1 := (B1.cell (p := ⟨k, 1, none⟩) hk).trans c1
  have e2 := (B1.cell (p := ⟨k, 2, none⟩) hk).trans c2
  have HA := Lib.hid ((hA.below B1 (Nat.le_refl _)).more B1.size)
  have HL := Lib.hid ((hL.below B1 (Nat.le_refl _)).more B1.size)
  have HB1 := Lib.hid B1
  obtain ⟨w1, hw1⟩ : ∃ w1, w1 = (w.alloc (.cells #[.slice Ac nc cc, .slice Al nl cl] 47)) := ⟨_, rfl⟩
  rw [← hw1] at z1 HA HL HB1 e0 e1 e2
  have hbox : w1.heap[w.heap.size]? = some (.cells #[.slice Ac nc cc, .slice Al nl cl] 47 (0, 0)) := by rw [hw1]; exact (MapKept.heap_alloc w _).1
  obtain ⟨r0, r1, _, _⟩ := blkA hbox
  obtain ⟨x, hx⟩ : ∃ z, z = dig a := ⟨_, rfl⟩
  have Cx0 : ∀ W, Below w1.heap.size w1 W → Calls Tryz.prog 71 #[.string (tx a)] W fun e w' => e = .returned (.int .i64 x) ∧ Below w1.heap.size w1 w' := fun W hW => by rw [hx]; exact calls_later_same hW (l1Digits_any a (by omega) W)
  rw [← hx]
  obtain ⟨Ta, hTa⟩ : ∃ z, z = tx a := ⟨_, rfl⟩
  rw [← hTa] at Cx0 e1 c1
  have Cx := Lib.hid Cx0
  clear Cx0 hTa hx
  obtain ⟨y, hy⟩ : ∃ z, z = dig b := ⟨_, rfl⟩
  have Cy0 : ∀ W, Below w1.heap.size w1 W → Calls Tryz.prog 71 #[.string (tx b)] W fun e w' => e = .returned (.int .i64 y) ∧ Below w1.heap.size w1 w' := fun W hW => by rw [hy]; exact calls_later_same hW (l1Digits_any b (by omega) W)
  rw [← hy]
  obtain ⟨Tb, hTb⟩ : ∃ z, z = tx b := ⟨_, rfl⟩
  rw [← hTb] at Cy0 e2 c2
  have Cy := Lib.hid Cy0
  clear Cy0 hTb hy
  have D1 := Later.cell (w0 := w1) (B := w1.heap.size) (a := ⟨k, 1, none⟩) (by rw [z1]; simp; omega) e1
  have D2 := Later.cell (w0 := w1) (B := w1.heap.size) (a := ⟨k, 2, none⟩) (by rw [z1]; simp; omega) e2
  have DB := Later.cell (w0 := w1) (B := w1.heap.size) (a := ⟨w.heap.size, 1, none⟩) (by rw [z1]; simp) r1
  have hcb := countL_bd s.lays x y (by omega)
  have KA0 : ∀ W, Below w1.heap.size w1 W → Calls Tryz.prog 27 #[.slice Al nl cl, .int .i64 x, .int .i64 y] W fun e w' => e = .returned (.tuple #[.int .i64 (oA (countL s.lays x y)), .int .i64 (oB (countL s.lays x y)), .bool (countL s.lays x y).isSome]) ∧ Below w1.heap.size w1 w' := fun W hW => calls_later hW (specLayersCount_any Al nl cl s.lays x y W ((HL.out.below hW (Nat.le_refl _)).more hW.size) (by omega))
  obtain ⟨o, ho⟩ : ∃ o, o = countL s.lays x y := ⟨_, rfl⟩
  rw [← ho] at KA0 hcb ⊢
  have KA := Lib.hid KA0
  have KT0 : ∀ W, Below w1.heap.size w1 W → Calls Tryz.prog 96 #[.int .i64 (oA o), .int .i64 (oB o), .bool o.isSome] W fun e w' => e = .returned (.string (tx (twoT o ++ [10]))) ∧ Below w1.heap.size w1 w' := fun W hW => calls_later hW (l51Two_any o hcb W)
  obtain ⟨T, hT⟩ : ∃ T, T = tx (twoT o ++ [10]) := ⟨_, rfl⟩
  rw [← hT] at KT0 ⊢
  have KT := Lib.hid KT0
  clear KA0 KT0 hT ho hcb hbox
  clear hA hL B1 hl1 hl2
  have q0 : ((tx wCount).toList == [99, 111, 114, 101]) = false := tne (a := wCount) (b := wCore) (by decide)
  have q1 : ((tx wCount).toList == [108, 101, 110, 103, 116, 104]) = false := tne (a := wCount) (b := wLength) (by decide)
  have q2 : ((tx wCount).toList == [99, 111, 117, 110, 116]) = true := teq wCount
  go_enter Tryz.func74, Tryz.ntmps74
  go_upto_region 6 with fail
  rw [← hw1]
  clear hw1
  refine wp_region_under (B := w1.heap.size) (w0 := w1) (by kernel_rfl) (by kernel_rfl) (Below.refl _ _) ?_
  repeat (go_big_quiet_step ((first
    | (go_at_call 71; with_reducible exact Calls.underK2 Cx.out)
    | (go_at_call 71; with_reducible exact Calls.underK2 Cy.out)
    | (go_at_call 27; with_reducible exact Calls.underK2 KA.out)
    | (go_at_call 96; with_reducible exact Calls.underK2 KT.out))))
  refine wpQuiet_nil ?_
  rintro w2 ⟨q, hq⟩
  have hb2 := HB1.out.trans ((show Below w1.heap.size w1 w2 by rw [hq]; exact q.2).mono HB1.out.size)
  clear hq q
  go_wp2
  go_ret
  exact ⟨rfl, hb2⟩

set_option maxRecDepth 100000 in
set_option maxHeartbeats 4000000 in
theorem l51Ask_age (k c : Nat) (a : List UInt8) (ha9 : a.length ≤ 1000000) (s : St) (w : World) (v : Value) (h : SV w v s) (hl1 : s.core.length ≤ 900) (hl2 : s.lays.length ≤ 900)  (hk : k < w.heap.size) (c0 : w.cell? ⟨k, 0, none⟩ = some (.string (tx wAge))) (c1 : w.cell? ⟨k, 1, none⟩ = some (.string (tx a))) :
    Calls Tryz.prog 74 #[v, .slice (some ⟨k, 0, none⟩) 2 c] w fun e w' => e = .returned (.string (tx (twoT (countL s.lays 0 (dig a)) ++ [10]))) ∧ Below w.heap.size w w' := by
  obtain ⟨Ac, nc, cc, Al, nl, cl, rfl, hA, hL, hcc, hcl⟩ := h
  have hnc : nc ≤ 900 := by rw [← hA.1]; exact hl1
  have hnl : nl ≤ 900 := by rw [← hL.1]; exact hl2
  have B1 := (Below.refl w.heap.size w).alloc (Nat.le_refl _) (.cells #[.slice Ac nc cc, .slice Al nl cl] 47)
  have z1 : (w.alloc (.cells #[.slice Ac nc cc, .slice Al nl cl] 47)).heap.size = w.heap.size + 1 := by simp
  have e0 := (B1.cell (p := ⟨k, 0, none⟩) hk).trans c0
  have e1 := (B1.cell (p := ⟨k, 1, none⟩) hk).trans c1
  have HA := Lib.hid ((hA.below B1 (Nat.le_refl _)).more B1.size)
  have HL := Lib.hid ((hL.below B1 (Nat.le_refl _)).more B1.size)
  have HB1 := Lib.hid B1
  obtain ⟨w1, hw1⟩ : ∃ w1, w1 = (w.alloc (.cells #[.slice Ac nc cc, .slice Al nl cl] 47)) := ⟨_, rfl⟩
  rw [← hw1] at z1 HA HL HB1 e0 e1
  have hbox : w1.heap[w.heap.size]? = some (.cells #[.slice Ac nc cc, .slice Al nl cl] 47 (0, 0)) := by rw [hw1]; exact (MapKept.heap_alloc w _).1
  obtain ⟨r0, r1, _, _⟩ := blkA hbox
  obtain ⟨x, hx⟩ : ∃ z, z = dig a := ⟨_, rfl⟩
  have Cx0 : ∀ W, Below w1.heap.size w1 W → Calls Tryz.prog 71 #[.string (tx a)] W fun e w' => e = .returned (.int .i64 x) ∧ Below w1.heap.size w1 w' := fun W hW => by rw [hx]; exact calls_later_same hW (l1Digits_any a (by omega) W)
  rw [← hx]
  obtain ⟨Ta, hTa⟩ : ∃ z, z = tx a := ⟨_, rfl⟩
  rw [← hTa] at Cx0 e1 c1
  have Cx := Lib.hid Cx0
  clear Cx0 hTa hx
  have D1 := Later.cell (w0 := w1) (B := w1.heap.size) (a := ⟨k, 1, none⟩) (by rw [z1]; simp; omega) e1
  have DB := Later.cell (w0 := w1) (B := w1.heap.size) (a := ⟨w.heap.size, 1, none⟩) (by rw [z1]; simp) r1
  have hcb := countL_bd s.lays 0 x (by omega)
  have KA0 : ∀ W, Below w1.heap.size w1 W → Calls Tryz.prog 31 #[.slice Al nl cl, .int .i64 0, .int .i64 x] W fun e w' => e = .returned (.tuple #[.int .i64 (oA (countL s.lays 0 x)), .int .i64 (oB (countL s.lays 0 x)), .bool (countL s.lays 0 x).isSome]) ∧ Below w1.heap.size w1 w' := fun W hW => calls_later hW (specLayersAge0_any Al nl cl s.lays x W ((HL.out.below hW (Nat.le_refl _)).more hW.size) (by omega))
  obtain ⟨o, ho⟩ : ∃ o, o = countL s.lays 0 x := ⟨_, rfl⟩
  rw [← ho] at KA0 hcb ⊢
  have KA := Lib.hid KA0
  have KT0 : ∀ W, Below w1.heap.size w1 W → Calls Tryz.prog 96 #[.int .i64 (oA o), .int .i64 (oB o), .bool o.isSome] W fun e w' => e = .returned (.string (tx (twoT o ++ [10]))) ∧ Below w1.heap.size w1 w' := fun W hW => calls_later hW (l51Two_any o hcb W)
  obtain ⟨T, hT⟩ : ∃ T, T = tx (twoT o ++ [10]) := ⟨_, rfl⟩
  rw [← hT] at KT0 ⊢
  have KT := Lib.hid KT0
  clear KA0 KT0 hT ho hcb hbox
  clear hA hL B1 hl1 hl2
  have q0 : ((tx wAge).toList == [99, 111, 114, 101]) = false := tne (a := wAge) (b := wCore) (by decide)
  have q1 : ((tx wAge).toList == [108, 101, 110, 103, 116, 104]) = false := tne (a := wAge) (b := wLength) (by decide)
  have q2 : ((tx wAge).toList == [99, 111, 117, 110, 116]) = false := tne (a := wAge) (b := wCount) (by decide)
  have q3 : ((tx wAge).toList == [97, 103, 101]) = true := teq wAge
  go_enter Tryz.func74, Tryz.ntmps74
  go_upto_region 8 with fail
  rw [← hw1]
  clear hw1
  refine wp_region_under (B := w1.heap.size) (w0 := w1) (by kernel_rfl) (by kernel_rfl) (Below.refl _ _) ?_
  repeat (go_big_quiet_step ((first
    | (go_at_call 71; with_reducible exact Calls.underK2 Cx.out)
    | (go_at_call 31; with_reducible exact Calls.underK2 KA.out)
    | (go_at_call 96; with_reducible exact Calls.underK2 KT.out))))
  refine wpQuiet_nil ?_
  rintro w2 ⟨q, hq⟩
  have hb2 := HB1.out.trans ((show Below w1.heap.size w1 w2 by rw [hq]; exact q.2).mono HB1.out.size)
  clear hq q
  go_wp2
  go_ret
  exact ⟨rfl, hb2⟩

set_option maxRecDepth 100000 in
set_option maxHeartbeats 4000000 in
theorem l51Ask_year (k c : Nat) (a : List UInt8) (ha9 : a.length ≤ 1000000) (s : St) (w : World) (v : Value) (h : SV w v s) (hl1 : s.core.length ≤ 900) (hl2 : s.lays.length ≤ 900)  (hk : k < w.heap.size) (c0 : w.cell? ⟨k, 0, none⟩ = some (.string (tx wYear))) (c1 : w.cell? ⟨k, 1, none⟩ = some (.string (tx a))) :
    Calls Tryz.prog 74 #[v, .slice (some ⟨k, 0, none⟩) 2 c] w fun e w' => e = .returned (.string (tx (yearLine (dig a) ++ [10]))) ∧ Below w.heap.size w w' := by
  obtain ⟨Ac, nc, cc, Al, nl, cl, rfl, hA, hL, hcc, hcl⟩ := h
  have hnc : nc ≤ 900 := by rw [← hA.1]; exact hl1
  have hnl : nl ≤ 900 := by rw [← hL.1]; exact hl2
  have B1 := (Below.refl w.heap.size w).alloc (Nat.le_refl _) (.cells #[.slice Ac nc cc, .slice Al nl cl] 47)
  have z1 : (w.alloc (.cells #[.slice Ac nc cc, .slice Al nl cl] 47)).heap.size = w.heap.size + 1 := by simp
  have e0 := (B1.cell (p := ⟨k, 0, none⟩) hk).trans c0
  have e1 := (B1.cell (p := ⟨k, 1, none⟩) hk).trans c1
  have HA := Lib.hid ((hA.below B1 (Nat.le_refl _)).more B1.size)
  have HL := Lib.hid ((hL.below B1 (Nat.le_refl _)).more B1.size)
  have HB1 := Lib.hid B1
  have hbd := dig_bd a
  obtain ⟨x, hx⟩ : ∃ z, z = dig a := ⟨_, rfl⟩
  have Cx0 := fun W => l1Digits_any a (by omega) W
  rw [← hx] at hbd Cx0 ⊢
  obtain ⟨Ta, hTa⟩ : ∃ z, z = tx a := ⟨_, rfl⟩
  rw [← hTa] at Cx0 e1 c1
  have Cx := Lib.hid Cx0
  have KY := Lib.hid (fun W => l51Year_any x hbd.1 hbd.2 W)
  obtain ⟨T, hT⟩ : ∃ T, T = tx (yearLine x ++ [10]) := ⟨_, rfl⟩
  rw [← hT] at KY ⊢
  clear Cx0 hTa hx hT
  clear hA hL B1 hl1 hl2
  have q0 : ((tx wYear).toList == [99, 111, 114, 101]) = false := tne (a := wYear) (b := wCore) (by decide)
  have q1 : ((tx wYear).toList == [108, 101, 110, 103, 116, 104]) = false := tne (a := wYear) (b := wLength) (by decide)
  have q2 : ((tx wYear).toList == [99, 111, 117, 110, 116]) = false := tne (a := wYear) (b := wCount) (by decide)
  have q3 : ((tx wYear).toList == [97, 103, 101]) = false := tne (a := wYear) (b := wAge) (by decide)
  have q4 : ((tx wYear).toList == [121, 101, 97, 114]) = true := teq wYear
  go_enter Tryz.func74, Tryz.ntmps74
  go_wp2_with (first
    | (go_at_call 71; refine (Cx.out _).mono ?_; rintro e w' ⟨rfl, rfl⟩)
    | (go_at_call 97; refine (KY.out _).mono ?_; rintro e w2 ⟨rfl, b2⟩))
  go_ret
  exact ⟨rfl, HB1.out.trans (b2.mono HB1.out.size)⟩

set_option maxRecDepth 100000 in
set_option maxHeartbeats 4000000 in
theorem l51Ask_what (k n c : Nat) (C : List UInt8) (s : St) (w : World) (v : Value) (h : SV w v s) (hn : 1 ≤ n) (hk : k < w.heap.size) (c0 : w.cell? ⟨k, 0, none⟩ = some (.string (tx C)))
    (hW : (C = wCore → n ≠ 1) ∧ (C = wLength → n ≠ 1) ∧ (C = wCount → n ≠ 3) ∧ (C = wAge → n ≠ 2) ∧ (C = wYear → n ≠ 2)) :
    Calls Tryz.prog 74 #[v, .slice (some ⟨k, 0, none⟩) n c] w fun e w' => e = .returned (.string (tx (whatT ++ [10]))) ∧ Below w.heap.size w w' := by
  obtain ⟨Ac, nc, cc, Al, nl, cl, rfl, hA, hL, hcc, hcl⟩ := h
  have B1 := (Below.refl w.heap.size w).alloc (Nat.le_refl _) (.cells #[.slice Ac nc cc, .slice Al nl cl] 47)
  have e0 := (B1.cell (p := ⟨k, 0, none⟩) hk).trans c0
  obtain ⟨h0, h1, h2, h3, h4⟩ := hW
  have n0 : (0 : Int) < (n : Int) := by omega
  clear hA hL
  by_cases w0 : C = wCore
  · subst w0
    have m : ((n : Int) == 1) = false := by have := h0 rfl; simp; omega
    have q0 : ((tx wCore).toList == [99, 111, 114, 101]) = true := teq wCore
    have q1 : ((tx wCore).toList == [108, 101, 110, 103, 116, 104]) = false := tne (a := wCore) (b := wLength) (by decide)
    have q2 : ((tx wCore).toList == [99, 111, 117, 110, 116]) = false := tne (a := wCore) (b := wCount) (by decide)
    have q3 : ((tx wCore).toList == [97, 103, 101]) = false := tne (a := wCore) (b := wAge) (by decide)
    have q4 : ((tx wCore).toList == [121, 101, 97, 114]) = false := tne (a := wCore) (b := wYear) (by decide)
    clear h0 h1 h2 h3 h4
    go_enter Tryz.func74, Tryz.ntmps74
    go_wp2
    go_ret
    exact ⟨rfl, B1⟩
  by_cases w1 : C = wLength
  · subst w1
    have m : ((n : Int) == 1) = false := by have := h1 rfl; simp; omega
    have q0 : ((tx wLength).toList == [99, 111, 114, 101]) = false := tne (a := wLength) (b := wCore) (by decide)
    have q1 : ((tx wLength).toList == [108, 101, 110, 103, 116, 104]) = true := teq wLength
    have q2 : ((tx wLength).toList == [99, 111, 117, 110, 116]) = false := tne (a := wLength) (b := wCount) (by decide)
    have q3 : ((tx wLength).toList == [97, 103, 101]) = false := tne (a := wLength) (b := wAge) (by decide)
    have q4 : ((tx wLength).toList == [121, 101, 97, 114]) = false := tne (a := wLength) (b := wYear) (by decide)
    clear h0 h1 h2 h3 h4
    go_enter Tryz.func74, Tryz.ntmps74
    go_wp2
    go_ret
    exact ⟨rfl, B1⟩
  by_cases w2 : C = wCount
  · subst w2
    have m : ((n : Int) == 3) = false := by have := h2 rfl; simp; omega
    have q0 : ((tx wCount).toList == [99, 111, 114, 101]) = false := tne (a := wCount) (b := wCore) (by decide)
    have q1 : ((tx wCount).toList == [108, 101, 110, 103, 116, 104]) = false := tne (a := wCount) (b := wLength) (by decide)
    have q2 : ((tx wCount).toList == [99, 111, 117, 110, 116]) = true := teq wCount
    have q3 : ((tx wCount).toList == [97, 103, 101]) = false := tne (a := wCount) (b := wAge) (by decide)
    have q4 : ((tx wCount).toList == [121, 101, 97, 114]) = false := tne (a := wCount) (b := wYear) (by decide)
    clear h0 h1 h2 h3 h4
    go_enter Tryz.func74, Tryz.ntmps74
    go_wp2
    go_ret
    exact ⟨rfl, B1⟩
  by_cases w3 : C = wAge
  · subst w3
    have m : ((n : Int) == 2) = false := by have := h3 rfl; simp; omega
    have q0 : ((tx wAge).toList == [99, 111, 114, 101]) = false := tne (a := wAge) (b := wCore) (by decide)
    have q1 : ((tx wAge).toList == [108, 101, 110, 103, 116, 104]) = false := tne (a := wAge) (b := wLength) (by decide)
    have q2 : ((tx wAge).toList == [99, 111, 117, 110, 116]) = false := tne (a := wAge) (b := wCount) (by decide)
    have q3 : ((tx wAge).toList == [97, 103, 101]) = true := teq wAge
    have q4 : ((tx wAge).toList == [121, 101, 97, 114]) = false := tne (a := wAge) (b := wYear) (by decide)
    clear h0 h1 h2 h3 h4
    go_enter Tryz.func74, Tryz.ntmps74
    go_wp2
    go_ret
    exact ⟨rfl, B1⟩
  by_cases w4 : C = wYear
  · subst w4
    have m : ((n : Int) == 2) = false := by have := h4 rfl; simp; omega
    have q0 : ((tx wYear).toList == [99, 111, 114, 101]) = false := tne (a := wYear) (b := wCore) (by decide)
    have q1 : ((tx wYear).toList == [108, 101, 110, 103, 116, 104]) = false := tne (a := wYear) (b := wLength) (by decide)
    have q2 : ((tx wYear).toList == [99, 111, 117, 110, 116]) = false := tne (a := wYear) (b := wCount) (by decide)
    have q3 : ((tx wYear).toList == [97, 103, 101]) = false := tne (a := wYear) (b := wAge) (by decide)
    have q4 : ((tx wYear).toList == [121, 101, 97, 114]) = true := teq wYear
    clear h0 h1 h2 h3 h4
    go_enter Tryz.func74, Tryz.ntmps74
    go_wp2
    go_ret
    exact ⟨rfl, B1⟩
  have q0 : ((tx C).toList == [99, 111, 114, 101]) = false := tne (b := wCore) w0
  have q1 : ((tx C).toList == [108, 101, 110, 103, 116, 104]) = false := tne (b := wLength) w1
  have q2 : ((tx C).toList == [99, 111, 117, 110, 116]) = false := tne (b := wCount) w2
  have q3 : ((tx C).toList == [97, 103, 101]) = false := tne (b := wAge) w3
  have q4 : ((tx C).toList == [121, 101, 97, 114]) = false := tne (b := wYear) w4
  clear h0 h1 h2 h3 h4
  go_enter Tryz.func74, Tryz.ntmps74
  go_wp2
  go_ret
  exact ⟨rfl, B1⟩
end Go.Proofs.YtefadlbfkhndfaaGreatDoor
