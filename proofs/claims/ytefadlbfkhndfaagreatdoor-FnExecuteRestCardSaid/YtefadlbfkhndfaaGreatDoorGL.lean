/-
  What the texts below prove: contracts and plain laws, each with its conditions.
-/
import Derived.Test.YtefadlbfkhndfaaGreatDoorGH
import Derived.Test.YtefadlbfkhndfaaGreatDoorGC
import Derived.Test.YtefadlbfkhndfaaGreatDoorGK
import Derived.Test.YtefadlbfkhndfaaGreatDoorGD
import Derived.Maps.AppendAt
import Derived.Deep.AppendLies

/-
  Contract: the program's (*script).execute at a line "count A B" of any words.
-/
namespace Go.Proofs.YtefadlbfkhndfaaGreatDoor
open Go.RowKit Go.Maps Go.WideMaps
set_option linter.unusedSimpArgs false
set_option linter.unusedVariables false

set_option maxRecDepth 100000 in
set_option maxHeartbeats 8000000 in
theorem exec_countA (g k : Nat) (a : List UInt8) (ha9 : a.length ≤ 1000000) (b : List UInt8) (hb9 : b.length ≤ 1000000) (s : St) (w : World) (hs : Scr w g s) (hl : s.lays.length ≤ 900) (hT : Tab w) (hE : Errs w) (hk : k < w.heap.size)
    (c0 : w.cell? ⟨k, 0, none⟩ = some (.string (tx wCount))) (c1 : w.cell? ⟨k, 1, none⟩ = some (.string (tx a))) (c2 : w.cell? ⟨k, 2, none⟩ = some (.string (tx b))) (HC : True) :
    Calls Tryz.prog 45 #[.pointer (some ⟨g, 0, none⟩), .slice (some ⟨k, 0, none⟩) 3 3] w fun e w' =>
      e = .returned (.tuple #[.string (tx (dec (oA (countL s.lays (dig a) (dig b))).toNat ++ 32 :: dec (oB (countL s.lays (dig a) (dig b))).toNat)), .bool (countL s.lays (dig a) (dig b)).isSome]) ∧ Below w.heap.size w w' := by
  have SN00 := fun W hW => scriptNumber_any a (by omega) W hW
  have hbd0 := dig_bd a
  obtain ⟨x, hx⟩ : ∃ z, z = dig a := ⟨_, rfl⟩
  rw [← hx] at SN00 hbd0
  try rw [← hx]
  obtain ⟨T0, hT0⟩ : ∃ T, T = tx a := ⟨_, rfl⟩
  rw [← hT0] at SN00 c1
  have SN0 := Lib.hid SN00
  obtain ⟨hlo0, hhi0⟩ := hbd0
  clear SN00 hT0 hx
  have SN10 := fun W hW => scriptNumber_any b (by omega) W hW
  have hbd1 := dig_bd b
  obtain ⟨y, hy⟩ : ∃ z, z = dig b := ⟨_, rfl⟩
  rw [← hy] at SN10 hbd1
  try rw [← hy]
  obtain ⟨T1, hT1⟩ : ∃ T, T = tx b := ⟨_, rfl⟩
  rw [← hT1] at SN10 c2
  have SN1 := Lib.hid SN10
  obtain ⟨hlo1, hhi1⟩ := hbd1
  clear SN10 hT1 hy
  have k0 : keyOf Tryz.prog 9 (.string (tx wPiece)) = some (.string wPiece) := by rw [keyOf_string_mk Tryz.underlying9 (by rw [tx_size]; decide)]; rfl
  have k1 : keyOf Tryz.prog 9 (.string (tx wCut)) = some (.string wCut) := by rw [keyOf_string_mk Tryz.underlying9 (by rw [tx_size]; decide)]; rfl
  have k2 : keyOf Tryz.prog 9 (.string (tx wJoin)) = some (.string wJoin) := by rw [keyOf_string_mk Tryz.underlying9 (by rw [tx_size]; decide)]; rfl
  have k3 : keyOf Tryz.prog 9 (.string (tx wLayer)) = some (.string wLayer) := by rw [keyOf_string_mk Tryz.underlying9 (by rw [tx_size]; decide)]; rfl
  have k4 : keyOf Tryz.prog 9 (.string (tx wCore)) = some (.string wCore) := by rw [keyOf_string_mk Tryz.underlying9 (by rw [tx_size]; decide)]; rfl
  have k5 : keyOf Tryz.prog 9 (.string (tx wLength)) = some (.string wLength) := by rw [keyOf_string_mk Tryz.underlying9 (by rw [tx_size]; decide)]; rfl
  have k6 : keyOf Tryz.prog 9 (.string (tx wCount)) = some (.string wCount) := by rw [keyOf_string_mk Tryz.underlying9 (by rw [tx_size]; decide)]; rfl
  have k7 : keyOf Tryz.prog 9 (.string (tx wAge)) = some (.string wAge) := by rw [keyOf_string_mk Tryz.underlying9 (by rw [tx_size]; decide)]; rfl
  have k8 : keyOf Tryz.prog 9 (.string (tx wYear)) = some (.string wYear) := by rw [keyOf_string_mk Tryz.underlying9 (by rw [tx_size]; decide)]; rfl
  have d0 := wD_step (i := 0) rfl
  have d1 := wD_step (i := 1) rfl
  have d2 := wD_step (i := 2) rfl
  have d3 := wD_step (i := 3) rfl
  have d4 := wD_step (i := 4) rfl
  have d5 := wD_step (i := 5) rfl
  have d6 := wD_step (i := 6) rfl
  have d7 := wD_step (i := 7) rfl
  have d8 := wD_step (i := 8) rfl
  have v0 : RM (.int .i64 0) = some (.lit (.int .i64 0), []) := plainElem_int Tryz.underlying3 rfl
  have v1 : RM (.int .i64 1) = some (.lit (.int .i64 1), []) := plainElem_int Tryz.underlying3 rfl
  have v2 : RM (.int .i64 2) = some (.lit (.int .i64 2), []) := plainElem_int Tryz.underlying3 rfl
  have m0 := World.ownsMap_made w Tryz.prog 9 RM
  have hmm := @run_makeMap Tryz.prog
  have hwh := want_has (x := wCount) (k := 2) rfl
  have HS := Lib.hid hs
  have HT := Lib.hid hT
  have HE := Lib.hid hE
  have hgl := hs.lt
  clear hs hT hE
  go_enter Tryz.func45, Tryz.ntmps45
  go_wp2_with (first
    | (refine wpList_insert_own _ rfl _ _ _ 95 rfl 9 3 SK Tryz.underlying95 RM w.heap.size 0 (wD 0) (wD 1) rfl m0 (by unfold maxLen; omega) _ _ (.string wPiece) rfl rfl k0 _ _ v2 d0 ?_; intro w1 m1 g1)
    | (refine wpList_insert_own _ rfl _ _ _ 95 rfl 9 3 SK Tryz.underlying95 RM w.heap.size 1 (wD 1) (wD 2) rfl m1 (by unfold maxLen; omega) _ _ (.string wCut) rfl rfl k1 _ _ v1 d1 ?_; intro w2 m2 g2)
    | (refine wpList_insert_own _ rfl _ _ _ 95 rfl 9 3 SK Tryz.underlying95 RM w.heap.size 2 (wD 2) (wD 3) rfl m2 (by unfold maxLen; omega) _ _ (.string wJoin) rfl rfl k2 _ _ v0 d2 ?_; intro w3 m3 g3)
    | (refine wpList_insert_own _ rfl _ _ _ 95 rfl 9 3 SK Tryz.underlying95 RM w.heap.size 3 (wD 3) (wD 4) rfl m3 (by unfold maxLen; omega) _ _ (.string wLayer) rfl rfl k3 _ _ v1 d3 ?_; intro w4 m4 g4)
    | (refine wpList_insert_own _ rfl _ _ _ 95 rfl 9 3 SK Tryz.underlying95 RM w.heap.size 4 (wD 4) (wD 5) rfl m4 (by unfold maxLen; omega) _ _ (.string wCore) rfl rfl k4 _ _ v0 d4 ?_; intro w5 m5 g5)
    | (refine wpList_insert_own _ rfl _ _ _ 95 rfl 9 3 SK Tryz.underlying95 RM w.heap.size 5 (wD 5) (wD 6) rfl m5 (by unfold maxLen; omega) _ _ (.string wLength) rfl rfl k5 _ _ v0 d5 ?_; intro w6 m6 g6)
    | (refine wpList_insert_own _ rfl _ _ _ 95 rfl 9 3 SK Tryz.underlying95 RM w.heap.size 6 (wD 6) (wD 7) rfl m6 (by unfold maxLen; omega) _ _ (.string wCount) rfl rfl k6 _ _ v2 d6 ?_; intro w7 m7 g7)
    | (refine wpList_insert_own _ rfl _ _ _ 95 rfl 9 3 SK Tryz.underlying95 RM w.heap.size 7 (wD 7) (wD 8) rfl m7 (by unfold maxLen; omega) _ _ (.string wAge) rfl rfl k7 _ _ v1 d7 ?_; intro w8 m8 g8)
    | (refine wpList_insert_own _ rfl _ _ _ 95 rfl 9 3 SK Tryz.underlying95 RM w.heap.size 8 (wD 8) (wD 9) rfl m8 (by unfold maxLen; omega) _ _ (.string wYear) rfl rfl k8 _ _ v1 d8 ?_; intro w9 m9 g9
       have B9 : Below w.heap.size w w9 := ((Below.refl w.heap.size w).alloc (Nat.le_refl _) _).grown (((((((((g1.trans g2).trans g3).trans g4).trans g5).trans g6).trans g7).trans g8).trans g9)) (by simp) (fun j hj => by injection hj with hj; omega)
       have e0 := (B9.cell (p := ⟨k, 0, none⟩) hk).trans c0
       have e1 := (B9.cell (p := ⟨k, 1, none⟩) hk).trans c1
       have e2 := (B9.cell (p := ⟨k, 2, none⟩) hk).trans c2
       clear g1 g2 g3 g4 g5 g6 g7 g8 g9 m1 m2 m3 m4 m5 m6 m7 m8)
    | (at_lookup; refine wpList_lookup_own_ok_int _ rfl _ _ 95 rfl 9 3 .i64 SK Tryz.underlying95 Tryz.underlying3 (zeroInt _) w.heap.size 9 (wD 9) rfl m9 _ (.string wCount) rfl k6 ?_
       intro c hat hwc
       obtain rfl : c = 2 := by have h2 := hwh.2; rw [← wD_all, hat] at h2; injection h2 with h2; injection h2
       rw [show has (wD 9) (.string wCount) = true from hwh.1]
       clear hat hwc m9 m0 hmm k0 k1 k2 k3 k4 k5 k6 k7 k8 d0 d1 d2 d3 d4 d5 d6 d7 d8 hwh v0 v1 v2))
  go_loopw [9, 11, 37] (fun s _ i wr => ∃ j : Nat, j ≤ 2 ∧ i = .int .i64 j ∧ Own II 1 wr w.heap.size 3 s j ([x, y].take j) ∧ Below w.heap.size w wr) (fun _ _ i _ => 2 - (intOf i).toNat)
  case atStart => exact ⟨0, by omega, rfl, Own.nil_ _ _ _ _ _, B9⟩
  case round =>
    obtain ⟨j, hj, rfl, hw, hb⟩ := hrel
    have e2' := (hb.cell (p := ⟨k, 2, none⟩) hk).trans c2
    have e1' := (hb.cell (p := ⟨k, 1, none⟩) hk).trans c1
    have e0' := (hb.cell (p := ⟨k, 0, none⟩) hk).trans c0
    clear e0 e1 e2 c0 c1 c2 B9
    rcases (show j = 0 ∨ j = 1 ∨ j = 2 by omega) with rfl | rfl | rfl
    · obtain ⟨A0, c0, rfl, _, _⟩ := hw.form
      have hsz := hb.size
      have hEr := HE.out.below hb (Nat.le_refl _)
      obtain ⟨i0, hi, hz0, hz1, hz2⟩ := info_parts infoInt8
      go_wp2_with (first
        | (go_at_call 76; refine (SN0.out _ hEr).mono ?_; rintro e w2 ⟨rfl, b2⟩
           have hw2 := hw.below b2 (Nat.le_refl _)
           have hb2 := hb.trans (b2.mono hsz)
           have hsz2 := hb2.size
           have K1 := cell_new1 w2 (.int .i64 x) 3
           have K2 := one_II x
           have K3 : 0 + 1 ≤ maxLen := by unfold maxLen; omega
           have K4 : (0 + 1) * 8 ≤ 140737488355328 := by omega
           have K5 : w.heap.size ≤ (w2.alloc (.cells #[.int .i64 x] 3)).heap.size := by simp; omega)
        | (at_builtin; (refine wpList_append_own _ rfl _ _ 81 rfl w.heap.size 3 i0 (.int .i64 0) 1 8 Tryz.underlying81 hi hz0 hz1 hz2 rfl (by decide) _ _ _ rfl (hw2.2.alloc _) ⟨w2.heap.size, 0, none⟩ 1 1 [.int .i64 x] rfl rfl K1 K2 K3 K4 K5 ?_)))
      intro v' w4 hown' hg4 _
      have hw4 : Own II 1 w4 w.heap.size 3 v' (0 + 1) ([x, y].take (0 + 1)) := Own.snoc (f := II) (l := [x, y].take 0) (x := x) rfl hown'
      have hb4 : Below w.heap.size w w4 := (hb2.alloc hsz2 (.cells #[.int .i64 x] 3)).grown hg4 (by simp; omega) (fun j hj => (hw2.2.lt j hj).1)
      clear hw hown' hg4 hb hb2 hw2 K1 K2 K3 K4 K5 b2 hEr
      go_wp2
      go_roundw
      case rel => exact ⟨0 + 1, by omega, by go_num, hw4, hb4⟩
      case measure => simp [intOf]
    · obtain ⟨A0, c0, rfl, _, _⟩ := hw.form
      have hsz := hb.size
      have hEr := HE.out.below hb (Nat.le_refl _)
      obtain ⟨i0, hi, hz0, hz1, hz2⟩ := info_parts infoInt8
      go_wp2_with (first
        | (go_at_call 76; refine (SN1.out _ hEr).mono ?_; rintro e w2 ⟨rfl, b2⟩
           have hw2 := hw.below b2 (Nat.le_refl _)
           have hb2 := hb.trans (b2.mono hsz)
           have hsz2 := hb2.size
           have K1 := cell_new1 w2 (.int .i64 y) 3
           have K2 := one_II y
           have K3 : 1 + 1 ≤ maxLen := by unfold maxLen; omega
           have K4 : (1 + 1) * 8 ≤ 140737488355328 := by omega
           have K5 : w.heap.size ≤ (w2.alloc (.cells #[.int .i64 y] 3)).heap.size := by simp; omega)
        | (at_builtin; (refine wpList_append_own _ rfl _ _ 81 rfl w.heap.size 3 i0 (.int .i64 0) 1 8 Tryz.underlying81 hi hz0 hz1 hz2 rfl (by decide) _ _ _ rfl (hw2.2.alloc _) ⟨w2.heap.size, 0, none⟩ 1 1 [.int .i64 y] rfl rfl K1 K2 K3 K4 K5 ?_)))
      intro v' w4 hown' hg4 _
      have hw4 : Own II 1 w4 w.heap.size 3 v' (1 + 1) ([x, y].take (1 + 1)) := Own.snoc (f := II) (l := [x, y].take 1) (x := y) rfl hown'
      have hb4 : Below w.heap.size w w4 := (hb2.alloc hsz2 (.cells #[.int .i64 y] 3)).grown hg4 (by simp; omega) (fun j hj => (hw2.2.lt j hj).1)
      clear hw hown' hg4 hb hb2 hw2 K1 K2 K3 K4 K5 b2 hEr
      go_wp2
      go_roundw
      case rel => exact ⟨1 + 1, by omega, by go_num, hw4, hb4⟩
      case measure => simp [intOf]
    · obtain ⟨G, cG, rfl, hG1, hG2, hG3⟩ := hw.head (by omega)
      have n0 := hw.intAt (k := 0) (x := x) rfl
      have n1 := hw.intAt (k := 1) (x := y) rfl
      have q0 : ((tx wCount).toList == [112, 105, 101, 99, 101]) = false := tne (a := wCount) (b := wPiece) (by decide)
      have q1 : ((tx wCount).toList == [99, 117, 116]) = false := tne (a := wCount) (b := wCut) (by decide)
      have q2 : ((tx wCount).toList == [106, 111, 105, 110]) = false := tne (a := wCount) (b := wJoin) (by decide)
      have q3 : ((tx wCount).toList == [108, 97, 121, 101, 114]) = false := tne (a := wCount) (b := wLayer) (by decide)
      have q4 : ((tx wCount).toList == [99, 111, 114, 101]) = false := tne (a := wCount) (b := wCore) (by decide)
      have q5 : ((tx wCount).toList == [108, 101, 110, 103, 116, 104]) = false := tne (a := wCount) (b := wLength) (by decide)
      have q6 : ((tx wCount).toList == [99, 111, 117, 110, 116]) = true := teq wCount
      have HSr := Lib.hid (HS.out.below hb (Nat.le_refl _))
      have HTr := Lib.hid (HT.out.below hb (Nat.le_refl _))
      obtain ⟨Al, cl, x0, xA⟩ := HSr.out.layArr
      have hgr : g < wr.heap.size := HSr.out.lt
      have hcb := countL_bd s.lays x y (by omega)
      have KA0 : ∀ W, Below wr.heap.size wr W → Calls Tryz.prog 26 #[.slice Al s.lays.length cl, .int .i64 x, .int .i64 y] W fun e w' => e = .returned (.tuple #[.int .i64 (oA (countL s.lays x y)), .int .i64 (oB (countL s.lays x y)), .bool (countL s.lays x y).isSome]) ∧ Below wr.heap.size wr w' := fun W hW => calls_later hW (implLayersCount_any Al s.lays.length cl s.lays x y W ((xA.below hW (Nat.le_refl _)).more hW.size) (by omega))
      obtain ⟨o, ho⟩ : ∃ o, o = countL s.lays x y := ⟨_, rfl⟩
      rw [← ho] at KA0 hcb
      have HO := Lib.hid ho
      clear ho
      have KA := Lib.hid KA0
      have KB0 : ∀ W, Below wr.heap.size wr W → Calls Tryz.prog 80 #[.int .i64 (oA o), .int .i64 (oB o), .bool o.isSome] W fun e w' => e = .returned (.tuple #[.string (tx (dec (oA o).toNat ++ 32 :: dec (oB o).toNat)), .bool o.isSome]) ∧ Below wr.heap.size wr w' := fun W hW => calls_later hW (both_any (oA o) (oB o) o.isSome hcb W (HTr.out.below hW (Nat.le_refl _)))
      obtain ⟨T, hTT⟩ : ∃ T, T = tx (dec (oA o).toNat ++ 32 :: dec (oB o).toNat) := ⟨_, rfl⟩
      rw [← hTT] at KB0
      have KB := Lib.hid KB0
      have HTT := Lib.hid hTT
      have HB := Lib.hid hb
      have D9 := Later.cell (w0 := wr) (B := wr.heap.size) (by exact hgr) x0
      have D0 := Later.cell (w0 := wr) (B := wr.heap.size) (by exact hG2) n0
      have D1 := Later.cell (w0 := wr) (B := wr.heap.size) (by exact hG2) n1
      clear KA0 KB0 hTT hw hb SN0 SN1 e1' e2' hj HS HT HE xA hcb
      go_wp2_with fail
      refine wp_region_under (B := wr.heap.size) (w0 := wr) (by kernel_rfl) (by kernel_rfl) (Below.refl _ _) ?_
      repeat (go_big_quiet_step ((first
        | (go_at_call 26; with_reducible exact Calls.underK2 KA.out)
        | (go_at_call 80; with_reducible exact Calls.underK2 KB.out))))
      refine wpQuiet_nil ?_
      rintro w2 ⟨q, hq⟩
      have hb2 := HB.out.trans ((show Below wr.heap.size wr w2 by rw [hq]; exact q.2).mono HB.out.size)
      clear hq q D9
      go_wp2
      go_ret2
      exact ⟨ret_sb (by rw [HTT.out, HO.out]) (by rw [HO.out]), hb2⟩

end Go.Proofs.YtefadlbfkhndfaaGreatDoor

/-
  Contract: the program's (*script).execute at a line "age A" of any words.
-/
namespace Go.Proofs.YtefadlbfkhndfaaGreatDoor
open Go.RowKit Go.Maps Go.WideMaps
set_option linter.unusedSimpArgs false
set_option linter.unusedVariables false

set_option maxRecDepth 100000 in
set_option maxHeartbeats 8000000 in
theorem exec_ageA (g k : Nat) (a : List UInt8) (ha9 : a.length ≤ 1000000) (s : St) (w : World) (hs : Scr w g s) (hl : s.lays.length ≤ 900) (hT : Tab w) (hE : Errs w) (hk : k < w.heap.size)
    (c0 : w.cell? ⟨k, 0, none⟩ = some (.string (tx wAge))) (c1 : w.cell? ⟨k, 1, none⟩ = some (.string (tx a))) (HC : True) :
    Calls Tryz.prog 45 #[.pointer (some ⟨g, 0, none⟩), .slice (some ⟨k, 0, none⟩) 2 2] w fun e w' =>
      e = .returned (.tuple #[.string (tx (dec (oA (countL s.lays 0 (dig a))).toNat ++ 32 :: dec (oB (countL s.lays 0 (dig a))).toNat)), .bool (countL s.lays 0 (dig a)).isSome]) ∧ Below w.heap.size w w' := by
  have SN00 := fun W hW => scriptNumber_any a (by omega) W hW
  have hbd0 := dig_bd a
  obtain ⟨x, hx⟩ : ∃ z, z = dig a := ⟨_, rfl⟩
  rw [← hx] at SN00 hbd0
  try rw [← hx]
  obtain ⟨T0, hT0⟩ : ∃ T, T = tx a := ⟨_, rfl⟩
  rw [← hT0] at SN00 c1
  have SN0 := Lib.hid SN00
  obtain ⟨hlo0, hhi0⟩ := hbd0
  clear SN00 hT0 hx
  have k0 : keyOf Tryz.prog 9 (.string (tx wPiece)) = some (.string wPiece) := by rw [keyOf_string_mk Tryz.underlying9 (by rw [tx_size]; decide)]; rfl
  have k1 : keyOf Tryz.prog 9 (.string (tx wCut)) = some (.string wCut) := by rw [keyOf_string_mk Tryz.underlying9 (by rw [tx_size]; decide)]; rfl
  have k2 : keyOf Tryz.prog 9 (.string (tx wJoin)) = some (.string wJoin) := by rw [keyOf_string_mk Tryz.underlying9 (by rw [tx_size]; decide)]; rfl
  have k3 : keyOf Tryz.prog 9 (.string (tx wLayer)) = some (.string wLayer) := by rw [keyOf_string_mk Tryz.underlying9 (by rw [tx_size]; decide)]; rfl
  have k4 : keyOf Tryz.prog 9 (.string (tx wCore)) = some (.string wCore) := by rw [keyOf_string_mk Tryz.underlying9 (by rw [tx_size]; decide)]; rfl
  have k5 : keyOf Tryz.prog 9 (.string (tx wLength)) = some (.string wLength) := by rw [keyOf_string_mk Tryz.underlying9 (by rw [tx_size]; decide)]; rfl
  have k6 : keyOf Tryz.prog 9 (.string (tx wCount)) = some (.string wCount) := by rw [keyOf_string_mk Tryz.underlying9 (by rw [tx_size]; decide)]; rfl
  have k7 : keyOf Tryz.prog 9 (.string (tx wAge)) = some (.string wAge) := by rw [keyOf_string_mk Tryz.underlying9 (by rw [tx_size]; decide)]; rfl
  have k8 : keyOf Tryz.prog 9 (.string (tx wYear)) = some (.string wYear) := by rw [keyOf_string_mk Tryz.underlying9 (by rw [tx_size]; decide)]; rfl
  have d0 := wD_step (i := 0) rfl
  have d1 := wD_step (i := 1) rfl
  have d2 := wD_step (i := 2) rfl
  have d3 := wD_step (i := 3) rfl
  have d4 := wD_step (i := 4) rfl
  have d5 := wD_step (i := 5) rfl
  have d6 := wD_step (i := 6) rfl
  have d7 := wD_step (i := 7) rfl
  have d8 := wD_step (i := 8) rfl
  have v0 : RM (.int .i64 0) = some (.lit (.int .i64 0), []) := plainElem_int Tryz.underlying3 rfl
  have v1 : RM (.int .i64 1) = some (.lit (.int .i64 1), []) := plainElem_int Tryz.underlying3 rfl
  have v2 : RM (.int .i64 2) = some (.lit (.int .i64 2), []) := plainElem_int Tryz.underlying3 rfl
  have m0 := World.ownsMap_made w Tryz.prog 9 RM
  have hmm := @run_makeMap Tryz.prog
  have hwh := want_has (x := wAge) (k := 1) rfl
  have HS := Lib.hid hs
  have HT := Lib.hid hT
  have HE := Lib.hid hE
  have hgl := hs.lt
  clear hs hT hE
  go_enter Tryz.func45, Tryz.ntmps45
  go_wp2_with (first
    | (refine wpList_insert_own _ rfl _ _ _ 95 rfl 9 3 SK Tryz.underlying95 RM w.heap.size 0 (wD 0) (wD 1) rfl m0 (by unfold maxLen; omega) _ _ (.string wPiece) rfl rfl k0 _ _ v2 d0 ?_; intro w1 m1 g1)
    | (refine wpList_insert_own _ rfl _ _ _ 95 rfl 9 3 SK Tryz.underlying95 RM w.heap.size 1 (wD 1) (wD 2) rfl m1 (by unfold maxLen; omega) _ _ (.string wCut) rfl rfl k1 _ _ v1 d1 ?_; intro w2 m2 g2)
    | (refine wpList_insert_own _ rfl _ _ _ 95 rfl 9 3 SK Tryz.underlying95 RM w.heap.size 2 (wD 2) (wD 3) rfl m2 (by unfold maxLen; omega) _ _ (.string wJoin) rfl rfl k2 _ _ v0 d2 ?_; intro w3 m3 g3)
    | (refine wpList_insert_own _ rfl _ _ _ 95 rfl 9 3 SK Tryz.underlying95 RM w.heap.size 3 (wD 3) (wD 4) rfl m3 (by unfold maxLen; omega) _ _ (.string wLayer) rfl rfl k3 _ _ v1 d3 ?_; intro w4 m4 g4)
    | (refine wpList_insert_own _ rfl _ _ _ 95 rfl 9 3 SK Tryz.underlying95 RM w.heap.size 4 (wD 4) (wD 5) rfl m4 (by unfold maxLen; omega) _ _ (.string wCore) rfl rfl k4 _ _ v0 d4 ?_; intro w5 m5 g5)
    | (refine wpList_insert_own _ rfl _ _ _ 95 rfl 9 3 SK Tryz.underlying95 RM w.heap.size 5 (wD 5) (wD 6) rfl m5 (by unfold maxLen; omega) _ _ (.string wLength) rfl rfl k5 _ _ v0 d5 ?_; intro w6 m6 g6)
    | (refine wpList_insert_own _ rfl _ _ _ 95 rfl 9 3 SK Tryz.underlying95 RM w.heap.size 6 (wD 6) (wD 7) rfl m6 (by unfold maxLen; omega) _ _ (.string wCount) rfl rfl k6 _ _ v2 d6 ?_; intro w7 m7 g7)
    | (refine wpList_insert_own _ rfl _ _ _ 95 rfl 9 3 SK Tryz.underlying95 RM w.heap.size 7 (wD 7) (wD 8) rfl m7 (by unfold maxLen; omega) _ _ (.string wAge) rfl rfl k7 _ _ v1 d7 ?_; intro w8 m8 g8)
    | (refine wpList_insert_own _ rfl _ _ _ 95 rfl 9 3 SK Tryz.underlying95 RM w.heap.size 8 (wD 8) (wD 9) rfl m8 (by unfold maxLen; omega) _ _ (.string wYear) rfl rfl k8 _ _ v1 d8 ?_; intro w9 m9 g9
       have B9 : Below w.heap.size w w9 := ((Below.refl w.heap.size w).alloc (Nat.le_refl _) _).grown (((((((((g1.trans g2).trans g3).trans g4).trans g5).trans g6).trans g7).trans g8).trans g9)) (by simp) (fun j hj => by injection hj with hj; omega)
       have e0 := (B9.cell (p := ⟨k, 0, none⟩) hk).trans c0
       have e1 := (B9.cell (p := ⟨k, 1, none⟩) hk).trans c1
       clear g1 g2 g3 g4 g5 g6 g7 g8 g9 m1 m2 m3 m4 m5 m6 m7 m8)
    | (at_lookup; refine wpList_lookup_own_ok_int _ rfl _ _ 95 rfl 9 3 .i64 SK Tryz.underlying95 Tryz.underlying3 (zeroInt _) w.heap.size 9 (wD 9) rfl m9 _ (.string wAge) rfl k7 ?_
       intro c hat hwc
       obtain rfl : c = 1 := by have h2 := hwh.2; rw [← wD_all, hat] at h2; injection h2 with h2; injection h2
       rw [show has (wD 9) (.string wAge) = true from hwh.1]
       clear hat hwc m9 m0 hmm k0 k1 k2 k3 k4 k5 k6 k7 k8 d0 d1 d2 d3 d4 d5 d6 d7 d8 hwh v0 v1 v2))
  go_loopw [9, 11, 37] (fun s _ i wr => ∃ j : Nat, j ≤ 1 ∧ i = .int .i64 j ∧ Own II 1 wr w.heap.size 3 s j ([x].take j) ∧ Below w.heap.size w wr) (fun _ _ i _ => 1 - (intOf i).toNat)
  case atStart => exact ⟨0, by omega, rfl, Own.nil_ _ _ _ _ _, B9⟩
  case round =>
    obtain ⟨j, hj, rfl, hw, hb⟩ := hrel
    have e1' := (hb.cell (p := ⟨k, 1, none⟩) hk).trans c1
    have e0' := (hb.cell (p := ⟨k, 0, none⟩) hk).trans c0
    clear e0 e1 c0 c1 B9
    rcases (show j = 0 ∨ j = 1 by omega) with rfl | rfl
    · obtain ⟨A0, c0, rfl, _, _⟩ := hw.form
      have hsz := hb.size
      have hEr := HE.out.below hb (Nat.le_refl _)
      obtain ⟨i0, hi, hz0, hz1, hz2⟩ := info_parts infoInt8
      go_wp2_with (first
        | (go_at_call 76; refine (SN0.out _ hEr).mono ?_; rintro e w2 ⟨rfl, b2⟩
           have hw2 := hw.below b2 (Nat.le_refl _)
           have hb2 := hb.trans (b2.mono hsz)
           have hsz2 := hb2.size
           have K1 := cell_new1 w2 (.int .i64 x) 3
           have K2 := one_II x
           have K3 : 0 + 1 ≤ maxLen := by unfold maxLen; omega
           have K4 : (0 + 1) * 8 ≤ 140737488355328 := by omega
           have K5 : w.heap.size ≤ (w2.alloc (.cells #[.int .i64 x] 3)).heap.size := by simp; omega)
        | (at_builtin; (refine wpList_append_own _ rfl _ _ 81 rfl w.heap.size 3 i0 (.int .i64 0) 1 8 Tryz.underlying81 hi hz0 hz1 hz2 rfl (by decide) _ _ _ rfl (hw2.2.alloc _) ⟨w2.heap.size, 0, none⟩ 1 1 [.int .i64 x] rfl rfl K1 K2 K3 K4 K5 ?_)))
      intro v' w4 hown' hg4 _
      have hw4 : Own II 1 w4 w.heap.size 3 v' (0 + 1) ([x].take (0 + 1)) := Own.snoc (f := II) (l := [x].take 0) (x := x) rfl hown'
      have hb4 : Below w.heap.size w w4 := (hb2.alloc hsz2 (.cells #[.int .i64 x] 3)).grown hg4 (by simp; omega) (fun j hj => (hw2.2.lt j hj).1)
      clear hw hown' hg4 hb hb2 hw2 K1 K2 K3 K4 K5 b2 hEr
      go_wp2
      go_roundw
      case rel => exact ⟨0 + 1, by omega, by go_num, hw4, hb4⟩
      case measure => simp [intOf]
    · obtain ⟨G, cG, rfl, hG1, hG2, hG3⟩ := hw.head (by omega)
      have n0 := hw.intAt (k := 0) (x := x) rfl
      have q0 : ((tx wAge).toList == [112, 105, 101, 99, 101]) = false := tne (a := wAge) (b := wPiece) (by decide)
      have q1 : ((tx wAge).toList == [99, 117, 116]) = false := tne (a := wAge) (b := wCut) (by decide)
      have q2 : ((tx wAge).toList == [106, 111, 105, 110]) = false := tne (a := wAge) (b := wJoin) (by decide)
      have q3 : ((tx wAge).toList == [108, 97, 121, 101, 114]) = false := tne (a := wAge) (b := wLayer) (by decide)
      have q4 : ((tx wAge).toList == [99, 111, 114, 101]) = false := tne (a := wAge) (b := wCore) (by decide)
      have q5 : ((tx wAge).toList == [108, 101, 110, 103, 116, 104]) = false := tne (a := wAge) (b := wLength) (by decide)
      have q6 : ((tx wAge).toList == [99, 111, 117, 110, 116]) = false := tne (a := wAge) (b := wCount) (by decide)
      have q7 : ((tx wAge).toList == [97, 103, 101]) = true := teq wAge
      have HSr := Lib.hid (HS.out.below hb (Nat.le_refl _))
      have HTr := Lib.hid (HT.out.below hb (Nat.le_refl _))
      obtain ⟨Al, cl, x0, xA⟩ := HSr.out.layArr
      have hgr : g < wr.heap.size := HSr.out.lt
      have hcb := countL_bd s.lays 0 x (by omega)
      have KA0 : ∀ W, Below wr.heap.size wr W → Calls Tryz.prog 30 #[.slice Al s.lays.length cl, .int .i64 0, .int .i64 x] W fun e w' => e = .returned (.tuple #[.int .i64 (oA (countL s.lays 0 x)), .int .i64 (oB (countL s.lays 0 x)), .bool (countL s.lays 0 x).isSome]) ∧ Below wr.heap.size wr w' := fun W hW => calls_later hW (implLayersAge0_any Al s.lays.length cl s.lays x W ((xA.below hW (Nat.le_refl _)).more hW.size) (by omega))
      obtain ⟨o, ho⟩ : ∃ o, o = countL s.lays 0 x := ⟨_, rfl⟩
      rw [← ho] at KA0 hcb
      have HO := Lib.hid ho
      clear ho
      have KA := Lib.hid KA0
      have KB0 : ∀ W, Below wr.heap.size wr W → Calls Tryz.prog 80 #[.int .i64 (oA o), .int .i64 (oB o), .bool o.isSome] W fun e w' => e = .returned (.tuple #[.string (tx (dec (oA o).toNat ++ 32 :: dec (oB o).toNat)), .bool o.isSome]) ∧ Below wr.heap.size wr w' := fun W hW => calls_later hW (both_any (oA o) (oB o) o.isSome hcb W (HTr.out.below hW (Nat.le_refl _)))
      obtain ⟨T, hTT⟩ : ∃ T, T = tx (dec (oA o).toNat ++ 32 :: dec (oB o).toNat) := ⟨_, rfl⟩
      rw [← hTT] at KB0
      have KB := Lib.hid KB0
      have HTT := Lib.hid hTT
      have HB := Lib.hid hb
      have D9 := Later.cell (w0 := wr) (B := wr.heap.size) (by exact hgr) x0
      have D0 := Later.cell (w0 := wr) (B := wr.heap.size) (by exact hG2) n0
      clear KA0 KB0 hTT hw hb SN0 e1' hj HS HT HE xA hcb
      go_wp2_with fail
      refine wp_region_under (B := wr.heap.size) (w0 := wr) (by kernel_rfl) (by kernel_rfl) (Below.refl _ _) ?_
      repeat (go_big_quiet_step ((first
        | (go_at_call 30; with_reducible exact Calls.underK2 KA.out)
        | (go_at_call 80; with_reducible exact Calls.underK2 KB.out))))
      refine wpQuiet_nil ?_
      rintro w2 ⟨q, hq⟩
      have hb2 := HB.out.trans ((show Below wr.heap.size wr w2 by rw [hq]; exact q.2).mono HB.out.size)
      clear hq q D9
      go_wp2
      go_ret2
      exact ⟨ret_sb (by rw [HTT.out, HO.out]) (by rw [HO.out]), hb2⟩

end Go.Proofs.YtefadlbfkhndfaaGreatDoor
