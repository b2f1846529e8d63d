/-
  Contract: l51Layer of the reference.
-/
import Derived.Test.YtefadlbfkhndfaaGreatDoorSpecPiece
import Derived.Test.YtefadlbfkhndfaaGreatDoorGB
import Derived.Test.YtefadlbfkhndfaaGreatDoorGA
import Derived.Test.YtefadlbfkhndfaaGreatDoorGC
import Derived.Deep.RegionHeld3
namespace Go.Proofs.YtefadlbfkhndfaaGreatDoor
open Go.RowKit
set_option linter.unusedSimpArgs false
set_option linter.unusedVariables false

theorem Own.litLLs (w : World) (base : Nat) (T : TypeId) (x : Int) (b : Bool) (hb : base ≤ w.heap.size) : Own LL 2 (w.alloc (.cells #[.int .i64 x, .bool b] T)) base T (.slice (some ⟨w.heap.size, 0, none⟩) 1 1) 1 [(x, b)] :=
  ⟨rfl, World.ownsRow_lit w #[.int .i64 x, .bool b] 1 hb (by unfold maxLen; omega) rfl⟩
theorem Own.clean {α : Type} {f : α → List Value} {sz : Nat} {w : World} {base : Nat} {T : TypeId} {v : Value} {n : Nat} {l : List α} (h : Own f sz w base T v (0 + n) ([] ++ l)) : Own f sz w base T v n l := by simpa using h
theorem lyOf_end (x : List UInt8) : lyOf (x ++ [63]) = (dig x, false) := by
  unfold lyOf
  rw [if_pos (by simp)]
  simp
theorem lyOf_mid {x : List UInt8} {b : UInt8} (h : b ≠ 63) : lyOf (x ++ [b]) = (dig (x ++ [b]), true) := by
  unfold lyOf
  rw [if_neg (by simpa using h)]

theorem setCell_grownS (w : World) (g i : Nat) (v : Value) : w.grownBy (w.setCell ⟨g, i, none⟩ v) (some g) :=
  ⟨rfl, rfl, rfl, by simp [World.setCell], fun k _ hk => Below.heap_setCell _ _ _ _ (fun e => hk (by simp [e]))⟩
/-- What is known where the layers are put together. -/
structure LayAt (w w0 : World) (Ac : Option Addr) (nc cc : Nat) (Al : Option Addr) (nl cl : Nat) (D : Int) (B : Bool) : Prop where
  z0 : w0.heap.size = w.heap.size + 1 + 1 + 1
  b0 : Below w.heap.size w w0
  hb : w0.heap[w.heap.size]? = some (.cells #[.slice Ac nc cc, .slice Al nl cl] 47 (0, 0))
  hr : w0.heap[w.heap.size + 1]? = some (.cells #[.slice none 0 0, .slice none 0 0] 47 (0, 0))
  hx : w0.heap[w.heap.size + 1 + 1]? = some (.cells #[.int .i64 D, .bool B] 73 (0, 0))
theorem layAt (w : World) (Ac : Option Addr) (nc cc : Nat) (Al : Option Addr) (nl cl : Nat) (D : Int) (B : Bool) :
    LayAt w (((w.alloc (.cells #[.slice Ac nc cc, .slice Al nl cl] 47)).alloc (.cells #[.slice none 0 0, .slice none 0 0] 47)).alloc (.cells #[.int .i64 D, .bool B] 73)) Ac nc cc Al nl cl D B := by
  have h1 := (MapKept.heap_alloc w (.cells #[.slice Ac nc cc, .slice Al nl cl] 47)).1
  have z1 : (w.alloc (.cells #[.slice Ac nc cc, .slice Al nl cl] 47)).heap.size = w.heap.size + 1 := by simp
  have B1 := (Below.refl w.heap.size w).alloc (Nat.le_refl _) (.cells #[.slice Ac nc cc, .slice Al nl cl] 47)
  generalize w.alloc (.cells #[.slice Ac nc cc, .slice Al nl cl] 47) = w1 at h1 z1 B1 ⊢
  have h2 := (MapKept.heap_alloc w1 (.cells #[.slice none 0 0, .slice none 0 0] 47)).1
  have z2 : (w1.alloc (.cells #[.slice none 0 0, .slice none 0 0] 47)).heap.size = w.heap.size + 1 + 1 := by simp [z1]
  have B2 := (Below.refl w1.heap.size w1).alloc (Nat.le_refl _) (.cells #[.slice none 0 0, .slice none 0 0] 47)
  generalize w1.alloc (.cells #[.slice none 0 0, .slice none 0 0] 47) = w2 at h2 z2 B2 ⊢
  have h3 := (MapKept.heap_alloc w2 (.cells #[.int .i64 D, .bool B] 73)).1
  have z3 : (w2.alloc (.cells #[.int .i64 D, .bool B] 73)).heap.size = w.heap.size + 1 + 1 + 1 := by simp [z2]
  have B3 := (Below.refl w2.heap.size w2).alloc (Nat.le_refl _) (.cells #[.int .i64 D, .bool B] 73)
  rw [z1] at h2
  rw [z2] at h3
  exact ⟨z3, B1.trans ((B2.trans (B3.mono B2.size)).mono B1.size), (B3.block _ (by omega)).trans ((B2.block _ (by omega)).trans h1), (B3.block _ (by omega)).trans h2, h3⟩

/-- A row that lies in other blocks than the one that turns. -/
theorem Arr.kept2 {α : Type} {f : α → List Value} {sz : Nat} {w w' : World} {C b o n : Nat} {l : List α} {row : Option Nat} (h : Arr f sz w C (some ⟨b, o, none⟩) n l) (hg : w.grownBy w' row) (hne : some b ≠ row) : Arr f sz w' C (some ⟨b, o, none⟩) n l := by
  refine ⟨h.1, fun hn => ?_⟩
  obtain ⟨b', o', e, hb, hc⟩ := h.2 hn
  injection e with e
  injection e with e1 e2 _
  subst e1; subst e2
  exact ⟨b, o, rfl, hb, fun k x hx j u hj => hg.cell (hc k x hx j u hj) hne⟩

set_option maxRecDepth 100000 in
set_option maxHeartbeats 8000000 in
theorem l51Layer_any (v : Value) (s : St) (a : List UInt8) (ha : a.length ≤ 1000000) (w : World) (h : SV w v s) (hl : s.lays.length ≤ 900) :
    Calls Tryz.prog 73 #[v, .string (tx a)] w (RetS w (addLayer s a).1 ((addLayer s a).2 ++ [10])) := by
  obtain ⟨i0, hi, hz0, hz1, hz2⟩ := info_parts infoLayer
  obtain ⟨Ac, nc, cc, Al, nl, cl, rfl, hA, hL, hcc, hcl⟩ := h
  have hn : nl ≤ 900 := by rw [← hL.1]; exact hl
  have HA := Lib.hid hA
  have HL := Lib.hid hL
  have M1 : 0 + nl ≤ maxLen := by unfold maxLen; omega
  have M2 : nl + 1 ≤ maxLen := by unfold maxLen; omega
  have M3 : (0 + nl) * 16 ≤ 140737488355328 := by omega
  have M4 : (nl + 1) * 16 ≤ 140737488355328 := by omega
  clear hA hL hl
  rcases List.eq_nil_or_concat a with rfl | ⟨y, d, hyd⟩
  · have C1 := Lib.hid (fun W => l1Digits_any [] (by simp) W)
    have z9 : (tx []).size = 0 := rfl
    have hly : lyOf [] = (dig [], true) := rfl
    obtain ⟨D, hD⟩ : ∃ D, D = dig [] := ⟨_, rfl⟩
    rw [← hD] at hly C1
    have HLY := Lib.hid hly
    clear hD hly
    go_enter Tryz.func73, Tryz.ntmps73
    go_upto_region 5 with (go_at_call 71; refine (C1.out _).mono ?_; rintro e w' ⟨rfl, rfl⟩)
    have hLA := layAt w Ac nc cc Al nl cl D true
    generalize ((w.alloc (.cells #[.slice Ac nc cc, .slice Al nl cl] 47)).alloc (.cells #[.slice none 0 0, .slice none 0 0] 47)).alloc (.cells #[.int .i64 D, .bool true] 73) = w0 at hLA ⊢
    obtain ⟨z0, b0, hb, hr, hx⟩ := hLA
    obtain ⟨t0, t1, _, _⟩ := blk2 hb
    obtain ⟨x0, x1, _, _⟩ := blk2 hx
    have HHB := Lib.hid hb
    have HHR := Lib.hid hr
    have HB0 := Lib.hid b0
    have KB := Lib.hid (fun W (hW : Below w0.heap.size w0 W) => And.intro ((hW.cell (p := ⟨w.heap.size, 1, none⟩) (by simp; omega)).trans t1) (And.intro ((hW.cell (p := ⟨w.heap.size + 1 + 1, 0, none⟩) (by simp; omega)).trans x0) ((hW.cell (p := ⟨w.heap.size + 1 + 1, 1, none⟩) (by simp; omega)).trans x1)))
    have hM1 : Own LL 2 (w0.drew.alloc (.cells #[] 73)) w0.heap.size 73 (.slice (some ⟨w0.heap.size, 0, none⟩) 0 0) 0 [] := Own.made LL 2 w0.drew w0.heap.size 73 (Nat.le_refl _)
    have hM3 : Own LL 2 ((w0.drew.alloc (.cells #[.int .i64 D, .bool true] 73)).alloc (.cells #[] 73)) w0.heap.size 73 (.slice (some ⟨w0.heap.size + 1, 0, none⟩) 0 0) 0 [] := by
      have := Own.made LL 2 (w0.drew.alloc (.cells #[.int .i64 D, .bool true] 73)) w0.heap.size 73 (by simp)
      simpa using this
    have BD : Below w0.heap.size w0 w0.drew := (Below.refl _ _).drew
    have BE := Lib.hid (BD.alloc (Nat.le_refl _) (.cells #[] 73))
    have BL := Lib.hid (BD.alloc (Nat.le_refl _) (.cells #[.int .i64 D, .bool true] 73))
    have BEL := Lib.hid (BE.out.alloc (by simp) (.cells #[.int .i64 D, .bool true] 73))
    have BLE := Lib.hid (BL.out.alloc (by simp) (.cells #[] 73))
    have HL0 := Lib.hid (HL.out.below b0 (Nat.le_refl _))
    have hzl : w.heap.size ≤ w0.heap.size := by omega
    have AE : Arr LL 2 (w0.drew.alloc (.cells #[] 73)) w.heap.size Al nl s.lays := HL0.out.below BE.out hzl
    have AEL : Arr LL 2 ((w0.drew.alloc (.cells #[] 73)).alloc (.cells #[.int .i64 D, .bool true] 73)) w.heap.size Al nl s.lays := HL0.out.below BEL.out hzl
    have ALE : Arr LL 2 ((w0.drew.alloc (.cells #[.int .i64 D, .bool true] 73)).alloc (.cells #[] 73)) w.heap.size Al nl s.lays := HL0.out.below BLE.out hzl
    have hLit2 : Arr LL 2 ((w0.drew.alloc (.cells #[] 73)).alloc (.cells #[.int .i64 D, .bool true] 73)) (w0.heap.size + 1 + 1) (some ⟨w0.heap.size + 1, 0, none⟩) 1 [(D, true)] := by
      have := Own.arr (Own.litLLs (w0.drew.alloc (.cells #[] 73)) (w0.heap.size + 1) 73 D true (by simp)) LL_length
      simpa using this
    have hLit3 : Arr LL 2 (w0.drew.alloc (.cells #[.int .i64 D, .bool true] 73)) (w0.heap.size + 1) (some ⟨w0.heap.size, 0, none⟩) 1 [(D, true)] := by
      have := Own.arr (Own.litLLs w0.drew w0.heap.size 73 D true (by simp)) LL_length
      simpa using this
    have HLit2 := Lib.hid hLit2
    have HLit3 := Lib.hid (hLit3.below ((Below.refl (w0.drew.alloc (.cells #[.int .i64 D, .bool true] 73)).heap.size (w0.drew.alloc (.cells #[.int .i64 D, .bool true] 73))).alloc (Nat.le_refl _) (.cells #[] 73)) (by simp))
    clear hLit2 hLit3 hb hr hx b0
    go_region_held3 (fun w' => w'.cell? ⟨w.heap.size, 1, none⟩ = some (.slice Al nl cl) ∧ w'.cell? ⟨w.heap.size + 1 + 1, 0, none⟩ = some (.int .i64 D) ∧ w'.cell? ⟨w.heap.size + 1 + 1, 1, none⟩ = some (.bool true)) (first | (with_reducible exact KB.out _ BD) | (exact KB.out _ BE.out) | (exact KB.out _ BL.out) | (exact KB.out _ BEL.out) | (exact KB.out _ BLE.out) | (go_keep; done) | (exact KB.out _ B4) | (exact KB.out _ B3) | (exact KB.out _ (B3.alloc B3.size _))) (first
      | (refine step_append_arr _ rfl (.tmp 29) (.tmp 31) 27 rfl w0.heap.size 73 i0 (.agg #[.int .i64 0, .bool false]) 2 16 Tryz.underlying27 hi hz0 hz1 hz2 rfl (by decide) LL_length one_LL' (.slice (some ⟨w0.heap.size, 0, none⟩) 0 0) 0 [] (by simp [Act.eval, Act.put]) hM1 w.heap.size Al nl cl s.lays (by simp [Act.eval, Act.put]) AE M1 M3 (by first | (simp; done) | (simp; omega)) ?_; intro v3 w3 hO3 hg3 hat3; have B3 : Below w0.heap.size w0 w3 := BE.out.grown hg3 (by first | (simp; done) | (simp; omega)) (fun k hk => (hM1.2.lt k hk).1))
      | (refine step_append_arr _ rfl (.tmp 29) (.tmp 31) 27 rfl w0.heap.size 73 i0 (.agg #[.int .i64 0, .bool false]) 2 16 Tryz.underlying27 hi hz0 hz1 hz2 rfl (by decide) LL_length one_LL' (.slice (some ⟨w0.heap.size, 0, none⟩) 0 0) 0 [] (by simp [Act.eval, Act.put]) (hM1.alloc (.cells #[.int .i64 D, .bool true] 73)) w.heap.size Al nl cl s.lays (by simp [Act.eval, Act.put]) AEL M1 M3 (by first | (simp; done) | (simp; omega)) ?_; intro v3 u3 hO3 hg3 hat3; have B3 : Below w0.heap.size w0 u3 := BEL.out.grown hg3 (by first | (simp; done) | (simp; omega)) (fun k hk => (hM1.2.lt k hk).1); have lit3 := HLit2.out.kept2 hg3 (by simp [Value.ownBlock]))
      | (refine step_append_arr _ rfl (.tmp 29) (.tmp 31) 27 rfl w0.heap.size 73 i0 (.agg #[.int .i64 0, .bool false]) 2 16 Tryz.underlying27 hi hz0 hz1 hz2 rfl (by decide) LL_length one_LL' (.slice (some ⟨w0.heap.size + 1, 0, none⟩) 0 0) 0 [] (by simp [Act.eval, Act.put]) hM3 w.heap.size Al nl cl s.lays (by simp [Act.eval, Act.put]) ALE M1 M3 (by first | (simp; done) | (simp; omega)) ?_; intro v3 y3 hO3 hg3 hat3; have B3 : Below w0.heap.size w0 y3 := BLE.out.grown hg3 (by first | (simp; done) | (simp; omega)) (fun k hk => (hM3.2.lt k hk).1); have lit3 := HLit3.out.kept2 hg3 (by simp [Value.ownBlock]))
      | (refine step_append_arr _ rfl (.tmp 32) (.tmp 34) 27 rfl w0.heap.size 73 i0 (.agg #[.int .i64 0, .bool false]) 2 16 Tryz.underlying27 hi hz0 hz1 hz2 rfl (by decide) LL_length one_LL' v3 nl s.lays (by simp [Act.eval, Act.put]) (hO3.clean.alloc (.cells #[.int .i64 D, .bool true] 73)) _ (some ⟨w3.heap.size, 0, none⟩) 1 1 [(D, true)] (by simp [Act.eval, Act.put]) (Own.arr (Own.litLLs w3 w3.heap.size 73 D true (Nat.le_refl _)) LL_length) M2 M4 (by have := B3.size; simp; omega) ?_; intro v4 w4 hO4 hg4 hat4; have B4 : Below w0.heap.size w0 w4 := (B3.alloc B3.size (.cells #[.int .i64 D, .bool true] 73)).grown hg4 (by have := B3.size; simp; omega) (fun k hk => (hO3.2.lt k hk).1))
      | (refine step_append_arr _ rfl (.tmp 32) (.tmp 34) 27 rfl w0.heap.size 73 i0 (.agg #[.int .i64 0, .bool false]) 2 16 Tryz.underlying27 hi hz0 hz1 hz2 rfl (by decide) LL_length one_LL' v3 nl s.lays (by simp [Act.eval, Act.put]) hO3.clean _ (some ⟨w0.heap.size + 1, 0, none⟩) 1 1 [(D, true)] (by simp [Act.eval, Act.put]) lit3 M2 M4 B3.size ?_; intro v4 w4 hO4 hg4 hat4; have B4 : Below w0.heap.size w0 w4 := B3.grown hg4 B3.size (fun k hk => (hO3.2.lt k hk).1))
      | (refine step_append_arr _ rfl (.tmp 32) (.tmp 34) 27 rfl w0.heap.size 73 i0 (.agg #[.int .i64 0, .bool false]) 2 16 Tryz.underlying27 hi hz0 hz1 hz2 rfl (by decide) LL_length one_LL' v3 nl s.lays (by simp [Act.eval, Act.put]) hO3.clean _ (some ⟨w0.heap.size, 0, none⟩) 1 1 [(D, true)] (by simp [Act.eval, Act.put]) lit3 M2 M4 B3.size ?_; intro v4 w4 hO4 hg4 hat4; have B4 : Below w0.heap.size w0 w4 := B3.grown hg4 B3.size (fun k hk => (hO3.2.lt k hk).1)))
    all_goals
      obtain ⟨A5, c5, rfl, hc5, _⟩ := hO4.form
      have HO5 := Lib.hid hO4
      have HB4 := Lib.hid B4
      have H4b := Lib.hid ((B4.block w.heap.size (by omega)).trans HHB.out)
      have H4r := Lib.hid ((B4.block (w.heap.size + 1) (by omega)).trans HHR.out)
      have z4 := B4.size
      have KV0 := specLayersValid_any A5 (nl + 1) c5 _ w4 (hO4.arr LL_length) (by omega)
      obtain ⟨r0, r1, rf0, rf1⟩ := blk2 H4b.out
      clear hO4 hg4 hat4 B4 B3 hO3 hg3 hat3 t0 t1 x0 x1
      cases hC : layB (s.lays ++ [(D, true)]) with
      | true =>
        rw [hC] at KV0
        have KV := Lib.hid KV0
        have HP := Lib.hid (show addLayer s [] = ({ s with lays := s.lays ++ [(D, true)] }, okT) by unfold addLayer layerOf; rw [HLY.out, hC]; rfl)
        clear KV0 hC
        go_wp2_with (go_at_call 21; refine KV.out.mono ?_; rintro e w6 ⟨rfl, b6⟩; obtain ⟨s0, s1, sf0, sf1⟩ := blk2 ((b6.block w.heap.size (by omega)).trans H4b.out); obtain ⟨p0, p1, pf0, pf1⟩ := blk2 ((b6.block (w.heap.size + 1) (by omega)).trans H4r.out))
        have h7 : (w6.setCell ⟨w.heap.size, 1, none⟩ (.slice A5 (nl + 1) c5)).heap[w.heap.size + 1]? = some (.cells #[.slice none 0 0, .slice none 0 0] 47 (0, 0)) := (Below.heap_setCell w6 ⟨w.heap.size, 1, none⟩ _ (w.heap.size + 1) (by simp)).trans ((b6.block (w.heap.size + 1) (by omega)).trans H4r.out)
        obtain ⟨p0', p1', _, _⟩ := blk2 h7
        obtain ⟨y0, y1⟩ := st_set (a := .slice Ac nc cc) (b := .slice A5 (nl + 1) c5) p0' p1'
        refine bodyPost_ret (v := .tuple #[.agg #[.slice Ac nc cc, .slice A5 (nl + 1) c5], .string (tx (saidT true))]) (by simp [results, Tryz.results73, go_sem, y0, y1, saidT, okT, tx]) rfl ?_
        have g6 := setCell_grownS w6 w.heap.size 1 (.slice A5 (nl + 1) c5)
        have g7 := setCell2_grown (w6.setCell ⟨w.heap.size, 1, none⟩ (.slice A5 (nl + 1) c5)) (w.heap.size + 1) (.slice Ac nc cc) (.slice A5 (nl + 1) c5)
        have B7 := (((HB0.out.trans ((HB4.out.trans (b6.mono HB4.out.size)).mono hzl)).setCell (p := ⟨w.heap.size, 1, none⟩) (by simp) (.slice A5 (nl + 1) c5)).setCell (p := ⟨w.heap.size + 1, 0, none⟩) (by simp) (.slice Ac nc cc)).setCell (p := ⟨w.heap.size + 1, 1, none⟩) (by simp) (.slice A5 (nl + 1) c5)
        have O7 := ((HO5.out.below b6 (Nat.le_refl _)).kept g6 (fun k hk => by injection hk with hk; omega)).kept g7 (fun k hk => by injection hk with hk; omega)
        rw [HP.out]
        exact ⟨_, rfl, ⟨Ac, nc, cc, A5, nl + 1, c5, rfl, (HA.out.below B7 (Nat.le_refl _)).more B7.size, O7.arr LL_length, hcc, hc5⟩, B7⟩
      | false =>
        rw [hC] at KV0
        have KV := Lib.hid KV0
        have HP := Lib.hid (show addLayer s [] = (s, noT) by unfold addLayer layerOf; rw [HLY.out, hC]; rfl)
        clear KV0 hC
        go_wp2_with (go_at_call 21; refine KV.out.mono ?_; rintro e w6 ⟨rfl, b6⟩; obtain ⟨s0, s1, sf0, sf1⟩ := blk2 ((b6.block w.heap.size (by omega)).trans H4b.out); obtain ⟨p0, p1, pf0, pf1⟩ := blk2 ((b6.block (w.heap.size + 1) (by omega)).trans H4r.out))
        obtain ⟨y0, y1⟩ := st_set (a := .slice Ac nc cc) (b := .slice Al nl cl) p0 p1
        refine bodyPost_ret (v := .tuple #[.agg #[.slice Ac nc cc, .slice Al nl cl], .string (tx (saidT false))]) (by simp [results, Tryz.results73, go_sem, y0, y1, saidT, noT, tx]) rfl ?_
        have B7 := ((HB0.out.trans ((HB4.out.trans (b6.mono HB4.out.size)).mono hzl)).setCell (p := ⟨w.heap.size + 1, 0, none⟩) (by simp) (.slice Ac nc cc)).setCell (p := ⟨w.heap.size + 1, 1, none⟩) (by simp) (.slice Al nl cl)
        rw [HP.out]
        exact ⟨_, rfl, ⟨Ac, nc, cc, Al, nl, cl, rfl, (HA.out.below B7 (Nat.le_refl _)).more B7.size, (HL.out.below B7 (Nat.le_refl _)).more B7.size, hcc, hcl⟩, B7⟩
  · rw [List.concat_eq_append] at hyd
    have hyl : y.length + 1 ≤ 1000000 := by rw [hyd] at ha; simpa using ha
    subst hyd
    have hz : (tx (y ++ [d])).size = y.length + 1 := by rw [tx_size]; simp
    have hbk : ∀ h, (tx (y ++ [d]))[y.length]'h = d := fun h => by
      have := List.getElem?_concat_length (l := y) (a := d)
      obtain ⟨_, e⟩ := List.getElem?_eq_some_iff.1 this
      exact e
    have e2 : IntKind.i64.wrap (((y.length + 1 : Nat) : Int) - 1) = (y.length : Int) := by rw [show ((y.length + 1 : Nat) : Int) - 1 = (y.length : Int) by omega]; exact IntWalk.i64_in _ ⟨by omega, by omega⟩
    have i1 : (0 : Int) < ((y.length + 1 : Nat) : Int) := by omega
    have i2 : (0 : Int) ≤ (y.length : Int) := by omega
    have i3 : y.length ≤ y.length + 1 := by omega
    obtain ⟨Z, hZ⟩ : ∃ Z, Z = tx (y ++ [d]) := ⟨_, rfl⟩
    have hex : Z.extract 0 y.length = tx y := by rw [hZ, txdx]; simp
    have hly0 := Lib.hid (l1Digits_any (y ++ [d]) (by simp; omega))
    obtain ⟨D0, hD0⟩ : ∃ D, D = dig (y ++ [d]) := ⟨_, rfl⟩
    have C0 := fun W => l1Digits_any (y ++ [d]) (by simp; omega) W
    rw [← hZ] at hz hbk C0 ⊢
    rw [← hD0] at C0
    have C0 := Lib.hid C0
    by_cases hd : d = 63
    · subst hd
      have C1 := Lib.hid (fun W => l1Digits_any y (by omega) W)
      have hly : lyOf (y ++ [63]) = (dig y, false) := lyOf_end y
      obtain ⟨D, hD⟩ : ∃ D, D = dig y := ⟨_, rfl⟩
      rw [← hD] at hly C1
      have HLY := Lib.hid hly
      clear hD hly hZ hD0 hly0
      go_enter Tryz.func73, Tryz.ntmps73
      go_upto_region 5 with (first
        | (go_at_call 71; with_reducible refine (C0.out _).mono ?_; rintro e w' ⟨rfl, rfl⟩)
        | (go_at_call 71; with_reducible refine (C1.out _).mono ?_; rintro e w' ⟨rfl, rfl⟩))
      have hLA := layAt w Ac nc cc Al nl cl D false
      generalize ((w.alloc (.cells #[.slice Ac nc cc, .slice Al nl cl] 47)).alloc (.cells #[.slice none 0 0, .slice none 0 0] 47)).alloc (.cells #[.int .i64 D, .bool false] 73) = w0 at hLA ⊢
      obtain ⟨z0, b0, hb, hr, hx⟩ := hLA
      obtain ⟨t0, t1, _, _⟩ := blk2 hb
      obtain ⟨x0, x1, _, _⟩ := blk2 hx
      have HHB := Lib.hid hb
      have HHR := Lib.hid hr
      have HB0 := Lib.hid b0
      have KB := Lib.hid (fun W (hW : Below w0.heap.size w0 W) => And.intro ((hW.cell (p := ⟨w.heap.size, 1, none⟩) (by simp; omega)).trans t1) (And.intro ((hW.cell (p := ⟨w.heap.size + 1 + 1, 0, none⟩) (by simp; omega)).trans x0) ((hW.cell (p := ⟨w.heap.size + 1 + 1, 1, none⟩) (by simp; omega)).trans x1)))
      have hM1 : Own LL 2 (w0.drew.alloc (.cells #[] 73)) w0.heap.size 73 (.slice (some ⟨w0.heap.size, 0, none⟩) 0 0) 0 [] := Own.made LL 2 w0.drew w0.heap.size 73 (Nat.le_refl _)
      have hM3 : Own LL 2 ((w0.drew.alloc (.cells #[.int .i64 D, .bool false] 73)).alloc (.cells #[] 73)) w0.heap.size 73 (.slice (some ⟨w0.heap.size + 1, 0, none⟩) 0 0) 0 [] := by
        have := Own.made LL 2 (w0.drew.alloc (.cells #[.int .i64 D, .bool false] 73)) w0.heap.size 73 (by simp)
        simpa using this
      have BD : Below w0.heap.size w0 w0.drew := (Below.refl _ _).drew
      have BE := Lib.hid (BD.alloc (Nat.le_refl _) (.cells #[] 73))
      have BL := Lib.hid (BD.alloc (Nat.le_refl _) (.cells #[.int .i64 D, .bool false] 73))
      have BEL := Lib.hid (BE.out.alloc (by simp) (.cells #[.int .i64 D, .bool false] 73))
      have BLE := Lib.hid (BL.out.alloc (by simp) (.cells #[] 73))
      have HL0 := Lib.hid (HL.out.below b0 (Nat.le_refl _))
      have hzl : w.heap.size ≤ w0.heap.size := by omega
      have AE : Arr LL 2 (w0.drew.alloc (.cells #[] 73)) w.heap.size Al nl s.lays := HL0.out.below BE.out hzl
      have AEL : Arr LL 2 ((w0.drew.alloc (.cells #[] 73)).alloc (.cells #[.int .i64 D, .bool false] 73)) w.heap.size Al nl s.lays := HL0.out.below BEL.out hzl
      have ALE : Arr LL 2 ((w0.drew.alloc (.cells #[.int .i64 D, .bool false] 73)).alloc (.cells #[] 73)) w.heap.size Al nl s.lays := HL0.out.below BLE.out hzl
      have hLit2 : Arr LL 2 ((w0.drew.alloc (.cells #[] 73)).alloc (.cells #[.int .i64 D, .bool false] 73)) (w0.heap.size + 1 + 1) (some ⟨w0.heap.size + 1, 0, none⟩) 1 [(D, false)] := by
        have := Own.arr (Own.litLLs (w0.drew.alloc (.cells #[] 73)) (w0.heap.size + 1) 73 D false (by simp)) LL_length
        simpa using this
      have hLit3 : Arr LL 2 (w0.drew.alloc (.cells #[.int .i64 D, .bool false] 73)) (w0.heap.size + 1) (some ⟨w0.heap.size, 0, none⟩) 1 [(D, false)] := by
        have := Own.arr (Own.litLLs w0.drew w0.heap.size 73 D false (by simp)) LL_length
        simpa using this
      have HLit2 := Lib.hid hLit2
      have HLit3 := Lib.hid (hLit3.below ((Below.refl (w0.drew.alloc (.cells #[.int .i64 D, .bool false] 73)).heap.size (w0.drew.alloc (.cells #[.int .i64 D, .bool false] 73))).alloc (Nat.le_refl _) (.cells #[] 73)) (by simp))
      clear hLit2 hLit3 hb hr hx b0
      go_region_held3 (fun w' => w'.cell? ⟨w.heap.size, 1, none⟩ = some (.slice Al nl cl) ∧ w'.cell? ⟨w.heap.size + 1 + 1, 0, none⟩ = some (.int .i64 D) ∧ w'.cell? ⟨w.heap.size + 1 + 1, 1, none⟩ = some (.bool false)) (first | (with_reducible exact KB.out _ BD) | (exact KB.out _ BE.out) | (exact KB.out _ BL.out) | (exact KB.out _ BEL.out) | (exact KB.out _ BLE.out) | (go_keep; done) | (exact KB.out _ B4) | (exact KB.out _ B3) | (exact KB.out _ (B3.alloc B3.size _))) (first
        | (refine step_append_arr _ rfl (.tmp 29) (.tmp 31) 27 rfl w0.heap.size 73 i0 (.agg #[.int .i64 0, .bool false]) 2 16 Tryz.underlying27 hi hz0 hz1 hz2 rfl (by decide) LL_length one_LL' (.slice (some ⟨w0.heap.size, 0, none⟩) 0 0) 0 [] (by simp [Act.eval, Act.put]) hM1 w.heap.size Al nl cl s.lays (by simp [Act.eval, Act.put]) AE M1 M3 (by first | (simp; done) | (simp; omega)) ?_; intro v3 w3 hO3 hg3 hat3; have B3 : Below w0.heap.size w0 w3 := BE.out.grown hg3 (by first | (simp; done) | (simp; omega)) (fun k hk => (hM1.2.lt k hk).1))
        | (refine step_append_arr _ rfl (.tmp 29) (.tmp 31) 27 rfl w0.heap.size 73 i0 (.agg #[.int .i64 0, .bool false]) 2 16 Tryz.underlying27 hi hz0 hz1 hz2 rfl (by decide) LL_length one_LL' (.slice (some ⟨w0.heap.size, 0, none⟩) 0 0) 0 [] (by simp [Act.eval, Act.put]) (hM1.alloc (.cells #[.int .i64 D, .bool false] 73)) w.heap.size Al nl cl s.lays (by simp [Act.eval, Act.put]) AEL M1 M3 (by first | (simp; done) | (simp; omega)) ?_; intro v3 u3 hO3 hg3 hat3; have B3 : Below w0.heap.size w0 u3 := BEL.out.grown hg3 (by first | (simp; done) | (simp; omega)) (fun k hk => (hM1.2.lt k hk).1); have lit3 := HLit2.out.kept2 hg3 (by simp [Value.ownBlock]))
        | (refine step_append_arr _ rfl (.tmp 29) (.tmp 31) 27 rfl w0.heap.size 73 i0 (.agg #[.int .i64 0, .bool false]) 2 16 Tryz.underlying27 hi hz0 hz1 hz2 rfl (by decide) LL_length one_LL' (.slice (some ⟨w0.heap.size + 1, 0, none⟩) 0 0) 0 [] (by simp [Act.eval, Act.put]) hM3 w.heap.size Al nl cl s.lays (by simp [Act.eval, Act.put]) ALE M1 M3 (by first | (simp; done) | (simp; omega)) ?_; intro v3 y3 hO3 hg3 hat3; have B3 : Below w0.heap.size w0 y3 := BLE.out.grown hg3 (by first | (simp; done) | (simp; omega)) (fun k hk => (hM3.2.lt k hk).1); have lit3 := HLit3.out.kept2 hg3 (by simp [Value.ownBlock]))
        | (refine step_append_arr _ rfl (.tmp 32) (.tmp 34) 27 rfl w0.heap.size 73 i0 (.agg #[.int .i64 0, .bool false]) 2 16 Tryz.underlying27 hi hz0 hz1 hz2 rfl (by decide) LL_length one_LL' v3 nl s.lays (by simp [Act.eval, Act.put]) (hO3.clean.alloc (.cells #[.int .i64 D, .bool false] 73)) _ (some ⟨w3.heap.size, 0, none⟩) 1 1 [(D, false)] (by simp [Act.eval, Act.put]) (Own.arr (Own.litLLs w3 w3.heap.size 73 D false (Nat.le_refl _)) LL_length) M2 M4 (by have := B3.size; simp; omega) ?_; intro v4 w4 hO4 hg4 hat4; have B4 : Below w0.heap.size w0 w4 := (B3.alloc B3.size (.cells #[.int .i64 D, .bool false] 73)).grown hg4 (by have := B3.size; simp; omega) (fun k hk => (hO3.2.lt k hk).1))
        | (refine step_append_arr _ rfl (.tmp 32) (.tmp 34) 27 rfl w0.heap.size 73 i0 (.agg #[.int .i64 0, .bool false]) 2 16 Tryz.underlying27 hi hz0 hz1 hz2 rfl (by decide) LL_length one_LL' v3 nl s.lays (by simp [Act.eval, Act.put]) hO3.clean _ (some ⟨w0.heap.size + 1, 0, none⟩) 1 1 [(D, false)] (by simp [Act.eval, Act.put]) lit3 M2 M4 B3.size ?_; intro v4 w4 hO4 hg4 hat4; have B4 : Below w0.heap.size w0 w4 := B3.grown hg4 B3.size (fun k hk => (hO3.2.lt k hk).1))
        | (refine step_append_arr _ rfl (.tmp 32) (.tmp 34) 27 rfl w0.heap.size 73 i0 (.agg #[.int .i64 0, .bool false]) 2 16 Tryz.underlying27 hi hz0 hz1 hz2 rfl (by decide) LL_length one_LL' v3 nl s.lays (by simp [Act.eval, Act.put]) hO3.clean _ (some ⟨w0.heap.size, 0, none⟩) 1 1 [(D, false)] (by simp [Act.eval, Act.put]) lit3 M2 M4 B3.size ?_; intro v4 w4 hO4 hg4 hat4; have B4 : Below w0.heap.size w0 w4 := B3.grown hg4 B3.size (fun k hk => (hO3.2.lt k hk).1)))
      all_goals
        obtain ⟨A5, c5, rfl, hc5, _⟩ := hO4.form
        have HO5 := Lib.hid hO4
        have HB4 := Lib.hid B4
        have H4b := Lib.hid ((B4.block w.heap.size (by omega)).trans HHB.out)
        have H4r := Lib.hid ((B4.block (w.heap.size + 1) (by omega)).trans HHR.out)
        have z4 := B4.size
        have KV0 := specLayersValid_any A5 (nl + 1) c5 _ w4 (hO4.arr LL_length) (by omega)
        obtain ⟨r0, r1, rf0, rf1⟩ := blk2 H4b.out
        clear hO4 hg4 hat4 B4 B3 hO3 hg3 hat3 t0 t1 x0 x1
        cases hC : layB (s.lays ++ [(D, false)]) with
        | true =>
          rw [hC] at KV0
          have KV := Lib.hid KV0
          have HP := Lib.hid (show addLayer s (y ++ [63]) = ({ s with lays := s.lays ++ [(D, false)] }, okT) by unfold addLayer layerOf; rw [HLY.out, hC]; rfl)
          clear KV0 hC
          go_wp2_with (go_at_call 21; refine KV.out.mono ?_; rintro e w6 ⟨rfl, b6⟩; obtain ⟨s0, s1, sf0, sf1⟩ := blk2 ((b6.block w.heap.size (by omega)).trans H4b.out); obtain ⟨p0, p1, pf0, pf1⟩ := blk2 ((b6.block (w.heap.size + 1) (by omega)).trans H4r.out))
          have h7 : (w6.setCell ⟨w.heap.size, 1, none⟩ (.slice A5 (nl + 1) c5)).heap[w.heap.size + 1]? = some (.cells #[.slice none 0 0, .slice none 0 0] 47 (0, 0)) := (Below.heap_setCell w6 ⟨w.heap.size, 1, none⟩ _ (w.heap.size + 1) (by simp)).trans ((b6.block (w.heap.size + 1) (by omega)).trans H4r.out)
          obtain ⟨p0', p1', _, _⟩ := blk2 h7
          obtain ⟨y0, y1⟩ := st_set (a := .slice Ac nc cc) (b := .slice A5 (nl + 1) c5) p0' p1'
          refine bodyPost_ret (v := .tuple #[.agg #[.slice Ac nc cc, .slice A5 (nl + 1) c5], .string (tx (saidT true))]) (by simp [results, Tryz.results73, go_sem, y0, y1, saidT, okT, tx]) rfl ?_
          have g6 := setCell_grownS w6 w.heap.size 1 (.slice A5 (nl + 1) c5)
          have g7 := setCell2_grown (w6.setCell ⟨w.heap.size, 1, none⟩ (.slice A5 (nl + 1) c5)) (w.heap.size + 1) (.slice Ac nc cc) (.slice A5 (nl + 1) c5)
          have B7 := (((HB0.out.trans ((HB4.out.trans (b6.mono HB4.out.size)).mono hzl)).setCell (p := ⟨w.heap.size, 1, none⟩) (by simp) (.slice A5 (nl + 1) c5)).setCell (p := ⟨w.heap.size + 1, 0, none⟩) (by simp) (.slice Ac nc cc)).setCell (p := ⟨w.heap.size + 1, 1, none⟩) (by simp) (.slice A5 (nl + 1) c5)
          have O7 := ((HO5.out.below b6 (Nat.le_refl _)).kept g6 (fun k hk => by injection hk with hk; omega)).kept g7 (fun k hk => by injection hk with hk; omega)
          rw [HP.out]
          exact ⟨_, rfl, ⟨Ac, nc, cc, A5, nl + 1, c5, rfl, (HA.out.below B7 (Nat.le_refl _)).more B7.size, O7.arr LL_length, hcc, hc5⟩, B7⟩
        | false =>
          rw [hC] at KV0
          have KV := Lib.hid KV0
          have HP := Lib.hid (show addLayer s (y ++ [63]) = (s, noT) by unfold addLayer layerOf; rw [HLY.out, hC]; rfl)
          clear KV0 hC
          go_wp2_with (go_at_call 21; refine KV.out.mono ?_; rintro e w6 ⟨rfl, b6⟩; obtain ⟨s0, s1, sf0, sf1⟩ := blk2 ((b6.block w.heap.size (by omega)).trans H4b.out); obtain ⟨p0, p1, pf0, pf1⟩ := blk2 ((b6.block (w.heap.size + 1) (by omega)).trans H4r.out))
          obtain ⟨y0, y1⟩ := st_set (a := .slice Ac nc cc) (b := .slice Al nl cl) p0 p1
          refine bodyPost_ret (v := .tuple #[.agg #[.slice Ac nc cc, .slice Al nl cl], .string (tx (saidT false))]) (by simp [results, Tryz.results73, go_sem, y0, y1, saidT, noT, tx]) rfl ?_
          have B7 := ((HB0.out.trans ((HB4.out.trans (b6.mono HB4.out.size)).mono hzl)).setCell (p := ⟨w.heap.size + 1, 0, none⟩) (by simp) (.slice Ac nc cc)).setCell (p := ⟨w.heap.size + 1, 1, none⟩) (by simp) (.slice Al nl cl)
          rw [HP.out]
          exact ⟨_, rfl, ⟨Ac, nc, cc, Al, nl, cl, rfl, (HA.out.below B7 (Nat.le_refl _)).more B7.size, (HL.out.below B7 (Nat.le_refl _)).more B7.size, hcc, hcl⟩, B7⟩
    · have f1 : ((d.toNat : Int) == 63) = false := by
        rw [beq_eq_false_iff_ne]
        intro e
        exact hd (UInt8.toNat_inj.1 (by have : (63 : UInt8).toNat = 63 := rfl; omega))
      have hly : lyOf (y ++ [d]) = (dig (y ++ [d]), true) := lyOf_mid hd
      obtain ⟨D, hD⟩ : ∃ D, D = D0 := ⟨_, rfl⟩
      rw [← hD0, ← hD] at hly
      rw [← hD] at C0
      have HLY := Lib.hid hly
      clear hD hly hZ hD0 hly0 hex
      go_enter Tryz.func73, Tryz.ntmps73
      go_upto_region 5 with (go_at_call 71; with_reducible refine (C0.out _).mono ?_; rintro e w' ⟨rfl, rfl⟩)
      have hLA := layAt w Ac nc cc Al nl cl D true
      generalize ((w.alloc (.cells #[.slice Ac nc cc, .slice Al nl cl] 47)).alloc (.cells #[.slice none 0 0, .slice none 0 0] 47)).alloc (.cells #[.int .i64 D, .bool true] 73) = w0 at hLA ⊢
      obtain ⟨z0, b0, hb, hr, hx⟩ := hLA
      obtain ⟨t0, t1, _, _⟩ := blk2 hb
      obtain ⟨x0, x1, _, _⟩ := blk2 hx
      have HHB := Lib.hid hb
      have HHR := Lib.hid hr
      have HB0 := Lib.hid b0
      have KB := Lib.hid (fun W (hW : Below w0.heap.size w0 W) => And.intro ((hW.cell (p := ⟨w.heap.size, 1, none⟩) (by simp; omega)).trans t1) (And.intro ((hW.cell (p := ⟨w.heap.size + 1 + 1, 0, none⟩) (by simp; omega)).trans x0) ((hW.cell (p := ⟨w.heap.size + 1 + 1, 1, none⟩) (by simp; omega)).trans x1)))
      have hM1 : Own LL 2 (w0.drew.alloc (.cells #[] 73)) w0.heap.size 73 (.slice (some ⟨w0.heap.size, 0, none⟩) 0 0) 0 [] := Own.made LL 2 w0.drew w0.heap.size 73 (Nat.le_refl _)
      have hM3 : Own LL 2 ((w0.drew.alloc (.cells #[.int .i64 D, .bool true] 73)).alloc (.cells #[] 73)) w0.heap.size 73 (.slice (some ⟨w0.heap.size + 1, 0, none⟩) 0 0) 0 [] := by
        have := Own.made LL 2 (w0.drew.alloc (.cells #[.int .i64 D, .bool true] 73)) w0.heap.size 73 (by simp)
        simpa using this
      have BD : Below w0.heap.size w0 w0.drew := (Below.refl _ _).drew
      have BE := Lib.hid (BD.alloc (Nat.le_refl _) (.cells #[] 73))
      have BL := Lib.hid (BD.alloc (Nat.le_refl _) (.cells #[.int .i64 D, .bool true] 73))
      have BEL := Lib.hid (BE.out.alloc (by simp) (.cells #[.int .i64 D, .bool true] 73))
      have BLE := Lib.hid (BL.out.alloc (by simp) (.cells #[] 73))
      have HL0 := Lib.hid (HL.out.below b0 (Nat.le_refl _))
      have hzl : w.heap.size ≤ w0.heap.size := by omega
      have AE : Arr LL 2 (w0.drew.alloc (.cells #[] 73)) w.heap.size Al nl s.lays := HL0.out.below BE.out hzl
      have AEL : Arr LL 2 ((w0.drew.alloc (.cells #[] 73)).alloc (.cells #[.int .i64 D, .bool true] 73)) w.heap.size Al nl s.lays := HL0.out.below BEL.out hzl
      have ALE : Arr LL 2 ((w0.drew.alloc (.cells #[.int .i64 D, .bool true] 73)).alloc (.cells #[] 73)) w.heap.size Al nl s.lays := HL0.out.below BLE.out hzl
      have hLit2 : Arr LL 2 ((w0.drew.alloc (.cells #[] 73)).alloc (.cells #[.int .i64 D, .bool true] 73)) (w0.heap.size + 1 + 1) (some ⟨w0.heap.size + 1, 0, none⟩) 1 [(D, true)] := by
        have := Own.arr (Own.litLLs (w0.drew.alloc (.cells #[] 73)) (w0.heap.size + 1) 73 D true (by simp)) LL_length
        simpa using this
      have hLit3 : Arr LL 2 (w0.drew.alloc (.cells #[.int .i64 D, .bool true] 73)) (w0.heap.size + 1) (some ⟨w0.heap.size, 0, none⟩) 1 [(D, true)] := by
        have := Own.arr (Own.litLLs w0.drew w0.heap.size 73 D true (by simp)) LL_length
        simpa using this
      have HLit2 := Lib.hid hLit2
      have HLit3 := Lib.hid (hLit3.below ((Below.refl (w0.drew.alloc (.cells #[.int .i64 D, .bool true] 73)).heap.size (w0.drew.alloc (.cells #[.int .i64 D, .bool true] 73))).alloc (Nat.le_refl _) (.cells #[] 73)) (by simp))
      clear hLit2 hLit3 hb hr hx b0
      go_region_held3 (fun w' => w'.cell? ⟨w.heap.size, 1, none⟩ = some (.slice Al nl cl) ∧ w'.cell? ⟨w.heap.size + 1 + 1, 0, none⟩ = some (.int .i64 D) ∧ w'.cell? ⟨w.heap.size + 1 + 1, 1, none⟩ = some (.bool true)) (first | (with_reducible exact KB.out _ BD) | (exact KB.out _ BE.out) | (exact KB.out _ BL.out) | (exact KB.out _ BEL.out) | (exact KB.out _ BLE.out) | (go_keep; done) | (exact KB.out _ B4) | (exact KB.out _ B3) | (exact KB.out _ (B3.alloc B3.size _))) (first
        | (refine step_append_arr _ rfl (.tmp 29) (.tmp 31) 27 rfl w0.heap.size 73 i0 (.agg #[.int .i64 0, .bool false]) 2 16 Tryz.underlying27 hi hz0 hz1 hz2 rfl (by decide) LL_length one_LL' (.slice (some ⟨w0.heap.size, 0, none⟩) 0 0) 0 [] (by simp [Act.eval, Act.put]) hM1 w.heap.size Al nl cl s.lays (by simp [Act.eval, Act.put]) AE M1 M3 (by first | (simp; done) | (simp; omega)) ?_; intro v3 w3 hO3 hg3 hat3; have B3 : Below w0.heap.size w0 w3 := BE.out.grown hg3 (by first | (simp; done) | (simp; omega)) (fun k hk => (hM1.2.lt k hk).1))
        | (refine step_append_arr _ rfl (.tmp 29) (.tmp 31) 27 rfl w0.heap.size 73 i0 (.agg #[.int .i64 0, .bool false]) 2 16 Tryz.underlying27 hi hz0 hz1 hz2 rfl (by decide) LL_length one_LL' (.slice (some ⟨w0.heap.size, 0, none⟩) 0 0) 0 [] (by simp [Act.eval, Act.put]) (hM1.alloc (.cells #[.int .i64 D, .bool true] 73)) w.heap.size Al nl cl s.lays (by simp [Act.eval, Act.put]) AEL M1 M3 (by first | (simp; done) | (simp; omega)) ?_; intro v3 u3 hO3 hg3 hat3; have B3 : Below w0.heap.size w0 u3 := BEL.out.grown hg3 (by first | (simp; done) | (simp; omega)) (fun k hk => (hM1.2.lt k hk).1); have lit3 := HLit2.out.kept2 hg3 (by simp [Value.ownBlock]))
        | (refine step_append_arr _ rfl (.tmp 29) (.tmp 31) 27 rfl w0.heap.size 73 i0 (.agg #[.int .i64 0, .bool false]) 2 16 Tryz.underlying27 hi hz0 hz1 hz2 rfl (by decide) LL_length one_LL' (.slice (some ⟨w0.heap.size + 1, 0, none⟩) 0 0) 0 [] (by simp [Act.eval, Act.put]) hM3 w.heap.size Al nl cl s.lays (by simp [Act.eval, Act.put]) ALE M1 M3 (by first | (simp; done) | (simp; omega)) ?_; intro v3 y3 hO3 hg3 hat3; have B3 : Below w0.heap.size w0 y3 := BLE.out.grown hg3 (by first | (simp; done) | (simp; omega)) (fun k hk => (hM3.2.lt k hk).1); have lit3 := HLit3.out.kept2 hg3 (by simp [Value.ownBlock]))
        | (refine step_append_arr _ rfl (.tmp 32) (.tmp 34) 27 rfl w0.heap.size 73 i0 (.agg #[.int .i64 0, .bool false]) 2 16 Tryz.underlying27 hi hz0 hz1 hz2 rfl (by decide) LL_length one_LL' v3 nl s.lays (by simp [Act.eval, Act.put]) (hO3.clean.alloc (.cells #[.int .i64 D, .bool true] 73)) _ (some ⟨w3.heap.size, 0, none⟩) 1 1 [(D, true)] (by simp [Act.eval, Act.put]) (Own.arr (Own.litLLs w3 w3.heap.size 73 D true (Nat.le_refl _)) LL_length) M2 M4 (by have := B3.size; simp; omega) ?_; intro v4 w4 hO4 hg4 hat4; have B4 : Below w0.heap.size w0 w4 := (B3.alloc B3.size (.cells #[.int .i64 D, .bool true] 73)).grown hg4 (by have := B3.size; simp; omega) (fun k hk => (hO3.2.lt k hk).1))
        | (refine step_append_arr _ rfl (.tmp 32) (.tmp 34) 27 rfl w0.heap.size 73 i0 (.agg #[.int .i64 0, .bool false]) 2 16 Tryz.underlying27 hi hz0 hz1 hz2 rfl (by decide) LL_length one_LL' v3 nl s.lays (by simp [Act.eval, Act.put]) hO3.clean _ (some ⟨w0.heap.size + 1, 0, none⟩) 1 1 [(D, true)] (by simp [Act.eval, Act.put]) lit3 M2 M4 B3.size ?_; intro v4 w4 hO4 hg4 hat4; have B4 : Below w0.heap.size w0 w4 := B3.grown hg4 B3.size (fun k hk => (hO3.2.lt k hk).1))
        | (refine step_append_arr _ rfl (.tmp 32) (.tmp 34) 27 rfl w0.heap.size 73 i0 (.agg #[.int .i64 0, .bool false]) 2 16 Tryz.underlying27 hi hz0 hz1 hz2 rfl (by decide) LL_length one_LL' v3 nl s.lays (by simp [Act.eval, Act.put]) hO3.clean _ (some ⟨w0.heap.size, 0, none⟩) 1 1 [(D, true)] (by simp [Act.eval, Act.put]) lit3 M2 M4 B3.size ?_; intro v4 w4 hO4 hg4 hat4; have B4 : Below w0.heap.size w0 w4 := B3.grown hg4 B3.size (fun k hk => (hO3.2.lt k hk).1)))
      all_goals
        obtain ⟨A5, c5, rfl, hc5, _⟩ := hO4.form
        have HO5 := Lib.hid hO4
        have HB4 := Lib.hid B4
        have H4b := Lib.hid ((B4.block w.heap.size (by omega)).trans HHB.out)
        have H4r := Lib.hid ((B4.block (w.heap.size + 1) (by omega)).trans HHR.out)
        have z4 := B4.size
        have KV0 := specLayersValid_any A5 (nl + 1) c5 _ w4 (hO4.arr LL_length) (by omega)
        obtain ⟨r0, r1, rf0, rf1⟩ := blk2 H4b.out
        clear hO4 hg4 hat4 B4 B3 hO3 hg3 hat3 t0 t1 x0 x1
        cases hC : layB (s.lays ++ [(D, true)]) with
        | true =>
          rw [hC] at KV0
          have KV := Lib.hid KV0
          have HP := Lib.hid (show addLayer s (y ++ [d]) = ({ s with lays := s.lays ++ [(D, true)] }, okT) by unfold addLayer layerOf; rw [HLY.out, hC]; rfl)
          clear KV0 hC
          go_wp2_with (go_at_call 21; refine KV.out.mono ?_; rintro e w6 ⟨rfl, b6⟩; obtain ⟨s0, s1, sf0, sf1⟩ := blk2 ((b6.block w.heap.size (by omega)).trans H4b.out); obtain ⟨p0, p1, pf0, pf1⟩ := blk2 ((b6.block (w.heap.size + 1) (by omega)).trans H4r.out))
          have h7 : (w6.setCell ⟨w.heap.size, 1, none⟩ (.slice A5 (nl + 1) c5)).heap[w.heap.size + 1]? = some (.cells #[.slice none 0 0, .slice none 0 0] 47 (0, 0)) := (Below.heap_setCell w6 ⟨w.heap.size, 1, none⟩ _ (w.heap.size + 1) (by simp)).trans ((b6.block (w.heap.size + 1) (by omega)).trans H4r.out)
          obtain ⟨p0', p1', _, _⟩ := blk2 h7
          obtain ⟨y0, y1⟩ := st_set (a := .slice Ac nc cc) (b := .slice A5 (nl + 1) c5) p0' p1'
          refine bodyPost_ret (v := .tuple #[.agg #[.slice Ac nc cc, .slice A5 (nl + 1) c5], .string (tx (saidT true))]) (by simp [results, Tryz.results73, go_sem, y0, y1, saidT, okT, tx]) rfl ?_
          have g6 := setCell_grownS w6 w.heap.size 1 (.slice A5 (nl + 1) c5)
          have g7 := setCell2_grown (w6.setCell ⟨w.heap.size, 1, none⟩ (.slice A5 (nl + 1) c5)) (w.heap.size + 1) (.slice Ac nc cc) (.slice A5 (nl + 1) c5)
          have B7 := (((HB0.out.trans ((HB4.out.trans (b6.mono HB4.out.size)).mono hzl)).setCell (p := ⟨w.heap.size, 1, none⟩) (by simp) (.slice A5 (nl + 1) c5)).setCell (p := ⟨w.heap.size + 1, 0, none⟩) (by simp) (.slice Ac nc cc)).setCell (p := ⟨w.heap.size + 1, 1, none⟩) (by simp) (.slice A5 (nl + 1) c5)
          have O7 := ((HO5.out.below b6 (Nat.le_refl _)).kept g6 (fun k hk => by injection hk with hk; omega)).kept g7 (fun k hk => by injection hk with hk; omega)
          rw [HP.out]
          exact ⟨_, rfl, ⟨Ac, nc, cc, A5, nl + 1, c5, rfl, (HA.out.below B7 (Nat.le_refl _)).more B7.size, O7.arr LL_length, hcc, hc5⟩, B7⟩
        | false =>
          rw [hC] at KV0
          have KV := Lib.hid KV0
          have HP := Lib.hid (show addLayer s (y ++ [d]) = (s, noT) by unfold addLayer layerOf; rw [HLY.out, hC]; rfl)
          clear KV0 hC
          go_wp2_with (go_at_call 21; refine KV.out.mono ?_; rintro e w6 ⟨rfl, b6⟩; obtain ⟨s0, s1, sf0, sf1⟩ := blk2 ((b6.block w.heap.size (by omega)).trans H4b.out); obtain ⟨p0, p1, pf0, pf1⟩ := blk2 ((b6.block (w.heap.size + 1) (by omega)).trans H4r.out))
          obtain ⟨y0, y1⟩ := st_set (a := .slice Ac nc cc) (b := .slice Al nl cl) p0 p1
          refine bodyPost_ret (v := .tuple #[.agg #[.slice Ac nc cc, .slice Al nl cl], .string (tx (saidT false))]) (by simp [results, Tryz.results73, go_sem, y0, y1, saidT, noT, tx]) rfl ?_
          have B7 := ((HB0.out.trans ((HB4.out.trans (b6.mono HB4.out.size)).mono hzl)).setCell (p := ⟨w.heap.size + 1, 0, none⟩) (by simp) (.slice Ac nc cc)).setCell (p := ⟨w.heap.size + 1, 1, none⟩) (by simp) (.slice Al nl cl)
          rw [HP.out]
          exact ⟨_, rfl, ⟨Ac, nc, cc, Al, nl, cl, rfl, (HA.out.below B7 (Nat.le_refl _)).more B7.size, (HL.out.below B7 (Nat.le_refl _)).more B7.size, hcc, hcl⟩, B7⟩
end Go.Proofs.YtefadlbfkhndfaaGreatDoor
