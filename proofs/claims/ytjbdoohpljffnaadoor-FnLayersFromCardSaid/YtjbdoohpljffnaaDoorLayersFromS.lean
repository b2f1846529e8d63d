/-
  Contract: LayersFrom of the reference.
-/
import Derived.Test.YtjbdoohpljffnaaDoorDigS
import Derived.Test.YtjbdoohpljffnaaDoorLayersText
import Derived.Test.YtjbdoohpljffnaaDoorPairLayer
import Derived.Test.YtjbdoohpljffnaaDoorAppend
import Derived.Test.YtjbdoohpljffnaaDoorCurveFromS
namespace Go.Proofs.YtjbdoohpljffnaaDoor
open Go.RowKit
set_option linter.unusedSimpArgs false
set_option linter.unusedVariables false

theorem lyOf_nil : lyOf [] = (dig [], true) := rfl
theorem lyOf_q (x : List UInt8) : lyOf (x ++ [63]) = (dig x, false) := by
  unfold lyOf
  rw [if_pos (by simp), List.dropLast_concat]
theorem lyOf_b {x : List UInt8} {b : UInt8} (h : b ≠ 63) : lyOf (x ++ [b]) = (dig (x ++ [b]), true) := by
  unfold lyOf
  rw [if_neg (by simpa using h)]

set_option maxRecDepth 100000 in
set_option maxHeartbeats 4000000 in
theorem specLayersFrom_any (s : List UInt8) (hs : s.length ≤ 100000000) (w : World) :
    Calls Tryd.prog 42 #[.string (tx s)] w fun e w' => ∃ A n c, e = .returned (.tuple #[.slice A n c, .bool (fromL s).isSome]) ∧ Own LL 2 w' w.heap.size 55 (.slice A n c) n ((fromL s).getD []) ∧ Below w.heap.size w w' := by
  obtain ⟨i0, hi, hz0, hz1, hz2⟩ := info_parts infoLayer
  have C0 := Lib.hid (l43Cut_any s 10 (by omega) w)
  have hNl := splitB_len 10 s
  have hN0 : 0 < (splitB 10 s).length := List.length_pos_iff.2 (splitB_ne 10 s)
  have hEnd := Lib.hid (fun (h : layersT ((splitB 10 s).dropLast.map lyOf) ≠ s) => fromL_fail (fun l' h' => h'.read) h)
  have hGood := Lib.hid (fun (h : layersT ((splitB 10 s).dropLast.map lyOf) = s) => fromL_check h (fun e => by rw [e]; rfl))
  have hMem := Lib.hid (fun x h => splitB_mem 10 s x h)
  obtain ⟨N, hN⟩ : ∃ N, N = (splitB 10 s).length := ⟨_, rfl⟩
  rw [← hN] at hNl hN0
  have HN := Lib.hid hN
  clear hN
  go_enter Tryd.func42, Tryd.ntmps42
  go_wp2_with fail
  refine C0.out.mono ?_
  rintro e w1 ⟨A0, n0, c0, rfl, o0, b0⟩
  clear C0
  obtain rfl : n0 = N := by rw [HN.out]; have := o0.1; rw [List.length_map] at this; exact this.symm
  have a0 := o0.arr ST_length
  have hw1 := b0.size
  clear o0
  go_wp2_with fail
  go_loopw [5, 6] (fun o i wr => ∃ (k : Nat), k + 1 ≤ n0 ∧ i = .int .i64 k ∧ Own LL 2 wr w1.heap.size 55 o k (((splitB 10 s).take k).map lyOf) ∧ Below w1.heap.size w1 wr) (fun _ i _ => n0 - (intOf i).toNat)
  case atStart => exact ⟨0, hN0, rfl, Own.made _ _ _ _ _ (Nat.le_refl _), (Below.refl _ w1).alloc (Nat.le_refl _) _⟩
  case round =>
    obtain ⟨k, hk, rfl, hw, hb⟩ := hrel
    have sb := hb.size
    have e1 : IntKind.i64.wrap ((k : Int) + 1) = (k : Int) + 1 := IntWalk.i64_in _ ⟨by omega, by omega⟩
    by_cases hlt : k + 1 < n0
    · obtain ⟨b, off, X, rfl, hbB, hx, c1⟩ := a0.str (show k < n0 by omega)
      obtain ⟨x, hx', rfl⟩ : ∃ x, (splitB 10 s)[k]? = some x ∧ tx x = X := by
        rw [List.getElem?_map] at hx
        cases hq : (splitB 10 s)[k]? with
        | none => rw [hq] at hx; cases hx
        | some x => rw [hq] at hx; exact ⟨x, rfl, by simpa using hx⟩
      have hxl := hMem.out x (List.mem_of_getElem? hx')
      obtain ⟨Aw, cw, rfl, _, _⟩ := hw.form
      have ik : (k : Int) + 1 < (n0 : Int) := by omega
      have ik2 : (k : Int) < (n0 : Int) := by omega
      have ik0 : (0 : Int) ≤ (k : Int) := by omega
      have c1' := (hb.cell (by exact hbB)).trans c1
      have HL := Lib.hid (show ((splitB 10 s).take k).map lyOf ++ [lyOf x] = ((splitB 10 s).take (k + 1)).map lyOf by
        rw [take_snoc hx', List.map_append]; rfl)
      have HLn := hw.1
      have K3 : k + 1 ≤ maxLen := by unfold maxLen; omega
      have K4 : (k + 1) * 16 ≤ 140737488355328 := by omega
      have HG := Lib.hid (fun g hg => hw.2.lt g hg)
      clear hx hx' c1
      rcases List.eq_nil_or_concat x with rfl | ⟨y, d, hyd⟩
      · have C1 := Lib.hid (l1Digits_any [] (by simp) wr)
        have z0 : (tx []).size = 0 := rfl
        rw [lyOf_nil] at HL
        have K1 := cell_new2 wr (.int .i64 (dig [])) (.bool true) 55
        have K2 := one_LL (dig []) true
        have K5 : w1.heap.size ≤ (wr.alloc (.cells #[.int .i64 (dig []), .bool true] 55)).heap.size := by simp; omega
        go_wp2_with (first
          | (go_at_call 75; refine C1.out.mono ?_; rintro e w3 ⟨rfl, rfl⟩)
          | (at_builtin; (refine wpList_append_own _ rfl _ _ 34 rfl w1.heap.size 55 i0 (.agg #[.int .i64 0, .bool false]) 2 16 Tryd.underlying34 hi hz0 hz1 hz2 rfl (by decide) _ _ _ rfl (hw.2.alloc _) ⟨wr.heap.size, 0, none⟩ 1 1 [.int .i64 (dig []), .bool true] rfl rfl K1 K2 K3 K4 K5 ?_; intro v' w4 hown' hg4 _)))
        have hw4 : Own LL 2 w4 w1.heap.size 55 v' (k + 1) (((splitB 10 s).take (k + 1)).map lyOf) := by rw [← HL.out]; exact Own.snoc HLn hown'
        have hb4 : Below w1.heap.size w1 w4 := (hb.alloc sb _).grown hg4 (by simp; omega) (fun g hg => (HG.out g hg).1)
        exact ⟨⟨k + 1, by omega, by go_num, hw4, hb4⟩, by simp [intOf]; omega⟩
      · rw [List.concat_eq_append] at hyd
        have hyl : y.length + 1 ≤ s.length := by rw [hyd] at hxl; simpa using hxl
        subst hyd
        have hz : (tx (y ++ [d])).size = y.length + 1 := by rw [tx_size]; simp
        have hbk : ∀ h, (tx (y ++ [d]))[y.length]'h = d := fun h => by
          have := List.getElem?_concat_length (l := y) (a := d)
          obtain ⟨_, e⟩ := List.getElem?_eq_some_iff.1 this
          exact e
        have e2 : IntKind.i64.wrap (((y.length + 1 : Nat) : Int) - 1) = (y.length : Int) := by rw [show ((y.length + 1 : Nat) : Int) - 1 = (y.length : Int) by omega]; exact IntWalk.i64_in _ ⟨by omega, by omega⟩
        have i1 : (0 : Int) < ((y.length + 1 : Nat) : Int) := by omega
        have i2 : (0 : Int) ≤ (y.length : Int) := by omega
        have i3 : y.length ≤ y.length + 1 := by omega
        obtain ⟨Z, hZ⟩ : ∃ Z, Z = tx (y ++ [d]) := ⟨_, rfl⟩
        have hex : Z.extract 0 y.length = tx y := by rw [hZ, txdx]; simp
        by_cases hd : d = 63
        · subst hd
          rw [lyOf_q] at HL
          have C1 := Lib.hid (l1Digits_any y (by omega) wr)
          have K1 := cell_new2 wr (.int .i64 (dig y)) (.bool false) 55
          have K2 := one_LL (dig y) false
          have K5 : w1.heap.size ≤ (wr.alloc (.cells #[.int .i64 (dig y), .bool false] 55)).heap.size := by simp; omega
          rw [← hZ] at c1' hz hbk
          clear hZ
          go_wp2_with (first
            | (go_at_call 75; refine C1.out.mono ?_; rintro e w3 ⟨rfl, rfl⟩)
            | (at_builtin; (refine wpList_append_own _ rfl _ _ 34 rfl w1.heap.size 55 i0 (.agg #[.int .i64 0, .bool false]) 2 16 Tryd.underlying34 hi hz0 hz1 hz2 rfl (by decide) _ _ _ rfl (hw.2.alloc _) ⟨wr.heap.size, 0, none⟩ 1 1 [.int .i64 (dig y), .bool false] rfl rfl K1 K2 K3 K4 K5 ?_; intro v' w4 hown' hg4 _)))
          have hw4 : Own LL 2 w4 w1.heap.size 55 v' (k + 1) (((splitB 10 s).take (k + 1)).map lyOf) := by rw [← HL.out]; exact Own.snoc HLn hown'
          have hb4 : Below w1.heap.size w1 w4 := (hb.alloc sb _).grown hg4 (by simp; omega) (fun g hg => (HG.out g hg).1)
          exact ⟨⟨k + 1, by omega, by go_num, hw4, hb4⟩, by simp [intOf]; omega⟩
        · rw [lyOf_b hd] at HL
          have f1 : ((d.toNat : Int) == 63) = false := by
            rw [beq_eq_false_iff_ne]
            intro e
            exact hd (UInt8.toNat_inj.1 (by have : (63 : UInt8).toNat = 63 := rfl; omega))
          obtain ⟨v, hv⟩ : ∃ v, v = dig (y ++ [d]) := ⟨_, rfl⟩
          have C1 := l1Digits_any (y ++ [d]) (by simp; omega) wr
          rw [← hv] at HL C1
          rw [← hZ] at c1' hz hbk C1
          have C1 := Lib.hid C1
          have K1 := cell_new2 wr (.int .i64 v) (.bool true) 55
          have K2 := one_LL v true
          have K5 : w1.heap.size ≤ (wr.alloc (.cells #[.int .i64 v, .bool true] 55)).heap.size := by simp; omega
          clear hZ hv hex
          go_wp2_with (first
            | (go_at_call 75; refine C1.out.mono ?_; rintro e w3 ⟨rfl, rfl⟩)
            | (at_builtin; (refine wpList_append_own _ rfl _ _ 34 rfl w1.heap.size 55 i0 (.agg #[.int .i64 0, .bool false]) 2 16 Tryd.underlying34 hi hz0 hz1 hz2 rfl (by decide) _ _ _ rfl (hw.2.alloc _) ⟨wr.heap.size, 0, none⟩ 1 1 [.int .i64 v, .bool true] rfl rfl K1 K2 K3 K4 K5 ?_; intro v' w4 hown' hg4 _)))
          have hw4 : Own LL 2 w4 w1.heap.size 55 v' (k + 1) (((splitB 10 s).take (k + 1)).map lyOf) := by rw [← HL.out]; exact Own.snoc HLn hown'
          have hb4 : Below w1.heap.size w1 w4 := (hb.alloc sb _).grown hg4 (by simp; omega) (fun g hg => (HG.out g hg).1)
          exact ⟨⟨k + 1, by omega, by go_num, hw4, hb4⟩, by simp [intOf]; omega⟩
    · obtain rfl : n0 = k + 1 := by omega
      have ik : ¬ ((k : Int) + 1 < ((k + 1 : Nat) : Int)) := by omega
      obtain ⟨Aw, cw, rfl, _, _⟩ := hw.form
      have hL : ((splitB 10 s).take k).map lyOf = (splitB 10 s).dropLast.map lyOf := by rw [List.dropLast_eq_take, ← HN.out]; rfl
      rw [hL] at hw
      have hO := hw.less hw1
      have hB := b0.trans (hb.mono b0.size)
      have aw := hw.arr LL_length
      have C := (specLayersText_any Aw k cw _ wr aw (by omega))
      by_cases hc : layersT ((splitB 10 s).dropLast.map lyOf) = s
      · have hE := Lib.hid (hGood.out hc)
        rw [hc] at C
        clear hL hw hb aw hc
        go_wp2_with fail
        refine C.mono ?_
        rintro e w3 ⟨rfl, b3⟩
        go_wp2
        go_ret2
        rw [hE.out]
        exact ⟨_, _, _, rfl, hO.below b3 (Nat.le_refl _), hB.trans (b3.mono hB.size)⟩
      · have hE := Lib.hid (hEnd.out hc)
        have hne : ((tx (layersT ((splitB 10 s).dropLast.map lyOf))).toList == (tx s).toList) = false := by unfold tx; rw [ByteArray.toList_mk, ByteArray.toList_mk]; simpa using hc
        obtain ⟨T, hT⟩ : ∃ T, T = tx (layersT ((splitB 10 s).dropLast.map lyOf)) := ⟨_, rfl⟩
        rw [← hT] at C hne
        clear hL hw hb aw hc hT
        go_wp2_with fail
        refine C.mono ?_
        rintro e w3 ⟨rfl, b3⟩
        have B3 := hB.trans (b3.mono hB.size)
        go_wp2
        go_ret2
        rw [hE.out]
        exact ⟨_, _, _, rfl, (Own.made LL 2 _ _ _ B3.size), B3.alloc B3.size _⟩
end Go.Proofs.YtjbdoohpljffnaaDoor
