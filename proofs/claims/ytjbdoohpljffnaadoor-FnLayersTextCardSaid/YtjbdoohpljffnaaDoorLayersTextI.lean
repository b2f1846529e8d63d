/-
  Contract: LayersText of the program.
-/
import Derived.Test.YtjbdoohpljffnaaDoorLayersV
import Derived.Test.YtjbdoohpljffnaaDoorCurveText
import Derived.Test.YtjbdoohpljffnaaDoorBuilderK
namespace Go.Proofs.YtjbdoohpljffnaaDoor
open Go.RowKit
set_option linter.unusedSimpArgs false
set_option linter.unusedVariables false

theorem byte_at (b : Nat) (l : List UInt8) (w : World) (h : Bd w b l) (hlen : l.length ≤ 1000000) (c : UInt8) (v : Int) (hv : (c.toNat : Int) = v) :
    Calls Tryd.prog 59 #[.pointer (some ⟨b, 0, none⟩), .int .u8 v] w fun e w' => e = .returned .nilIface ∧ Bd w' b (l ++ [c]) ∧ Below b w w' := by
  subst hv; exact wbyte_any b l c w h hlen

set_option maxRecDepth 100000 in
set_option maxHeartbeats 4000000 in
theorem implLayersText_any (A : Option Addr) (n c : Nat) (l : List Ly) (w : World) (h : Arr LL 2 w w.heap.size A n l) (hn : n ≤ 1099511627776) (hT : Tab w) :
    Calls Tryd.prog 24 #[.slice A n c] w fun e w' => e = .returned (.string (tx (layersT l))) ∧ Below w.heap.size w w' := by
  have KV := implLayersValid_any A n c l w h hn
  have hln := Lib.hid h.1
  have HT := Lib.hid hT
  clear hT
  cases hB : layB l with
  | false =>
    rw [hB] at KV
    have C' := Lib.hid KV
    have hL := Lib.hid (show layersT l = [] by unfold layersT; rw [hB]; rfl)
    clear KV hB
    go_enter Tryd.func24, Tryd.ntmps24
    go_wp2_with fail
    refine C'.out.mono ?_
    rintro e w1 ⟨rfl, b1⟩
    go_wp2
    go_ret
    exact ⟨ret_str (by rw [hL.out]; rfl), b1⟩
  | true =>
    rw [hB] at KV
    have C' := Lib.hid KV
    have hL := Lib.hid (show layersT l = laysT l by unfold layersT; rw [if_pos hB])
    obtain ⟨hF, h40⟩ := (layB_iff l).1 hB
    rw [hln.out] at h40
    have hF' := Lib.hid hF
    clear KV hB hF
    go_enter Tryd.func24, Tryd.ntmps24
    go_wp2_with fail
    refine C'.out.mono ?_
    rintro e w1 ⟨rfl, b1⟩
    clear C'
    go_wp2_with fail
    have hBd := Bd.fresh w1
    have b2 := b1.alloc b1.size (.cells #[.pointer none, .slice none 0 0] 69)
    have hG := b1.size
    generalize w1.alloc (.cells #[.pointer none, .slice none 0 0] 69) = w2 at hBd b2 ⊢
    generalize w1.heap.size = G at hBd hG ⊢
    clear b1
    go_loopw [11] (fun i wr => ∃ (k : Nat), k ≤ n ∧ i = .int .i64 k ∧ Bd wr G (laysT (l.take k)) ∧ Below w.heap.size w wr) (fun i _ => n - (intOf i).toNat)
    case atStart => exact ⟨0, Nat.zero_le _, rfl, hBd, b2⟩
    case round =>
      obtain ⟨k, hk, rfl, hw, hb⟩ := hrel
      by_cases hlt : k < n
      · obtain ⟨b, off, x, s, rfl, hbB, hx, c1, c2⟩ := h.layer hlt
        have hm := layFrom_mem hF'.out _ (List.mem_of_getElem? hx)
        have hm1 : -1 < x ∧ x ≤ 30000 := hm
        have hlen := laysT_len hF'.out (by omega) k (by rw [hln.out]; omega)
        obtain ⟨u, rfl⟩ : ∃ u : Nat, x = u := ⟨x.toNat, by omega⟩
        have hu : u ≤ 100000 := by omega
        have q1 := dec_short hu
        have HF := Lib.hid (laysT_snoc hx)
        obtain ⟨Lk, hLk⟩ : ∃ L, L = laysT (l.take k) := ⟨_, rfl⟩
        rw [← hLk] at hw hlen
        have HLk := Lib.hid hLk
        obtain ⟨D, hD⟩ : ∃ D, D = Lib.decDigits u := ⟨_, rfl⟩
        rw [← hD] at q1
        have KI := fun W hW => itoa_any u hu W hW
        rw [← hD] at KI
        have HK := Lib.hid KI
        have HD := Lib.hid hD
        have c1' := (hb.cell (by exact hbB)).trans c1
        have c2' := (hb.cell (by exact hbB)).trans c2
        have ik : (k : Int) < (n : Int) := by omega
        have ik0 : (0 : Int) ≤ (k : Int) := by omega
        have hsz := hb.size
        have hGl := hw.lt
        have HTr := Lib.hid (HT.out.below hb (Nat.le_refl _))
        have HW := Lib.hid hw
        clear hx hm hm1 c1 c2 hw hD hLk KI
        go_wp2_with fail
        obtain ⟨d1, d2⟩ := (new_two wr (.int .i64 (u : Int)) (.bool s) 55)
        have hnew := heap_alloc_new wr (.cells #[.int .i64 (u : Int), .bool s] 55)
        have HTp := HTr.out.alloc (.cells #[.int .i64 (u : Int), .bool s] 55)
        have Bp := hb.alloc hsz (.cells #[.int .i64 (u : Int), .bool s] 55)
        have HBp := HW.out.below ((Below.refl wr.heap.size wr).alloc (Nat.le_refl _) (.cells #[.int .i64 (u : Int), .bool s] 55)) (Nat.le_refl _)
        have hPl : wr.heap.size < (wr.alloc (.cells #[.int .i64 (u : Int), .bool s] 55)).heap.size := by simp
        generalize wr.alloc (.cells #[.int .i64 (u : Int), .bool s] 55) = wp at d1 d2 hnew HTp Bp HBp hPl ⊢
        generalize wr.heap.size = P at d1 d2 hnew hPl hGl ⊢
        have hszp := Bp.size
        refine (HK.out wp HTp).mono ?_
        rintro e w3 ⟨rfl, b3⟩
        have hPG : P ≠ G := by omega
        have hnew3 := (b3.block P (by exact hPl)).trans hnew
        have HB3 := HBp.below b3 (Nat.le_refl _)
        have B3 := Bp.trans (b3.mono hszp)
        clear HTp HBp HTr HW c1' c2' d1 d2 b3 hnew HK
        go_wp2_with fail
        refine (wstr_keep G Lk D w3 HB3 (by omega)).mono ?_
        rintro e w4 ⟨rfl, HB4, b4, k4⟩
        have hnew4 := (k4 P _ _ _ hPG hnew3 (by decide)).trans hnew3
        have d2 : w4.cell? ⟨P, 1, none⟩ = some (.bool s) := by rw [Lib.cell_of_heap hnew4]; rfl
        have B4 := B3.trans (b4.mono hG)
        have hz4 : (Lk ++ D).length ≤ 8 * k + 6 := by rw [List.length_append]; omega
        clear HB3 B3 b4 k4 hnew3 hnew4
        cases s with
        | true =>
          go_wp2_with fail
          refine (byte_at G _ w4 HB4 (by omega) 10 10 rfl).mono ?_
          rintro e w5 ⟨rfl, HB5, b5⟩
          have HB6 : Bd w5 G (laysT (l.take (k + 1))) := by
            rw [HF.out, ← HLk.out]
            have e1 : lyT ((u : Int), true) = D ++ [10] := by rw [HD.out]; simp [lyT]
            rw [e1, ← List.append_assoc]; exact HB5
          have B6 := B4.trans (b5.mono hG)
          clear HB4 HB5 B4 b5 d2
          go_wp2
          go_roundw
          case rel => exact ⟨k + 1, by omega, by go_num, HB6, B6⟩
          case measure => simp [intOf]; omega
        | false =>
          go_wp2_with fail
          refine (byte_at G _ w4 HB4 (by omega) 63 63 rfl).mono ?_
          rintro e w5 ⟨rfl, HB5, b5⟩
          have B5 := B4.trans (b5.mono hG)
          have hz5 : (Lk ++ D ++ [63]).length ≤ 8 * k + 7 := by simp only [List.length_append, List.length_cons, List.length_nil] at hz4 ⊢; omega
          clear HB4 B4 b5 d2
          go_wp2_with fail
          refine (byte_at G _ w5 HB5 (by omega) 10 10 rfl).mono ?_
          rintro e w6 ⟨rfl, HB6, b6⟩
          have HB7 : Bd w6 G (laysT (l.take (k + 1))) := by
            rw [HF.out, ← HLk.out]
            have e1 : lyT ((u : Int), false) = D ++ ([63] ++ [10]) := by rw [HD.out]; simp [lyT]
            rw [e1, ← List.append_assoc, ← List.append_assoc]; exact HB6
          have B6 := B5.trans (b6.mono hG)
          clear HB5 HB6 B5 b6
          go_wp2
          go_roundw
          case rel => exact ⟨k + 1, by omega, by go_num, HB7, B6⟩
          case measure => simp [intOf]; omega
      · obtain rfl : k = n := by omega
        have hxs : laysT (l.take k) = laysT l := by rw [List.take_of_length_le (by rw [hln.out]; exact Nat.le_refl _)]
        rw [hxs, ← hL.out] at hw
        have J' := Lib.hid (bstr_any G _ wr hw)
        have hlg := hw.lt
        clear hxs hw
        go_wp2_with fail
        refine J'.out.mono ?_
        rintro e w5 ⟨rfl, b5⟩
        go_wp2
        go_ret
        exact ⟨rfl, hb.trans (b5.mono hG)⟩
end Go.Proofs.YtjbdoohpljffnaaDoor
