/-
  The walk of the law FnStackTwice.
-/
import Derived.Test.YtfohfcpnhhiemaaMiddle
import Derived.Test.YtfohfcpnhhiemaaMeans
import Derived.Test.YtfohfcpnhhiemaaFracs
import Derived.Test.YtfohfcpnhhiemaaDrawStacks
import Derived.Test.YtfohfcpnhhiemaaPlainG
import Derived.Test.YtfohfcpnhhiemaaRowsSV
import Derived.Test.YtfohfcpnhhiemaaInts
namespace Go.Proofs.Ytfohfcpnhhiemaa
open Go.RowKit
set_option linter.unusedSimpArgs false
set_option linter.unusedVariables false

set_option maxRecDepth 100000 in
set_option maxHeartbeats 4000000 in
theorem walk_FnStackTwice (w : World) (A : Option Addr) (n c : Nat) (l : List Int) (h : Arr BB 1 w w.heap.size A n l) (hby : ∀ x ∈ l, 0 ≤ x ∧ x ≤ 255) (hc : n ≤ c) :
    Calls Try.prog 15 #[.slice A n c] w fun e w' => e = .returned (.bool true) ∧ Below w.heap.size w w' := by
  have C := Lib.hid (DrawStackSum_any A n c l w h hby hc)
  clear hby h
  by_cases hb : 1048576 < n
  · go_enter Try.func15, Try.ntmps15
    go_wp2_with fail
    go_ret
    exact ⟨rfl, Below.refl _ _⟩
  go_enter Try.func15, Try.ntmps15
  go_wp2_with fail
  refine C.out.mono ?_
  rintro e w1 ⟨A1, n1, c1, vs, R, rfl, ho, hc1, hn1, hR, b1⟩
  have a1 := ho.rows
  have hR' := Lib.hid (fun (r : List Int) (hr : r ∈ R) => show r.length ≤ 1099511627776 by have := hR r hr; omega)
  have HR10 := Lib.hid hR
  clear C ho hR
  have K1 := Lib.hid (fun W h1 => implSum_any A1 n1 c1 R W h1 (by omega) hR'.out)
  have K2 := Lib.hid (fun W h1 => specSum_any A1 n1 c1 R W h1 (by omega) hR'.out)
  cases hB : stackB R with
  | false =>
    rw [hB, show sumsR R = [] by unfold sumsR; rw [hB]; rfl] at K1 K2
    clear hB
    go_wp2_with fail
    refine (K1.out _ a1).mono ?_
    rintro e w2 ⟨A2, m2, c2, rfl, o2, b2⟩
    have B2 := b1.trans (b2.mono b1.size)
    have a2 := (a1.below' b2).more b2.size
    have x2 := o2.arr II_length
    clear a1 b1 b2 o2
    go_wp2_with fail
    refine (K2.out _ a2).mono ?_
    rintro e w3 ⟨A3, m3, c3, rfl, o3, b3⟩
    have B3 := B2.trans (b3.mono B2.size)
    have HS := Lib.hid (sameInts_later (c := c2) (c' := c3) ((x2.below' b3).more b3.size) (o3.arr II_length))
    clear a2 b3 B2 x2 o3 K1 K2
    go_wp2_with fail
    refine (HS.out _ (Below.refl _ _)).mono ?_
    rintro e w4 ⟨rfl, b4⟩
    go_wp2_with fail
    refine (HS.out _ b4).mono ?_
    rintro e w5 ⟨rfl, b5⟩
    clear b4
    go_wp2
    go_ret
    exact ⟨rfl, B3.trans (b5.mono B3.size)⟩
  | true =>
    rw [hB, show sumsR R = sums R (wid R) by unfold sumsR; rw [hB]; rfl] at K1 K2
    obtain ⟨s1, s6⟩ := stack_len hB
    obtain ⟨m1, m20⟩ := stack_wid hB
    have hln := Lib.hid a1.len
    rw [a1.len] at s1 s6
    have HB := Lib.hid hB
    obtain ⟨M, hM⟩ : ∃ M, M = wid R := ⟨_, rfl⟩
    have HM := Lib.hid hM
    rw [← hM] at m1 m20 K1 K2
    have hVl : (sums R M).length = M := sums_length R M
    clear hB hM
    go_wp2_with fail
    refine (K1.out _ a1).mono ?_
    rintro e w2 ⟨A2, m2, c2, rfl, o2, b2⟩
    have B2 := b1.trans (b2.mono b1.size)
    have a2 := (a1.below' b2).more b2.size
    have x2 := o2.arr II_length
    have hm2 := o2.1
    rw [hVl] at hm2
    obtain rfl : m2 = M := hm2.symm
    clear a1 b1 b2 o2
    go_wp2_with fail
    refine (K2.out _ a2).mono ?_
    rintro e w3 ⟨A3, m3, c3, rfl, o3, b3⟩
    have B3 := B2.trans (b3.mono B2.size)
    have a3 := (a2.below' b3).more b3.size
    have x3 := (x2.below' b3).more b3.size
    have HS := Lib.hid (sameInts_later (c := c2) (c' := c3) x3 (o3.arr II_length))
    clear a2 b3 B2 x2 o3 K2
    go_wp2_with fail
    refine (HS.out _ (Below.refl _ _)).mono ?_
    rintro e w5 ⟨rfl, b5⟩
    have B5 := B3.trans (b5.mono B3.size)
    have a5 := (a3.below' b5).more b5.size
    have x5 := (x3.below' b5).more b5.size
    clear HS B3 b5 a3 x3
    obtain ⟨j0, ji, jz0, jz1, jz2⟩ := info_parts infoRow
    have hmem := Lib.hid (fun r hr => stack_mem HB.out (r := r) hr)
    have hsb := Lib.hid (stack_sum_bd HB.out)
    by_cases h3 : 6 < 2 * n1
    · obtain ⟨b0, off0, r0, A0, c0, rfl, hb0, hx0, d0, hd0, ha0⟩ := a5.row (k := 0) (by omega)
      have hw0 := wid_of hx0
      rw [← HM.out] at hw0
      rw [Nat.add_zero, ← hw0] at d0
      have f1 : (6 : Int) < 2 * (n1 : Int) := by omega
      have in0 : (0 : Int) < (n1 : Int) := by omega
      clear hx0 hw0 ha0 hd0 h3
      go_wp2
      go_ret
      exact ⟨rfl, B5⟩
    have f1 : 2 * (n1 : Int) ≤ 6 := by omega
    obtain ⟨ss, hs1, hs3⟩ := a5.toSV
    have hsl := hs1.1
    have hs1' := hs1.alloc (Nat.le_refl _) (.cells #[] 28)
    have hQ := stack_of (R := R ++ R) (m := m2) (fun r hr => by
      have hm : r ∈ R := by rcases List.mem_append.1 hr with h1 | h1 <;> exact h1
      have := hmem.out r hm
      exact ⟨this.1, by rw [HM.out]; exact this.2.1⟩) ⟨m1, m20⟩ (by rw [List.length_append, hln.out]; omega)
    have hQl : (R ++ R).length = n1 + n1 := by rw [List.length_append, hln.out]
    have hR0 : 0 < R.length := by rw [hln.out]; omega
    have hQr : ∀ r ∈ R ++ R, r.length ≤ 1099511627776 := fun r hr => hR'.out r (by rcases List.mem_append.1 hr with h1 | h1 <;> exact h1)
    have e1 : sumsR (R ++ R) = (sums R m2).map (2 * ·) := by unfold sumsR; rw [if_pos hQ.1, hQ.2]; exact sums_twice R m2
    have e2 : meansR (R ++ R) = means R m2 := by unfold meansR; rw [if_pos hQ.1, hQ.2]; exact means_twice hR0 m2
    have e3 : midsR (R ++ R) = mids R m2 := by unfold midsR; rw [if_pos hQ.1, hQ.2]; exact mids_twice hR0 m2
    have e4 : meansR R = means R m2 := by unfold meansR; rw [if_pos HB.out, HM.out]
    have e5 : midsR R = mids R m2 := by unfold midsR; rw [if_pos HB.out, HM.out]
    have G1 := Lib.hid (fun W A c h1 => implSum_any A (n1 + n1) c (R ++ R) W h1 (by omega) hQr)
    have G2 := Lib.hid (fun W A c h1 => implMean_any A (n1 + n1) c (R ++ R) W h1 (by omega) hQr)
    have G3 := Lib.hid (fun W A c h1 => implMiddle_any A (n1 + n1) c (R ++ R) W h1 (by omega) hQr)
    have G4 := Lib.hid (fun W h1 => implMean_any A1 n1 c1 R W h1 (by omega) hR'.out)
    have G5 := Lib.hid (fun W h1 => implMiddle_any A1 n1 c1 R W h1 (by omega) hR'.out)
    rw [hQ.1, e1] at G1
    rw [hQ.1, e2] at G2
    rw [hQ.1, e3] at G3
    rw [HB.out, e4] at G4
    rw [HB.out, e5] at G5
    clear hQ e1 e2 e3 e4 e5 hQr h3 hR0 K1
    go_wp2_with (at_builtin; refine wpList_append_arr _ rfl _ _ 23 rfl w5.heap.size 28 j0 (.slice none 0 0) 1 24 Try.underlying23 ji jz0 jz1 jz2 rfl (by decide) SV_length one_SV _ 0 [] rfl (Own.made SV 1 w5 w5.heap.size 28 (Nat.le_refl _)) w5.heap.size _ n1 c1 ss rfl hs1' (by unfold maxLen; omega) (by omega) (by simp) ?_)
    intro v7 w7 o7 g7 _
    have b7 : Below w5.heap.size w5 w7 := ((Below.refl w5.heap.size w5).alloc (Nat.le_refl _) (.cells #[] 28)).grown g7 (by simp) (fun g hg => by simp [Value.ownBlock] at hg; omega)
    have hs7 := b7.size
    have s17 := (hs1.below' b7)
    try simp only [Nat.zero_add, List.nil_append] at o7
    clear g7 hs1 hs1'
    go_wp2_with (at_builtin; refine wpList_append_arr _ rfl _ _ 23 rfl w5.heap.size 28 j0 (.slice none 0 0) 1 24 Try.underlying23 ji jz0 jz1 jz2 rfl (by decide) SV_length one_SV _ n1 ss rfl o7 w5.heap.size _ n1 c1 ss rfl s17 (by unfold maxLen; omega) (by omega) hs7 ?_)
    intro v8 w8 o8 g8 _
    have b8 := b7.grown g8 hs7 (fun g hg => (o7.2.lt g hg).1)
    obtain ⟨A8, c8, rfl, _, _⟩ := o8.form
    have a8 := rows_of_own (Q := R ++ R) rfl o8.ofSV hQl (fun q u r hq hr => by
      have hm0 : (ss.map svOf).length = n1 := by rw [List.length_map]; exact hsl
      rw [List.map_append] at hq
      rcases Nat.lt_or_ge q n1 with h1 | h1
      · rw [List.getElem?_append_left (by rw [hm0]; exact h1)] at hq
        rw [List.getElem?_append_left (by rw [hln.out]; exact h1)] at hr
        exact hs3 q u r hq hr
      · rw [List.getElem?_append_right (by rw [hm0]; exact h1)] at hq
        rw [List.getElem?_append_right (by rw [hln.out]; exact h1)] at hr
        rw [hm0] at hq
        rw [hln.out] at hr
        exact hs3 _ u r hq hr) b8
    have a58 := (a5.below' b8).more b8.size
    have x58 := (x5.below' b8).more b8.size
    have B8 := B5.trans (b8.mono B5.size)
    clear o7 o8 g8 b7 hs7 s17 hs3 hsl hQl b8 a5 x5 B5
    go_wp2_with fail
    refine (G1.out _ _ _ a8).mono ?_
    rintro e w9 ⟨A9, m9, c9, rfl, o9, b9⟩
    have hm9 := o9.1
    rw [List.length_map, hVl] at hm9
    obtain rfl := hm9
    have y9 := o9.arr II_length
    have a89 := (a8.below' b9).more b9.size
    have a59 := (a58.below' b9).more b9.size
    have x59 := (x58.below' b9).more b9.size
    have B9 := B8.trans (b9.mono B8.size)
    clear o9 b9 a8 a58 x58 B8
    go_wp2_with fail
    refine (G4.out _ a59).mono ?_
    rintro e w10 ⟨A10, m10, c10, rfl, o10, b10⟩
    have z10 := o10.arr PP_length
    have y10 := (y9.below' b10).more b10.size
    have a810 := (a89.below' b10).more b10.size
    have a510 := (a59.below' b10).more b10.size
    have x510 := (x59.below' b10).more b10.size
    have B10 := B9.trans (b10.mono B9.size)
    clear o10 b10 a89 a59 x59 B9 y9
    go_wp2_with fail
    refine (G2.out _ _ _ a810).mono ?_
    rintro e w11 ⟨A11, m11, c11, rfl, o11, b11⟩
    have z11 := o11.arr PP_length
    have z101 := (z10.below' b11).more b11.size
    have y11 := (y10.below' b11).more b11.size
    have a811 := (a810.below' b11).more b11.size
    have a511 := (a510.below' b11).more b11.size
    have x511 := (x510.below' b11).more b11.size
    have B11 := B10.trans (b11.mono B10.size)
    have Z1 := Lib.hid z101
    have Z2 := Lib.hid z11
    have hml : (means R m2).length = m2 := means_length R m2
    have hm10 : m2 = m10 := by rw [← hml]; exact z10.1
    have hm11 : m2 = m11 := by rw [← hml]; exact z11.1
    have hm10' : m10 ≤ 1099511627776 := by omega
    clear o11 b11 a810 a510 x510 B10 y10 z10 z11 z101 hml hm10 hm11
    go_wp2_with fail
    refine (G5.out _ a511).mono ?_
    rintro e w12 ⟨A12, m12, c12, rfl, o12, b12⟩
    have u12 := o12.arr II_length
    have y12 := (y11.below' b12).more b12.size
    have a812 := (a811.below' b12).more b12.size
    have x512 := (x511.below' b12).more b12.size
    have B12 := B11.trans (b12.mono B11.size)
    have BF12 := b12
    clear o12 a811 a511 x511 B11 y11
    go_wp2_with fail
    refine (G3.out _ _ _ a812).mono ?_
    rintro e w13 ⟨A13, m13, c13, rfl, o13, b13⟩
    have u13 := o13.arr II_length
    have u123 := (u12.below' b13).more b13.size
    have y13 := (y12.below' b13).more b13.size
    have x513 := (x512.below' b13).more b13.size
    have B13 := B12.trans (b13.mono B12.size)
    have BF13 := BF12.trans (b13.mono BF12.size)
    have HI := Lib.hid (sameInts_later (c := c12) (c' := c13) u123 u13 (by rw [mids_length]; omega))
    clear o13 b13 b12 BF12 a812 x512 B12 y12 u12 u13 u123
    go_wp2_with fail
    go_loopw [19] (fun k wr => ∃ j : Nat, j ≤ m2 ∧ k = .int .i64 j ∧ Below w13.heap.size w13 wr) (fun k _ => m2 - (intOf k).toNat)
    case atStart => exact ⟨0, Nat.zero_le _, rfl, Below.refl _ _⟩
    case round =>
      obtain ⟨j, hj, rfl, hb⟩ := hrel
      by_cases hjm : j < m2
      · obtain ⟨b1, off1, X, rfl, hb1, hX, p1⟩ := y13.int hjm
        obtain ⟨b2, off2, Y, rfl, hb2, hY, p2⟩ := x513.int hjm
        rw [List.getElem?_map, hY] at hX
        simp at hX
        rw [sums_get R hjm] at hY
        injection hY with hY
        have hyb := hsb.out j
        rw [hY] at hyb
        have D1 := Later.cell (w0 := wr) (B := w13.heap.size) (by exact hb1) ((hb.cell (by exact hb1)).trans p1)
        have D2 := Later.cell (w0 := wr) (B := w13.heap.size) (by exact hb2) ((hb.cell (by exact hb2)).trans p2)
        rw [← hX] at D1
        have i1 : (j : Int) < (m2 : Int) := by omega
        have i0 : (0 : Int) ≤ (j : Int) := by omega
        have g1 : ((m2 : Int) != (m2 : Int)) = false := by simp
        have g2 : (2 * Y != 2 * Y) = false := by simp
        have BZ : -4611686018427387904 ≤ 2 * Y ∧ 2 * Y ≤ 4611686018427387904 := by omega
        clear hX hY p1 p2 hyb
        have e2 : IntKind.i64.wrap (2 * Y) = 2 * Y := IntWalk.i64_in _ (by omega)
        have e1 : wrap64 (2 * Y) = 2 * Y := w64' BZ
        go_wp2_with fail
        refine wp_region_under (B := w13.heap.size) (w0 := wr) (by kernel_rfl) (by kernel_rfl) (Below.refl _ _) ?_
        repeat (go_big_quiet_step (fail))
        refine wpQuiet_nil ?_
        rintro w14 ⟨u, hu⟩
        have B14 := hb.trans (show Below w13.heap.size wr w14 by rw [hu]; exact u.2)
        clear hu u D1 D2 e1 e2 g1 g2
        go_wp2
        go_roundw
        case rel => exact ⟨j + 1, by omega, by go_num, B14⟩
        case measure => simp [intOf]; omega
      · obtain rfl : j = m2 := by omega
        have BF := BF13.trans (hb.mono BF13.size)
        go_wp2_with fail
        refine (sameFracs_yes A10 m10 c10 (means R j) A11 m11 c11 _ ((Z1.out.below' BF).more BF.size) ((Z2.out.below' BF).more BF.size) hm10').mono ?_
        rintro e w15 ⟨rfl, b15⟩
        have b15' := hb.trans (b15.mono hb.size)
        go_wp2_with fail
        refine (HI.out _ b15').mono ?_
        rintro e w16 ⟨rfl, b16⟩
        go_wp2
        go_ret
        exact ⟨rfl, B13.trans (b16.mono B13.size)⟩
end Go.Proofs.Ytfohfcpnhhiemaa
