/-
  The walk of the law FnMiddleShift.
-/
import Derived.Test.YtfohfcpnhhiemaaMiddle
import Derived.Test.YtfohfcpnhhiemaaSpecMiddle
import Derived.Test.YtfohfcpnhhiemaaInts
import Derived.Test.YtfohfcpnhhiemaaDrawStacks
namespace Go.Proofs.Ytfohfcpnhhiemaa
open Go.RowKit
set_option linter.unusedSimpArgs false
set_option linter.unusedVariables false

def shift2 (r : List Int) : List Int := r.map (· + 2)
theorem shift2_length (r : List Int) : (shift2 r).length = r.length := by simp [shift2]
theorem wid_allS {R : List (List Int)} {m : Nat} (h0 : R ≠ []) (h : ∀ r ∈ R, r.length = m) : wid R = m := by
  cases R with
  | nil => exact absurd rfl h0
  | cons r t => exact h r (List.mem_cons_self ..)
theorem at0_shift {r : List Int} {k : Nat} (h : k < r.length) : at0 (shift2 r) k = at0 r k + 2 := by
  unfold at0 shift2
  rw [List.getD_eq_getElem?_getD, List.getD_eq_getElem?_getD, List.getElem?_map, List.getElem?_eq_getElem h]
  rfl
theorem mid_shifted {R : List (List Int)} {k : Nat} (h : ∀ r ∈ R, k < r.length) (h0 : 0 < R.length) : mid (col (R.map shift2) k) = mid (col R k) + 2 := by
  have e : col (R.map shift2) k = (col R k).map (· + 2) := by
    unfold col
    rw [List.map_map, List.map_map]
    apply List.map_congr_left
    intro r hr
    exact at0_shift (h r hr)
  rw [e]
  exact mid_shift 2 (by rw [col_length]; exact h0)
theorem mid_bd {R : List (List Int)} {k : Nat} (h : ∀ r ∈ R, r.all numB = true) (h0 : 0 < R.length) : -10000 ≤ mid (col R k) ∧ mid (col R k) ≤ 10000 := by
  obtain ⟨r, hr, e⟩ := List.mem_map.1 (mid_mem (c := col R k) (by rw [col_length]; exact h0))
  rw [← e]
  exact at0_bd (h r hr) k

set_option maxRecDepth 100000 in
set_option maxHeartbeats 4000000 in
theorem walk_FnMiddleShift (w : World) (A : Option Addr) (n c : Nat) (l : List Int) (h : Arr BB 1 w w.heap.size A n l) (hby : ∀ x ∈ l, 0 ≤ x ∧ x ≤ 255) (hc : n ≤ c) :
    Calls Try.prog 13 #[.slice A n c] w fun e w' => e = .returned (.bool true) ∧ Below w.heap.size w w' := by
  have C := Lib.hid (DrawStackMiddle_any A n c l w h hby hc)
  clear hby h
  by_cases hb : 1048576 < n
  · go_enter Try.func13, Try.ntmps13
    go_wp2_with fail
    go_ret
    exact ⟨rfl, Below.refl _ _⟩
  go_enter Try.func13, Try.ntmps13
  go_wp2_with fail
  refine C.out.mono ?_
  rintro e w1 ⟨A1, n1, c1, vs, R, rfl, ho, hc1, hn1, hR, b1⟩
  have a1 := ho.rows
  have hR' := Lib.hid (fun (r : List Int) (hr : r ∈ R) => show r.length ≤ 1099511627776 by have := hR r hr; omega)
  have HR10 := Lib.hid hR
  clear C ho hR
  have K1 := Lib.hid (fun W h1 => implMiddle_any A1 n1 c1 R W h1 (by omega) hR'.out)
  have K2 := Lib.hid (fun W h1 => specMiddle_any A1 n1 c1 R W h1 (by omega) hR'.out)
  cases hB : stackB R with
  | false =>
    rw [hB, show midsR R = [] by unfold midsR; rw [hB]; rfl] at K1 K2
    clear hB
    go_wp2_with fail
    refine (K1.out _ a1).mono ?_
    rintro e w2 ⟨A2, m2, c2, rfl, o2, b2⟩
    have B2 := b1.trans (b2.mono b1.size)
    have a2 := (a1.below' b2).more b2.size
    have x2 := o2.arr II_length
    clear a1 b1 b2 o2
    go_wp2_with fail
    refine (K2.out _ a2).mono ?_
    rintro e w3 ⟨A3, m3, c3, rfl, o3, b3⟩
    have B3 := B2.trans (b3.mono B2.size)
    have HS := Lib.hid (sameInts_later (c := c2) (c' := c3) ((x2.below' b3).more b3.size) (o3.arr II_length))
    clear a2 b3 B2 x2 o3 K1 K2
    go_wp2_with fail
    refine (HS.out _ (Below.refl _ _)).mono ?_
    rintro e w4 ⟨rfl, b4⟩
    go_wp2_with fail
    refine (HS.out _ b4).mono ?_
    rintro e w5 ⟨rfl, b5⟩
    clear b4
    go_wp2
    go_ret
    exact ⟨rfl, B3.trans (b5.mono B3.size)⟩
  | true =>
    rw [hB, show midsR R = mids R (wid R) by unfold midsR; rw [hB]; rfl] at K1 K2
    obtain ⟨s1, s6⟩ := stack_len hB
    obtain ⟨m1, m20⟩ := stack_wid hB
    have hln := Lib.hid a1.len
    rw [a1.len] at s1 s6
    have HB := Lib.hid hB
    obtain ⟨M, hM⟩ : ∃ M, M = wid R := ⟨_, rfl⟩
    have HM := Lib.hid hM
    rw [← hM] at m1 m20 K1 K2
    have hVl : (mids R M).length = M := mids_length R M
    clear hB hM
    go_wp2_with fail
    refine (K1.out _ a1).mono ?_
    rintro e w2 ⟨A2, m2, c2, rfl, o2, b2⟩
    have B2 := b1.trans (b2.mono b1.size)
    have a2 := (a1.below' b2).more b2.size
    have x2 := o2.arr II_length
    have hm2 := o2.1
    rw [hVl] at hm2
    obtain rfl : m2 = M := hm2.symm
    clear a1 b1 b2 o2
    go_wp2_with fail
    refine (K2.out _ a2).mono ?_
    rintro e w3 ⟨A3, m3, c3, rfl, o3, b3⟩
    have B3 := B2.trans (b3.mono B2.size)
    have a3 := (a2.below' b3).more b3.size
    have x3 := (x2.below' b3).more b3.size
    have HS := Lib.hid (sameInts_later (c := c2) (c' := c3) x3 (o3.arr II_length))
    clear a2 b3 B2 x2 o3 K2
    go_wp2_with fail
    refine (HS.out _ (Below.refl _ _)).mono ?_
    rintro e w5 ⟨rfl, b5⟩
    have B5 := B3.trans (b5.mono B3.size)
    have a5 := (a3.below' b5).more b5.size
    have x5 := (x3.below' b5).more b5.size
    clear HS B3 b5 a3 x3
    obtain ⟨i0, hi, hz0, hz1, hz2⟩ := info_parts infoInt
    obtain ⟨j0, ji, jz0, jz1, jz2⟩ := info_parts infoRow
    have hmem := Lib.hid (fun r hr => stack_mem HB.out (r := r) hr)
    go_wp2_with fail
    go_loopw [8, 9] (fun v i wr => ∃ (p : Nat) (us : List Value), p ≤ n1 ∧ i = .int .i64 p ∧ OwnRR wr w5.heap.size 28 3 v p us ((R.take p).map shift2) ∧ Below w5.heap.size w5 wr) (fun _ i _ => n1 - (intOf i).toNat)
    case atStart => exact ⟨0, [], Nat.zero_le _, rfl, by rw [List.take_zero]; exact OwnRR.made w5 w5.heap.size _ _ (Nat.le_refl _), (Below.refl _ _).alloc (Nat.le_refl _) _⟩
    case round =>
      obtain ⟨p, us, hp, rfl, hw, hb⟩ := hrel
      by_cases hpn : p < n1
      · obtain ⟨b, off, r, A', c', rfl, hbB, hx, c1', hc1', ha⟩ := a5.row hpn
        obtain ⟨hra, hrw, hr1, hr20⟩ := hmem.out r (List.mem_of_getElem? hx)
        have HRA := Lib.hid hra
        have hTk := Lib.hid (show (R.take (p + 1)).map shift2 = (R.take p).map shift2 ++ [shift2 r] by rw [take_snoc hx, List.map_append]; rfl)
        have hvl := Lib.hid (fun g hg => (hw.own.2.lt g hg).2)
        have hol := Lib.hid (fun (k : Nat) u' (hk : us[k]? = some u') g hg => (hw.lt hk g hg).2)
        obtain ⟨wo, rfl⟩ : ∃ wo : World, wo = wr := ⟨_, rfl⟩
        have hsz := hb.size
        clear hx hra hrw
        go_wp2_with fail
        go_loopw [10, 11] (fun v k wr => ∃ j : Nat, j ≤ r.length ∧ k = .int .i64 j ∧ Own II 1 wr wo.heap.size 3 v j ((r.take j).map (· + 2)) ∧ Below wo.heap.size wo wr) (fun _ k _ => r.length - (intOf k).toNat)
        case atStart => exact ⟨0, Nat.zero_le _, rfl, Own.made II 1 wo wo.heap.size _ (Nat.le_refl _), (Below.refl _ _).alloc (Nat.le_refl _) _⟩
        case round =>
          obtain ⟨j, hj, rfl, hl, hbo⟩ := hrel
          have hbw := hb.trans (hbo.mono hb.size)
          have g1 := (hbw.cell (by exact hbB)).trans c1'
          by_cases hjr : j < r.length
          · obtain ⟨b', off', x, rfl, hbB', hy, c2'⟩ := ha.int hjr
            have hxb := (numB_iff x).1 (List.all_eq_true.1 HRA.out x (List.mem_of_getElem? hy))
            obtain ⟨hxb1, hxb2⟩ := hxb
            have g2 := (hbw.cell (by exact hbB')).trans c2'
            have hT := Lib.hid (show (r.take (j + 1)).map (· + 2) = (r.take j).map (· + 2) ++ [x + 2] by rw [take_snoc hy, List.map_append]; rfl)
            have i1 : (p : Int) < (n1 : Int) := by omega
            have i2 : (j : Int) < (r.length : Int) := by omega
            clear hy c2'
            go_wp2_with (at_builtin; refine wpList_append_own _ rfl _ _ 28 rfl wo.heap.size 3 i0 (.int .i64 0) 1 8 Try.underlying28 hi hz0 hz1 hz2 rfl (by decide) _ _ _ rfl (hl.2.alloc _) ⟨wr.heap.size, 0, none⟩ 1 1 [.int .i64 (x + 2)] rfl rfl ?d1 ?d2 ?d3 ?d4 ?d5 ?_)
            first | (case d1 => exact cell_new1 _ _ _) | skip
            case d2 => first | exact one_II _ | rfl
            case d3 => unfold maxLen; omega
            case d4 => omega
            case d5 => have := hbo.size; simp; omega
            intro v' w7 hown' hg7 _
            have hl7 : Own II 1 w7 wo.heap.size 3 v' (j + 1) ((r.take j).map (· + 2) ++ [x + 2]) := Own.snoc' hl.1 (by simp [II]) hown'
            rw [← hT.out] at hl7
            have hb7 := (hbo.alloc hbo.size (.cells #[.int .i64 (x + 2)] 3)).grown hg7 (by have := hbo.size; simp; omega) (fun g hg => (hl.2.lt g hg).1)
            clear hown' hg7 hl hbo hbw g1 g2
            go_wp2
            go_roundw
            case rel => exact ⟨j + 1, by omega, by go_num, hl7, hb7⟩
            case measure => simp [intOf]; omega
          · obtain rfl : j = r.length := by omega
            rw [List.take_of_length_le (Nat.le_refl _)] at hl
            obtain ⟨Au, cu, rfl, hcu, _⟩ := hl.form
            have hw7 := hw.below hbo (Nat.le_refl _)
            have hO' := Lib.hid (hl.less (base' := w5.heap.size) hb.size)
            have hnb := Lib.hid (fun g hg => hl.2.lt g hg)
            have HW := Lib.hid hw7
            have i1 : (p : Int) < (n1 : Int) := by omega
            clear hw hl hw7
            go_wp2_with (at_builtin; refine wpList_append_own_at _ rfl _ _ 23 rfl w5.heap.size 28 j0 (.slice none 0 0) 1 24 Try.underlying23 ji jz0 jz1 jz2 rfl (by decide) _ _ _ rfl (HW.out.own.2.alloc _) ⟨wr.heap.size, 0, none⟩ 1 1 [.slice Au r.length cu] rfl rfl ?e1 ?e2 ?e3 ?e4 ?e5 ?_)
            first | (case e1 => exact cell_new1 _ _ _) | skip
            case e2 => first | exact one_VV rfl | rfl
            case e3 => unfold maxLen; omega
            case e4 => omega
            case e5 => have := hbw.size; simp; omega
            intro v' w7 hown' hg7 _ hat
            have O7 : OwnRR w7 w5.heap.size 28 3 v' (p + 1) (us ++ [.slice Au r.length cu]) ((R.take p).map shift2 ++ [shift2 r]) := by
              refine HW.out.snoc (B0 := wo.heap.size) (by rw [shift2_length]; exact hO'.out) (fun g hg => hnb.out g hg) hvl.out hol.out hown' hg7 (by first | exact hat | (rw [World.size_alloc]; exact hat))
            rw [← hTk.out] at O7
            have hvw := Lib.hid (fun g hg => HW.out.own.2.lt g hg)
            have hb7 := (hbw.alloc hbw.size (.cells #[.slice Au r.length cu] 28)).grown hg7 (by have := hbw.size; simp; omega) (fun g hg => (hvw.out g hg).1)
            have O7' := Lib.hid O7
            clear hown' hg7 hat O7 HW hbo hbw g1
            go_wp2
            go_roundw
            case rel => exact ⟨p + 1, _, by omega, by go_num, O7'.out, hb7⟩
            case measure => simp [intOf]; omega
      · obtain rfl : p = n1 := by omega
        rw [List.take_of_length_le (by rw [hln.out]; exact Nat.le_refl _)] at hw
        obtain ⟨A7, c7, rfl, _, _⟩ := hw.own.form
        have a7 := hw.rows
        have K7 := implMiddle_any A7 p c7 (R.map shift2) _ a7 (by omega) (fun r hr => by
          obtain ⟨r', h1, rfl⟩ := List.mem_map.1 hr
          rw [shift2_length]; exact hR'.out r' h1)
        have hwS : wid (R.map shift2) = m2 := by
          rw [HM.out]
          refine wid_allS ?_ fun r hr => ?_
          · intro e
            have := congrArg List.length e
            simp [hln.out] at this
            omega
          · obtain ⟨r', h1, rfl⟩ := List.mem_map.1 hr
            rw [shift2_length]; exact (hmem.out r' h1).2.1
        have hmk := Lib.hid (fun k (hk : k < m2) => mid_shifted (R := R) (k := k) (fun r hr => by rw [(hmem.out r hr).2.1, ← HM.out]; exact hk) (by rw [hln.out]; omega))
        cases hQ : stackB (R.map shift2) with
        | false =>
          rw [hQ, show midsR (R.map shift2) = [] by unfold midsR; rw [hQ]; rfl] at K7
          have K7' := Lib.hid K7
          clear K7 hQ a7 hw hwS
          go_wp2_with fail
          refine K7'.out.mono ?_
          rintro e w8 ⟨A8, m8, c8, rfl, o8, b8⟩
          have B8 := B5.trans ((hb.trans (b8.mono hb.size)).mono B5.size)
          obtain rfl : 0 = m8 := o8.1
          clear o8 b8
          go_wp2_with fail
          go_loopw [14] (fun k wr => k = .int .i64 0 ∧ wr = w8) (fun _ _ => 0)
          case atStart => exact ⟨rfl, rfl⟩
          case round =>
            obtain ⟨rfl, rfl⟩ := hrel
            go_wp2
            go_ret
            exact ⟨rfl, B8⟩
        | true =>
          rw [hQ, show midsR (R.map shift2) = mids (R.map shift2) m2 by unfold midsR; rw [hQ, hwS]; rfl] at K7
          have K7' := Lib.hid K7
          clear K7 hQ a7 hw hwS
          go_wp2_with fail
          refine K7'.out.mono ?_
          rintro e w8 ⟨A8, m8, c8, rfl, o8, b8⟩
          have B8 := hb.trans (b8.mono hb.size)
          have hm8 := o8.1
          rw [mids_length] at hm8
          obtain rfl := hm8
          have x8 := o8.arr II_length
          have x58 := (x5.below' B8).more B8.size
          have BM := Lib.hid (fun k => (mid_bd (R := R) (k := k) (fun r hr => (hmem.out r hr).1) (by rw [hln.out]; omega)))
          clear o8 b8 K7'
          go_wp2_with fail
          go_loopw [14] (fun k wr => ∃ j : Nat, j ≤ m2 ∧ k = .int .i64 j ∧ Below w8.heap.size w8 wr) (fun k _ => m2 - (intOf k).toNat)
          case atStart => exact ⟨0, Nat.zero_le _, rfl, Below.refl _ _⟩
          case round =>
            obtain ⟨j, hj, rfl, hb9⟩ := hrel
            by_cases hjm : j < m2
            · obtain ⟨b8, off8, y, rfl, hbB8, hy8, g8⟩ := x8.int hjm
              obtain ⟨b9, off9, z, rfl, hbB9, hz9, g9⟩ := x58.int hjm
              rw [mids_get _ hjm] at hy8 hz9
              injection hy8 with hy8
              injection hz9 with hz9
              have hyz : y = z + 2 := by rw [← hy8, ← hz9]; exact hmk.out j hjm
              have hzb := BM.out j
              rw [hz9] at hzb
              have g8' := (hb9.cell (by exact hbB8)).trans g8
              have g9' := (hb9.cell (by exact hbB9)).trans g9
              have i1 : (j : Int) < (m2 : Int) := by omega
              have i0' : (0 : Int) ≤ (j : Int) := by omega
              have BB : -4611686018427387904 ≤ z + 2 ∧ z + 2 ≤ 4611686018427387904 := by omega
              have f1 : ((m2 : Int) != (m2 : Int)) = false := by simp
              have f2 : (z + 2 != z + 2) = false := by simp
              rw [hyz] at g8'
              clear hyz hy8 hz9 g8 g9 hzb
              have e1 : wrap64 (z + 2) = z + 2 := w64' BB
              clear BB
              go_wp2_with fail
              go_quiet (fail)
              have B10 := below_drewN hb9 nq
              clear e1 f1 f2 g8' g9'
              go_wp2
              go_roundw
              case rel => exact ⟨j + 1, by omega, by go_num, B10⟩
              case measure => simp [intOf]; omega
            · obtain rfl : j = m2 := by omega
              have B11 := B5.trans ((B8.trans (hb9.mono B8.size)).mono B5.size)
              go_wp2
              go_ret
              exact ⟨rfl, B11⟩
end Go.Proofs.Ytfohfcpnhhiemaa
