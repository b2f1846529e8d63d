/-
  The walk of the law FnMiddleFar.
-/
import Derived.Test.YtfohfcpnhhiemaaMiddle
import Derived.Test.YtfohfcpnhhiemaaSpecMiddle
import Derived.Test.YtfohfcpnhhiemaaInts
import Derived.Test.YtfohfcpnhhiemaaDrawStacks
import Derived.Test.YtfohfcpnhhiemaaRowsSV
namespace Go.Proofs.Ytfohfcpnhhiemaa
open Go.RowKit
set_option linter.unusedSimpArgs false
set_option linter.unusedVariables false

theorem rows_of_own {w w' : World} {T : TypeId} {v : Value} {A : Option Addr} {n c : Nat} {us : List Value} {Q : List (List Int)} (hv : v = .slice A n c) (h : Own VV 1 w' w.heap.size T v n us) (hl : Q.length = n)
    (hr : ∀ (q : Nat) u r, us[q]? = some u → Q[q]? = some r → RowV w w.heap.size u r) (hb : Below w.heap.size w w') : Rows2 w' w'.heap.size A n Q := by
  subst hv
  exact ⟨us, h.arr VV_length, by rw [h.1, hl], fun k u r hu hq => ((hr k u r hu hq).below hb).more hb.size⟩
theorem wid_all {R : List (List Int)} {m : Nat} (h0 : R ≠ []) (h : ∀ r ∈ R, r.length = m) : wid R = m := by
  cases R with
  | nil => exact absurd rfl h0
  | cons r t => exact h r (List.mem_cons_self ..)
theorem stack_of {R : List (List Int)} {m : Nat} (h : ∀ r ∈ R, r.all numB = true ∧ r.length = m) (hm : 1 ≤ m ∧ m ≤ 20) (hl : 1 ≤ R.length ∧ R.length ≤ 6) : stackB R = true ∧ wid R = m := by
  have hw : wid R = m := wid_all (by intro e; subst e; simp at hl) fun r hr => (h r hr).2
  refine ⟨(stackB_iff R).2 ⟨fun r hr => ⟨(rowB_iff r).2 ⟨(h r hr).1, by rw [(h r hr).2]; exact hm⟩, by rw [hw]; exact (h r hr).2⟩, hl⟩, hw⟩

set_option maxRecDepth 100000 in
set_option maxHeartbeats 4000000 in
theorem walk_FnMiddleFar (w : World) (A : Option Addr) (n c : Nat) (l : List Int) (h : Arr BB 1 w w.heap.size A n l) (hby : ∀ x ∈ l, 0 ≤ x ∧ x ≤ 255) (hc : n ≤ c) :
    Calls Try.prog 11 #[.slice A n c] w fun e w' => e = .returned (.bool true) ∧ Below w.heap.size w w' := by
  have C := Lib.hid (DrawStackMiddle_any A n c l w h hby hc)
  clear hby h
  by_cases hb : 1048576 < n
  · go_enter Try.func11, Try.ntmps11
    go_wp2_with fail
    go_ret
    exact ⟨rfl, Below.refl _ _⟩
  go_enter Try.func11, Try.ntmps11
  go_wp2_with fail
  refine C.out.mono ?_
  rintro e w1 ⟨A1, n1, c1, vs, R, rfl, ho, hc1, hn1, hR, b1⟩
  have a1 := ho.rows
  have hR' := Lib.hid (fun (r : List Int) (hr : r ∈ R) => show r.length ≤ 1099511627776 by have := hR r hr; omega)
  have HR10 := Lib.hid hR
  clear C ho hR
  have K1 := Lib.hid (fun W h1 => implMiddle_any A1 n1 c1 R W h1 (by omega) hR'.out)
  have K2 := Lib.hid (fun W h1 => specMiddle_any A1 n1 c1 R W h1 (by omega) hR'.out)
  cases hB : stackB R with
  | false =>
    rw [hB, show midsR R = [] by unfold midsR; rw [hB]; rfl] at K1 K2
    clear hB
    go_wp2_with fail
    refine (K1.out _ a1).mono ?_
    rintro e w2 ⟨A2, m2, c2, rfl, o2, b2⟩
    have B2 := b1.trans (b2.mono b1.size)
    have a2 := (a1.below' b2).more b2.size
    have x2 := o2.arr II_length
    clear a1 b1 b2 o2
    go_wp2_with fail
    refine (K2.out _ a2).mono ?_
    rintro e w3 ⟨A3, m3, c3, rfl, o3, b3⟩
    have B3 := B2.trans (b3.mono B2.size)
    have HS := Lib.hid (sameInts_later (c := c2) (c' := c3) ((x2.below' b3).more b3.size) (o3.arr II_length))
    clear a2 b3 B2 x2 o3 K1 K2
    go_wp2_with fail
    refine (HS.out _ (Below.refl _ _)).mono ?_
    rintro e w4 ⟨rfl, b4⟩
    go_wp2_with fail
    refine (HS.out _ b4).mono ?_
    rintro e w5 ⟨rfl, b5⟩
    clear b4
    go_wp2
    go_ret
    exact ⟨rfl, B3.trans (b5.mono B3.size)⟩
  | true =>
    rw [hB, show midsR R = mids R (wid R) by unfold midsR; rw [hB]; rfl] at K1 K2
    obtain ⟨s1, s6⟩ := stack_len hB
    obtain ⟨m1, m20⟩ := stack_wid hB
    have hln := Lib.hid a1.len
    rw [a1.len] at s1 s6
    have HB := Lib.hid hB
    obtain ⟨M, hM⟩ : ∃ M, M = wid R := ⟨_, rfl⟩
    have HM := Lib.hid hM
    rw [← hM] at m1 m20 K1 K2
    have hVl : (mids R M).length = M := mids_length R M
    clear hB hM
    go_wp2_with fail
    refine (K1.out _ a1).mono ?_
    rintro e w2 ⟨A2, m2, c2, rfl, o2, b2⟩
    have B2 := b1.trans (b2.mono b1.size)
    have a2 := (a1.below' b2).more b2.size
    have x2 := o2.arr II_length
    have hm2 := o2.1
    rw [hVl] at hm2
    obtain rfl : m2 = M := hm2.symm
    clear a1 b1 b2 o2
    go_wp2_with fail
    refine (K2.out _ a2).mono ?_
    rintro e w3 ⟨A3, m3, c3, rfl, o3, b3⟩
    have B3 := B2.trans (b3.mono B2.size)
    have a3 := (a2.below' b3).more b3.size
    have x3 := (x2.below' b3).more b3.size
    have HS := Lib.hid (sameInts_later (c := c2) (c' := c3) x3 (o3.arr II_length))
    clear a2 b3 B2 x2 o3 K2
    go_wp2_with fail
    refine (HS.out _ (Below.refl _ _)).mono ?_
    rintro e w5 ⟨rfl, b5⟩
    have B5 := B3.trans (b5.mono B3.size)
    have a5 := (a3.below' b5).more b5.size
    have x5 := (x3.below' b5).more b5.size
    clear HS B3 b5 a3 x3
    obtain ⟨i0, hi, hz0, hz1, hz2⟩ := info_parts infoInt
    obtain ⟨j0, ji, jz0, jz1, jz2⟩ := info_parts infoRow
    have hmem := Lib.hid (fun r hr => stack_mem HB.out (r := r) hr)
    obtain ⟨b0, off0, r0, A0, c0, e0, hb0, hx0, d0, hd0, ha0⟩ := a5.row (k := 0) (by omega)
    have hw0 := wid_of hx0
    rw [← HM.out] at hw0
    rw [Nat.add_zero, ← hw0] at d0
    have in0 : (0 : Int) < (n1 : Int) := by omega
    clear hx0 hw0 ha0 hd0
    rcases (show n1 < 3 ∨ n1 = 6 ∨ (3 ≤ n1 ∧ n1 ≤ 5) by omega) with h3 | h3 | h3
    · subst e0
      have f1 : (n1 : Int) < 3 := by omega
      clear h3
      go_wp2
      go_ret
      exact ⟨rfl, B5⟩
    · subst e0
      have f1 : ¬ (n1 : Int) < 3 := by omega
      have f2 : (n1 : Int) = 6 := by omega
      clear h3
      go_wp2
      go_ret
      exact ⟨rfl, B5⟩
    · have f1 : decide ((n1 : Int) < 3) = false := decide_eq_false (by omega)
      have f2 : ((n1 : Int) == 6) = false := by simp; omega
      go_wp2_with fail
      go_loopw [9, 10] (fun v k wr => ∃ j : Nat, j ≤ m2 ∧ k = .int .i64 j ∧ Own II 1 wr w5.heap.size 3 v j (List.replicate j 10000) ∧ Below w5.heap.size w5 wr) (fun _ k _ => m2 - (intOf k).toNat)
      case atStart => exact ⟨0, Nat.zero_le _, rfl, Own.made II 1 w5 w5.heap.size _ (Nat.le_refl _), (Below.refl _ _).alloc (Nat.le_refl _) _⟩
      case round =>
        clear f1 f2
        obtain ⟨j, hj, rfl, hl, hb⟩ := hrel
        have g1 := (hb.cell (by exact hb0)).trans d0
        by_cases hjm : j < m2
        · subst e0
          have i2 : (j : Int) < (m2 : Int) := by omega
          have hT := Lib.hid (show List.replicate (j + 1) (10000 : Int) = List.replicate j 10000 ++ [10000] from List.replicate_succ')
          go_wp2_with (at_builtin; refine wpList_append_own _ rfl _ _ 28 rfl w5.heap.size 3 i0 (.int .i64 0) 1 8 Try.underlying28 hi hz0 hz1 hz2 rfl (by decide) _ _ _ rfl (hl.2.alloc _) ⟨wr.heap.size, 0, none⟩ 1 1 [.int .i64 10000] rfl rfl ?d1 ?d2 ?d3 ?d4 ?d5 ?_)
          first | (case d1 => exact cell_new1 _ _ _) | skip
          case d2 => first | exact one_II _ | rfl
          case d3 => unfold maxLen; omega
          case d4 => omega
          case d5 => have := hb.size; simp; omega
          intro v' w7 hown' hg7 _
          have hl7 : Own II 1 w7 w5.heap.size 3 v' (j + 1) (List.replicate j 10000 ++ [10000]) := Own.snoc' hl.1 (by simp [II]) hown'
          rw [← hT.out] at hl7
          have hb7 := (hb.alloc hb.size (.cells #[.int .i64 10000] 3)).grown hg7 (by have := hb.size; simp; omega) (fun g hg => (hl.2.lt g hg).1)
          clear hown' hg7 hl hb g1
          go_wp2
          go_roundw
          case rel => exact ⟨j + 1, by omega, by go_num, hl7, hb7⟩
          case measure => simp [intOf]; omega
        · obtain rfl : j = m2 := by omega
          obtain ⟨wo, rfl⟩ : ∃ wo : World, wo = wr := ⟨_, rfl⟩
          obtain ⟨WI, hWI⟩ : ∃ r, r = List.replicate j (10000 : Int) := ⟨_, rfl⟩
          have hWl : WI.length = j := by rw [hWI]; exact List.length_replicate
          have hWa : ∀ x ∈ WI, x = 10000 := fun x hx => by rw [hWI] at hx; exact List.eq_of_mem_replicate hx
          have hWk : ∀ k, k < j → WI[k]? = some 10000 := fun k hk => by rw [hWI, List.getElem?_replicate, if_pos hk]
          rw [← hWI] at hl
          obtain ⟨Aw, cw, rfl, hcw, _⟩ := hl.form
          have rw0 : RowV wo wo.heap.size (.slice Aw j cw) WI := ⟨Aw, cw, by rw [hWl], by rw [hWl]; exact hcw, by rw [hWl]; exact hl.arr II_length⟩
          have a6 := (a5.below' hb).more hb.size
          have x6 := (x5.below' hb).more hb.size
          obtain ⟨ss, hs1, hs3⟩ := a6.toSV
          have hsl := hs1.1
          have hs1' := hs1.alloc (Nat.le_refl _) (.cells #[] 28)
          have hst := stack_of (R := R ++ [WI]) (m := j) (fun r hr => by
            rcases List.mem_append.1 hr with h1 | h1
            · have := hmem.out r h1; exact ⟨this.1, by rw [HM.out]; exact this.2.1⟩
            · simp at h1; subst h1
              exact ⟨List.all_eq_true.2 fun x hx => (numB_iff x).2 (by have := hWa x hx; omega), hWl⟩) ⟨m1, m20⟩ (by rw [List.length_append, hln.out]; simp; omega)
          have hws := Lib.hid (fun (k : Nat) (x y : Int) (hk : k < j) (hx : (mids (R ++ [WI]) j)[k]? = some x) (hy : (mids R j)[k]? = some y) => show y ≤ x ∧ ∃ z ∈ col R k, x ≤ z by
            rw [mids_get _ hk] at hx hy
            injection hx with hx
            injection hy with hy
            have e1 : col (R ++ [WI]) k = col R k ++ [10000] := by
              unfold col
              rw [List.map_append]
              simp [at0_of (hWk k hk)]
            rw [e1] at hx
            have := mid_wild (c := col R k) (m := 10000) (by rw [col_length, hln.out]; omega) (fun z hz => by
              obtain ⟨r, hr, rfl⟩ := List.mem_map.1 hz
              have hm := hmem.out r hr
              have hkr : k < r.length := by rw [hm.2.1, ← HM.out]; exact hk
              have hg := List.getElem?_eq_getElem hkr
              rw [at0_of hg]
              exact ((numB_iff _).1 (List.all_eq_true.1 hm.1 _ (List.getElem_mem hkr))).2)
            rw [hx, hy] at this
            exact this)
          have HST := Lib.hid hst
          have HWL := Lib.hid hWl
          have RW0 := Lib.hid rw0
          have HS3 := Lib.hid hs3
          clear hWa hWk hWI hst hWl rw0 hs3 hl a6
          subst e0
          go_wp2_with (at_builtin; refine wpList_append_arr _ rfl _ _ 23 rfl wo.heap.size 28 j0 (.slice none 0 0) 1 24 Try.underlying23 ji jz0 jz1 jz2 rfl (by decide) SV_length one_SV _ 0 [] rfl (Own.made SV 1 wo wo.heap.size 28 (Nat.le_refl _)) wo.heap.size _ n1 c1 ss rfl hs1' (by unfold maxLen; omega) (by omega) (by simp) ?_)
          intro v7 w7 o7 g7 _
          have b7 : Below wo.heap.size wo w7 := ((Below.refl wo.heap.size wo).alloc (Nat.le_refl _) (.cells #[] 28)).grown g7 (by simp) (fun g hg => by simp [Value.ownBlock] at hg; omega)
          have o7' := o7.ofSV
          have hs7 := b7.size
          clear o7 g7 hs1 hs1'
          go_wp2_with (at_builtin; refine wpList_append_own _ rfl _ _ 23 rfl wo.heap.size 28 j0 (.slice none 0 0) 1 24 Try.underlying23 ji jz0 jz1 jz2 rfl (by decide) _ _ _ rfl (o7'.2.alloc _) ⟨w7.heap.size, 0, none⟩ 1 1 [.slice Aw j cw] rfl rfl ?d1 ?d2 ?d3 ?d4 ?d5 ?_)
          first | (case d1 => exact cell_new1 _ _ _) | skip
          case d2 => first | exact one_VV rfl | rfl
          case d3 => unfold maxLen; omega
          case d4 => omega
          case d5 => simp; omega
          intro v8 w8 hown8 hg8 _
          have o8 : Own VV 1 w8 wo.heap.size 28 v8 (n1 + 1) (ss.map svOf ++ [.slice Aw j cw]) := Own.snoc' o7'.1 (by simp [VV]) hown8
          have b8 := (b7.alloc b7.size (.cells #[.slice Aw j cw] 28)).grown hg8 (by simp; omega) (fun g hg => (o7'.2.lt g hg).1)
          obtain ⟨A8, c8, rfl, _, _⟩ := o8.form
          have hm0 : (ss.map svOf).length = n1 := by rw [List.length_map]; exact hsl
          have a8 := rows_of_own (Q := R ++ [WI]) rfl o8 (by rw [List.length_append, hln.out]; rfl) (fun q u r hq hr => by
            rcases Nat.lt_or_ge q n1 with h1 | h1
            · rw [List.getElem?_append_left (by rw [hm0]; exact h1)] at hq
              rw [List.getElem?_append_left (by rw [hln.out]; exact h1)] at hr
              exact HS3.out q u r hq hr
            · rw [List.getElem?_append_right (by rw [hm0]; exact h1)] at hq
              rw [List.getElem?_append_right (by rw [hln.out]; exact h1)] at hr
              have e0 : q - n1 = 0 := by have := (List.getElem?_eq_some_iff.1 hq).1; rw [hm0] at this; simp at this; omega
              rw [hm0, e0] at hq
              rw [hln.out, e0] at hr
              simp at hq hr
              subst hq; subst hr
              exact RW0.out) b8
          have K8 := implMiddle_any A8 (n1 + 1) c8 (R ++ [WI]) _ a8 (by omega) (fun r hr => by
            rcases List.mem_append.1 hr with h1 | h1
            · exact hR'.out r h1
            · simp at h1; subst h1; rw [HWL.out]; omega)
          rw [HST.out.1, show midsR (R ++ [WI]) = mids (R ++ [WI]) j by unfold midsR; rw [if_pos HST.out.1, HST.out.2]] at K8
          have K8' := Lib.hid K8
          obtain ⟨MW, hMW⟩ : ∃ l, l = mids (R ++ [WI]) j := ⟨_, rfl⟩
          have hMl : MW.length = j := by rw [hMW]; exact mids_length _ _
          rw [← hMW] at K8' hws
          clear hown8 hg8 K8 a8 o8 o7' b7 hs7 hm0 hsl HS3 RW0 HST HWL hMW g1
          go_wp2_with fail
          refine K8'.out.mono ?_
          rintro e w9 ⟨A9, m9, c9, rfl, o9, b9⟩
          have B9 := b8.trans (b9.mono b8.size)
          obtain rfl : j = m9 := by rw [← hMl]; exact o9.1
          have y9 := o9.arr II_length
          have x9 := (x6.below' B9).more B9.size
          have B59 := hb.trans (B9.mono hb.size)
          have a9 := (a5.below' B59).more B59.size
          have B5' := B5.trans (B59.mono B5.size)
          clear o9 b9 b8 K8' x6 x5 B59 B9 a5 d0 hb hb0 B5
          go_wp2_with fail
          go_loopw [13] (fun k wr => ∃ k' : Nat, k' ≤ j ∧ k = .int .i64 k' ∧ Below w9.heap.size w9 wr) (fun k _ => j - (intOf k).toNat)
          case atStart => exact ⟨0, Nat.zero_le _, rfl, Below.refl _ _⟩
          case round =>
            obtain ⟨k, hk, rfl, hbo⟩ := hrel
            by_cases hkm : k < j
            · obtain ⟨b1, off1, X, rfl, hb1, hX, p1⟩ := y9.int hkm
              obtain ⟨b2, off2, Y, rfl, hb2, hY, p2⟩ := x9.int hkm
              obtain ⟨hYX, hEx⟩ := hws.out k X Y hkm hX hY
              obtain ⟨C, hC⟩ : ∃ C, C = col R k := ⟨_, rfl⟩
              have HC := Lib.hid hC
              have HCL := Lib.hid (show C.length = n1 by rw [hC, col_length, hln.out])
              rw [← hC] at hEx
              have HEX := Lib.hid (show C.any (fun y => decide (X ≤ y)) = true by
                obtain ⟨z, hz, hle⟩ := hEx
                exact List.any_eq_true.2 ⟨z, hz, decide_eq_true hle⟩)
              have ik : (k : Int) < (j : Int) := by omega
              clear hX hY hEx hC
              obtain ⟨wi, rfl⟩ : ∃ wi : World, wi = wr := ⟨_, rfl⟩
              go_wp2_with fail
              go_loopw [14, 15] (fun f i wr => ∃ i' : Nat, i' ≤ n1 ∧ i = .int .i64 i' ∧ f = .bool ((C.take i').any fun y => decide (X ≤ y)) ∧ Below w9.heap.size w9 wr) (fun _ i _ => n1 - (intOf i).toNat)
              case atStart => exact ⟨0, Nat.zero_le _, rfl, rfl, hbo⟩
              case round =>
                clear hbo
                obtain ⟨i, hi', rfl, rfl, hb⟩ := hrel
                by_cases hin : i < n1
                · obtain ⟨b3, off3, r, A', c', e3, hb3, hx3, c1', hc1', ha⟩ := a9.row hin
                  injection e3 with e3
                  injection e3 with e31 e32
                  subst e31; subst e32
                  obtain ⟨hra, hrw, hr1, hr20⟩ := hmem.out r (List.mem_of_getElem? hx3)
                  have hkr : k < r.length := by rw [hrw, ← HM.out]; exact hkm
                  obtain ⟨b4, off4, y, rfl, hb4, hy, c2'⟩ := ha.int hkr
                  have hCi : C[i]? = some y := by rw [HC.out, col_get hx3, at0_of hy]
                  have hTk := Lib.hid (show (C.take (i + 1)).any (fun y => decide (X ≤ y)) = ((C.take i).any (fun y => decide (X ≤ y)) || decide (X ≤ y)) by
                    rw [take_snoc hCi, List.any_append]; simp)
                  have g1 := (hb.cell (by exact hb3)).trans c1'
                  have g2 := (hb.cell (by exact hb4)).trans c2'
                  have g3 := (hb.cell (by exact hb1)).trans p1
                  have i1 : (i : Int) < (n1 : Int) := by omega
                  have i3 : (k : Int) < (r.length : Int) := by omega
                  have ha1 := hb1
                  clear hx3 hra hrw hy hCi ha c1' c2'
                  cases hF : (C.take i).any (fun y => decide (X ≤ y)) with
                  | true =>
                    rw [hF, Bool.true_or] at hTk
                    clear hF
                    go_wp2_with fail
                    go_quiet (fail)
                    have b10 := below_drewN hb nq
                    clear g1 g2 g3
                    go_wp2
                    go_roundw
                    case rel => exact ⟨i + 1, by omega, by go_num, by rw [hTk.out], b10⟩
                    case measure => simp [intOf]; omega
                  | false =>
                    rw [hF, Bool.false_or] at hTk
                    clear hF
                    obtain ⟨F, hF⟩ : ∃ F, F = decide (X ≤ y) := ⟨_, rfl⟩
                    have f1 : decide (X ≤ y) = F := hF.symm
                    have f2 : decide (y ≥ X) = F := hF.symm
                    rw [f1] at hTk
                    clear hF
                    go_wp2_with fail
                    go_quiet (fail)
                    have b10 := below_drewN hb nq
                    clear g1 g2 g3 f1 f2
                    go_wp2
                    go_roundw
                    case rel => exact ⟨i + 1, by omega, by go_num, by rw [hTk.out], b10⟩
                    case measure => simp [intOf]; omega
                · obtain rfl : i = n1 := by omega
                  rw [List.take_of_length_le (by rw [HCL.out]; exact Nat.le_refl _), HEX.out]
                  have g3 := (hb.cell (by exact hb1)).trans p1
                  have g4 := (hb.cell (by exact hb2)).trans p2
                  have f1 : ((j : Int) != (j : Int)) = false := by simp
                  have f2 : decide (X < Y) = false := decide_eq_false (by omega)
                  clear hYX HEX
                  go_wp2_with fail
                  go_quiet (fail)
                  have b10 := below_drewN hb nq
                  clear g3 g4 f1 f2
                  go_wp2
                  go_roundw
                  case rel => exact ⟨k + 1, by omega, by go_num, b10⟩
                  case measure => simp [intOf]; omega
            · obtain rfl : k = j := by omega
              go_wp2
              go_ret
              exact ⟨rfl, B5'.trans (hbo.mono B5'.size)⟩
end Go.Proofs.Ytfohfcpnhhiemaa
