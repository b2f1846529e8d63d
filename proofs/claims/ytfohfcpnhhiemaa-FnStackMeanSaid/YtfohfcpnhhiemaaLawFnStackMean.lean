/-
  The walk of the law FnStackMean.
-/
import Derived.Test.YtfohfcpnhhiemaaMeans
import Derived.Test.YtfohfcpnhhiemaaFracs
import Derived.Test.YtfohfcpnhhiemaaDrawStacks
import Derived.Test.YtfohfcpnhhiemaaPlainG
namespace Go.Proofs.Ytfohfcpnhhiemaa
open Go.RowKit
set_option linter.unusedSimpArgs false
set_option linter.unusedVariables false

theorem two_atD {w w' : World} {a b : Value} {T : TypeId} {C : Nat} (h : Below C (w.drew.alloc (.cells #[a, b] T)) w') (hC : w.heap.size < C) :
    w'.cell? ⟨w.heap.size, 0, none⟩ = some a ∧ w'.cell? ⟨w.heap.size, 1, none⟩ = some b ∧ w'.frozen? ⟨w.heap.size, 0, none⟩ = false ∧ w'.frozen? ⟨w.heap.size, 1, none⟩ = false := two_at (w := w.drew) h hC
theorem two_keep {w w' : World} {a b : Value} {g C : Nat} (h : w.cell? ⟨g, 0, none⟩ = some a ∧ w.cell? ⟨g, 1, none⟩ = some b ∧ w.frozen? ⟨g, 0, none⟩ = false ∧ w.frozen? ⟨g, 1, none⟩ = false) (hb : Below C w w') (hlt : g < C) :
    w'.cell? ⟨g, 0, none⟩ = some a ∧ w'.cell? ⟨g, 1, none⟩ = some b ∧ w'.frozen? ⟨g, 0, none⟩ = false ∧ w'.frozen? ⟨g, 1, none⟩ = false :=
  ⟨(hb.cell (by exact hlt)).trans h.1, (hb.cell (by exact hlt)).trans h.2.1, (hb.frozen (by exact hlt)).trans h.2.2.1, (hb.frozen (by exact hlt)).trans h.2.2.2⟩
theorem set_two {w : World} {g : Nat} {a b a' b' : Value} (r0 : w.cell? ⟨g, 0, none⟩ = some a') (r1 : w.cell? ⟨g, 1, none⟩ = some b') :
    ((w.setCell ⟨g, 0, none⟩ a).setCell ⟨g, 1, none⟩ b).cell? ⟨g, 0, none⟩ = some a ∧ ((w.setCell ⟨g, 0, none⟩ a).setCell ⟨g, 1, none⟩ b).cell? ⟨g, 1, none⟩ = some b := by
  obtain ⟨h0, h1⟩ := two_set (a := a) (b := b) r0 r1
  exact ⟨(World.cell?_setCell_other _ ⟨g, 1, none⟩ ⟨g, 0, none⟩ b (by intro e; injection e with _ e; cases e)).trans h0, h1⟩
theorem new_two (w : World) (a b : Value) (T : TypeId) : (w.alloc (.cells #[a, b] T)).cell? ⟨w.heap.size, 0, none⟩ = some a ∧ (w.alloc (.cells #[a, b] T)).cell? ⟨w.heap.size, 1, none⟩ = some b :=
  ⟨cell_new2 w a b T 0 a rfl, cell_new2 w a b T 1 b rfl⟩
theorem keep1 {w w' : World} {C b o1 : Nat} {v1 : Value} (h : w.cell? ⟨b, o1, none⟩ = some v1) (hlt : b < C) (hb : Below C w w') : w'.cell? ⟨b, o1, none⟩ = some v1 := (hb.cell (by exact hlt)).trans h
theorem keep2 {w w' : World} {C b o1 o2 : Nat} {v1 v2 : Value} (h : w.cell? ⟨b, o1, none⟩ = some v1 ∧ w.cell? ⟨b, o2, none⟩ = some v2) (hb : Below C w w') (hlt : b < C) :
    w'.cell? ⟨b, o1, none⟩ = some v1 ∧ w'.cell? ⟨b, o2, none⟩ = some v2 := ⟨(hb.cell (by exact hlt)).trans h.1, (hb.cell (by exact hlt)).trans h.2⟩

set_option maxRecDepth 100000 in
set_option maxHeartbeats 4000000 in
theorem walk_FnStackMean (w : World) (A : Option Addr) (n c : Nat) (l : List Int) (h : Arr BB 1 w w.heap.size A n l) (hby : ∀ x ∈ l, 0 ≤ x ∧ x ≤ 255) (hc : n ≤ c) :
    Calls Try.prog 8 #[.slice A n c] w fun e w' => e = .returned (.bool true) ∧ Below w.heap.size w w' := by
  have C := Lib.hid (DrawStackMean_any A n c l w h hby hc)
  clear hby h
  by_cases hb : 1048576 < n
  · go_enter Try.func8, Try.ntmps8
    go_wp2_with fail
    go_ret
    exact ⟨rfl, Below.refl _ _⟩
  go_enter Try.func8, Try.ntmps8
  go_wp2_with fail
  refine C.out.mono ?_
  rintro e w1 ⟨A1, n1, c1, vs, R, rfl, ho, hc1, hn1, hR, b1⟩
  have a1 := ho.rows
  have hR' := Lib.hid (fun (r : List Int) (hr : r ∈ R) => show r.length ≤ 1099511627776 by have := hR r hr; omega)
  have HR10 := Lib.hid hR
  clear C ho hR
  have K1 := Lib.hid (fun W h1 => implMean_any A1 n1 c1 R W h1 (by omega) hR'.out)
  have K2 := Lib.hid (fun W h1 => specMean_any A1 n1 c1 R W h1 (by omega) hR'.out)
  cases hB : stackB R with
  | false =>
    rw [hB, show meansR R = [] by unfold meansR; rw [hB]; rfl] at K1 K2
    clear hB
    go_wp2_with fail
    refine (K1.out _ a1).mono ?_
    rintro e w2 ⟨A2, m2, c2, rfl, o2, b2⟩
    have B2 := b1.trans (b2.mono b1.size)
    have a2 := (a1.below' b2).more b2.size
    have x2 := o2.arr PP_length
    clear a1 b1 b2 o2
    go_wp2_with fail
    refine (K2.out _ a2).mono ?_
    rintro e w3 ⟨A3, m3, c3, rfl, o3, b3⟩
    have B3 := B2.trans (b3.mono B2.size)
    have HS := Lib.hid (sameFracs_later (c := c2) (c' := c3) ((x2.below' b3).more b3.size) (o3.arr PP_length))
    clear a2 b3 B2 x2 o3 K1 K2
    go_wp2_with fail
    refine (HS.out _ (Below.refl _ _)).mono ?_
    rintro e w4 ⟨rfl, b4⟩
    go_wp2_with fail
    refine (HS.out _ b4).mono ?_
    rintro e w5 ⟨rfl, b5⟩
    clear b4
    go_wp2
    go_ret
    exact ⟨rfl, B3.trans (b5.mono B3.size)⟩
  | true =>
    rw [hB, show meansR R = means R (wid R) by unfold meansR; rw [hB]; rfl] at K1 K2
    obtain ⟨s1, s6⟩ := stack_len hB
    obtain ⟨m1, m20⟩ := stack_wid hB
    have hln := Lib.hid a1.len
    rw [a1.len] at s1 s6
    have HB := Lib.hid hB
    obtain ⟨M, hM⟩ : ∃ M, M = wid R := ⟨_, rfl⟩
    have HM := Lib.hid hM
    rw [← hM] at m1 m20 K1 K2
    have hVl : (means R M).length = M := means_length R M
    clear hB hM
    go_wp2_with fail
    refine (K1.out _ a1).mono ?_
    rintro e w2 ⟨A2, m2, c2, rfl, o2, b2⟩
    have B2 := b1.trans (b2.mono b1.size)
    have a2 := (a1.below' b2).more b2.size
    have x2 := o2.arr PP_length
    have hm2 := o2.1
    rw [hVl] at hm2
    obtain rfl : m2 = M := hm2.symm
    clear a1 b1 b2 o2
    go_wp2_with fail
    refine (K2.out _ a2).mono ?_
    rintro e w3 ⟨A3, m3, c3, rfl, o3, b3⟩
    have B3 := B2.trans (b3.mono B2.size)
    have a3 := (a2.below' b3).more b3.size
    have x3 := (x2.below' b3).more b3.size
    have HS := Lib.hid (sameFracs_later (c := c2) (c' := c3) x3 (o3.arr PP_length))
    clear a2 b3 B2 x2 o3 K2
    go_wp2_with fail
    refine (HS.out _ (Below.refl _ _)).mono ?_
    rintro e w5 ⟨rfl, b5⟩
    have B5 := B3.trans (b5.mono B3.size)
    have a5 := (a3.below' b5).more b5.size
    have x5 := (x3.below' b5).more b5.size
    clear HS B3 b5 a3 x3
    have hmem := Lib.hid (fun r hr => stack_mem HB.out (r := r) hr)
    have hsb := Lib.hid (stack_sum_bd HB.out)
    obtain ⟨b0, off0, r0, A0, c0, e0, hb0, hx0, d0, hd0, ha0⟩ := a5.row (k := 0) (by omega)
    have hw0 := wid_of hx0
    rw [← HM.out] at hw0
    have hR1 : R.take 1 = [r0] := by
      cases hRc : R with
      | nil => rw [hRc] at hx0; simp at hx0
      | cons a t => rw [hRc] at hx0; simp at hx0; subst hx0; rfl
    have hr0 := hmem.out r0 (List.mem_of_getElem? hx0)
    rw [Nat.add_zero, ← hw0] at d0
    rw [← hw0] at ha0
    have hst1 := stack_of (R := [r0]) (m := m2) (fun r hr => by simp at hr; subst hr; exact ⟨hr0.1, hw0.symm⟩) ⟨m1, m20⟩ (by simp)
    have KS := implSum_any A1 n1 c1 R
    have KS := Lib.hid (fun W h1 => implSum_any A1 n1 c1 R W h1 (by omega) hR'.out)
    have KM := Lib.hid (fun W h1 => implMean_any A1 1 c1 [r0] W h1 (by omega) (fun r hr => by simp at hr; subst hr; omega))
    rw [HB.out, show sumsR R = sums R m2 by unfold sumsR; rw [if_pos HB.out, HM.out]] at KS
    rw [hst1.1, show meansR [r0] = means [r0] m2 by unfold meansR; rw [if_pos hst1.1, hst1.2]] at KM
    have a51 := a5.take (k := 1) (by omega)
    rw [hR1] at a51
    have A0' := Lib.hid ha0
    have j1 : 1 ≤ c1 := by omega
    have j2 : (1 : Int) ≤ (c1 : Int) := by omega
    have j3 : (1 : Int) ≤ (n1 : Int) := by omega
    have in0 : (0 : Int) < (n1 : Int) := by omega
    subst e0
    clear hx0 hw0 hR1 hr0 hst1 ha0 K1
    go_wp2_with fail
    refine (KS.out _ a5).mono ?_
    rintro e w6 ⟨A6, m6, c6, rfl, o6, b6⟩
    have hm6 := o6.1
    rw [sums_length] at hm6
    obtain rfl := hm6
    have y6 := o6.arr II_length
    have a516 := (a51.below' b6).more b6.size
    have x56 := (x5.below' b6).more b6.size
    have b56 := b6
    clear o6 b6 a51 x5 KS
    go_wp2_with fail
    refine (KM.out _ a516).mono ?_
    rintro e w7 ⟨A7, m7, c7, rfl, o7, b7⟩
    have hm7 := o7.1
    rw [means_length] at hm7
    obtain rfl := hm7
    have z7 := o7.arr PP_length
    have y67 := (y6.below' b7).more b7.size
    have x57 := (x56.below' b7).more b7.size
    have b57 := b56.trans (b7.mono b56.size)
    have B7 := B5.trans (b57.mono B5.size)
    have d7 := (b57.cell (by exact hb0)).trans d0
    have hb07 : b0 < w7.heap.size := Nat.lt_of_lt_of_le hb0 b57.size
    have A07 := Lib.hid ((A0'.out.below' b57).more b57.size)
    clear o7 b7 b56 b57 a516 x56 y6 KM d0 A0' B5 a5
    go_wp2_with fail
    go_loopw [12] (fun k wr => ∃ j : Nat, j ≤ m2 ∧ k = .int .i64 j ∧ Below w7.heap.size w7 wr) (fun k _ => m2 - (intOf k).toNat)
    case atStart => exact ⟨0, Nat.zero_le _, rfl, Below.refl _ _⟩
    case round =>
      obtain ⟨j, hj, rfl, hb⟩ := hrel
      have d7' := (hb.cell (by exact hb07)).trans d7
      by_cases hjm : j < m2
      · obtain ⟨b3, off3, S, D, rfl, hb3, hx3, c3, c4⟩ := x57.pair hjm
        obtain ⟨b4, off4, SS, rfl, hb4, hx4, c5⟩ := y67.int hjm
        obtain ⟨b6, off6, S', D', rfl, hb6, hx6, c8, c9⟩ := z7.pair hjm
        obtain ⟨b8, off8, X, rfl, hb8, hx8, c10⟩ := A07.out.int hjm
        rw [means_get R hjm, hln.out] at hx3
        rw [sums_get R hjm] at hx4
        rw [means_get [r0] hjm] at hx6
        injection hx3 with hx3
        injection hx4 with hx4
        injection hx6 with hx6
        have hx6' : (X, (1 : Int)) = (S', D') := by rw [← hx6, ← at0_of hx8]; simp [sumAt, fr_one]
        injection hx6' with hX hD
        have sb := hsb.out j
        rw [hx4] at hx3 sb
        have hbd := fr_bd (a := SS) (b := n1) (L := 60000) (by omega) sb.1 sb.2
        have hlow := fr_low (a := SS) (b := (n1 : Int)) (by omega)
        have htm := fr_times (a := SS) (n := (n1 : Int)) (by omega)
        rw [hx3] at hbd hlow htm
        simp only at hbd hlow htm
        obtain ⟨S1, S2, D1, D2⟩ := hbd
        have Sn : -1000000 ≤ S * (n1 : Int) ∧ S * (n1 : Int) ≤ 1000000 := by
          have a1 := Int.mul_le_mul_of_nonneg_right S2 (show 0 ≤ (n1 : Int) by omega)
          have a2 := Int.mul_le_mul_of_nonneg_right S1 (show 0 ≤ (n1 : Int) by omega)
          omega
        have FM := fun W => implFracMul_any S D n1 1 W (by omega) (by omega) (by omega) (by omega) hlow (by omega) (by omega) (by simp)
        rw [htm] at FM
        have FM' := Lib.hid FM
        have c3r := (hb.cell (by exact hb3)).trans c3
        have c4r := (hb.cell (by exact hb3)).trans c4
        have P5 := Lib.hid ((hb.cell (by exact hb4)).trans c5)
        have P8 := Lib.hid ((hb.cell (by exact hb6)).trans c8)
        have P9 := Lib.hid ((hb.cell (by exact hb6)).trans c9)
        have P10 := Lib.hid ((hb.cell (by exact hb8)).trans c10)
        have P7 := Lib.hid d7'
        have hsz := hb.size
        have i1 : (j : Int) < (m2 : Int) := by omega
        have i0 : (0 : Int) ≤ (j : Int) := by omega
        subst hX; subst hD
        clear FM htm hlow hx3 hx4 hx6 hx8 sb c3 c4 c5 c8 c9 c10 d7'
        go_wp2_with fail
        go_region_held3 (fun w' => w'.cell? ⟨b3, off3 + j * 2, none⟩ = some (.int .i64 S) ∧ w'.cell? ⟨b3, off3 + j * 2 + 1, none⟩ = some (.int .i64 D)) (first | (go_keep; done) | (refine keep2 (C := w7.heap.size) ⟨c3r, c4r⟩ ?_ hb3; first | (go_grown; done) | (exact (S9.setCell (p := ⟨wr.heap.size, 0, none⟩) hsz _).setCell (p := ⟨wr.heap.size, 1, none⟩) hsz _) | (exact (S9.setCell (p := ⟨w8.heap.size, 0, none⟩) (Nat.le_trans hsz z8) _).setCell (p := ⟨w8.heap.size, 1, none⟩) (Nat.le_trans hsz z8) _)) | (refine keep1 (C := w7.heap.size) c3r hb3 ?_; go_grown; done) | (refine keep1 (C := w7.heap.size) c4r hb3 ?_; go_grown; done) | (refine ⟨keep1 (C := w7.heap.size) c3r hb3 ?_, keep1 (C := w7.heap.size) c4r hb3 ?_⟩ <;> (go_grown; done))) (first
          | (go_at_call 36; refine (frac_any _ wr.drew).mono ?_; rintro e w8 ⟨rfl, b8'⟩; have S8 : Below w7.heap.size wr w8 := (Below.refl w7.heap.size wr).drew.trans (b8'.mono hsz); have z8 := S8.size)
          | (go_at_call 36; refine (frac_any _ (wr.drew.alloc (.cells #[.int .i64 0, .int .i64 0] 45))).mono ?_; rintro e wa ⟨rfl, b8'⟩; have Sa : Below w7.heap.size wr wa := (((Below.refl w7.heap.size wr).drew).alloc hsz (.cells #[.int .i64 0, .int .i64 0] 45)).trans (b8'.mono (by simp; omega)); have z8 := Sa.size; obtain ⟨n0, n1', nf0, nf1⟩ := two_atD b8' (by simp); have hq8 : wr.heap.size < wa.heap.size := by have := b8'.size; simp at this; omega)
          | (go_at_call 37; refine (FM'.out w8).mono ?_; rintro e w9 ⟨rfl, b9'⟩; have S9 : Below w7.heap.size wr w9 := S8.trans (b9'.mono (Nat.le_trans hsz S8.size)); have z9 := b9'.size)
          | (go_at_call 37; refine (FM'.out (w8.alloc (.cells #[.int .i64 0, .int .i64 0] 45))).mono ?_; rintro e w9 ⟨rfl, b9'⟩; have S9 : Below w7.heap.size wr w9 := (S8.alloc (Nat.le_trans hsz S8.size) (.cells #[.int .i64 0, .int .i64 0] 45)).trans (b9'.mono (by have := S8.size; simp; omega)); have z9 := b9'.size; obtain ⟨n0, n1', nf0, nf1⟩ := two_at (w := w8) b9' (by simp))
          | (go_at_call 37; refine (FM'.out wa).mono ?_; rintro e w9 ⟨rfl, b9'⟩; have S9 : Below w7.heap.size wr w9 := Sa.trans (b9'.mono (Nat.le_trans hsz Sa.size)); have z9 := b9'.size; obtain ⟨m0, m1', mf0, mf1⟩ := two_keep ⟨n0, n1', nf0, nf1⟩ b9' hq8))
        · have Q0 : (w9.alloc (.cells #[.int .i64 SS, .int .i64 1] 45)).cell? ⟨w9.heap.size, 0, none⟩ = some (.int .i64 SS) := (new_two w9 _ _ _).1
          have Q1 : (w9.alloc (.cells #[.int .i64 SS, .int .i64 1] 45)).cell? ⟨w9.heap.size, 1, none⟩ = some (.int .i64 1) := (new_two w9 _ _ _).2
          have BW : Below w7.heap.size wr (w9.alloc (.cells #[.int .i64 SS, .int .i64 1] 45)) := S9.alloc (by omega) _
          have PL : w9.heap.size < (w9.alloc (.cells #[.int .i64 SS, .int .i64 1] 45)).heap.size := by simp
          generalize w9.alloc (.cells #[.int .i64 SS, .int .i64 1] 45) = wz at Q0 Q1 BW PL ⊢
          generalize w9.heap.size = gz at Q0 Q1 PL ⊢
          have BZ := hb.trans BW
          have hzz := BZ.size
          have D0 := Later.cell (w0 := wz) (B := wz.heap.size) (by exact PL) Q0
          have D1' := Later.cell (w0 := wz) (B := wz.heap.size) (by exact PL) Q1
          have D2' := Later.cell (w0 := wz) (B := wz.heap.size) (by exact Nat.lt_of_lt_of_le hb4 hzz) ((BW.cell (by exact hb4)).trans P5.out)
          have D3' := Later.cell (w0 := wz) (B := wz.heap.size) (by exact Nat.lt_of_lt_of_le hb6 hzz) ((BW.cell (by exact hb6)).trans P8.out)
          have D4' := Later.cell (w0 := wz) (B := wz.heap.size) (by exact Nat.lt_of_lt_of_le hb6 hzz) ((BW.cell (by exact hb6)).trans P9.out)
          have D5' := Later.cell (w0 := wz) (B := wz.heap.size) (by exact Nat.lt_of_lt_of_le hb8 hzz) ((BW.cell (by exact hb8)).trans P10.out)
          have D6' := Later.cell (w0 := wz) (B := wz.heap.size) (by exact Nat.lt_of_lt_of_le hb07 hzz) ((BW.cell (by exact hb07)).trans P7.out)
          have g1 : ((m2 : Int) != (m2 : Int)) = false := by simp
          have g2 : (SS != SS) = false := by simp
          have g3 : (X != X) = false := by simp
          clear Q0 Q1 P5 P8 P9 P10 P7 S9 b9'
          go_wp2_with fail
          refine wp_region_under (B := wz.heap.size) (w0 := wz) (by kernel_rfl) (by kernel_rfl) (Below.refl _ _) ?_
          repeat (go_big_quiet_step ((go_at_call 36; exact Calls.under (Nat.le_refl _) (frac_any _ _))))
          refine wpQuiet_nil ?_
          rintro wy ⟨u, hu⟩
          have BY := BZ.trans ((show Below wz.heap.size wz wy by rw [hu]; exact u.2).mono hzz)
          clear hu u D0 D1' D2' D3' D4' D5' D6' g1 g2 g3
          go_wp2
          go_roundw
          case rel => exact ⟨j + 1, by omega, by go_num, BY⟩
          case measure => simp [intOf]; omega
        · have Q0 : ((w9.setCell ⟨w8.heap.size, 0, none⟩ (.int .i64 SS)).setCell ⟨w8.heap.size, 1, none⟩ (.int .i64 1)).cell? ⟨w8.heap.size, 0, none⟩ = some (.int .i64 SS) := (set_two n0 n1').1
          have Q1 : ((w9.setCell ⟨w8.heap.size, 0, none⟩ (.int .i64 SS)).setCell ⟨w8.heap.size, 1, none⟩ (.int .i64 1)).cell? ⟨w8.heap.size, 1, none⟩ = some (.int .i64 1) := (set_two n0 n1').2
          have BW : Below w7.heap.size wr ((w9.setCell ⟨w8.heap.size, 0, none⟩ (.int .i64 SS)).setCell ⟨w8.heap.size, 1, none⟩ (.int .i64 1)) := (S9.setCell (p := ⟨w8.heap.size, 0, none⟩) (Nat.le_trans hsz z8) _).setCell (p := ⟨w8.heap.size, 1, none⟩) (Nat.le_trans hsz z8) _
          have PL : w8.heap.size < ((w9.setCell ⟨w8.heap.size, 0, none⟩ (.int .i64 SS)).setCell ⟨w8.heap.size, 1, none⟩ (.int .i64 1)).heap.size := by have := z9; simp [World.setCell] at this ⊢; omega
          generalize (w9.setCell ⟨w8.heap.size, 0, none⟩ (.int .i64 SS)).setCell ⟨w8.heap.size, 1, none⟩ (.int .i64 1) = wz at Q0 Q1 BW PL ⊢
          generalize w8.heap.size = gz at Q0 Q1 PL ⊢
          have BZ := hb.trans BW
          have hzz := BZ.size
          have D0 := Later.cell (w0 := wz) (B := wz.heap.size) (by exact PL) Q0
          have D1' := Later.cell (w0 := wz) (B := wz.heap.size) (by exact PL) Q1
          have D2' := Later.cell (w0 := wz) (B := wz.heap.size) (by exact Nat.lt_of_lt_of_le hb4 hzz) ((BW.cell (by exact hb4)).trans P5.out)
          have D3' := Later.cell (w0 := wz) (B := wz.heap.size) (by exact Nat.lt_of_lt_of_le hb6 hzz) ((BW.cell (by exact hb6)).trans P8.out)
          have D4' := Later.cell (w0 := wz) (B := wz.heap.size) (by exact Nat.lt_of_lt_of_le hb6 hzz) ((BW.cell (by exact hb6)).trans P9.out)
          have D5' := Later.cell (w0 := wz) (B := wz.heap.size) (by exact Nat.lt_of_lt_of_le hb8 hzz) ((BW.cell (by exact hb8)).trans P10.out)
          have D6' := Later.cell (w0 := wz) (B := wz.heap.size) (by exact Nat.lt_of_lt_of_le hb07 hzz) ((BW.cell (by exact hb07)).trans P7.out)
          have g1 : ((m2 : Int) != (m2 : Int)) = false := by simp
          have g2 : (SS != SS) = false := by simp
          have g3 : (X != X) = false := by simp
          clear Q0 Q1 P5 P8 P9 P10 P7 S9 b9'
          go_wp2_with fail
          refine wp_region_under (B := wz.heap.size) (w0 := wz) (by kernel_rfl) (by kernel_rfl) (Below.refl _ _) ?_
          repeat (go_big_quiet_step ((go_at_call 36; exact Calls.under (Nat.le_refl _) (frac_any _ _))))
          refine wpQuiet_nil ?_
          rintro wy ⟨u, hu⟩
          have BY := BZ.trans ((show Below wz.heap.size wz wy by rw [hu]; exact u.2).mono hzz)
          clear hu u D0 D1' D2' D3' D4' D5' D6' g1 g2 g3
          go_wp2
          go_roundw
          case rel => exact ⟨j + 1, by omega, by go_num, BY⟩
          case measure => simp [intOf]; omega
        · have Q0 : ((w9.setCell ⟨wr.heap.size, 0, none⟩ (.int .i64 SS)).setCell ⟨wr.heap.size, 1, none⟩ (.int .i64 1)).cell? ⟨wr.heap.size, 0, none⟩ = some (.int .i64 SS) := (set_two m0 m1').1
          have Q1 : ((w9.setCell ⟨wr.heap.size, 0, none⟩ (.int .i64 SS)).setCell ⟨wr.heap.size, 1, none⟩ (.int .i64 1)).cell? ⟨wr.heap.size, 1, none⟩ = some (.int .i64 1) := (set_two m0 m1').2
          have BW : Below w7.heap.size wr ((w9.setCell ⟨wr.heap.size, 0, none⟩ (.int .i64 SS)).setCell ⟨wr.heap.size, 1, none⟩ (.int .i64 1)) := (S9.setCell (p := ⟨wr.heap.size, 0, none⟩) hsz _).setCell (p := ⟨wr.heap.size, 1, none⟩) hsz _
          have PL : wr.heap.size < ((w9.setCell ⟨wr.heap.size, 0, none⟩ (.int .i64 SS)).setCell ⟨wr.heap.size, 1, none⟩ (.int .i64 1)).heap.size := by have := z9; simp [World.setCell] at this ⊢; omega
          generalize (w9.setCell ⟨wr.heap.size, 0, none⟩ (.int .i64 SS)).setCell ⟨wr.heap.size, 1, none⟩ (.int .i64 1) = wz at Q0 Q1 BW PL ⊢
          generalize wr.heap.size = gz at Q0 Q1 PL ⊢
          have BZ := hb.trans BW
          have hzz := BZ.size
          have D0 := Later.cell (w0 := wz) (B := wz.heap.size) (by exact PL) Q0
          have D1' := Later.cell (w0 := wz) (B := wz.heap.size) (by exact PL) Q1
          have D2' := Later.cell (w0 := wz) (B := wz.heap.size) (by exact Nat.lt_of_lt_of_le hb4 hzz) ((BW.cell (by exact hb4)).trans P5.out)
          have D3' := Later.cell (w0 := wz) (B := wz.heap.size) (by exact Nat.lt_of_lt_of_le hb6 hzz) ((BW.cell (by exact hb6)).trans P8.out)
          have D4' := Later.cell (w0 := wz) (B := wz.heap.size) (by exact Nat.lt_of_lt_of_le hb6 hzz) ((BW.cell (by exact hb6)).trans P9.out)
          have D5' := Later.cell (w0 := wz) (B := wz.heap.size) (by exact Nat.lt_of_lt_of_le hb8 hzz) ((BW.cell (by exact hb8)).trans P10.out)
          have D6' := Later.cell (w0 := wz) (B := wz.heap.size) (by exact Nat.lt_of_lt_of_le hb07 hzz) ((BW.cell (by exact hb07)).trans P7.out)
          have g1 : ((m2 : Int) != (m2 : Int)) = false := by simp
          have g2 : (SS != SS) = false := by simp
          have g3 : (X != X) = false := by simp
          clear Q0 Q1 P5 P8 P9 P10 P7 S9 b9'
          go_wp2_with fail
          refine wp_region_under (B := wz.heap.size) (w0 := wz) (by kernel_rfl) (by kernel_rfl) (Below.refl _ _) ?_
          repeat (go_big_quiet_step ((go_at_call 36; exact Calls.under (Nat.le_refl _) (frac_any _ _))))
          refine wpQuiet_nil ?_
          rintro wy ⟨u, hu⟩
          have BY := BZ.trans ((show Below wz.heap.size wz wy by rw [hu]; exact u.2).mono hzz)
          clear hu u D0 D1' D2' D3' D4' D5' D6' g1 g2 g3
          go_wp2
          go_roundw
          case rel => exact ⟨j + 1, by omega, by go_num, BY⟩
          case measure => simp [intOf]; omega
      · obtain rfl : j = m2 := by omega
        go_wp2
        go_ret
        exact ⟨rfl, B7.trans (hb.mono B7.size)⟩
end Go.Proofs.Ytfohfcpnhhiemaa
