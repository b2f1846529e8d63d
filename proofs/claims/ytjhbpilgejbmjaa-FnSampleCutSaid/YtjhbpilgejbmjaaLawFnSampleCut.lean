/-
  The walk of the law FnSampleCut.
-/
import Derived.Test.YtjhbpilgejbmjaaCutHead
import Derived.Test.YtjhbpilgejbmjaaWidths
import Derived.Test.YtjhbpilgejbmjaaHas
namespace Go.Proofs.Ytjhbpilgejbmjaa
open Go.RowKit
set_option linter.unusedSimpArgs false
set_option linter.unusedVariables false

set_option maxRecDepth 100000 in
set_option maxHeartbeats 2000000 in
theorem walk_FnSampleCut (w : World) (A : Option Addr) (n c : Nat) (l : List Int) (h : Arr BB 1 w w.heap.size A n l) (hby : ∀ x ∈ l, 0 ≤ x ∧ x ≤ 255) (hc : n ≤ c) :
    Calls Try.prog 8 #[.slice A n c] w fun e w' => e = .returned (.bool true) ∧ Below w.heap.size w w' := by
  have C := Lib.hid (DrawSampleCut_any A n c l w h hby hc)
  clear hby h
  by_cases hb : 1048576 < n
  · go_enter Try.func8, Try.ntmps8
    go_wp2_with fail
    go_ret
    exact ⟨rfl, Below.refl _ _⟩
  go_enter Try.func8, Try.ntmps8
  go_wp2_with fail
  refine C.out.mono ?_
  rintro e w1 ⟨A1, n1, c1, L, A2, n2, c2, O, kf, rfl, o1, hn1, o2, hn2, b1⟩
  clear C
  have hc1 := o1.cap
  have hc2 := o2.cap
  have a1 := o1.arr PP_length
  have a2 := o2.arr PP_length
  clear o1 o2
  cases hr : cutAll L O kf with
  | none =>
    have K1 := Lib.hid (fun W h1 h2 => @implCut_as A1 n1 c1 L A2 n2 c2 O kf W [] 0 false h1 hc1 (by omega) h2 (by omega) (by rw [hr]; rfl) (by rw [hr]; rfl) (by rw [hr]; rfl))
    have K2 := Lib.hid (fun W h1 h2 => @specCut_as A1 n1 c1 L A2 n2 c2 O kf W [] 0 false h1 hc1 (by omega) h2 (by omega) (by rw [hr]; rfl) (by rw [hr]; rfl) (by rw [hr]; rfl))
    clear hr
    go_wp2_with fail
    refine (K1.out _ a1 a2).mono ?_
    rintro e w2 ⟨A3, n3, c3, rfl, o3, b2⟩
    have B2 := b1.trans (b2.mono b1.size)
    have a1' := (a1.below' b2).more b2.size
    have a2' := (a2.below' b2).more b2.size
    have x3 := o3.arr II_length
    clear o3 a1 a2 b1 b2 K1
    go_wp2_with fail
    refine (K2.out _ a1' a2').mono ?_
    rintro e w3 ⟨A4, n4, c4, rfl, o4, b3⟩
    have B3 := B2.trans (b3.mono B2.size)
    have HS := Lib.hid (sameInts_later (c := c3) (c' := c4) ((x3.below' b3).more b3.size) (o4.arr II_length))
    clear o4 b3 B2 a1' a2' x3 K2
    go_wp2_with fail
    refine (HS.out _ (Below.refl _ _)).mono ?_
    rintro e w4 ⟨rfl, b4⟩
    go_wp2_with fail
    refine (HS.out _ b4).mono ?_
    rintro e w5 ⟨rfl, b5⟩
    clear b4
    go_wp2
    go_ret
    exact ⟨rfl, B3.trans (b5.mono B3.size)⟩
  | some q =>
    obtain ⟨xs, M⟩ := q
    obtain ⟨LF, hLF⟩ : ∃ z, z = lenOf M := ⟨_, rfl⟩
    have K1 := Lib.hid (fun W h1 h2 => @implCut_as A1 n1 c1 L A2 n2 c2 O kf W xs LF true h1 hc1 (by omega) h2 (by omega) (by rw [hr]; rfl) (by rw [hr, hLF]; rfl) (by rw [hr]; rfl))
    have K2 := Lib.hid (fun W h1 h2 => @specCut_as A1 n1 c1 L A2 n2 c2 O kf W xs LF true h1 hc1 (by omega) h2 (by omega) (by rw [hr]; rfl) (by rw [hr, hLF]; rfl) (by rw [hr]; rfl))
    obtain ⟨hB, hO, ⟨k0, k1⟩, hcut⟩ := cutAll_some hr
    have hF := Lib.hid ((coreB_iff L).1 hB).1
    have hall := Lib.hid ((ordersB_iff O).1 hO).1
    have hCut := Lib.hid hcut
    have HB := Lib.hid hB
    have HO := Lib.hid hO
    have HLF := Lib.hid hLF
    have hgd := cutW_good k0 (fun x hx => (widths_all hall.out x hx).1) hF.out hcut
    have hlen := cutW_len k0 (fun x hx => (widths_all hall.out x hx).1) hF.out hcut
    have hlb := lenOf_bd' hF.out
    have hlm := lenOf_bd' hgd.1
    have hw160 := widths_bd hall.out
    have hl2 := a2.1
    have hl1 := a1.1
    have LF0 : 0 ≤ LF := by omega
    have LF1 : LF ≤ 30000 := by omega
    have hX : xs.length ≤ 200 := by omega
    have hXW := Lib.hid hgd.2.2
    have HL1 := Lib.hid hl1
    have HL2 := Lib.hid hl2
    have hLen := Lib.hid hlen
    clear hr hB hO hcut hLF hgd hlen hlb hlm hw160 hl1 hl2
    go_wp2_with fail
    refine (K1.out _ a1 a2).mono ?_
    rintro e w2 ⟨A3, n3, c3, rfl, o3, b2⟩
    have B2 := b1.trans (b2.mono b1.size)
    have a1' := (a1.below' b2).more b2.size
    have a2' := (a2.below' b2).more b2.size
    have x3 := o3.arr II_length
    have hc3 := o3.cap
    have hn3 := o3.1
    clear o3 a1 a2 b1 b2
    go_wp2_with fail
    refine (K2.out _ a1' a2').mono ?_
    rintro e w3 ⟨A4, n4, c4, rfl, o4, b3⟩
    have B3 := B2.trans (b3.mono B2.size)
    have a1 := (a1'.below' b3).more b3.size
    have a2 := (a2'.below' b3).more b3.size
    have x3' := (x3.below' b3).more b3.size
    have HS := Lib.hid (sameInts_later (c := c3) (c' := c4) x3' (o4.arr II_length))
    clear o4 b3 B2 a1' a2' x3 K2
    go_wp2_with fail
    refine (HS.out _ (Below.refl _ _)).mono ?_
    rintro e w5 ⟨rfl, b5⟩
    have B5 := B3.trans (b5.mono B3.size)
    have a15 := (a1.below' b5).more b5.size
    have a25 := (a2.below' b5).more b5.size
    have x35 := (x3'.below' b5).more b5.size
    clear HS B3 b5 a1 a2 x3'
    obtain rfl : xs.length = n3 := hn3
    have W5 := Lib.hid (widthsOf_any A2 n2 c2 O _ a25 hall.out (by omega))
    have TO := Lib.hid (cutW_tops k0 (fun x hx => (widths_all hall.out x hx).1) (subC_refl L) hF.out hCut.out).1
    have hwm := Lib.hid (widths_all hall.out)
    go_wp2_with fail
    refine W5.out.mono ?_
    rintro e w6 ⟨A6, c6, rfl, o6, b6⟩
    have B6 := B5.trans (b6.mono B5.size)
    have a16 := (a15.below' b6).more b6.size
    have x36 := (x35.below' b6).more b6.size
    have x6 := o6.arr II_length
    obtain ⟨W, hW⟩ : ∃ W, W = widths O := ⟨_, rfl⟩
    have hWl : xs.length = W.length := by rw [hW]; exact hXW.out
    rw [← hW] at x6 hwm TO ⊢
    rw [← hWl] at x6 ⊢
    obtain ⟨N, hN⟩ : ∃ N, N = xs.length := ⟨_, rfl⟩
    rw [← hN] at x6 x36 hX hc3 ⊢
    have HN := Lib.hid hN
    clear o6 b6 a15 a25 x35 B5 W5 hW hWl hN K1
    go_wp2
    go_loopw [13] (fun i wr => ∃ k : Nat, k ≤ N ∧ i = .int .i64 k ∧ Below w6.heap.size w6 wr) (fun i _ => N - (intOf i).toNat)
    case atStart => exact ⟨0, Nat.zero_le _, rfl, Below.refl _ _⟩
    case round =>
      obtain ⟨k, hk, rfl, hb⟩ := hrel
      by_cases hlt : k < N
      · obtain ⟨b, off, x, rfl, hbB, hx, g1⟩ := x36.int hlt
        obtain ⟨b', off', wv, rfl, hbB', hwv, g2⟩ := x6.int hlt
        obtain ⟨⟨p1, p2⟩, hp, hp1, hp2, hnext⟩ := TO.out k x wv hx hwv
        have hp1 : p1 ≤ x := hp1
        have hp2 : x + wv ≤ p2 := hp2
        obtain ⟨j, hj⟩ := List.mem_iff_getElem?.1 hp
        have hw1 := hwm.out wv (List.mem_of_getElem? hwv)
        have hpm := coreFrom_mem hF.out _ hp
        have hpz : (0 : Int) ≤ p1 := hpm.1
        have hpy : p2 ≤ 30000 := hpm.2.2
        have hasE : hasR L x = j := by
          unfold hasR
          rw [if_pos HB.out, hasAt_some hF.out hj ⟨hp1, by show x < p2; omega⟩, Nat.zero_add]
        have hjn : j < n1 := by have := (List.getElem?_eq_some_iff.1 hj).1; rw [HL1.out] at this; exact this
        obtain ⟨b2, off2, q1, q2, rfl, hbB2, hj', g3, g4⟩ := a16.pair hjn
        rw [hj] at hj'
        simp only [Option.some.injEq, Prod.mk.injEq] at hj'
        obtain ⟨rfl, rfl⟩ := hj'
        have K := implHas_any (some ⟨b2, off2, none⟩) n1 c1 L x wr ((a16.below' hb).more hb.size) (by omega)
        rw [hasE] at K
        have K' := Lib.hid K
        have g1' := (hb.cell (by exact hbB)).trans g1
        have HNX := Lib.hid hnext
        have HXX := Lib.hid hx
        have HJ := Lib.hid hj
        clear hx hwv hnext hp hj hpm hasE K
        go_wp2_with fail
        refine K'.out.mono ?_
        rintro e w7 ⟨rfl, hb7⟩
        have B7 := hb.trans (hb7.mono hb.size)
        have d1 := (B7.cell (by exact hbB)).trans g1
        have d2 := (B7.cell (by exact hbB')).trans g2
        have d4 := (B7.cell (by exact hbB2)).trans g4
        have i1 : (k : Int) < (N : Int) := by omega
        have i2 : (0 : Int) ≤ (k : Int) := by omega
        have i3 : (j : Int) < (n1 : Int) := by omega
        have i4 : (0 : Int) ≤ (j : Int) := by omega
        have BE : 0 ≤ x + wv ∧ x + wv ≤ 4611686018427387904 := by omega
        have BE2 : 0 ≤ x + wv + kf ∧ x + wv + kf ≤ 4611686018427387904 := by omega
        have BE0 : 0 ≤ (k : Int) + 1 ∧ (k : Int) + 1 ≤ 4611686018427387904 := by omega
        have f1 : ((N : Int) != (N : Int)) = false := by simp
        have f2 : decide ((j : Int) < 0) = false := decide_eq_false (by omega)
        have f3 : decide (p2 < x + wv) = false := decide_eq_false (by omega)
        have f4 : decide (x + wv > p2) = false := decide_eq_false (by omega)
        have FB := Lib.hid (And.intro BE (And.intro BE2 BE0))
        clear BE BE2 BE0
        have e1 : wrap64 (x + wv) = x + wv := w64 FB.out.1
        clear g1' hb7 hb K'
        go_wp2_with fail
        go_quiet (fail)
        have B8 := below_drewN B7 nq
        have d1' : (w7.drewN nq).cell? ⟨b, off + k, none⟩ = some (.int .i64 x) := d1
        have d2' : (w7.drewN nq).cell? ⟨b', off' + k, none⟩ = some (.int .i64 wv) := d2
        have d4' : (w7.drewN nq).cell? ⟨b2, off2 + j * 2 + 1, none⟩ = some (.int .i64 p2) := d4
        have D1 := Lib.hid d1'
        have D2 := Lib.hid d2'
        have D4 := Lib.hid d4'
        clear d1 d2 d4 e1 f1 f2 f3 f4 d1' d2' d4' B7
        generalize w7.drewN nq = w8 at B8 D1 D2 D4 ⊢
        have d1 := D1.out
        have d2 := D2.out
        have d4 := D4.out
        by_cases hlast : k + 1 < N
        · obtain ⟨b9, off9, y, e9, _, hy, g9⟩ := x36.int hlast
          injection e9 with e9
          injection e9 with e91 e92
          subst e91; subst e92
          have hny := HNX.out y hy
          have hny' : min p2 (x + wv + kf) ≤ y := hny
          have d9 : w8.cell? ⟨b, off + (k + 1), none⟩ = some (.int .i64 y) := (B8.cell (by exact hbB)).trans g9
          have d9' : w8.cell? ⟨b, off + k + 1, none⟩ = some (.int .i64 y) := d9
          have f1 : decide ((k : Int) + 1 < (N : Int)) = true := decide_eq_true (by omega)
          have f1' : (k : Int) + 1 < (N : Int) := by omega
          rcases (show x + wv + kf < p2 ∨ p2 < x + wv + kf ∨ x + wv + kf = p2 by omega) with ht | ht | ht
          · have f5 : decide (y < x + wv + kf) = false := decide_eq_false (by omega)
            clear hny hny' hy g9
            have e0 : IntKind.i64.wrap ((k : Int) + 1) = (k : Int) + 1 := by rw [IntWalk.i64_left]; exact w64 FB.out.2.2
            have e1 : IntKind.i64.wrap (x + wv) = x + wv := by rw [IntWalk.i64_left]; exact w64 FB.out.1
            have e2 : IntKind.i64.wrap (x + wv + kf) = x + wv + kf := by rw [IntWalk.i64_left]; exact w64 FB.out.2.1
            have HX := Lib.hid hX
            clear hc hb hn1 hn2 hc1 hc2 k0 k1 LF0 LF1 hc3 hX hk hbB hbB' hbB2 hp1 hp2 hw1 hpz hpy hjn g1 g2 g3 g4 x36 x6 a16
            go_wp2_with fail
            go_quiet (fail)
            have B9 := below_drewN B8 nq
            clear e0 e1 e2 f1 f5 d1 d2 d4 d9 d9'
            have hX := HX.out
            go_wp2
            go_roundw
            case rel => exact ⟨k + 1, by omega, by go_num, B9⟩
            case measure => simp [intOf]; omega
          · have f5 : decide (y < p2) = false := decide_eq_false (by omega)
            clear hny hny' hy g9
            have e0 : IntKind.i64.wrap ((k : Int) + 1) = (k : Int) + 1 := by rw [IntWalk.i64_left]; exact w64 FB.out.2.2
            have e1 : IntKind.i64.wrap (x + wv) = x + wv := by rw [IntWalk.i64_left]; exact w64 FB.out.1
            have e2 : IntKind.i64.wrap (x + wv + kf) = x + wv + kf := by rw [IntWalk.i64_left]; exact w64 FB.out.2.1
            have HX := Lib.hid hX
            clear hc hb hn1 hn2 hc1 hc2 k0 k1 LF0 LF1 hc3 hX hk hbB hbB' hbB2 hp1 hp2 hw1 hpz hpy hjn g1 g2 g3 g4 x36 x6 a16
            go_wp2_with fail
            go_quiet (fail)
            have B9 := below_drewN B8 nq
            clear e0 e1 e2 f1 f5 d1 d2 d4 d9 d9'
            have hX := HX.out
            go_wp2
            go_roundw
            case rel => exact ⟨k + 1, by omega, by go_num, B9⟩
            case measure => simp [intOf]; omega
          · have f5 : decide (y < p2) = false := decide_eq_false (by omega)
            have e2' := Lib.hid ht
            have ht1 : x + wv + kf ≤ p2 := by omega
            have ht2 : p2 ≤ x + wv + kf := by omega
            clear hny hny' hy g9
            have e0 : IntKind.i64.wrap ((k : Int) + 1) = (k : Int) + 1 := by rw [IntWalk.i64_left]; exact w64 FB.out.2.2
            have e1 : IntKind.i64.wrap (x + wv) = x + wv := by rw [IntWalk.i64_left]; exact w64 FB.out.1
            have e2 : IntKind.i64.wrap (x + wv + kf) = p2 := by rw [IntWalk.i64_left, w64 FB.out.2.1]; exact ht
            clear ht ht1 ht2
            have HX := Lib.hid hX
            clear hc hb hn1 hn2 hc1 hc2 k0 k1 LF0 LF1 hc3 hX hk hbB hbB' hbB2 hp1 hp2 hw1 hpz hpy hjn g1 g2 g3 g4 x36 x6 a16
            go_wp2_with fail
            go_quiet (fail)
            have B9 := below_drewN B8 nq
            clear e0 e1 e2 f1 f5 d1 d2 d4 d9 d9'
            have hX := HX.out
            go_wp2
            go_roundw
            case rel => exact ⟨k + 1, by omega, by go_num, B9⟩
            case measure => simp [intOf]; omega
        · have f1 : decide ((k : Int) + 1 < (N : Int)) = false := decide_eq_false (by omega)
          have e0 : IntKind.i64.wrap ((k : Int) + 1) = (k : Int) + 1 := by rw [IntWalk.i64_left]; exact w64 FB.out.2.2
          clear d1 d2 d4
          go_wp2_with fail
          go_quiet (fail)
          have B9 := below_drewN B8 nq
          clear e0 f1
          go_wp2
          go_roundw
          case rel => exact ⟨k + 1, by omega, by go_num, B9⟩
          case measure => simp [intOf]; omega
      · obtain rfl : k = N := by omega
        go_wp2
        go_ret
        exact ⟨rfl, B6.trans (hb.mono B6.size)⟩
end Go.Proofs.Ytjhbpilgejbmjaa
