/-
  Contract: CoreJoin of the reference.
-/
import Derived.Test.YtefadlbfkhndfaaGreatDoorGJ
import Derived.BigQuiet
namespace Go.Proofs.YtefadlbfkhndfaaGreatDoor
open Go.RowKit
set_option linter.unusedSimpArgs false
set_option linter.unusedVariables false

/-- What the reference has joined so far. -/
def JoinSt2 (l : List Pc) (k : Nat) (out : List Pc) : Prop := (k = 0 ∧ out = []) ∨ ∃ done cur j q, out = done ++ [cur] ∧ k = j + 1 ∧ l[j]? = some q ∧ cur.2 = q.2 ∧ joinL l = done ++ joinAcc cur (l.drop k)

set_option maxRecDepth 100000 in
set_option maxHeartbeats 4000000 in
theorem specCoreJoin_any (A : Option Addr) (n c : Nat) (l : List Pc) (w : World) (h : Arr PP 2 w w.heap.size A n l) (hn : n ≤ 1000000) :
    Calls Tryz.prog 40 #[.slice A n c] w (RetPc 69 w (joinR l) (coreB l)) := by
  obtain ⟨i0, hi, hz0, hz1, hz2⟩ := info_parts infoPc
  have hln := Lib.hid h.1
  have C := specCoreValid_any A n c l (w.alloc (.cells #[] 69)) ((h.alloc (Nat.le_refl _) _).more (by simp)) (by omega)
  have hB0 := (Below.refl w.heap.size w).alloc (Nat.le_refl _) (.cells #[] 69)
  cases hB : coreB l with
  | false =>
    rw [hB] at C
    have C' := Lib.hid C
    have hL := Lib.hid (show joinR l = [] by unfold joinR; rw [hB]; rfl)
    have hM := Own.made PP 2 w w.heap.size 69 (Nat.le_refl _)
    clear C hB
    go_enter Tryz.func40, Tryz.ntmps40
    go_wp2_with (go_at_call 69; refine C'.out.mono ?_; rintro e w1 ⟨rfl, hb⟩)
    go_ret2
    rw [hL.out]
    exact ⟨_, _, _, rfl, hM.below hb (Nat.le_refl _), hB0.trans (hb.mono hB0.size)⟩
  | true =>
    rw [hB] at C
    have C' := Lib.hid C
    have hL := Lib.hid (show joinR l = joinL l by unfold joinR; rw [hB]; rfl)
    have h20 := ((coreB_iff l).1 hB).2
    rw [h.1] at h20
    have hM := Own.made PP 2 w w.heap.size 69 (Nat.le_refl _)
    clear C hB
    go_enter Tryz.func40, Tryz.ntmps40
    go_wp2_with (go_at_call 69; refine C'.out.mono ?_; rintro e w1 ⟨rfl, hb0⟩)
    have hM1 := hM.below hb0 (Nat.le_refl _)
    have hb1 := hB0.trans (hb0.mono hB0.size)
    clear C' hM hB0 hb0
    go_loopw [4, 5] (fun v i wr => ∃ (k : Nat) (out : List Pc), k ≤ n ∧ i = .int .i64 k ∧ out.length ≤ k ∧ Hid (JoinSt2 l k out) ∧ Own PP 2 wr w.heap.size 69 v out.length out ∧ Below w.heap.size w wr) (fun _ i _ => n - (intOf i).toNat)
    case atStart => exact ⟨0, [], Nat.zero_le _, rfl, Nat.le_refl _, .inl ⟨rfl, rfl⟩, hM1, hb1⟩
    case round =>
      obtain ⟨k, out, hk, rfl, hol, hst, hw, hb⟩ := hrel
      clear hM1 hb1
      by_cases hlt : k < n
      · obtain ⟨b, off, x, y, rfl, hbB, hx, c1, c2⟩ := h.pair hlt
        have HX := Lib.hid hx
        have hE := Lib.hid (drop_cons hx)
        have c1' := (hb.cell (by exact hbB)).trans c1
        have c2' := (hb.cell (by exact hbB)).trans c2
        have hbr : b < wr.heap.size := Nat.lt_of_lt_of_le hbB hb.size
        have ik : (k : Int) < (n : Int) := by omega
        clear c1 c2 hx
        obtain ⟨A4, cc, rfl, hcc, _⟩ := hw.form
        rcases hst.out with ⟨rfl, rfl⟩ | ⟨done, ⟨p, u⟩, j, ⟨qx, qy⟩, rfl, rfl, hq, hqu, hj⟩
        · have hnew : Hid (JoinSt2 l 1 [(x, y)]) := by
            refine .inr ⟨[], (x, y), 0, (x, y), rfl, rfl, HX.out, rfl, ?_⟩
            have e := hE.out
            rw [List.drop_zero] at e
            conv => lhs; rw [e]
            rfl
          clear hst hE HX
          simp only [List.length_nil] at hw hcc ⊢
          simp only [Nat.zero_mul, Nat.add_zero] at c1' c2'
          have E : ∀ q, Hid (Below w.heap.size w (wr.drewN q) ∧ Own PP 2 (wr.drewN q) w.heap.size 69 (.slice A4 0 cc) 0 [] ∧ (wr.drewN q).cell? ⟨b, off, none⟩ = some (.int .i64 x) ∧ (wr.drewN q).cell? ⟨b, off + 1, none⟩ = some (.int .i64 y)) := fun q => ⟨below_drewN hb q, hw.drewN q, c1', c2'⟩
          go_wp2_with fail
          go_quiet (fail)
          have Eq := (E nq).out
          clear E hw hb c1' c2'
          generalize wr.drewN nq = w4 at Eq ⊢
          obtain ⟨B4, O4, p0, p1⟩ := Eq
          go_wp2_with (at_builtin; refine wpList_append_own _ rfl _ _ 37 rfl w.heap.size 69 i0 (.agg #[.int .i64 0, .int .i64 0]) 2 16 Tryz.underlying37 hi hz0 hz1 hz2 rfl (by decide) _ _ _ rfl (O4.2.alloc _) ⟨w4.heap.size, 0, none⟩ 1 1 [.int .i64 x, .int .i64 y] rfl rfl ?d1 ?d2 ?d3 ?d4 ?d5 ?_)
          case d1 => exact cell_new2 _ _ _ _
          case d2 => exact one_PP _ _
          case d3 => unfold maxLen; omega
          case d4 => omega
          case d5 => have := B4.size; simp; omega
          intro v' w5 hown' hg5 _
          have O5 : Own PP 2 w5 w.heap.size 69 v' [(x, y)].length [(x, y)] := Own.snoc (l := []) rfl hown'
          have B5 := (B4.alloc B4.size (.cells #[.int .i64 x, .int .i64 y] 69)).grown hg5 (by have := B4.size; simp; omega) (fun g hg => (O4.2.lt g hg).1)
          clear hown' hg5 O4 B4
          go_wp2
          go_roundw
          case rel => exact ⟨1, [(x, y)], by omega, by go_num, by simp, hnew, O5, B5⟩
          case measure => simp [intOf]; omega
        · obtain ⟨b', off', x', y', e, hbB', hx1, c3, c4⟩ := h.pair (k := j) (by omega)
          injection e with e; injection e with e1 e2; subst e1; subst e2
          rw [hq] at hx1
          injection hx1 with hx1
          injection hx1 with h1 h2
          subst h1; subst h2
          obtain rfl : u = qy := hqu
          have c4' := (hb.cell (by exact hbB)).trans c4
          obtain ⟨m, hm⟩ : ∃ m, m = done.length := ⟨_, rfl⟩
          have hlen : (done ++ [(p, u)]).length = m + 1 := by simp [hm]
          rw [hlen] at hw hcc hol ⊢
          obtain ⟨g, c', e, hbg, hgl, hnc⟩ := hw.head (by omega)
          injection e with e1 e2 e3
          subst e1
          subst e3
          have hget : (done ++ [(p, u)])[m]? = some (p, u) := by rw [hm]; exact get_last done (p, u)
          have HM := Lib.hid hm
          have HG := Lib.hid hget
          have HJ := Lib.hid hj
          have i1 : (j : Int) < (n : Int) := by omega
          have i0' : (0 : Int) ≤ (j : Int) := by omega
          have E : ∀ q, Hid (Below w.heap.size w (wr.drewN q) ∧ Own PP 2 (wr.drewN q) w.heap.size 69 (.slice (some ⟨g, 0, none⟩) (m + 1) cc) (m + 1) (done ++ [(p, u)]) ∧ (wr.drewN q).cell? ⟨b, off + (j + 1) * 2, none⟩ = some (.int .i64 x) ∧ (wr.drewN q).cell? ⟨b, off + (j + 1) * 2 + 1, none⟩ = some (.int .i64 y)) := fun q => ⟨below_drewN hb q, hw.drewN q, c1', c2'⟩
          have d1 := c1'
          have d4 := c4'
          have g0 : decide ((0 : Int) < (j : Int) + 1) = true := decide_eq_true (by omega)
          have HN := Lib.hid (And.intro hol (And.intro hk (And.intro h20 (And.intro hlt (And.intro hnc hgl)))))
          have Bj : 0 ≤ (j : Int) ∧ (j : Int) ≤ 4611686018427387904 := by omega
          have wj : IntKind.i64.wrap (j : Int) = (j : Int) := IntWalk.i64_in _ ⟨by omega, by omega⟩
          have wj2 : IntKind.i64.wrap ((j : Int) + 1 - 1) = (j : Int) := by rw [show (j : Int) + 1 - 1 = (j : Int) by omega]; exact wj
          clear Bj hlen hcc hol hk h20 hlt hnc hgl hm hget hj hst c1' c2' c3 c4 c4' hb hw hq
          by_cases hux : u = x
          · subst hux
            have hnew : Hid (JoinSt2 l (j + 1 + 1) (done ++ [(p, y)])) := by
              refine .inr ⟨done, (p, y), j + 1, (u, y), rfl, rfl, HX.out, rfl, ?_⟩
              rw [HJ.out, hE.out, joinAcc, if_pos rfl]
            have g1 : (u == u) = true := by simp
            clear hE HX
            go_wp2_with fail
            go_quiet (fail)
            have Eq := (E nq).out
            clear E d1 d4 g1 g0 wj wj2
            generalize wr.drewN nq = w4 at Eq ⊢
            obtain ⟨B4, O4, p0, p1⟩ := Eq
            obtain ⟨hol, hk, h20, hlt, hnc, hgl⟩ := HN.out
            obtain ⟨q0, q1⟩ := O4.pairAt HG.out
            have f1 := O4.2.frozenAt (m * 2 + 1)
            have S := Lib.hid (O4.set1 HG.out y)
            rw [HM.out, set_last, ← HM.out] at S
            have BS := Lib.hid (B4.setCell (p := ⟨g, m * 2 + 1, none⟩) hbg (.int .i64 y))
            have m0 : (0 : Int) ≤ (m : Int) := by omega
            have m1 : (m : Int) < (m : Int) + 1 := by omega
            clear O4 B4
            go_wp2
            go_roundw
            case rel => exact ⟨j + 1 + 1, done ++ [(p, y)], by omega, by go_num, by simp [← HM.out]; omega, hnew, by rw [show (done ++ [(p, y)]).length = m + 1 by simp [HM.out]]; exact S.out, BS.out⟩
            case measure => simp [intOf]; omega
          · have hnew : Hid (JoinSt2 l (j + 1 + 1) ((done ++ [(p, u)]) ++ [(x, y)])) := by
              refine .inr ⟨done ++ [(p, u)], (x, y), j + 1, (x, y), rfl, rfl, HX.out, rfl, ?_⟩
              rw [HJ.out, hE.out, joinAcc, if_neg (by exact hux), List.append_assoc]
              rfl
            have g1 : (u == x) = false := by simp [hux]
            clear hE HX
            go_wp2_with fail
            go_quiet (fail)
            have Eq := (E nq).out
            clear E d1 d4 g1 g0 wj wj2
            generalize wr.drewN nq = w4 at Eq ⊢
            obtain ⟨B4, O4, p0, p1⟩ := Eq
            obtain ⟨hol, hk, h20, hlt, hnc, hgl⟩ := HN.out
            go_wp2_with (at_builtin; refine wpList_append_own _ rfl _ _ 37 rfl w.heap.size 69 i0 (.agg #[.int .i64 0, .int .i64 0]) 2 16 Tryz.underlying37 hi hz0 hz1 hz2 rfl (by decide) _ _ _ rfl (O4.2.alloc _) ⟨w4.heap.size, 0, none⟩ 1 1 [.int .i64 x, .int .i64 y] rfl rfl ?d1 ?d2 ?d3 ?d4 ?d5 ?_)
            case d1 => exact cell_new2 _ _ _ _
            case d2 => exact one_PP _ _
            case d3 => unfold maxLen; omega
            case d4 => omega
            case d5 => have := B4.size; simp; omega
            intro v' w5 hown' hg5 _
            have O5 : Own PP 2 w5 w.heap.size 69 v' ((done ++ [(p, u)]) ++ [(x, y)]).length ((done ++ [(p, u)]) ++ [(x, y)]) := by
              have := Own.snoc' (f := PP) (x := (x, y)) O4.1 (by simp [PP]) hown'
              rw [show ((done ++ [(p, u)]) ++ [(x, y)]).length = m + 1 + 1 by simp [HM.out]]
              exact this
            have B5 := (B4.alloc B4.size (.cells #[.int .i64 x, .int .i64 y] 69)).grown hg5 (by have := B4.size; simp; omega) (fun g hg => (O4.2.lt g hg).1)
            clear hown' hg5 O4 B4
            go_wp2
            go_roundw
            case rel => exact ⟨j + 1 + 1, _, by omega, by go_num, by simp [← HM.out]; omega, hnew, O5, B5⟩
            case measure => simp [intOf]; omega
      · have hE := drop_end (l := l) (k := k) (by rw [hln.out]; omega)
        have hfin : Hid (out = joinR l) := by
          rw [hL.out]
          rcases hst.out with ⟨rfl, rfl⟩ | ⟨done, cur, j, q, rfl, rfl, _, _, hj⟩
          · rw [List.drop_zero] at hE; rw [hE]; rfl
          · rw [hj, hE]; rfl
        clear hE hst
        obtain ⟨A2, c2, rfl, _, _⟩ := hw.form
        go_wp2
        go_ret2
        exact retPc_yes hfin.out hw hb
end Go.Proofs.YtefadlbfkhndfaaGreatDoor
