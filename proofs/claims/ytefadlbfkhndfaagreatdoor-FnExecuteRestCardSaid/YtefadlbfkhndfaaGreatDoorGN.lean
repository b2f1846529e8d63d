/-
  What the texts below prove: contracts and plain laws, each with its conditions.
-/
import Derived.Test.YtefadlbfkhndfaaGreatDoorGD
import Derived.Test.YtefadlbfkhndfaaGreatDoorGB
import Derived.BigQuiet
import Derived.Test.YtefadlbfkhndfaaGreatDoorGJ
import Derived.Test.YtefadlbfkhndfaaGreatDoorGA
import Derived.Deep.RegionHeld3

/-
  Plain words on the piece that has a depth.
-/
namespace Go.Proofs.YtefadlbfkhndfaaGreatDoor
open Go.RowKit
set_option linter.unusedSimpArgs false
set_option linter.unusedVariables false

/-- The place of the piece that has a depth, if there is one and the list is a core. -/
def hasL (l : List Pc) (d : Int) : Option Nat := if coreB l = true then atL d l else none
def hasI : Option Nat → Int
  | some k => (k : Int)
  | none => -1
theorem atL_here {l : List Pc} {k : Nat} {x y d : Int} (hx : l[k]? = some (x, y)) (hb : ∀ p ∈ l.take k, holds d p = false) (h : x ≤ d ∧ d < y) : atL d l = some k := by
  unfold atL
  obtain ⟨hk, e⟩ := List.getElem?_eq_some_iff.1 hx
  rw [List.findIdx?_eq_some_iff_getElem]
  refine ⟨hk, by rw [e]; simpa [holds] using h, fun j hj => ?_⟩
  have := hb l[j] (List.mem_take_iff_getElem.2 ⟨j, by omega, rfl⟩)
  rw [this]; simp
theorem atL_not {l : List Pc} {d : Int} (hb : ∀ p ∈ l, holds d p = false) : atL d l = none := by
  unfold atL
  rw [List.findIdx?_eq_none_iff]
  exact hb
theorem notheld_step {l : List Pc} {k : Nat} {x y d : Int} (hx : l[k]? = some (x, y)) (hb : ∀ p ∈ l.take k, holds d p = false) (h : ¬ (x ≤ d ∧ d < y)) : ∀ p ∈ l.take (k + 1), holds d p = false := by
  intro p hp
  rw [take_snoc hx] at hp
  rcases List.mem_append.1 hp with hp | hp
  · exact hb p hp
  · rw [List.mem_singleton.1 hp]
    simpa [holds] using h
theorem hasL_some {l : List Pc} {d : Int} {k : Nat} (h : hasL l d = some k) : coreB l = true ∧ ∃ x y, l[k]? = some (x, y) ∧ x ≤ d ∧ d < y := by
  unfold hasL at h
  split at h
  · exact ⟨by assumption, atL_spec h⟩
  · cases h
theorem coreCutL_eq {l : List Pc} {d : Int} : coreCutL l d = match hasL l d with
    | some k => if (l[k]?.getD (0, 0)).1 = d ∨ l.length = 20 then none else some (l.take k ++ ((l[k]?.getD (0, 0)).1, d) :: (d, (l[k]?.getD (0, 0)).2) :: l.drop (k + 1))
    | none => none := by
  unfold coreCutL hasL
  split
  · cases atL d l <;> rfl
  · rfl
theorem coreCutL_none {l : List Pc} {d : Int} (h : hasL l d = none) : coreCutL l d = none := by rw [coreCutL_eq, h]
theorem coreCutL_no {l : List Pc} {d : Int} {k : Nat} {x y : Int} (h : hasL l d = some k) (hx : l[k]? = some (x, y)) (hn : x = d ∨ l.length = 20) : coreCutL l d = none := by
  rw [coreCutL_eq, h]
  simp only [hx, Option.getD_some]
  rw [if_pos hn]
theorem coreCutL_yes {l : List Pc} {d : Int} {k : Nat} {x y : Int} (h : hasL l d = some k) (hx : l[k]? = some (x, y)) (hn : ¬ (x = d ∨ l.length = 20)) : coreCutL l d = some (l.take k ++ (x, d) :: (d, y) :: l.drop (k + 1)) := by
  rw [coreCutL_eq, h]
  simp only [hx, Option.getD_some]
  rw [if_neg hn]
end Go.Proofs.YtefadlbfkhndfaaGreatDoor

/-
  Contract: CoreHas of the reference.
-/
namespace Go.Proofs.YtefadlbfkhndfaaGreatDoor
open Go.RowKit
set_option linter.unusedSimpArgs false
set_option linter.unusedVariables false

set_option maxRecDepth 100000 in
set_option maxHeartbeats 4000000 in
theorem specCoreHas_any (A : Option Addr) (n c : Nat) (l : List Pc) (d : Int) (w : World) (h : Arr PP 2 w w.heap.size A n l) (hn : n ≤ 1000000) :
    Calls Tryz.prog 66 #[.slice A n c, .int .i64 d] w fun e w' => e = .returned (.int .i64 (hasI (hasL l d))) ∧ Below w.heap.size w w' := by
  have hln := Lib.hid h.1
  have CV := Lib.hid (fun W (hW : Below w.heap.size w W) => specCoreValid_any A n c l W ((h.below hW (Nat.le_refl _)).more hW.size) (by omega))
  cases hB : coreB l with
  | false =>
    have hL : hasL l d = none := by unfold hasL; rw [if_neg (by simp [hB])]
    rw [hL]
    rw [hB] at CV
    clear hB hL
    go_enter Tryz.func66, Tryz.ntmps66
    go_wp2_with fail
    go_loopw [5] (fun i wr => i = .int .i64 0 ∧ Below w.heap.size w wr) (fun _ _ => 0)
    case atStart => exact ⟨rfl, Below.refl _ _⟩
    case round =>
      obtain ⟨rfl, hb⟩ := hrel
      by_cases h0 : n = 0
      · subst h0
        go_wp2
        go_ret
        exact ⟨rfl, hb⟩
      · have h1 : (0 : Int) < (n : Int) := by omega
        go_wp2_with (go_at_call 69; refine (CV.out _ hb).mono ?_; rintro e w' ⟨rfl, b2⟩)
        go_ret
        exact ⟨rfl, hb.trans (b2.mono hb.size)⟩
  | true =>
    have hL : hasL l d = atL d l := by unfold hasL; rw [if_pos hB]
    rw [hL]
    rw [hB] at CV
    clear hB hL
    go_enter Tryz.func66, Tryz.ntmps66
    go_wp2_with fail
    go_loopw [5] (fun i wr => ∃ k : Nat, k ≤ n ∧ i = .int .i64 k ∧ Hid (∀ p ∈ l.take k, holds d p = false) ∧ Below w.heap.size w wr) (fun i _ => n - (intOf i).toNat)
    case atStart => exact ⟨0, Nat.zero_le _, rfl, Lib.hid (fun p hp => by simp at hp), Below.refl _ _⟩
    case round =>
      obtain ⟨k, hk, rfl, hst, hb⟩ := hrel
      by_cases hlt : k < n
      · obtain ⟨bb, off, x, y, rfl, hbB, hx, c1, c2⟩ := h.pair hlt
        have HX := Lib.hid hx
        clear hx
        have ik : (k : Int) < (n : Int) := by omega
        have ik0 : (0 : Int) ≤ (k : Int) := by omega
        have CV2 : Hid (∀ W, Below w.heap.size w W → Calls Tryz.prog 69 #[.slice (some ⟨bb, off, none⟩) n c] W fun e w' => e = .returned (.bool true) ∧ Below w.heap.size w w' ∧ w'.cell? ⟨bb, off + k * 2, none⟩ = some (.int .i64 x) ∧ w'.cell? ⟨bb, off + k * 2 + 1, none⟩ = some (.int .i64 y)) := Lib.hid (fun W hW => (CV.out W hW).mono fun e w' ⟨he, h2⟩ => have hV := hW.trans (h2.mono hW.size); ⟨he, hV, (hV.cell (by exact hbB)).trans c1, (hV.cell (by exact hbB)).trans c2⟩)
        clear c1 c2 CV
        by_cases h1 : x ≤ d
        · by_cases h2 : d < y
          · have hf := Lib.hid (show atL d l = some k from atL_here HX.out hst.out ⟨h1, h2⟩)
            clear hst
            go_wp2_with (go_at_call 69; refine (CV2.out _ hb).mono ?_; rintro e w2 ⟨rfl, b2, c1, c2⟩)
            go_ret
            exact ⟨ret_int (by rw [hf.out]; rfl), b2⟩
          · have hf := Lib.hid (notheld_step HX.out hst.out (by omega : ¬ (x ≤ d ∧ d < y)))
            clear hst
            go_wp2_with (go_at_call 69; refine (CV2.out _ hb).mono ?_; rintro e w2 ⟨rfl, b2, c1, c2⟩)
            go_roundw
            case rel => exact ⟨k + 1, by omega, by go_num, hf, b2⟩
            case measure => simp [intOf]; omega
        · have hf := Lib.hid (notheld_step HX.out hst.out (by omega : ¬ (x ≤ d ∧ d < y)))
          clear hst
          go_wp2_with (go_at_call 69; refine (CV2.out _ hb).mono ?_; rintro e w2 ⟨rfl, b2, c1, c2⟩)
          go_roundw
          case rel => exact ⟨k + 1, by omega, by go_num, hf, b2⟩
          case measure => simp [intOf]; omega
      · obtain rfl : k = n := by omega
        have hf := Lib.hid (show atL d l = none from atL_not (by have := hst.out; rwa [List.take_of_length_le (by rw [hln.out]; exact Nat.le_refl _)] at this))
        clear hst
        go_wp2
        go_ret
        exact ⟨ret_int (by rw [hf.out]; rfl), hb⟩
end Go.Proofs.YtefadlbfkhndfaaGreatDoor

/-
  Contract: CoreJoin of the reference.
-/
namespace Go.Proofs.YtefadlbfkhndfaaGreatDoor
open Go.RowKit
set_option linter.unusedSimpArgs false
set_option linter.unusedVariables false

/-- What the reference has joined so far. -/
def JoinSt2 (l : List Pc) (k : Nat) (out : List Pc) : Prop := (k = 0 ∧ out = []) ∨ ∃ done cur j q, out = done ++ [cur] ∧ k = j + 1 ∧ l[j]? = some q ∧ cur.2 = q.2 ∧ joinL l = done ++ joinAcc cur (l.drop k)

set_option maxRecDepth 100000 in
set_option maxHeartbeats 4000000 in
theorem specCoreJoin_any (A : Option Addr) (n c : Nat) (l : List Pc) (w : World) (h : Arr PP 2 w w.heap.size A n l) (hn : n ≤ 1000000) :
    Calls Tryz.prog 40 #[.slice A n c] w (RetPc 69 w (joinR l) (coreB l)) := by
  obtain ⟨i0, hi, hz0, hz1, hz2⟩ := info_parts infoPc
  have hln := Lib.hid h.1
  have C := specCoreValid_any A n c l (w.alloc (.cells #[] 69)) ((h.alloc (Nat.le_refl _) _).more (by simp)) (by omega)
  have hB0 := (Below.refl w.heap.size w).alloc (Nat.le_refl _) (.cells #[] 69)
  cases hB : coreB l with
  | false =>
    rw [hB] at C
    have C' := Lib.hid C
    have hL := Lib.hid (show joinR l = [] by unfold joinR; rw [hB]; rfl)
    have hM := Own.made PP 2 w w.heap.size 69 (Nat.le_refl _)
    clear C hB
    go_enter Tryz.func40, Tryz.ntmps40
    go_wp2_with (go_at_call 69; refine C'.out.mono ?_; rintro e w1 ⟨rfl, hb⟩)
    go_ret2
    rw [hL.out]
    exact ⟨_, _, _, rfl, hM.below hb (Nat.le_refl _), hB0.trans (hb.mono hB0.size)⟩
  | true =>
    rw [hB] at C
    have C' := Lib.hid C
    have hL := Lib.hid (show joinR l = joinL l by unfold joinR; rw [hB]; rfl)
    have h20 := ((coreB_iff l).1 hB).2
    rw [h.1] at h20
    have hM := Own.made PP 2 w w.heap.size 69 (Nat.le_refl _)
    clear C hB
    go_enter Tryz.func40, Tryz.ntmps40
    go_wp2_with (go_at_call 69; refine C'.out.mono ?_; rintro e w1 ⟨rfl, hb0⟩)
    have hM1 := hM.below hb0 (Nat.le_refl _)
    have hb1 := hB0.trans (hb0.mono hB0.size)
    clear C' hM hB0 hb0
    go_loopw [4, 5] (fun v i wr => ∃ (k : Nat) (out : List Pc), k ≤ n ∧ i = .int .i64 k ∧ out.length ≤ k ∧ Hid (JoinSt2 l k out) ∧ Own PP 2 wr w.heap.size 69 v out.length out ∧ Below w.heap.size w wr) (fun _ i _ => n - (intOf i).toNat)
    case atStart => exact ⟨0, [], Nat.zero_le _, rfl, Nat.le_refl _, .inl ⟨rfl, rfl⟩, hM1, hb1⟩
    case round =>
      obtain ⟨k, out, hk, rfl, hol, hst, hw, hb⟩ := hrel
      clear hM1 hb1
      by_cases hlt : k < n
      · obtain ⟨b, off, x, y, rfl, hbB, hx, c1, c2⟩ := h.pair hlt
        have HX := Lib.hid hx
        have hE := Lib.hid (drop_cons hx)
        have c1' := (hb.cell (by exact hbB)).trans c1
        have c2' := (hb.cell (by exact hbB)).trans c2
        have hbr : b < wr.heap.size := Nat.lt_of_lt_of_le hbB hb.size
        have ik : (k : Int) < (n : Int) := by omega
        clear c1 c2 hx
        obtain ⟨A4, cc, rfl, hcc, _⟩ := hw.form
        rcases hst.out with ⟨rfl, rfl⟩ | ⟨done, ⟨p, u⟩, j, ⟨qx, qy⟩, rfl, rfl, hq, hqu, hj⟩
        · have hnew : Hid (JoinSt2 l 1 [(x, y)]) := by
            refine .inr ⟨[], (x, y), 0, (x, y), rfl, rfl, HX.out, rfl, ?_⟩
            have e := hE.out
            rw [List.drop_zero] at e
            conv => lhs; rw [e]
            rfl
          clear hst hE HX
          simp only [List.length_nil] at hw hcc ⊢
          simp only [Nat.zero_mul, Nat.add_zero] at c1' c2'
          have E : ∀ q, Hid (Below w.heap.size w (wr.drewN q) ∧ Own PP 2 (wr.drewN q) w.heap.size 69 (.slice A4 0 cc) 0 [] ∧ (wr.drewN q).cell? ⟨b, off, none⟩ = some (.int .i64 x) ∧ (wr.drewN q).cell? ⟨b, off + 1, none⟩ = some (.int .i64 y)) := fun q => ⟨below_drewN hb q, hw.drewN q, c1', c2'⟩
          go_wp2_with fail
          go_quiet (fail)
          have Eq := (E nq).out
          clear E hw hb c1' c2'
          generalize wr.drewN nq = w4 at Eq ⊢
          obtain ⟨B4, O4, p0, p1⟩ := Eq
          go_wp2_with (at_builtin; refine wpList_append_own _ rfl _ _ 37 rfl w.heap.size 69 i0 (.agg #[.int .i64 0, .int .i64 0]) 2 16 Tryz.underlying37 hi hz0 hz1 hz2 rfl (by decide) _ _ _ rfl (O4.2.alloc _) ⟨w4.heap.size, 0, none⟩ 1 1 [.int .i64 x, .int .i64 y] rfl rfl ?d1 ?d2 ?d3 ?d4 ?d5 ?_)
          case d1 => exact cell_new2 _ _ _ _
          case d2 => exact one_PP _ _
          case d3 => unfold maxLen; omega
          case d4 => omega
          case d5 => have := B4.size; simp; omega
          intro v' w5 hown' hg5 _
          have O5 : Own PP 2 w5 w.heap.size 69 v' [(x, y)].length [(x, y)] := Own.snoc (l := []) rfl hown'
          have B5 := (B4.alloc B4.size (.cells #[.int .i64 x, .int .i64 y] 69)).grown hg5 (by have := B4.size; simp; omega) (fun g hg => (O4.2.lt g hg).1)
          clear hown' hg5 O4 B4
          go_wp2
          go_roundw
          case rel => exact ⟨1, [(x, y)], by omega, by go_num, by simp, hnew, O5, B5⟩
          case measure => simp [intOf]; omega
        · obtain ⟨b', off', x', y', e, hbB', hx1, c3, c4⟩ := h.pair (k := j) (by omega)
          injection e with e; injection e with e1 e2; subst e1; subst e2
          rw [hq] at hx1
          injection hx1 with hx1
          injection hx1 with h1 h2
          subst h1; subst h2
          obtain rfl : u = qy := hqu
          have c4' := (hb.cell (by exact hbB)).trans c4
          obtain ⟨m, hm⟩ : ∃ m, m = done.length := ⟨_, rfl⟩
          have hlen : (done ++ [(p, u)]).length = m + 1 := by simp [hm]
          rw [hlen] at hw hcc hol ⊢
          obtain ⟨g, c', e, hbg, hgl, hnc⟩ := hw.head (by omega)
          injection e with e1 e2 e3
          subst e1
          subst e3
          have hget : (done ++ [(p, u)])[m]? = some (p, u) := by rw [hm]; exact get_last done (p, u)
          have HM := Lib.hid hm
          have HG := Lib.hid hget
          have HJ := Lib.hid hj
          have i1 : (j : Int) < (n : Int) := by omega
          have i0' : (0 : Int) ≤ (j : Int) := by omega
          have E : ∀ q, Hid (Below w.heap.size w (wr.drewN q) ∧ Own PP 2 (wr.drewN q) w.heap.size 69 (.slice (some ⟨g, 0, none⟩) (m + 1) cc) (m + 1) (done ++ [(p, u)]) ∧ (wr.drewN q).cell? ⟨b, off + (j + 1) * 2, none⟩ = some (.int .i64 x) ∧ (wr.drewN q).cell? ⟨b, off + (j + 1) * 2 + 1, none⟩ = some (.int .i64 y)) := fun q => ⟨below_drewN hb q, hw.drewN q, c1', c2'⟩
          have d1 := c1'
          have d4 := c4'
          have g0 : decide ((0 : Int) < (j : Int) + 1) = true := decide_eq_true (by omega)
          have HN := Lib.hid (And.intro hol (And.intro hk (And.intro h20 (And.intro hlt (And.intro hnc hgl)))))
          have Bj : 0 ≤ (j : Int) ∧ (j : Int) ≤ 4611686018427387904 := by omega
          have wj : IntKind.i64.wrap (j : Int) = (j : Int) := IntWalk.i64_in _ ⟨by omega, by omega⟩
          have wj2 : IntKind.i64.wrap ((j : Int) + 1 - 1) = (j : Int) := by rw [show (j : Int) + 1 - 1 = (j : Int) by omega]; exact wj
          clear Bj hlen hcc hol hk h20 hlt hnc hgl hm hget hj hst c1' c2' c3 c4 c4' hb hw hq
          by_cases hux : u = x
          · subst hux
            have hnew : Hid (JoinSt2 l (j + 1 + 1) (done ++ [(p, y)])) := by
              refine .inr ⟨done, (p, y), j + 1, (u, y), rfl, rfl, HX.out, rfl, ?_⟩
              rw [HJ.out, hE.out, joinAcc, if_pos rfl]
            have g1 : (u == u) = true := by simp
            clear hE HX
            go_wp2_with fail
            go_quiet (fail)
            have Eq := (E nq).out
            clear E d1 d4 g1 g0 wj wj2
            generalize wr.drewN nq = w4 at Eq ⊢
            obtain ⟨B4, O4, p0, p1⟩ := Eq
            obtain ⟨hol, hk, h20, hlt, hnc, hgl⟩ := HN.out
            obtain ⟨q0, q1⟩ := O4.pairAt HG.out
            have f1 := O4.2.frozenAt (m * 2 + 1)
            have S := Lib.hid (O4.set1 HG.out y)
            rw [HM.out, set_last, ← HM.out] at S
            have BS := Lib.hid (B4.setCell (p := ⟨g, m * 2 + 1, none⟩) hbg (.int .i64 y))
            have m0 : (0 : Int) ≤ (m : Int) := by omega
            have m1 : (m : Int) < (m : Int) + 1 := by omega
            clear O4 B4
            go_wp2
            go_roundw
            case rel => exact ⟨j + 1 + 1, done ++ [(p, y)], by omega, by go_num, by simp [← HM.out]; omega, hnew, by rw [show (done ++ [(p, y)]).length = m + 1 by simp [HM.out]]; exact S.out, BS.out⟩
            case measure => simp [intOf]; omega
          · have hnew : Hid (JoinSt2 l (j + 1 + 1) ((done ++ [(p, u)]) ++ [(x, y)])) := by
              refine .inr ⟨done ++ [(p, u)], (x, y), j + 1, (x, y), rfl, rfl, HX.out, rfl, ?_⟩
              rw [HJ.out, hE.out, joinAcc, if_neg (by exact hux), List.append_assoc]
              rfl
            have g1 : (u == x) = false := by simp [hux]
            clear hE HX
            go_wp2_with fail
            go_quiet (fail)
            have Eq := (E nq).out
            clear E d1 d4 g1 g0 wj wj2
            generalize wr.drewN nq = w4 at Eq ⊢
            obtain ⟨B4, O4, p0, p1⟩ := Eq
            obtain ⟨hol, hk, h20, hlt, hnc, hgl⟩ := HN.out
            go_wp2_with (at_builtin; refine wpList_append_own _ rfl _ _ 37 rfl w.heap.size 69 i0 (.agg #[.int .i64 0, .int .i64 0]) 2 16 Tryz.underlying37 hi hz0 hz1 hz2 rfl (by decide) _ _ _ rfl (O4.2.alloc _) ⟨w4.heap.size, 0, none⟩ 1 1 [.int .i64 x, .int .i64 y] rfl rfl ?d1 ?d2 ?d3 ?d4 ?d5 ?_)
            case d1 => exact cell_new2 _ _ _ _
            case d2 => exact one_PP _ _
            case d3 => unfold maxLen; omega
            case d4 => omega
            case d5 => have := B4.size; simp; omega
            intro v' w5 hown' hg5 _
            have O5 : Own PP 2 w5 w.heap.size 69 v' ((done ++ [(p, u)]) ++ [(x, y)]).length ((done ++ [(p, u)]) ++ [(x, y)]) := by
              have := Own.snoc' (f := PP) (x := (x, y)) O4.1 (by simp [PP]) hown'
              rw [show ((done ++ [(p, u)]) ++ [(x, y)]).length = m + 1 + 1 by simp [HM.out]]
              exact this
            have B5 := (B4.alloc B4.size (.cells #[.int .i64 x, .int .i64 y] 69)).grown hg5 (by have := B4.size; simp; omega) (fun g hg => (O4.2.lt g hg).1)
            clear hown' hg5 O4 B4
            go_wp2
            go_roundw
            case rel => exact ⟨j + 1 + 1, _, by omega, by go_num, by simp [← HM.out]; omega, hnew, O5, B5⟩
            case measure => simp [intOf]; omega
      · have hE := drop_end (l := l) (k := k) (by rw [hln.out]; omega)
        have hfin : Hid (out = joinR l) := by
          rw [hL.out]
          rcases hst.out with ⟨rfl, rfl⟩ | ⟨done, cur, j, q, rfl, rfl, _, _, hj⟩
          · rw [List.drop_zero] at hE; rw [hE]; rfl
          · rw [hj, hE]; rfl
        clear hE hst
        obtain ⟨A2, c2, rfl, _, _⟩ := hw.form
        go_wp2
        go_ret2
        exact retPc_yes hfin.out hw hb
end Go.Proofs.YtefadlbfkhndfaaGreatDoor

/-
  Contract: CoreCut of the reference.
-/
namespace Go.Proofs.YtefadlbfkhndfaaGreatDoor
open Go.RowKit
set_option linter.unusedSimpArgs false
set_option linter.unusedVariables false

theorem Own.litPP2 (w : World) (base : Nat) (T : TypeId) (x y x' y' : Int) (hb : base ≤ w.heap.size) : Own PP 2 (w.alloc (.cells #[.int .i64 x, .int .i64 y, .int .i64 x', .int .i64 y'] T)) base T (.slice (some ⟨w.heap.size, 0, none⟩) 2 2) 2 [(x, y), (x', y')] :=
  ⟨rfl, World.ownsRow_lit w #[.int .i64 x, .int .i64 y, .int .i64 x', .int .i64 y'] 2 hb (by unfold maxLen; omega) rfl⟩

set_option maxRecDepth 100000 in
set_option maxHeartbeats 8000000 in
theorem specCoreCut_any (A : Option Addr) (n c : Nat) (l : List Pc) (d : Int) (w : World) (h : Arr PP 2 w w.heap.size A n l) (hn : n ≤ 1000) (hc : n ≤ c) :
    Calls Tryz.prog 34 #[.slice A n c, .int .i64 d] w (RetPc 69 w ((coreCutL l d).getD []) (coreCutL l d).isSome) := by
  obtain ⟨i0, hi, hz0, hz1, hz2⟩ := info_parts infoPc
  have hln := Lib.hid h.1
  have C := specCoreHas_any A n c l d w h (by omega)
  cases hH : hasL l d with
  | none =>
    rw [hH] at C
    have C' := Lib.hid C
    rw [coreCutL_none hH]
    clear C hH
    go_enter Tryz.func34, Tryz.ntmps34
    go_wp2_with (go_at_call 66; refine C'.out.mono ?_; rintro e w1 ⟨rfl, hb⟩)
    all_goals first
      | (go_ret2
         exact ⟨_, _, _, rfl, Own.made PP 2 _ _ _ (by simpa using hb.size), hb.alloc hb.size _⟩)
      | skip
  | some k =>
    rw [hH] at C
    have C' := Lib.hid C
    obtain ⟨hcB, x, y, hx, hxd, hdy⟩ := hasL_some hH
    have hk : k < n := by rw [← h.1]; exact (List.getElem?_eq_some_iff.1 hx).1
    obtain ⟨b, off, x', y', rfl, hbB, hx', c1, c2⟩ := h.pair hk
    rw [hx] at hx'
    injection hx' with hx'
    injection hx' with h1 h2
    subst h1; subst h2
    have ik0 : ¬ ((k : Int) < 0) := by omega
    have ik1 : (0 : Int) ≤ (k : Int) := by omega
    have ik2 : (k : Int) < (n : Int) := by omega
    by_cases hno : x = d ∨ l.length = 20
    · rw [coreCutL_no hH hx hno]
      rw [hln.out] at hno
      have C2 : Hid (Calls Tryz.prog 66 #[.slice (some ⟨b, off, none⟩) n c, .int .i64 d] w fun e w' => e = .returned (.int .i64 (k : Int)) ∧ Below w.heap.size w w' ∧ w'.cell? ⟨b, off + k * 2, none⟩ = some (.int .i64 x)) := Lib.hid (C'.out.mono fun e w' ⟨he, hb⟩ => ⟨he, hb, (hb.cell (by exact hbB)).trans c1⟩)
      clear C C' hH hx hxd hdy hcB c1 c2
      rcases (show x = d ∨ (x ≠ d ∧ n = 20) by omega) with rfl | ⟨hne, rfl⟩
      · go_enter Tryz.func34, Tryz.ntmps34
        go_wp2_with (go_at_call 66; refine C2.out.mono ?_; rintro e w1 ⟨rfl, hb, c1⟩)
        go_ret2
        exact ⟨_, _, _, rfl, Own.made PP 2 _ _ _ (by simpa using hb.size), hb.alloc hb.size _⟩
      · have g1 : (x == d) = false := by simp [hne]
        go_enter Tryz.func34, Tryz.ntmps34
        go_wp2_with (go_at_call 66; refine C2.out.mono ?_; rintro e w1 ⟨rfl, hb, c1⟩)
        go_ret2
        exact ⟨_, _, _, rfl, Own.made PP 2 _ _ _ (by simpa using hb.size), hb.alloc hb.size _⟩
    · rw [coreCutL_yes hH hx hno]
      simp only [Option.getD_some, Option.isSome_some]
      rw [hln.out] at hno
      have hne : x ≠ d := fun e => hno (.inl e)
      have hn20 : n ≠ 20 := fun e => hno (.inr e)
      have g1 : (x == d) = false := by simp [hne]
      have g2 : ((n : Int) == 20) = false := by simp; omega
      have C2 : Hid (Calls Tryz.prog 66 #[.slice (some ⟨b, off, none⟩) n c, .int .i64 d] w fun e w' => e = .returned (.int .i64 (k : Int)) ∧ Below w.heap.size w w' ∧ w'.cell? ⟨b, off + k * 2, none⟩ = some (.int .i64 x)) := Lib.hid (C'.out.mono fun e w' ⟨he, hb⟩ => ⟨he, hb, (hb.cell (by exact hbB)).trans c1⟩)
      have HC1 := Lib.hid c1
      have HC2 := Lib.hid c2
      have kc : (k : Int) ≤ (c : Int) := by omega
      clear C C' hH hx hxd hdy hcB c1 c2 hno
      go_enter Tryz.func34, Tryz.ntmps34
      go_wp2_with (first
        | (go_at_call 66; refine C2.out.mono ?_; rintro e w1 ⟨rfl, hb, c1⟩
           have hM := Own.made PP 2 w1 w.heap.size 69 hb.size
           have hT := ((h.below hb (Nat.le_refl _)).take (k := k) (by omega)).alloc hb.size (.cells #[] 69)
           have hzz := hb.size)
        | (at_builtin; refine wpList_append_arr _ rfl _ _ 37 rfl w.heap.size 69 i0 (.agg #[.int .i64 0, .int .i64 0]) 2 16 Tryz.underlying37 hi hz0 hz1 hz2 rfl (by decide) PP_length one_PP' _ 0 [] rfl hM w.heap.size _ k c (l.take k) rfl hT (by unfold maxLen; omega) (by omega) (by simp; omega) ?_))
      intro v2 w2 hO hg _
      have B2 : Below w.heap.size w w2 := (hb.alloc hb.size (.cells #[] 69)).grown hg (by simp; omega) (fun j hj => (hM.2.lt j hj).1)
      try simp only [Nat.zero_add, List.nil_append] at hO
      obtain ⟨A3, c3, rfl, _, _⟩ := hO.form
      have d1 := (B2.cell (by exact hbB)).trans HC1.out
      have d2 := (B2.cell (by exact hbB)).trans HC2.out
      have hA2 := Lib.hid (h.below B2 (Nat.le_refl _))
      have z2 := B2.size
      have HO := Lib.hid hO
      have HB2 := Lib.hid B2
      have M1 : k + 2 ≤ maxLen := by unfold maxLen; omega
      have M2 : (k + 2) * 16 ≤ 140737488355328 := by omega
      have hbn : ∀ j, (Value.slice A3 k c3).ownBlock = some j → some b ≠ some j := fun j hj e => by
        injection e with e
        have := (HO.out.2.lt j hj).1
        omega
      have HBN := Lib.hid hbn
      clear hM hT hg hO B2 hb c1 hbn hzz
      go_wp2_with fail
      go_region_held3 (fun w' => w'.cell? ⟨b, off + k * 2, none⟩ = some (.int .i64 x) ∧ w'.cell? ⟨b, off + k * 2 + 1, none⟩ = some (.int .i64 y)) (first | (go_keep; done) | (exact K4)) (first
        | (refine step_append_arr _ rfl (.tmp 33) (.tmp 48) 37 rfl w.heap.size 69 i0 (.agg #[.int .i64 0, .int .i64 0]) 2 16 Tryz.underlying37 hi hz0 hz1 hz2 rfl (by decide) PP_length one_PP' (.slice A3 k c3) k (l.take k) (by simp [Act.eval, Act.put]) (HO.out.drew.alloc _) _ (some ⟨w2.heap.size, 0, none⟩) 2 2 [(x, d), (d, y)] (by simp [Act.eval, Act.put]) (Own.arr (Own.litPP2 w2.drew w2.heap.size 69 x d d y (Nat.le_refl _)) PP_length) M1 M2 (by simp; omega) ?_; intro v4 w4 hO4 hg4 hat4; have B4 : Below w.heap.size w w4 := (HB2.out.drew.alloc (by simpa using z2) (.cells #[.int .i64 x, .int .i64 d, .int .i64 d, .int .i64 y] 69)).grown hg4 (by simp; omega) (fun j hj => (HO.out.2.lt j hj).1); have K4 := And.intro ((B4.cell (by exact hbB)).trans HC1.out) ((B4.cell (by exact hbB)).trans HC2.out)))
      all_goals
        obtain ⟨A5, c5, rfl, _, _⟩ := hO4.form
        have hO5 := Lib.hid hO4
        have HB4 := Lib.hid B4
        have hA4 := Lib.hid (h.below B4 (Nat.le_refl _))
        have z4 := B4.size
        have e1 : IntKind.i64.wrap ((k : Int) + 1) = (k : Int) + 1 := IntWalk.i64_in _ ⟨by omega, by omega⟩
        have kn1 : (k : Int) + 1 ≤ (n : Int) := by omega
        have kc1 : (k : Int) + 1 ≤ (c : Int) := by omega
        have hD := hA4.out.cutAt (k := k + 1) (cap := c) (by omega) hc
        clear hO4 hg4 hat4 B4 K4 d1 d2
        by_cases hkc : c = k + 1
        · have hn1 : n = k + 1 := by omega
          have hdrop := Lib.hid (show l.drop (k + 1) = [] from List.drop_of_length_le (by rw [hln.out]; omega))
          have hD0 : Arr PP 2 w4 w.heap.size (some ⟨b, off, none⟩) 0 ([] : List Pc) := ⟨rfl, fun h => absurd h (by omega)⟩
          clear hD
          subst hkc
          subst hn1
          go_wp2_with (at_builtin; refine wpList_append_arr _ rfl _ _ 37 rfl w.heap.size 69 i0 (.agg #[.int .i64 0, .int .i64 0]) 2 16 Tryz.underlying37 hi hz0 hz1 hz2 rfl (by decide) PP_length one_PP' _ (k + 2) (l.take k ++ [(x, d), (d, y)]) rfl hO5.out w.heap.size _ 0 _ [] rfl hD0 (by unfold maxLen; omega) (by omega) (by omega) ?_)
          intro v6 w6 hO6 hg6 _
          have B6 : Below w.heap.size w w6 := HB4.out.grown hg6 z4 (fun j hj => (hO5.out.2.lt j hj).1)
          obtain ⟨A7, c7, rfl, _, _⟩ := hO6.form
          go_wp2
          go_ret2
          exact retPc_yes (by simp [hdrop.out]) hO6 B6
        · rw [if_neg hkc] at hD
          have hkc' : ¬ ((c : Int) = (k : Int) + 1) := by omega
          go_wp2_with (at_builtin; refine wpList_append_arr _ rfl _ _ 37 rfl w.heap.size 69 i0 (.agg #[.int .i64 0, .int .i64 0]) 2 16 Tryz.underlying37 hi hz0 hz1 hz2 rfl (by decide) PP_length one_PP' _ (k + 2) (l.take k ++ [(x, d), (d, y)]) rfl hO5.out w.heap.size _ (n - (k + 1)) _ (l.drop (k + 1)) rfl hD (by unfold maxLen; omega) (by omega) (by omega) ?_)
          intro v6 w6 hO6 hg6 _
          have B6 : Below w.heap.size w w6 := HB4.out.grown hg6 z4 (fun j hj => (hO5.out.2.lt j hj).1)
          obtain ⟨A7, c7, rfl, _, _⟩ := hO6.form
          go_wp2
          go_ret2
          exact retPc_yes (by simp) hO6 B6
end Go.Proofs.YtefadlbfkhndfaaGreatDoor

/-
  Contract: the laws' sameCore at equal lists.
-/
namespace Go.Proofs.YtefadlbfkhndfaaGreatDoor
open Go.RowKit
set_option linter.unusedSimpArgs false
set_option linter.unusedVariables false

set_option maxHeartbeats 1000000 in
theorem sameCore_yes {A A' : Option Addr} {n c n' c' : Nat} {l : List (Int × Int)} {w : World} (h : Arr PP 2 w w.heap.size A n l) (h' : Arr PP 2 w w.heap.size A' n' l) (hn : n ≤ 1048576) :
    Calls Tryz.prog 35 #[.slice A n c, .slice A' n' c'] w fun e w' => e = .returned (.bool true) ∧ Below w.heap.size w w' := by
  obtain rfl : n = n' := h.1.symm.trans h'.1
  have f0 : ((n : Int) != (n : Int)) = false := by simp
  go_enter Tryz.func35, Tryz.ntmps35
  go_wp2
  clear f0
  go_loopw [5] (fun i wr => ∃ j : Nat, j ≤ n ∧ i = .int .i64 j ∧ Below w.heap.size w wr) (fun i _ => n - (intOf i).toNat)
  case atStart => exact ⟨0, Nat.zero_le _, rfl, Below.refl _ _⟩
  case round =>
    obtain ⟨j, hj, rfl, hb⟩ := hrel
    by_cases hlt : j < n
    · obtain ⟨b, off, x, y, rfl, hbB, hx, c1, c2⟩ := h.pair hlt
      obtain ⟨b', off', x', y', rfl, hbB', hx', c1', c2'⟩ := h'.pair hlt
      rw [hx] at hx'
      injection hx' with hx'
      injection hx' with hxx hyy
      subst hxx; subst hyy
      have d1 := (hb.cell (by exact hbB)).trans c1
      have d2 := (hb.cell (by exact hbB)).trans c2
      have d1' := (hb.cell (by exact hbB')).trans c1'
      have d2' := (hb.cell (by exact hbB')).trans c2'
      have ik : (j : Int) < (n : Int) := by omega
      have ik0 : (0 : Int) ≤ (j : Int) := by omega
      clear c1 c2 c1' c2' hx
      go_wp2_with fail
      go_quiet (fail)
      have hb3 := below_drewN hb nq
      generalize wr.drewN nq = w3 at hb3 ⊢
      clear d1 d2 d1' d2' hb
      go_wp2
      go_roundw
      case rel => exact ⟨j + 1, by omega, by go_num, hb3⟩
      case measure => simp [intOf]; omega
    · obtain rfl : j = n := by omega
      go_wp2
      go_ret
      exact ⟨rfl, hb⟩
end Go.Proofs.YtefadlbfkhndfaaGreatDoor
