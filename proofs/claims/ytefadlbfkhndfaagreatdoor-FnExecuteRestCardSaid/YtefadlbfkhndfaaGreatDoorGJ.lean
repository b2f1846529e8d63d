/-
  What the texts below prove: contracts and plain laws, each with its conditions.
-/
import Derived.Test.YtefadlbfkhndfaaGreatDoorGB
import Derived.Test.YtefadlbfkhndfaaGreatDoorGA
import Derived.Test.YtefadlbfkhndfaaGreatDoorGH

/-
  Contract (over CoreV): the program's CoreJoin.
-/
namespace Go.Proofs.YtefadlbfkhndfaaGreatDoor
open Go.RowKit
set_option linter.unusedSimpArgs false
set_option linter.unusedVariables false

/-- What has been joined so far. -/
def JoinSt (l : List Pc) (k : Nat) (out : List Pc) : Prop := (k = 0 ∧ out = []) ∨ ∃ done cur, out = done ++ [cur] ∧ joinL l = done ++ joinAcc cur (l.drop k)
/-- A call hands back a list of pairs (a row of its own), and whether there is one. -/
def RetPc (T : TypeId) (w : World) (l : List Pc) (ok : Bool) (e : Ending) (w' : World) : Prop :=
  ∃ A n c, e = .returned (.tuple #[.slice A n c, .bool ok]) ∧ Own PP 2 w' w.heap.size T (.slice A n c) n l ∧ Below w.heap.size w w'
theorem retPc_no {T : TypeId} {w w' : World} (hb : Below w.heap.size w w') : RetPc T w [] false (.returned (.tuple #[.slice none 0 0, .bool false])) w' :=
  ⟨none, 0, 0, rfl, Own.nil_ _ _ _ _ _, hb⟩
theorem retPc_yes {T : TypeId} {w w' : World} {l l' : List Pc} {A : Option Addr} {n c : Nat} (he : l' = l) (ho : Own PP 2 w' w.heap.size T (.slice A n c) n l') (hb : Below w.heap.size w w') : RetPc T w l true (.returned (.tuple #[.slice A n c, .bool true])) w' := by
  subst he
  exact ⟨A, n, c, rfl, ho, hb⟩
def joinR (l : List Pc) : List Pc := if coreB l = true then joinL l else []
theorem set_last {α : Type} (d : List α) (a b : α) : (d ++ [a]).set d.length b = d ++ [b] := by
  rw [List.set_append_right _ _ (Nat.le_refl _), Nat.sub_self]; rfl
theorem get_last {α : Type} (d : List α) (a : α) : (d ++ [a])[d.length]? = some a := by
  rw [List.getElem?_append_right (Nat.le_refl _), Nat.sub_self]; rfl

set_option maxHeartbeats 2000000 in
theorem implJoin_any (A : Option Addr) (n c : Nat) (l : List Pc) (w : World) (h : Arr PP 2 w w.heap.size A n l) (hn : n ≤ 1099511627776) :
    Calls Tryz.prog 39 #[.slice A n c] w (RetPc 69 w (joinR l) (coreB l)) := by
  obtain ⟨i0, hi, hz0, hz1, hz2⟩ := info_parts infoPc
  have hln := Lib.hid h.1
  have C := implCoreValid_any A n c l w h hn
  cases hB : coreB l with
  | false =>
    rw [hB] at C
    have C' := Lib.hid C
    have hL := Lib.hid (show joinR l = [] by unfold joinR; rw [hB]; rfl)
    clear C hB
    go_enter Tryz.func39, Tryz.ntmps39
    go_wp2_with fail
    refine C'.out.mono ?_
    rintro e w1 ⟨rfl, hb⟩
    go_wp2
    go_ret2
    rw [hL.out]
    exact retPc_no hb
  | true =>
    rw [hB] at C
    have C' := Lib.hid C
    have hL := Lib.hid (show joinR l = joinL l by unfold joinR; rw [hB]; rfl)
    have hF := Lib.hid ((coreB_iff l).1 hB).1
    have h20 := ((coreB_iff l).1 hB).2
    rw [h.1] at h20
    clear C hB
    go_enter Tryz.func39, Tryz.ntmps39
    go_wp2_with fail
    refine C'.out.mono ?_
    rintro e w1 ⟨rfl, hb1⟩
    clear C'
    go_wp2
    go_loopw [4, 13] (fun v i wr => ∃ (k : Nat) (out : List Pc), k ≤ n ∧ i = .int .i64 k ∧ out.length ≤ k ∧ Hid (JoinSt l k out) ∧ Own PP 2 wr w.heap.size 69 v out.length out ∧ Below w.heap.size w wr) (fun _ i _ => n - (intOf i).toNat)
    case atStart => exact ⟨0, [], Nat.zero_le _, rfl, Nat.le_refl _, .inl ⟨rfl, rfl⟩, Own.nil_ _ _ _ _ _, hb1⟩
    case round =>
      obtain ⟨k, out, hk, rfl, hol, hst, hw, hb⟩ := hrel
      by_cases hlt : k < n
      · obtain ⟨b, off, x, y, rfl, hbB, hx, c1, c2⟩ := h.pair hlt
        have hE := Lib.hid (drop_cons hx)
        have c1' := (hb.cell (by exact hbB)).trans c1
        have c2' := (hb.cell (by exact hbB)).trans c2
        clear c1 c2 hx
        obtain ⟨A4, cc, rfl, hcc, _⟩ := hw.form
        rcases hst.out with ⟨rfl, rfl⟩ | ⟨done, ⟨p, u⟩, rfl, hj⟩
        · have hnew : Hid (JoinSt l 1 [(x, y)]) := by
            refine .inr ⟨[], (x, y), rfl, ?_⟩
            have e := hE.out
            rw [List.drop_zero] at e
            conv => lhs; rw [e]
            rfl
          clear hst hE
          simp only [List.length_nil] at hw hcc ⊢
          simp only [Nat.zero_mul, Nat.add_zero] at c1' c2'
          go_wp2_with fail
          have B3 := hb.alloc hb.size (.cells #[.int .i64 x, .int .i64 y] 69)
          have O3 := hw.alloc (.cells #[.int .i64 x, .int .i64 y] 69)
          have p0 : (wr.alloc (.cells #[.int .i64 x, .int .i64 y] 69)).cell? ⟨wr.heap.size, 0, none⟩ = some (.int .i64 x) := (cell_of_row _ _ 0 _ _ _ (heap_alloc_new _ _)).trans rfl
          have p1 : (wr.alloc (.cells #[.int .i64 x, .int .i64 y] 69)).cell? ⟨wr.heap.size, 1, none⟩ = some (.int .i64 y) := (cell_of_row _ _ 1 _ _ _ (heap_alloc_new _ _)).trans rfl
          clear c1' c2' hw hb
          generalize wr.alloc (.cells #[.int .i64 x, .int .i64 y] 69) = w3 at B3 O3 p0 p1 ⊢
          generalize wr.heap.size = bp at p0 p1 ⊢
          have E : ∀ q, Hid (Below w.heap.size w (w3.drewN q) ∧ Own PP 2 (w3.drewN q) w.heap.size 69 (.slice A4 0 cc) 0 [] ∧ (w3.drewN q).cell? ⟨bp, 0, none⟩ = some (.int .i64 x) ∧ (w3.drewN q).cell? ⟨bp, 1, none⟩ = some (.int .i64 y)) := fun q => ⟨below_drewN B3 q, O3.drewN q, p0, p1⟩
          go_quiet (fail)
          have Eq := (E nq).out
          clear E B3 O3 p0 p1
          generalize w3.drewN nq = w4 at Eq ⊢
          obtain ⟨B4, O4, p0, p1⟩ := Eq
          go_wp2_with (at_builtin; refine wpList_append_own _ rfl _ _ 37 rfl w.heap.size 69 i0 (.agg #[.int .i64 0, .int .i64 0]) 2 16 Tryz.underlying37 hi hz0 hz1 hz2 rfl (by decide) _ _ _ rfl (O4.2.alloc _) ⟨w4.heap.size, 0, none⟩ 1 1 [.int .i64 x, .int .i64 y] rfl rfl ?d1 ?d2 ?d3 ?d4 ?d5 ?_)
          case d1 => exact cell_new2 _ _ _ _
          case d2 => exact one_PP _ _
          case d3 => unfold maxLen; omega
          case d4 => omega
          case d5 => have := B4.size; simp; omega
          intro v' w5 hown' hg5 _
          have O5 : Own PP 2 w5 w.heap.size 69 v' [(x, y)].length [(x, y)] := Own.snoc (l := []) rfl hown'
          have B5 := (B4.alloc B4.size (.cells #[.int .i64 x, .int .i64 y] 69)).grown hg5 (by have := B4.size; simp; omega) (fun g hg => (O4.2.lt g hg).1)
          clear hown' hg5 O4 B4
          go_wp2
          go_roundw
          case rel => exact ⟨1, [(x, y)], by omega, by go_num, by simp, hnew, O5, B5⟩
          case measure => simp [intOf]; omega
        · obtain ⟨m, hm⟩ : ∃ m, m = done.length := ⟨_, rfl⟩
          have hlen : (done ++ [(p, u)]).length = m + 1 := by simp [hm]
          rw [hlen] at hw hcc hol ⊢
          obtain ⟨g, c', e, hbg, hgl, hnc⟩ := hw.head (by omega)
          injection e with e1 e2 e3
          subst e1
          subst e3
          have hget : (done ++ [(p, u)])[m]? = some (p, u) := by rw [hm]; exact get_last done (p, u)
          have HM := Lib.hid hm
          have HG := Lib.hid hget
          have HJ := Lib.hid hj
          clear hst hlen hm hget hj
          go_wp2_with fail
          have B3 := hb.alloc hb.size (.cells #[.int .i64 x, .int .i64 y] 69)
          have O3 := hw.alloc (.cells #[.int .i64 x, .int .i64 y] 69)
          have p0 : (wr.alloc (.cells #[.int .i64 x, .int .i64 y] 69)).cell? ⟨wr.heap.size, 0, none⟩ = some (.int .i64 x) := (cell_of_row _ _ 0 _ _ _ (heap_alloc_new _ _)).trans rfl
          have p1 : (wr.alloc (.cells #[.int .i64 x, .int .i64 y] 69)).cell? ⟨wr.heap.size, 1, none⟩ = some (.int .i64 y) := (cell_of_row _ _ 1 _ _ _ (heap_alloc_new _ _)).trans rfl
          clear c1' c2' hw hb
          generalize wr.alloc (.cells #[.int .i64 x, .int .i64 y] 69) = w3 at B3 O3 p0 p1 ⊢
          generalize wr.heap.size = bp at p0 p1 ⊢
          obtain ⟨q0, q1⟩ := O3.pairAt HG.out
          have E : ∀ q, Hid (Below w.heap.size w (w3.drewN q) ∧ Own PP 2 (w3.drewN q) w.heap.size 69 (.slice (some ⟨g, 0, none⟩) (m + 1) cc) (m + 1) (done ++ [(p, u)]) ∧ (w3.drewN q).cell? ⟨bp, 0, none⟩ = some (.int .i64 x) ∧ (w3.drewN q).cell? ⟨bp, 1, none⟩ = some (.int .i64 y)) := fun q => ⟨below_drewN B3 q, O3.drewN q, p0, p1⟩
          have i0' : (0 : Int) ≤ (m : Int) := by omega
          have i1 : (m : Int) < (m : Int) + 1 := by omega
          have g0 : decide ((0 : Int) ≤ (m : Int)) = true := decide_eq_true i0'
          by_cases hux : u = x
          · subst hux
            have hnew : Hid (JoinSt l (k + 1) (done ++ [(p, y)])) := by
              refine .inr ⟨done, (p, y), rfl, ?_⟩
              rw [HJ.out, hE.out, joinAcc, if_pos rfl]
            have g1 : (u == u) = true := by simp
            clear hE
            go_quiet (fail)
            have Eq := (E nq).out
            clear E B3 O3 p0 p1 q0 q1 g0 g1
            generalize w3.drewN nq = w4 at Eq ⊢
            obtain ⟨B4, O4, p0, p1⟩ := Eq
            obtain ⟨q0, q1⟩ := O4.pairAt HG.out
            have f1 := O4.2.frozenAt (m * 2 + 1)
            have S := Lib.hid (O4.set1 HG.out y)
            rw [HM.out, set_last, ← HM.out] at S
            have BS := B4.setCell (p := ⟨g, m * 2 + 1, none⟩) hbg (.int .i64 y)
            clear O4 B4
            go_wp2
            go_roundw
            case rel => exact ⟨k + 1, done ++ [(p, y)], by omega, by go_num, by simp [← HM.out]; omega, hnew, by rw [show (done ++ [(p, y)]).length = m + 1 by simp [HM.out]]; exact S.out, BS⟩
            case measure => simp [intOf]; omega
          · have hnew : Hid (JoinSt l (k + 1) ((done ++ [(p, u)]) ++ [(x, y)])) := by
              refine .inr ⟨done ++ [(p, u)], (x, y), rfl, ?_⟩
              rw [HJ.out, hE.out, joinAcc, if_neg (by exact hux), List.append_assoc]
              rfl
            have g1 : (u == x) = false := by simp [hux]
            clear hE
            go_quiet (fail)
            have Eq := (E nq).out
            clear E B3 O3 p0 p1 q0 q1 g0 g1
            generalize w3.drewN nq = w4 at Eq ⊢
            obtain ⟨B4, O4, p0, p1⟩ := Eq
            go_wp2_with (at_builtin; refine wpList_append_own _ rfl _ _ 37 rfl w.heap.size 69 i0 (.agg #[.int .i64 0, .int .i64 0]) 2 16 Tryz.underlying37 hi hz0 hz1 hz2 rfl (by decide) _ _ _ rfl (O4.2.alloc _) ⟨w4.heap.size, 0, none⟩ 1 1 [.int .i64 x, .int .i64 y] rfl rfl ?d1 ?d2 ?d3 ?d4 ?d5 ?_)
            case d1 => exact cell_new2 _ _ _ _
            case d2 => exact one_PP _ _
            case d3 => unfold maxLen; omega
            case d4 => omega
            case d5 => have := B4.size; simp; omega
            intro v' w5 hown' hg5 _
            have O5 : Own PP 2 w5 w.heap.size 69 v' ((done ++ [(p, u)]) ++ [(x, y)]).length ((done ++ [(p, u)]) ++ [(x, y)]) := by
              have := Own.snoc' (f := PP) (x := (x, y)) O4.1 (by simp [PP]) hown'
              rw [show ((done ++ [(p, u)]) ++ [(x, y)]).length = m + 1 + 1 by simp [HM.out]]
              exact this
            have B5 := (B4.alloc B4.size (.cells #[.int .i64 x, .int .i64 y] 69)).grown hg5 (by have := B4.size; simp; omega) (fun g hg => (O4.2.lt g hg).1)
            clear hown' hg5 O4 B4
            go_wp2
            go_roundw
            case rel => exact ⟨k + 1, _, by omega, by go_num, by simp [← HM.out]; omega, hnew, O5, B5⟩
            case measure => simp [intOf]; omega
      · have hE := drop_end (l := l) (k := k) (by rw [hln.out]; omega)
        have hfin : Hid (out = joinR l) := by
          rw [hL.out]
          rcases hst.out with ⟨rfl, rfl⟩ | ⟨done, cur, rfl, hj⟩
          · rw [List.drop_zero] at hE; rw [hE]; rfl
          · rw [hj, hE]; rfl
        clear hE hst
        obtain ⟨A2, c2, rfl, _, _⟩ := hw.form
        go_wp2
        go_ret2
        exact retPc_yes hfin.out hw hb
end Go.Proofs.YtefadlbfkhndfaaGreatDoor

/-
  Contract: the program's (*script).execute at the line "join" where the core is valid.
-/
namespace Go.Proofs.YtefadlbfkhndfaaGreatDoor
open Go.RowKit Go.Maps Go.WideMaps
set_option linter.unusedSimpArgs false
set_option linter.unusedVariables false

set_option maxRecDepth 100000 in
set_option maxHeartbeats 8000000 in
theorem exec_join_yes (g k : Nat) (s : St) (w : World) (hs : Scr w g s) (hl : s.core.length ≤ 1000) (hC : coreB s.core = true) (hk : k < w.heap.size) (c0 : w.cell? ⟨k, 0, none⟩ = some (.string (tx wJoin))) :
    Calls Tryz.prog 45 #[.pointer (some ⟨g, 0, none⟩), .slice (some ⟨k, 0, none⟩) 1 1] w fun e w' =>
      e = .returned (.tuple #[.string (tx okT), .bool true]) ∧ Scr w' g { s with core := joinL s.core } ∧ w.grownBy w' (some g) := by
  have k0 : keyOf Tryz.prog 9 (.string (tx wPiece)) = some (.string wPiece) := by rw [keyOf_string_mk Tryz.underlying9 (by rw [tx_size]; decide)]; rfl
  have k1 : keyOf Tryz.prog 9 (.string (tx wCut)) = some (.string wCut) := by rw [keyOf_string_mk Tryz.underlying9 (by rw [tx_size]; decide)]; rfl
  have k2 : keyOf Tryz.prog 9 (.string (tx wJoin)) = some (.string wJoin) := by rw [keyOf_string_mk Tryz.underlying9 (by rw [tx_size]; decide)]; rfl
  have k3 : keyOf Tryz.prog 9 (.string (tx wLayer)) = some (.string wLayer) := by rw [keyOf_string_mk Tryz.underlying9 (by rw [tx_size]; decide)]; rfl
  have k4 : keyOf Tryz.prog 9 (.string (tx wCore)) = some (.string wCore) := by rw [keyOf_string_mk Tryz.underlying9 (by rw [tx_size]; decide)]; rfl
  have k5 : keyOf Tryz.prog 9 (.string (tx wLength)) = some (.string wLength) := by rw [keyOf_string_mk Tryz.underlying9 (by rw [tx_size]; decide)]; rfl
  have k6 : keyOf Tryz.prog 9 (.string (tx wCount)) = some (.string wCount) := by rw [keyOf_string_mk Tryz.underlying9 (by rw [tx_size]; decide)]; rfl
  have k7 : keyOf Tryz.prog 9 (.string (tx wAge)) = some (.string wAge) := by rw [keyOf_string_mk Tryz.underlying9 (by rw [tx_size]; decide)]; rfl
  have k8 : keyOf Tryz.prog 9 (.string (tx wYear)) = some (.string wYear) := by rw [keyOf_string_mk Tryz.underlying9 (by rw [tx_size]; decide)]; rfl
  have d0 := wD_step (i := 0) rfl
  have d1 := wD_step (i := 1) rfl
  have d2 := wD_step (i := 2) rfl
  have d3 := wD_step (i := 3) rfl
  have d4 := wD_step (i := 4) rfl
  have d5 := wD_step (i := 5) rfl
  have d6 := wD_step (i := 6) rfl
  have d7 := wD_step (i := 7) rfl
  have d8 := wD_step (i := 8) rfl
  have v0 : RM (.int .i64 0) = some (.lit (.int .i64 0), []) := plainElem_int Tryz.underlying3 rfl
  have v1 : RM (.int .i64 1) = some (.lit (.int .i64 1), []) := plainElem_int Tryz.underlying3 rfl
  have v2 : RM (.int .i64 2) = some (.lit (.int .i64 2), []) := plainElem_int Tryz.underlying3 rfl
  have m0 := World.ownsMap_made w Tryz.prog 9 RM
  have hmm := @run_makeMap Tryz.prog
  have hwh := want_has (x := wJoin) (k := 0) rfl
  have HS := Lib.hid hs
  have hgl := hs.lt
  have hJ := Lib.hid (show joinR s.core = joinL s.core by unfold joinR; rw [if_pos hC])
  have HC := Lib.hid hC
  clear hs hC
  go_enter Tryz.func45, Tryz.ntmps45
  go_wp2_with (first
    | (refine wpList_insert_own _ rfl _ _ _ 95 rfl 9 3 SK Tryz.underlying95 RM w.heap.size 0 (wD 0) (wD 1) rfl m0 (by unfold maxLen; omega) _ _ (.string wPiece) rfl rfl k0 _ _ v2 d0 ?_; intro w1 m1 g1)
    | (refine wpList_insert_own _ rfl _ _ _ 95 rfl 9 3 SK Tryz.underlying95 RM w.heap.size 1 (wD 1) (wD 2) rfl m1 (by unfold maxLen; omega) _ _ (.string wCut) rfl rfl k1 _ _ v1 d1 ?_; intro w2 m2 g2)
    | (refine wpList_insert_own _ rfl _ _ _ 95 rfl 9 3 SK Tryz.underlying95 RM w.heap.size 2 (wD 2) (wD 3) rfl m2 (by unfold maxLen; omega) _ _ (.string wJoin) rfl rfl k2 _ _ v0 d2 ?_; intro w3 m3 g3)
    | (refine wpList_insert_own _ rfl _ _ _ 95 rfl 9 3 SK Tryz.underlying95 RM w.heap.size 3 (wD 3) (wD 4) rfl m3 (by unfold maxLen; omega) _ _ (.string wLayer) rfl rfl k3 _ _ v1 d3 ?_; intro w4 m4 g4)
    | (refine wpList_insert_own _ rfl _ _ _ 95 rfl 9 3 SK Tryz.underlying95 RM w.heap.size 4 (wD 4) (wD 5) rfl m4 (by unfold maxLen; omega) _ _ (.string wCore) rfl rfl k4 _ _ v0 d4 ?_; intro w5 m5 g5)
    | (refine wpList_insert_own _ rfl _ _ _ 95 rfl 9 3 SK Tryz.underlying95 RM w.heap.size 5 (wD 5) (wD 6) rfl m5 (by unfold maxLen; omega) _ _ (.string wLength) rfl rfl k5 _ _ v0 d5 ?_; intro w6 m6 g6)
    | (refine wpList_insert_own _ rfl _ _ _ 95 rfl 9 3 SK Tryz.underlying95 RM w.heap.size 6 (wD 6) (wD 7) rfl m6 (by unfold maxLen; omega) _ _ (.string wCount) rfl rfl k6 _ _ v2 d6 ?_; intro w7 m7 g7)
    | (refine wpList_insert_own _ rfl _ _ _ 95 rfl 9 3 SK Tryz.underlying95 RM w.heap.size 7 (wD 7) (wD 8) rfl m7 (by unfold maxLen; omega) _ _ (.string wAge) rfl rfl k7 _ _ v1 d7 ?_; intro w8 m8 g8)
    | (refine wpList_insert_own _ rfl _ _ _ 95 rfl 9 3 SK Tryz.underlying95 RM w.heap.size 8 (wD 8) (wD 9) rfl m8 (by unfold maxLen; omega) _ _ (.string wYear) rfl rfl k8 _ _ v1 d8 ?_; intro w9 m9 g9
       have B9 : Below w.heap.size w w9 := ((Below.refl w.heap.size w).alloc (Nat.le_refl _) _).grown (((((((((g1.trans g2).trans g3).trans g4).trans g5).trans g6).trans g7).trans g8).trans g9)) (by simp) (fun j hj => by injection hj with hj; omega)
       have e0 := (B9.cell (p := ⟨k, 0, none⟩) hk).trans c0
       clear g1 g2 g3 g4 g5 g6 g7 g8 g9 m1 m2 m3 m4 m5 m6 m7 m8)
    | (at_lookup; refine wpList_lookup_own_ok_int _ rfl _ _ 95 rfl 9 3 .i64 SK Tryz.underlying95 Tryz.underlying3 (zeroInt _) w.heap.size 9 (wD 9) rfl m9 _ (.string wJoin) rfl k2 ?_
       intro c hat hwc
       obtain rfl : c = 0 := by have h2 := hwh.2; rw [← wD_all, hat] at h2; injection h2 with h2; injection h2
       rw [show has (wD 9) (.string wJoin) = true from hwh.1]
       clear hat hwc m9 m0 hmm k0 k1 k2 k3 k4 k5 k6 k7 k8 d0 d1 d2 d3 d4 d5 d6 d7 d8 hwh v0 v1 v2))
  go_loopw [9, 11, 37] (fun _ _ i wr => i = .int .i64 0 ∧ Below w.heap.size w wr) (fun _ _ _ _ => 0)
  case atStart => exact ⟨rfl, B9⟩
  case round =>
    obtain ⟨rfl, hb⟩ := hrel
    have e0' := (hb.cell (p := ⟨k, 0, none⟩) hk).trans c0
    have q0 : ((tx wJoin).toList == [112, 105, 101, 99, 101]) = false := tne (a := wJoin) (b := wPiece) (by decide)
    have q1 : ((tx wJoin).toList == [99, 117, 116]) = false := tne (a := wJoin) (b := wCut) (by decide)
    have q2 : ((tx wJoin).toList == [106, 111, 105, 110]) = true := teq wJoin
    have HSr := Lib.hid (HS.out.below hb (Nat.le_refl _))
    obtain ⟨Ac, cc, x0, xA⟩ := HSr.out.core
    have hgr : g < wr.heap.size := HSr.out.lt
    have KJ := implJoin_any Ac s.core.length cc s.core wr xA (by omega)
    rw [hJ.out, HC.out] at KJ
    have KJ := Lib.hid KJ
    have HB := Lib.hid hb
    clear xA HS hb
    go_wp2_with fail
    refine KJ.out.mono ?_
    rintro e w2 ⟨A2, n2, c2, rfl, o2, b2⟩
    have S2 := HSr.out.below b2 (Nat.le_refl _)
    have SC := setCore_yes g s A2 n2 c2 w2 S2
    go_wp2_with (go_at_call 77; refine SC.mono ?_; rintro e w7 ⟨rfl, rfl⟩)
    go_ret2
    have O6 := o2.less (base' := g + 1) (by omega)
    exact ⟨rfl, S2.setCore O6, (grows2 (HB.out.trans (b2.mono HB.out.size)) _).trans (setCell_grown w2 g 0 _)⟩

end Go.Proofs.YtefadlbfkhndfaaGreatDoor
