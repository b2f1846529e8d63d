/-
  Contract: the program's CoreJoin.
-/
import Derived.Test.YtjhbpilgejbmjaaCore
import Derived.Test.YtjhbpilgejbmjaaPlainW
import Derived.Test.YtjhbpilgejbmjaaPairPieceInfo
namespace Go.Proofs.Ytjhbpilgejbmjaa
open Go.RowKit
set_option linter.unusedSimpArgs false
set_option linter.unusedVariables false

/-- What has been joined so far. -/
def JoinSt (l : List Pc) (k : Nat) (out : List Pc) : Prop := (k = 0 ∧ out = []) ∨ ∃ done cur, out = done ++ [cur] ∧ joinL l = done ++ joinAcc cur (l.drop k)
/-- A call hands back a list of pairs (a row of its own), and whether there is one. -/
def RetPc (T : TypeId) (w : World) (l : List Pc) (ok : Bool) (e : Ending) (w' : World) : Prop :=
  ∃ A n c, e = .returned (.tuple #[.slice A n c, .bool ok]) ∧ Own PP 2 w' w.heap.size T (.slice A n c) n l ∧ Below w.heap.size w w'
theorem retPc_no {T : TypeId} {w w' : World} (hb : Below w.heap.size w w') : RetPc T w [] false (.returned (.tuple #[.slice none 0 0, .bool false])) w' :=
  ⟨none, 0, 0, rfl, Own.nil_ _ _ _ _ _, hb⟩
theorem retPc_yes {T : TypeId} {w w' : World} {l l' : List Pc} {A : Option Addr} {n c : Nat} (he : l' = l) (ho : Own PP 2 w' w.heap.size T (.slice A n c) n l') (hb : Below w.heap.size w w') : RetPc T w l true (.returned (.tuple #[.slice A n c, .bool true])) w' := by
  subst he
  exact ⟨A, n, c, rfl, ho, hb⟩
def joinR (l : List Pc) : List Pc := if coreB l = true then joinL l else []
theorem set_last {α : Type} (d : List α) (a b : α) : (d ++ [a]).set d.length b = d ++ [b] := by
  rw [List.set_append_right _ _ (Nat.le_refl _), Nat.sub_self]; rfl
theorem get_last {α : Type} (d : List α) (a : α) : (d ++ [a])[d.length]? = some a := by
  rw [List.getElem?_append_right (Nat.le_refl _), Nat.sub_self]; rfl

set_option maxHeartbeats 2000000 in
theorem implJoin_any (A : Option Addr) (n c : Nat) (l : List Pc) (w : World) (h : Arr PP 2 w w.heap.size A n l) (hn : n ≤ 1099511627776) :
    Calls Try.prog 20 #[.slice A n c] w (RetPc 42 w (joinR l) (coreB l)) := by
  obtain ⟨i0, hi, hz0, hz1, hz2⟩ := info_parts infoPc
  have hln := Lib.hid h.1
  have C := implCoreValid_any A n c l w h hn
  cases hB : coreB l with
  | false =>
    rw [hB] at C
    have C' := Lib.hid C
    have hL := Lib.hid (show joinR l = [] by unfold joinR; rw [hB]; rfl)
    clear C hB
    go_enter Try.func20, Try.ntmps20
    go_wp2_with fail
    refine C'.out.mono ?_
    rintro e w1 ⟨rfl, hb⟩
    go_wp2
    go_ret2
    rw [hL.out]
    exact retPc_no hb
  | true =>
    rw [hB] at C
    have C' := Lib.hid C
    have hL := Lib.hid (show joinR l = joinL l by unfold joinR; rw [hB]; rfl)
    have hF := Lib.hid ((coreB_iff l).1 hB).1
    have h20 := ((coreB_iff l).1 hB).2
    rw [h.1] at h20
    clear C hB
    go_enter Try.func20, Try.ntmps20
    go_wp2_with fail
    refine C'.out.mono ?_
    rintro e w1 ⟨rfl, hb1⟩
    clear C'
    go_wp2
    go_loopw [4, 13] (fun v i wr => ∃ (k : Nat) (out : List Pc), k ≤ n ∧ i = .int .i64 k ∧ out.length ≤ k ∧ Hid (JoinSt l k out) ∧ Own PP 2 wr w.heap.size 42 v out.length out ∧ Below w.heap.size w wr) (fun _ i _ => n - (intOf i).toNat)
    case atStart => exact ⟨0, [], Nat.zero_le _, rfl, Nat.le_refl _, .inl ⟨rfl, rfl⟩, Own.nil_ _ _ _ _ _, hb1⟩
    case round =>
      obtain ⟨k, out, hk, rfl, hol, hst, hw, hb⟩ := hrel
      by_cases hlt : k < n
      · obtain ⟨b, off, x, y, rfl, hbB, hx, c1, c2⟩ := h.pair hlt
        have hE := Lib.hid (drop_cons hx)
        have c1' := (hb.cell (by exact hbB)).trans c1
        have c2' := (hb.cell (by exact hbB)).trans c2
        clear c1 c2 hx
        obtain ⟨A4, cc, rfl, hcc, _⟩ := hw.form
        rcases hst.out with ⟨rfl, rfl⟩ | ⟨done, ⟨p, u⟩, rfl, hj⟩
        · have hnew : Hid (JoinSt l 1 [(x, y)]) := by
            refine .inr ⟨[], (x, y), rfl, ?_⟩
            have e := hE.out
            rw [List.drop_zero] at e
            conv => lhs; rw [e]
            rfl
          clear hst hE
          simp only [List.length_nil] at hw hcc ⊢
          simp only [Nat.zero_mul, Nat.add_zero] at c1' c2'
          go_wp2_with fail
          have B3 := hb.alloc hb.size (.cells #[.int .i64 x, .int .i64 y] 42)
          have O3 := hw.alloc (.cells #[.int .i64 x, .int .i64 y] 42)
          have p0 : (wr.alloc (.cells #[.int .i64 x, .int .i64 y] 42)).cell? ⟨wr.heap.size, 0, none⟩ = some (.int .i64 x) := (cell_of_row _ _ 0 _ _ _ (heap_alloc_new _ _)).trans rfl
          have p1 : (wr.alloc (.cells #[.int .i64 x, .int .i64 y] 42)).cell? ⟨wr.heap.size, 1, none⟩ = some (.int .i64 y) := (cell_of_row _ _ 1 _ _ _ (heap_alloc_new _ _)).trans rfl
          clear c1' c2' hw hb
          generalize wr.alloc (.cells #[.int .i64 x, .int .i64 y] 42) = w3 at B3 O3 p0 p1 ⊢
          generalize wr.heap.size = bp at p0 p1 ⊢
          have E : ∀ q, Hid (Below w.heap.size w (w3.drewN q) ∧ Own PP 2 (w3.drewN q) w.heap.size 42 (.slice A4 0 cc) 0 [] ∧ (w3.drewN q).cell? ⟨bp, 0, none⟩ = some (.int .i64 x) ∧ (w3.drewN q).cell? ⟨bp, 1, none⟩ = some (.int .i64 y)) := fun q => ⟨below_drewN B3 q, O3.drewN q, p0, p1⟩
          go_quiet (fail)
          have Eq := (E nq).out
          clear E B3 O3 p0 p1
          generalize w3.drewN nq = w4 at Eq ⊢
          obtain ⟨B4, O4, p0, p1⟩ := Eq
          go_wp2_with (at_builtin; refine wpList_append_own _ rfl _ _ 23 rfl w.heap.size 42 i0 (.agg #[.int .i64 0, .int .i64 0]) 2 16 Try.underlying23 hi hz0 hz1 hz2 rfl (by decide) _ _ _ rfl (O4.2.alloc _) ⟨w4.heap.size, 0, none⟩ 1 1 [.int .i64 x, .int .i64 y] rfl rfl ?d1 ?d2 ?d3 ?d4 ?d5 ?_)
          case d1 => exact cell_new2 _ _ _ _
          case d2 => exact one_PP _ _
          case d3 => unfold maxLen; omega
          case d4 => omega
          case d5 => have := B4.size; simp; omega
          intro v' w5 hown' hg5 _
          have O5 : Own PP 2 w5 w.heap.size 42 v' [(x, y)].length [(x, y)] := Own.snoc (l := []) rfl hown'
          have B5 := (B4.alloc B4.size (.cells #[.int .i64 x, .int .i64 y] 42)).grown hg5 (by have := B4.size; simp; omega) (fun g hg => (O4.2.lt g hg).1)
          clear hown' hg5 O4 B4
          go_wp2
          go_roundw
          case rel => exact ⟨1, [(x, y)], by omega, by go_num, by simp, hnew, O5, B5⟩
          case measure => simp [intOf]; omega
        · obtain ⟨m, hm⟩ : ∃ m, m = done.length := ⟨_, rfl⟩
          have hlen : (done ++ [(p, u)]).length = m + 1 := by simp [hm]
          rw [hlen] at hw hcc hol ⊢
          obtain ⟨g, c', e, hbg, hgl, hnc⟩ := hw.head (by omega)
          injection e with e1 e2 e3
          subst e1
          subst e3
          have hget : (done ++ [(p, u)])[m]? = some (p, u) := by rw [hm]; exact get_last done (p, u)
          have HM := Lib.hid hm
          have HG := Lib.hid hget
          have HJ := Lib.hid hj
          clear hst hlen hm hget hj
          go_wp2_with fail
          have B3 := hb.alloc hb.size (.cells #[.int .i64 x, .int .i64 y] 42)
          have O3 := hw.alloc (.cells #[.int .i64 x, .int .i64 y] 42)
          have p0 : (wr.alloc (.cells #[.int .i64 x, .int .i64 y] 42)).cell? ⟨wr.heap.size, 0, none⟩ = some (.int .i64 x) := (cell_of_row _ _ 0 _ _ _ (heap_alloc_new _ _)).trans rfl
          have p1 : (wr.alloc (.cells #[.int .i64 x, .int .i64 y] 42)).cell? ⟨wr.heap.size, 1, none⟩ = some (.int .i64 y) := (cell_of_row _ _ 1 _ _ _ (heap_alloc_new _ _)).trans rfl
          clear c1' c2' hw hb
          generalize wr.alloc (.cells #[.int .i64 x, .int .i64 y] 42) = w3 at B3 O3 p0 p1 ⊢
          generalize wr.heap.size = bp at p0 p1 ⊢
          obtain ⟨q0, q1⟩ := O3.pairAt HG.out
          have E : ∀ q, Hid (Below w.heap.size w (w3.drewN q) ∧ Own PP 2 (w3.drewN q) w.heap.size 42 (.slice (some ⟨g, 0, none⟩) (m + 1) cc) (m + 1) (done ++ [(p, u)]) ∧ (w3.drewN q).cell? ⟨bp, 0, none⟩ = some (.int .i64 x) ∧ (w3.drewN q).cell? ⟨bp, 1, none⟩ = some (.int .i64 y)) := fun q => ⟨below_drewN B3 q, O3.drewN q, p0, p1⟩
          have i0' : (0 : Int) ≤ (m : Int) := by omega
          have i1 : (m : Int) < (m : Int) + 1 := by omega
          have g0 : decide ((0 : Int) ≤ (m : Int)) = true := decide_eq_true i0'
          by_cases hux : u = x
          · subst hux
            have hnew : Hid (JoinSt l (k + 1) (done ++ [(p, y)])) := by
              refine .inr ⟨done, (p, y), rfl, ?_⟩
              rw [HJ.out, hE.out, joinAcc, if_pos rfl]
            have g1 : (u == u) = true := by simp
            clear hE
            go_quiet (fail)
            have Eq := (E nq).out
            clear E B3 O3 p0 p1 q0 q1 g0 g1
            generalize w3.drewN nq = w4 at Eq ⊢
            obtain ⟨B4, O4, p0, p1⟩ := Eq
            obtain ⟨q0, q1⟩ := O4.pairAt HG.out
            have f1 := O4.2.frozenAt (m * 2 + 1)
            have S := Lib.hid (O4.set1 HG.out y)
            rw [HM.out, set_last, ← HM.out] at S
            have BS := B4.setCell (p := ⟨g, m * 2 + 1, none⟩) hbg (.int .i64 y)
            clear O4 B4
            go_wp2
            go_roundw
            case rel => exact ⟨k + 1, done ++ [(p, y)], by omega, by go_num, by simp [← HM.out]; omega, hnew, by rw [show (done ++ [(p, y)]).length = m + 1 by simp [HM.out]]; exact S.out, BS⟩
            case measure => simp [intOf]; omega
          · have hnew : Hid (JoinSt l (k + 1) ((done ++ [(p, u)]) ++ [(x, y)])) := by
              refine .inr ⟨done ++ [(p, u)], (x, y), rfl, ?_⟩
              rw [HJ.out, hE.out, joinAcc, if_neg (by exact hux), List.append_assoc]
              rfl
            have g1 : (u == x) = false := by simp [hux]
            clear hE
            go_quiet (fail)
            have Eq := (E nq).out
            clear E B3 O3 p0 p1 q0 q1 g0 g1
            generalize w3.drewN nq = w4 at Eq ⊢
            obtain ⟨B4, O4, p0, p1⟩ := Eq
            go_wp2_with (at_builtin; refine wpList_append_own _ rfl _ _ 23 rfl w.heap.size 42 i0 (.agg #[.int .i64 0, .int .i64 0]) 2 16 Try.underlying23 hi hz0 hz1 hz2 rfl (by decide) _ _ _ rfl (O4.2.alloc _) ⟨w4.heap.size, 0, none⟩ 1 1 [.int .i64 x, .int .i64 y] rfl rfl ?d1 ?d2 ?d3 ?d4 ?d5 ?_)
            case d1 => exact cell_new2 _ _ _ _
            case d2 => exact one_PP _ _
            case d3 => unfold maxLen; omega
            case d4 => omega
            case d5 => have := B4.size; simp; omega
            intro v' w5 hown' hg5 _
            have O5 : Own PP 2 w5 w.heap.size 42 v' ((done ++ [(p, u)]) ++ [(x, y)]).length ((done ++ [(p, u)]) ++ [(x, y)]) := by
              have := Own.snoc' (f := PP) (x := (x, y)) O4.1 (by simp [PP]) hown'
              rw [show ((done ++ [(p, u)]) ++ [(x, y)]).length = m + 1 + 1 by simp [HM.out]]
              exact this
            have B5 := (B4.alloc B4.size (.cells #[.int .i64 x, .int .i64 y] 42)).grown hg5 (by have := B4.size; simp; omega) (fun g hg => (O4.2.lt g hg).1)
            clear hown' hg5 O4 B4
            go_wp2
            go_roundw
            case rel => exact ⟨k + 1, _, by omega, by go_num, by simp [← HM.out]; omega, hnew, O5, B5⟩
            case measure => simp [intOf]; omega
      · have hE := drop_end (l := l) (k := k) (by rw [hln.out]; omega)
        have hfin : Hid (out = joinR l) := by
          rw [hL.out]
          rcases hst.out with ⟨rfl, rfl⟩ | ⟨done, cur, rfl, hj⟩
          · rw [List.drop_zero] at hE; rw [hE]; rfl
          · rw [hj, hE]; rfl
        clear hE hst
        obtain ⟨A2, c2, rfl, _, _⟩ := hw.form
        go_wp2
        go_ret2
        exact retPc_yes hfin.out hw hb
end Go.Proofs.Ytjhbpilgejbmjaa
