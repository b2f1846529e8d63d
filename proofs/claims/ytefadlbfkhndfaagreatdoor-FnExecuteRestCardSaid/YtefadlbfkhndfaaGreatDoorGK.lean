/-
  What the texts below prove: contracts and plain laws, each with its conditions.
-/
import Derived.Test.YtefadlbfkhndfaaGreatDoorGD
import Derived.Test.YtefadlbfkhndfaaGreatDoorGB
import Derived.Test.YtefadlbfkhndfaaGreatDoorGF
import Derived.Test.YtefadlbfkhndfaaGreatDoorGA
import Derived.BigQuiet

/-
  Contracts: isSpan, LayersCount, LayersAge of the program.
-/
namespace Go.Proofs.YtefadlbfkhndfaaGreatDoor
open Go.RowKit
set_option linter.unusedSimpArgs false
set_option linter.unusedVariables false

set_option maxRecDepth 100000 in
theorem isSpan_any (a b : Int) (r : Bool) (hr : spanB a b = r) (w : World) : Calls Tryz.prog 60 #[.int .i64 a, .int .i64 b] w fun e w' => e = .returned (.bool r) ∧ w = w' := by
  unfold spanB at hr
  cases hA : isD a with
  | false =>
    have C := Lib.hid (isDepth_any a false hA)
    have hr' : r = false := by rw [← hr]; exact decide_eq_false (by have := isD_no hA; omega)
    subst hr'
    clear hr hA
    go_enter Tryz.func60, Tryz.ntmps60
    go_wp2_with (go_at_call 56; refine (C.out _).mono ?_; rintro e w' ⟨rfl, rfl⟩)
    go_ret
    exact ⟨rfl, rfl⟩
  | true =>
    have C := Lib.hid (isDepth_any a true hA)
    have qa := (isD_iff a).1 hA
    cases hB : isD b with
    | false =>
      have D := Lib.hid (isDepth_any b false hB)
      have hr' : r = false := by rw [← hr]; exact decide_eq_false (by have := isD_no hB; omega)
      subst hr'
      clear hr hA hB
      go_enter Tryz.func60, Tryz.ntmps60
      go_wp2_with (go_at_call 56; (first | (with_reducible refine (C.out _).mono ?_; rintro e w' ⟨rfl, rfl⟩) | (with_reducible refine (D.out _).mono ?_; rintro e w' ⟨rfl, rfl⟩)))
      go_ret
      exact ⟨rfl, rfl⟩
    | true =>
      have D := Lib.hid (isDepth_any b true hB)
      have qb := (isD_iff b).1 hB
      have hr' : r = decide (a ≤ b) := by rw [← hr, Bool.eq_iff_iff]; simp; omega
      subst hr'
      clear hr hA hB
      go_enter Tryz.func60, Tryz.ntmps60
      go_wp2_with (go_at_call 56; (first | (with_reducible refine (C.out _).mono ?_; rintro e w' ⟨rfl, rfl⟩) | (with_reducible refine (D.out _).mono ?_; rintro e w' ⟨rfl, rfl⟩)))
      go_ret
      exact ⟨ret_bool (by simp), rfl⟩

set_option maxRecDepth 100000 in
set_option maxHeartbeats 4000000 in
theorem implLayersCount_any (A : Option Addr) (n c : Nat) (l : List Ly) (t b : Int) (w : World) (h : Arr LL 2 w w.heap.size A n l) (hn : n ≤ 1000000) :
    Calls Tryz.prog 26 #[.slice A n c, .int .i64 t, .int .i64 b] w fun e w' => e = .returned (.tuple #[.int .i64 (oA (countL l t b)), .int .i64 (oB (countL l t b)), .bool (countL l t b).isSome]) ∧ Below w.heap.size w w' := by
  have hln := Lib.hid h.1
  have C := implLayersValid_any A n c l w h (by omega)
  cases hB : layB l with
  | false =>
    rw [hB] at C
    have C' := Lib.hid C
    have hL : countL l t b = none := by unfold countL; rw [if_neg (by simp [hB])]
    rw [hL]
    clear C hB hL
    go_enter Tryz.func26, Tryz.ntmps26
    go_wp2_with (go_at_call 20; refine C'.out.mono ?_; rintro e w1 ⟨rfl, hb⟩)
    go_ret3
    exact ⟨rfl, hb⟩
  | true =>
    rw [hB] at C
    have C' := Lib.hid C
    cases hS : spanB t b with
    | false =>
      have SP := Lib.hid (isSpan_any t b false hS)
      have hL : countL l t b = none := by unfold countL; rw [if_neg (by simp [hS])]
      rw [hL]
      clear C hB hL hS
      go_enter Tryz.func26, Tryz.ntmps26
      go_wp2_with (first
        | (go_at_call 20; refine C'.out.mono ?_; rintro e w1 ⟨rfl, hb⟩)
        | (go_at_call 60; refine (SP.out _).mono ?_; rintro e w' ⟨rfl, rfl⟩))
      go_ret3
      exact ⟨rfl, hb⟩
    | true =>
      have SP := Lib.hid (isSpan_any t b true hS)
      have hL : countL l t b = some (cntSure t b l, cntAll t b l) := by unfold countL; rw [if_pos ⟨hB, hS⟩]
      rw [hL]
      simp only [oA, oB, Option.isSome_some]
      clear C hB hL hS
      go_enter Tryz.func26, Tryz.ntmps26
      go_wp2_with (first
        | (go_at_call 20; refine C'.out.mono ?_; rintro e w1 ⟨rfl, hb1⟩)
        | (go_at_call 60; refine (SP.out _).mono ?_; rintro e w' ⟨rfl, rfl⟩))
      go_loopw [9, 10, 24] (fun s a i wr => ∃ k p q : Nat, k ≤ n ∧ i = .int .i64 k ∧ s = .int .i64 p ∧ a = .int .i64 q ∧ p ≤ k ∧ q ≤ k ∧ Hid (cntAll t b (l.take k) = q ∧ cntSure t b (l.take k) = p) ∧ Below w.heap.size w wr) (fun _ _ i _ => n - (intOf i).toNat)
      case atStart => exact ⟨0, 0, 0, Nat.zero_le _, rfl, rfl, rfl, Nat.le_refl _, Nat.le_refl _, Lib.hid ⟨rfl, rfl⟩, hb1⟩
      case round =>
        obtain ⟨k, p, q, hk, rfl, rfl, rfl, hp, hq, hst, hb⟩ := hrel
        clear hb1 C' SP
        by_cases hlt : k < n
        · obtain ⟨bb, off, x, s, rfl, hbB, hx, c1, c2⟩ := h.layer hlt
          have HX := Lib.hid hx
          clear hx
          have c1' := (hb.cell (by exact hbB)).trans c1
          have c2' := (hb.cell (by exact hbB)).trans c2
          have ik : (k : Int) < (n : Int) := by omega
          have hsz := hb.size
          have Bp := hb.alloc hsz (.cells #[.int .i64 x, .bool s] 73)
          clear c1 c2
          by_cases h1 : x < t
          · have hs2 := Lib.hid (cnt_out (t := t) (b := b) HX.out (by omega))
            go_wp2_with fail
            go_roundw
            case rel => exact ⟨k + 1, p, q, by omega, by go_num, rfl, rfl, by omega, by omega, Lib.hid ⟨hs2.out.1.trans hst.out.1, hs2.out.2.trans hst.out.2⟩, Bp⟩
            case measure => simp [intOf]; omega
          · by_cases h2 : b ≤ x
            · have hs2 := Lib.hid (cnt_out (t := t) (b := b) HX.out (by omega))
              go_wp2_with fail
              go_roundw
              case rel => exact ⟨k + 1, p, q, by omega, by go_num, rfl, rfl, by omega, by omega, Lib.hid ⟨hs2.out.1.trans hst.out.1, hs2.out.2.trans hst.out.2⟩, Bp⟩
              case measure => simp [intOf]; omega
            · cases s with
              | true =>
                have hs2 := Lib.hid (cnt_sure (t := t) (b := b) HX.out (by omega))
                go_wp2_with fail
                go_roundw
                case rel => exact ⟨k + 1, p + 1, q + 1, by omega, by go_num, by go_num, by go_num, by omega, by omega, Lib.hid ⟨by rw [hs2.out.1, hst.out.1], by rw [hs2.out.2, hst.out.2]⟩, Bp⟩
                case measure => simp [intOf]; omega
              | false =>
                have hs2 := Lib.hid (cnt_unsure (t := t) (b := b) HX.out (by omega))
                go_wp2_with fail
                go_roundw
                case rel => exact ⟨k + 1, p, q + 1, by omega, by go_num, rfl, by go_num, by omega, by omega, Lib.hid ⟨by rw [hs2.out.1, hst.out.1], by rw [hs2.out.2, hst.out.2]⟩, Bp⟩
                case measure => simp [intOf]; omega
        · obtain rfl : k = n := by omega
          have hE := Lib.hid (show l.take k = l from List.take_of_length_le (by rw [hln.out]; exact Nat.le_refl _))
          have hfin := Lib.hid (show cntAll t b l = q ∧ cntSure t b l = p by have := hst.out; rw [hE.out] at this; exact this)
          clear hE hst
          go_wp2
          go_ret3
          rw [hfin.out.1, hfin.out.2]
          exact ⟨rfl, hb⟩

set_option maxHeartbeats 1000000 in
theorem implLayersAge_any (A : Option Addr) (n c : Nat) (l : List Ly) (a d : Int) (w : World) (h : Arr LL 2 w w.heap.size A n l) (hn : n ≤ 1000) (ha : -1000000000 ≤ a ∧ a ≤ 1000000000) :
    Calls Tryz.prog 30 #[.slice A n c, .int .i64 a, .int .i64 d] w fun e w' => e = .returned (.tuple #[.int .i64 (oC (ageL l a d)), .int .i64 (oD (ageL l a d)), .bool (ageL l a d).isSome]) ∧ Below w.heap.size w w' := by
  have C := implLayersCount_any A n c l 0 d w h (by omega)
  have hbd := countL_bd l 0 d (by rw [h.1]; omega)
  unfold ageL
  obtain ⟨a0, a1⟩ := ha
  cases ho : countL l 0 d with
  | none =>
    rw [ho] at C
    simp only [oA, oB, Option.isSome_none] at C
    have C' := Lib.hid C
    have hE : (if -400000 ≤ a ∧ a ≤ 400000 then (none : Option (Nat × Nat)).map fun p => ((a + p.1 : Int), (a + p.2 : Int)) else none) = none := by split <;> rfl
    rw [hE]
    clear C ho hE hbd
    go_enter Tryz.func30, Tryz.ntmps30
    go_wp2_with (go_at_call 26; refine C'.out.mono ?_; rintro e w1 ⟨rfl, hb⟩)
    go_ret3
    exact ⟨rfl, hb⟩
  | some p =>
    rw [ho] at C hbd
    obtain ⟨u, v⟩ := p
    simp only [oA, oB, Option.isSome_some] at C hbd
    have C' := Lib.hid C
    obtain ⟨⟨_, hu⟩, _, hv⟩ := hbd
    clear C ho
    rcases (show a < -400000 ∨ (-400000 ≤ a ∧ 400000 < a) ∨ (-400000 ≤ a ∧ a ≤ 400000) by omega) with h1 | ⟨h1, h2⟩ | ⟨h1, h2⟩
    · rw [if_neg (by omega)]
      go_enter Tryz.func30, Tryz.ntmps30
      go_wp2_with (go_at_call 26; refine C'.out.mono ?_; rintro e w1 ⟨rfl, hb⟩)
      go_ret3
      exact ⟨rfl, hb⟩
    · rw [if_neg (by omega)]
      go_enter Tryz.func30, Tryz.ntmps30
      go_wp2_with (go_at_call 26; refine C'.out.mono ?_; rintro e w1 ⟨rfl, hb⟩)
      go_ret3
      exact ⟨rfl, hb⟩
    · rw [if_pos ⟨h1, h2⟩]
      have f1 : ¬ (a < -400000) := by omega
      have f2 : ¬ (400000 < a) := by omega
      have e1 : IntKind.i64.wrap (a + (u : Int)) = a + (u : Int) := IntWalk.i64_in _ ⟨by omega, by omega⟩
      have e2 : IntKind.i64.wrap (a + (v : Int)) = a + (v : Int) := IntWalk.i64_in _ ⟨by omega, by omega⟩
      go_enter Tryz.func30, Tryz.ntmps30
      go_wp2_with (go_at_call 26; refine C'.out.mono ?_; rintro e w1 ⟨rfl, hb⟩)
      go_ret3
      exact ⟨rfl, hb⟩
theorem implLayersAge0_any (A : Option Addr) (n c : Nat) (l : List Ly) (d : Int) (w : World) (h : Arr LL 2 w w.heap.size A n l) (hn : n ≤ 1000) :
    Calls Tryz.prog 30 #[.slice A n c, .int .i64 0, .int .i64 d] w fun e w' => e = .returned (.tuple #[.int .i64 (oA (countL l 0 d)), .int .i64 (oB (countL l 0 d)), .bool (countL l 0 d).isSome]) ∧ Below w.heap.size w w' := by
  have C := implLayersAge_any A n c l 0 d w h hn (by decide)
  obtain ⟨e1, e2, e3⟩ := ageL_zero l d
  rw [e1, e2, e3] at C
  exact C
theorem Scr.layArr {w : World} {g : Nat} {s : St} (h : Scr w g s) : ∃ Al cl, w.cell? ⟨g, 1, none⟩ = some (.slice Al s.lays.length cl) ∧ Arr LL 2 w w.heap.size Al s.lays.length s.lays := by
  obtain ⟨Ac, nc, cc, Al, nl, cl, h1, h2, h3⟩ := h
  have e := h3.1
  subst e
  exact ⟨Al, cl, (Lib.cell_of_heap h1 1).trans rfl, h3.arr LL_length⟩
end Go.Proofs.YtefadlbfkhndfaaGreatDoor

/-
  Contracts: LayersCount, LayersAge of the reference.
-/
namespace Go.Proofs.YtefadlbfkhndfaaGreatDoor
open Go.RowKit
set_option linter.unusedSimpArgs false
set_option linter.unusedVariables false

set_option maxRecDepth 100000 in
set_option maxHeartbeats 4000000 in
theorem specLayersCount_any (A : Option Addr) (n c : Nat) (l : List Ly) (t b : Int) (w : World) (h : Arr LL 2 w w.heap.size A n l) (hn : n ≤ 1000000) :
    Calls Tryz.prog 27 #[.slice A n c, .int .i64 t, .int .i64 b] w fun e w' => e = .returned (.tuple #[.int .i64 (oA (countL l t b)), .int .i64 (oB (countL l t b)), .bool (countL l t b).isSome]) ∧ Below w.heap.size w w' := by
  have hln := Lib.hid h.1
  have C := specLayersValid_any A n c l w h (by omega)
  cases hB : layB l with
  | false =>
    rw [hB] at C
    have C' := Lib.hid C
    have hL : countL l t b = none := by unfold countL; rw [if_neg (by simp [hB])]
    rw [hL]
    clear C hB hL
    go_enter Tryz.func27, Tryz.ntmps27
    go_wp2_with (go_at_call 21; refine C'.out.mono ?_; rintro e w1 ⟨rfl, hb⟩)
    go_ret3
    exact ⟨rfl, hb⟩
  | true =>
    rw [hB] at C
    have C' := Lib.hid C
    cases hT : isD t with
    | false =>
      have D := Lib.hid (l11Depth_any t false hT)
      have hL : countL l t b = none := by unfold countL spanB; rw [if_neg (by have := isD_no hT; simp; omega)]
      rw [hL]
      clear C hB hL hT
      go_enter Tryz.func27, Tryz.ntmps27
      go_wp2_with (first
        | (go_at_call 21; refine C'.out.mono ?_; rintro e w1 ⟨rfl, hb⟩)
        | (go_at_call 57; refine (D.out _).mono ?_; rintro e w' ⟨rfl, rfl⟩))
      go_ret3
      exact ⟨rfl, hb⟩
    | true =>
      have D := Lib.hid (l11Depth_any t true hT)
      have qt := (isD_iff t).1 hT
      by_cases hI : t ≤ b ∧ b ≤ 30000
      · have I := Lib.hid (l6In_any b t 30000 true (decide_eq_true hI))
        have hL : countL l t b = some (cntSure t b l, cntAll t b l) := by unfold countL spanB; rw [if_pos ⟨hB, by simp; omega⟩]
        rw [hL]
        simp only [oA, oB, Option.isSome_some]
        clear C hB hL hT
        go_enter Tryz.func27, Tryz.ntmps27
        go_wp2_with (first
          | (go_at_call 21; refine C'.out.mono ?_; rintro e w1 ⟨rfl, hb1⟩)
          | (go_at_call 57; refine (D.out _).mono ?_; rintro e w' ⟨rfl, rfl⟩)
          | (go_at_call 61; refine (I.out _).mono ?_; rintro e w' ⟨rfl, rfl⟩))
        go_loopw [9, 10, 11] (fun s a i wr => ∃ k p q : Nat, k ≤ n ∧ i = .int .i64 k ∧ s = .int .i64 p ∧ a = .int .i64 q ∧ p ≤ k ∧ q ≤ k ∧ Hid (cntAll t b (l.take k) = q ∧ cntSure t b (l.take k) = p) ∧ Below w.heap.size w wr) (fun _ _ i _ => n - (intOf i).toNat)
        case atStart => exact ⟨0, 0, 0, Nat.zero_le _, rfl, rfl, rfl, Nat.le_refl _, Nat.le_refl _, Lib.hid ⟨rfl, rfl⟩, hb1⟩
        case round =>
          obtain ⟨k, p, q, hk, rfl, rfl, rfl, hp, hq, hst, hb⟩ := hrel
          clear hb1 C' D I
          by_cases hlt : k < n
          · obtain ⟨bb, off, x, s, rfl, hbB, hx, c1, c2⟩ := h.layer hlt
            have HX := Lib.hid hx
            clear hx
            have c1' := (hb.cell (by exact hbB)).trans c1
            have c2' := (hb.cell (by exact hbB)).trans c2
            have ik : (k : Int) < (n : Int) := by omega
            have ik0 : (0 : Int) ≤ (k : Int) := by omega
            clear c1 c2
            by_cases h1 : x < t
            · have g1 : ¬ (t ≤ x) := by omega
              have hs2 := Lib.hid (cnt_out (t := t) (b := b) HX.out (by omega))
              go_wp2_with fail
              go_roundw
              case rel => exact ⟨k + 1, p, q, by omega, by go_num, rfl, rfl, by omega, by omega, Lib.hid ⟨hs2.out.1.trans hst.out.1, hs2.out.2.trans hst.out.2⟩, hb⟩
              case measure => simp [intOf]; omega
            · have g1 : t ≤ x := by omega
              by_cases h2 : b ≤ x
              · have g2 : ¬ (x < b) := by omega
                have hs2 := Lib.hid (cnt_out (t := t) (b := b) HX.out (by omega))
                go_wp2_with fail
                go_roundw
                case rel => exact ⟨k + 1, p, q, by omega, by go_num, rfl, rfl, by omega, by omega, Lib.hid ⟨hs2.out.1.trans hst.out.1, hs2.out.2.trans hst.out.2⟩, hb⟩
                case measure => simp [intOf]; omega
              · have g2 : x < b := by omega
                cases s with
                | true =>
                  have hs2 := Lib.hid (cnt_sure (t := t) (b := b) HX.out (by omega))
                  go_wp2_with fail
                  go_roundw
                  case rel => exact ⟨k + 1, p + 1, q + 1, by omega, by go_num, by go_num, by go_num, by omega, by omega, Lib.hid ⟨by rw [hs2.out.1, hst.out.1], by rw [hs2.out.2, hst.out.2]⟩, hb⟩
                  case measure => simp [intOf]; omega
                | false =>
                  have hs2 := Lib.hid (cnt_unsure (t := t) (b := b) HX.out (by omega))
                  go_wp2_with fail
                  go_roundw
                  case rel => exact ⟨k + 1, p, q + 1, by omega, by go_num, rfl, by go_num, by omega, by omega, Lib.hid ⟨by rw [hs2.out.1, hst.out.1], by rw [hs2.out.2, hst.out.2]⟩, hb⟩
                  case measure => simp [intOf]; omega
          · obtain rfl : k = n := by omega
            have hE := Lib.hid (show l.take k = l from List.take_of_length_le (by rw [hln.out]; exact Nat.le_refl _))
            have hfin := Lib.hid (show cntAll t b l = q ∧ cntSure t b l = p by have := hst.out; rw [hE.out] at this; exact this)
            clear hE hst
            go_wp2
            go_ret3
            rw [hfin.out.1, hfin.out.2]
            exact ⟨rfl, hb⟩
      · have I := Lib.hid (l6In_any b t 30000 false (decide_eq_false hI))
        have hL : countL l t b = none := by unfold countL spanB; rw [if_neg (by simp; omega)]
        rw [hL]
        clear C hB hL hT
        go_enter Tryz.func27, Tryz.ntmps27
        go_wp2_with (first
          | (go_at_call 21; refine C'.out.mono ?_; rintro e w1 ⟨rfl, hb⟩)
          | (go_at_call 57; refine (D.out _).mono ?_; rintro e w' ⟨rfl, rfl⟩)
          | (go_at_call 61; refine (I.out _).mono ?_; rintro e w' ⟨rfl, rfl⟩))
        go_ret3
        exact ⟨rfl, hb⟩

set_option maxHeartbeats 1000000 in
theorem specLayersAge_any (A : Option Addr) (n c : Nat) (l : List Ly) (a d : Int) (w : World) (h : Arr LL 2 w w.heap.size A n l) (hn : n ≤ 1000) (ha : -1000000000 ≤ a ∧ a ≤ 1000000000) :
    Calls Tryz.prog 31 #[.slice A n c, .int .i64 a, .int .i64 d] w fun e w' => e = .returned (.tuple #[.int .i64 (oC (ageL l a d)), .int .i64 (oD (ageL l a d)), .bool (ageL l a d).isSome]) ∧ Below w.heap.size w w' := by
  have C := specLayersCount_any A n c l 0 d w h (by omega)
  have hbd := countL_bd l 0 d (by rw [h.1]; omega)
  unfold ageL
  obtain ⟨a0, a1⟩ := ha
  cases ho : countL l 0 d with
  | none =>
    rw [ho] at C
    simp only [oA, oB, Option.isSome_none] at C
    have C' := Lib.hid C
    have hE : (if -400000 ≤ a ∧ a ≤ 400000 then (none : Option (Nat × Nat)).map fun p => ((a + p.1 : Int), (a + p.2 : Int)) else none) = none := by split <;> rfl
    rw [hE]
    clear C ho hE hbd
    go_enter Tryz.func31, Tryz.ntmps31
    go_wp2_with (go_at_call 27; refine C'.out.mono ?_; rintro e w1 ⟨rfl, hb⟩)
    go_ret3
    exact ⟨rfl, hb⟩
  | some p =>
    rw [ho] at C hbd
    obtain ⟨u, v⟩ := p
    simp only [oA, oB, Option.isSome_some] at C hbd
    have C' := Lib.hid C
    obtain ⟨⟨_, hu⟩, _, hv⟩ := hbd
    clear C ho
    by_cases h1 : -400000 ≤ a ∧ a ≤ 400000
    · have I := Lib.hid (l6In_any a (-400000) 400000 true (decide_eq_true h1))
      rw [if_pos h1]
      have e1 : IntKind.i64.wrap (a + (u : Int)) = a + (u : Int) := IntWalk.i64_in _ ⟨by omega, by omega⟩
      have e2 : IntKind.i64.wrap (a + (v : Int)) = a + (v : Int) := IntWalk.i64_in _ ⟨by omega, by omega⟩
      go_enter Tryz.func31, Tryz.ntmps31
      go_wp2_with (first
        | (go_at_call 27; refine C'.out.mono ?_; rintro e w1 ⟨rfl, hb⟩)
        | (go_at_call 61; refine (I.out _).mono ?_; rintro e w' ⟨rfl, rfl⟩))
      go_ret3
      exact ⟨rfl, hb⟩
    · have I := Lib.hid (l6In_any a (-400000) 400000 false (decide_eq_false h1))
      rw [if_neg h1]
      go_enter Tryz.func31, Tryz.ntmps31
      go_wp2_with (first
        | (go_at_call 27; refine C'.out.mono ?_; rintro e w1 ⟨rfl, hb⟩)
        | (go_at_call 61; refine (I.out _).mono ?_; rintro e w' ⟨rfl, rfl⟩))
      go_ret3
      exact ⟨rfl, hb⟩
end Go.Proofs.YtefadlbfkhndfaaGreatDoor
