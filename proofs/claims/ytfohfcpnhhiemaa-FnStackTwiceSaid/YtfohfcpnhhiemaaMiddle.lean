/-
  Contracts: slices.Sort on a row of the call's own; the program's StackMiddle.
-/
import Derived.Test.YtfohfcpnhhiemaaShelf
import Derived.Sort.OwnSortedInts
import Derived.Test.YtfohfcpnhhiemaaStackSum
import Derived.Test.YtfohfcpnhhiemaaPlainM
namespace Go.Proofs.Ytfohfcpnhhiemaa
open Go.RowKit
set_option linter.unusedSimpArgs false
set_option linter.unusedVariables false

theorem flatMap_II (l : List Int) : l.flatMap II = l.map (Value.int .i64) := by
  induction l with
  | nil => rfl
  | cons x l ih => rw [List.flatMap_cons, ih]; rfl
theorem sort_own (base g n c : Nat) (T : TypeId) (l : List Int) (w : World) (h : Own II 1 w base T (.slice (some ⟨g, 0, none⟩) n c) n l) (hn : n ≤ 1000000) :
    Calls Try.prog 64 #[.slice (some ⟨g, 0, none⟩) n c] w fun e w' => e = .returned (.tuple #[]) ∧ Own II 1 w' base T (.slice (some ⟨g, 0, none⟩) n c) n (sortI l) ∧ w.grownBy w' (some g) := by
  rcases h.2.2 with ⟨h0, _⟩ | ⟨g', cap, cur, hv, hb, hg, h1, h2, h3, h4⟩
  · cases h0
  · injection hv with hA hn' hc'
    injection hA with hA
    injection hA with hA _
    subst hA; subst hc'
    have hln : l.length = n := h.1
    rw [Nat.mul_one, flatMap_II] at h4
    have H : Go.Sort.Holds (Value.int .i64) w g 0 l.toArray := holds_of_blockI hg (by rw [hln]; exact h4)
    have C := Try.slices_Sort_int g 0 c l w H (Array.getElem?_eq_some_iff.1 hg).1 (by omega)
    rw [hln] at C
    refine C.mono ?_
    rintro e w' ⟨he, q, os, hw⟩
    refine ⟨he, ?_, ?_⟩
    · subst hw
      refine ⟨by rw [sortI_length, hln], ?_⟩
      have := ownsRow_sortedI (n := q) (os := os) (ss := l) (ts := sortI l) (sortI_length l) hb hg (by omega) h2 h3
      rw [hln] at this
      rw [flatMap_II]
      exact this
    · subst hw
      exact grownBy_sortedI _

set_option maxHeartbeats 2000000 in
theorem implMiddle_any (A : Option Addr) (n c : Nat) (R : List (List Int)) (w : World) (h : Rows2 w w.heap.size A n R) (hn : n ≤ 1099511627776) (hrl : ∀ r ∈ R, r.length ≤ 1099511627776) :
    Calls Try.prog 42 #[.slice A n c] w (RetInts 3 w (midsR R) (stackB R)) := by
  obtain ⟨i0, hi, hz0, hz1, hz2⟩ := info_parts infoInt
  have C := implStackValid_any A n c R w h hn hrl
  cases hB : stackB R with
  | false =>
    rw [hB] at C
    have C' := Lib.hid C
    have hL := Lib.hid (show midsR R = [] by unfold midsR; rw [hB]; rfl)
    clear C hB hrl
    go_enter Try.func42, Try.ntmps42
    go_wp2_with fail
    refine C'.out.mono ?_
    rintro e w1 ⟨rfl, rfl⟩
    go_wp2
    go_ret2
    rw [hL.out]
    exact retInts_no (Below.refl _ _)
  | true =>
    rw [hB] at C
    have C' := Lib.hid C
    have hL := Lib.hid (show midsR R = mids R (wid R) by unfold midsR; rw [hB]; rfl)
    obtain ⟨s1, s6⟩ := stack_len hB
    obtain ⟨m1, m20⟩ := stack_wid hB
    have hmem := Lib.hid (fun r hr => stack_mem hB (r := r) hr)
    have hln := Lib.hid h.len
    rw [h.len] at s1 s6
    obtain ⟨b0, off0, r0, A0, c0, hA0, hb0, hx0, d0, hd0, ha0⟩ := h.row (k := 0) (by omega)
    have hw0 := wid_of hx0
    obtain ⟨m, hm⟩ : ∃ m, m = wid R := ⟨_, rfl⟩
    have HM := Lib.hid hm
    rw [← hm] at m1 m20 hw0 hL
    rw [← hw0, Nat.add_zero] at d0
    subst hA0
    obtain ⟨q, hq⟩ : ∃ q, q = (n - 1) / 2 := ⟨_, rfl⟩
    have q1 : ((n : Int) - 1) / 2 = (q : Int) := by rw [hq]; omega
    have q2 : ((n : Int) - 1).tdiv 2 = (q : Int) := by rw [hq, show ((n : Int) - 1) = ((n - 1 : Nat) : Int) by omega]; rfl
    have hqn : q < n := by omega
    have hMA := Lib.hid (fun k => by
      have e := mid_at (c := col R k) (by rw [col_length, hln.out]; omega)
      rw [col_length, hln.out, ← hq] at e
      exact e)
    have Q1 := Lib.hid q1
    have Q2 := Lib.hid q2
    clear C hB hrl hx0 hw0 ha0 hm hq q1 q2
    have hn0 : 0 < n := by omega
    go_enter Try.func42, Try.ntmps42
    go_wp2_with fail
    refine C'.out.mono ?_
    rintro e w1 ⟨rfl, rfl⟩
    clear C'
    go_wp2
    go_loopw [4, 16] (fun v k wr => ∃ j : Nat, j ≤ m ∧ k = .int .i64 j ∧ Own II 1 wr w.heap.size 3 v j (mids R j) ∧ Below w.heap.size w wr) (fun _ k _ => m - (intOf k).toNat)
    case atStart => exact ⟨0, Nat.zero_le _, rfl, Own.nil_ _ _ _ _ _, Below.refl _ _⟩
    case round =>
      obtain ⟨k, hk, rfl, hw, hb⟩ := hrel
      by_cases hlt : k < m
      · have hkw := Lib.hid (show k < wid R by rw [← HM.out]; exact hlt)
        have hS := Lib.hid (mids_succ R k)
        obtain ⟨wo, rfl⟩ : ∃ wo : World, wo = wr := ⟨_, rfl⟩
        have hsz := hb.size
        go_wp2_with fail
        go_loopw [6, 21] (fun v i wr => ∃ i' : Nat, i' ≤ n ∧ i = .int .i64 i' ∧ Own II 1 wr wo.heap.size 3 v i' ((col R k).take i') ∧ Below wo.heap.size wo wr) (fun _ i _ => n - (intOf i).toNat)
        case atStart => exact ⟨0, Nat.zero_le _, rfl, Own.nil_ _ _ _ _ _, Below.refl _ _⟩
        case round =>
          obtain ⟨i', hi', rfl, hl, hbo⟩ := hrel
          have hbw := hb.trans (hbo.mono hb.size)
          by_cases hin : i' < n
          · obtain ⟨b, off, r, A', c', e, hbB, hx, c1, hc1, ha⟩ := h.row hin
            injection e with e; injection e with e1 e2; subst e1; subst e2
            obtain ⟨hra, hrw, hr1, hr20⟩ := hmem.out r (List.mem_of_getElem? hx)
            have hkr : k < r.length := by rw [hrw]; exact hkw.out
            obtain ⟨b', off', x, rfl, hbB', hy, c2⟩ := ha.int hkr
            have g1 := (hbw.cell (by exact hbB)).trans c1
            have g2 := (hbw.cell (by exact hbB')).trans c2
            have hT := Lib.hid (take_snoc (show (col R k)[i']? = some x by rw [col_get hx, at0_of hy]))
            have i1 : (k : Int) < (r.length : Int) := by omega
            clear hx hy hra hrw c1 c2
            go_wp2_with (at_builtin; refine wpList_append_own _ rfl _ _ 28 rfl wo.heap.size 3 i0 (.int .i64 0) 1 8 Try.underlying28 hi hz0 hz1 hz2 rfl (by decide) _ _ _ rfl (hl.2.alloc _) ⟨wr.heap.size, 0, none⟩ 1 1 [.int .i64 x] rfl rfl ?d1 ?d2 ?d3 ?d4 ?d5 ?_)
            first | (case d1 => exact cell_new1 _ _ _) | skip
            case d2 => first | exact one_II _ | rfl
            case d3 => unfold maxLen; omega
            case d4 => omega
            case d5 => have := hbo.size; simp; omega
            intro v' w4 hown' hg4 _
            have hl4 : Own II 1 w4 wo.heap.size 3 v' (i' + 1) ((col R k).take i' ++ [x]) := Own.snoc' hl.1 (by simp [II]) hown'
            rw [← hT.out] at hl4
            have hb4 := (hbo.alloc hbo.size (.cells #[.int .i64 x] 3)).grown hg4 (by have := hbo.size; simp; omega) (fun j hj => (hl.2.lt j hj).1)
            clear hown' hg4 hl hbo hbw g1 g2
            go_wp2
            go_roundw
            case rel => exact ⟨i' + 1, by omega, by go_num, hl4, hb4⟩
            case measure => simp [intOf]; omega
          · obtain rfl : i' = n := by omega
            rw [List.take_of_length_le (by rw [col_length, hln.out]; exact Nat.le_refl _)] at hl
            obtain ⟨g, c', rfl, hg0, hg1, hgc⟩ := hl.head hn0
            go_wp2_with fail
            refine (sort_own _ g i' c' _ _ _ hl (by omega)).mono ?_
            rintro e w5 ⟨rfl, hl5, hg5⟩
            have hb5 := hbo.grown hg5 hbo.size (fun j hj => by injection hj with hj; omega)
            have hbw5 := hb.trans (hb5.mono hb.size)
            have hw5 := hw.below hb5 (Nat.le_refl _)
            have k5 := hl5.intAt (hMA.out k)
            have q1 := Q1.out
            have q2 := Q2.out
            have i1 : (q : Int) < (i' : Int) := by omega
            have hbz := hbw5.size
            clear hbw hbo hl hl5 hg5 hb5 hw hb
            go_wp2_with (at_builtin; refine wpList_append_own _ rfl _ _ 28 rfl w.heap.size 3 i0 (.int .i64 0) 1 8 Try.underlying28 hi hz0 hz1 hz2 rfl (by decide) _ _ _ rfl (hw5.2.alloc _) ⟨w5.heap.size, 0, none⟩ 1 1 [.int .i64 (mid (col R k))] rfl rfl ?e1 ?e2 ?e3 ?e4 ?e5 ?_)
            first | (case e1 => exact cell_new1 _ _ _) | skip
            case e2 => first | exact one_II _ | rfl
            case e3 => unfold maxLen; omega
            case e4 => omega
            case e5 => simp; omega
            intro v' w6 hown' hg6 _
            have hw6 : Own II 1 w6 w.heap.size 3 v' (k + 1) (mids R k ++ [mid (col R k)]) := Own.snoc' hw5.1 (by simp [II]) hown'
            rw [← hS.out] at hw6
            have hb6 := (hbw5.alloc hbw5.size (.cells #[.int .i64 (mid (col R k))] 3)).grown hg6 (by simp; omega) (fun j hj => (hw5.2.lt j hj).1)
            clear hown' hg6 hw5 hbw5 k5 q1 q2
            go_wp2
            go_roundw
            case rel => exact ⟨k + 1, by omega, by go_num, hw6, hb6⟩
            case measure => simp [intOf]; omega
      · obtain rfl : k = m := by omega
        obtain ⟨A2, c2, rfl, _, _⟩ := hw.form
        go_wp2
        go_ret2
        exact retInts_yes hL.out.symm hw hb
end Go.Proofs.Ytfohfcpnhhiemaa
