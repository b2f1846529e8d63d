/-
  Contracts: StackMean of the program and the reference.
-/
import Derived.Test.YtfohfcpnhhiemaaFracOf
import Derived.Test.YtfohfcpnhhiemaaEqFrac
namespace Go.Proofs.Ytfohfcpnhhiemaa
open Go.RowKit
set_option linter.unusedSimpArgs false
set_option linter.unusedVariables false

/-- A call hands back a row of pairs of its own, and whether there is one. -/
def RetPairs (T : TypeId) (w : World) (l : List (Int × Int)) (ok : Bool) (e : Ending) (w' : World) : Prop :=
  ∃ A n c, e = .returned (.tuple #[.slice A n c, .bool ok]) ∧ Own PP 2 w' w.heap.size T (.slice A n c) n l ∧ Below w.heap.size w w'
theorem retPairs_no {T : TypeId} {w w' : World} (hb : Below w.heap.size w w') : RetPairs T w [] false (.returned (.tuple #[.slice none 0 0, .bool false])) w' :=
  ⟨none, 0, 0, rfl, Own.nil_ _ _ _ _ _, hb⟩
theorem retPairs_made {T : TypeId} {w w' : World} {A : Option Addr} {c : Nat} (ho : Own PP 2 w' w.heap.size T (.slice A 0 c) 0 []) (hb : Below w.heap.size w w') : RetPairs T w [] false (.returned (.tuple #[.slice A 0 c, .bool false])) w' :=
  ⟨A, 0, c, rfl, ho, hb⟩
theorem retPairs_yes {T : TypeId} {w w' : World} {l l' : List (Int × Int)} {A : Option Addr} {n c : Nat} (he : l' = l) (ho : Own PP 2 w' w.heap.size T (.slice A n c) n l') (hb : Below w.heap.size w w') : RetPairs T w l true (.returned (.tuple #[.slice A n c, .bool true])) w' := by
  subst he
  exact ⟨A, n, c, rfl, ho, hb⟩

set_option maxHeartbeats 2000000 in
theorem implMean_any (A : Option Addr) (n c : Nat) (R : List (List Int)) (w : World) (h : Rows2 w w.heap.size A n R) (hn : n ≤ 1099511627776) (hrl : ∀ r ∈ R, r.length ≤ 1099511627776) :
    Calls Try.prog 32 #[.slice A n c] w (RetPairs 45 w (meansR R) (stackB R)) := by
  obtain ⟨i0, hi, hz0, hz1, hz2⟩ := info_parts infoFrac
  have C := implSum_any A n c R w h hn hrl
  cases hB : stackB R with
  | false =>
    rw [hB] at C
    have C' := Lib.hid C
    have hL := Lib.hid (show meansR R = [] by unfold meansR; rw [hB]; rfl)
    clear C hB hrl
    go_enter Try.func32, Try.ntmps32
    go_wp2_with fail
    refine C'.out.mono ?_
    rintro e w1 ⟨A1, n1, c1, rfl, o1, b1⟩
    go_wp2
    go_ret2
    rw [hL.out]
    exact retPairs_no b1
  | true =>
    rw [hB, show sumsR R = sums R (wid R) by unfold sumsR; rw [hB]; rfl] at C
    have C' := Lib.hid C
    have hL := Lib.hid (show meansR R = means R (wid R) by unfold meansR; rw [hB]; rfl)
    obtain ⟨s1, s6⟩ := stack_len hB
    obtain ⟨m1, m20⟩ := stack_wid hB
    have hsb := Lib.hid (stack_sum_bd hB)
    have hln := Lib.hid h.len
    rw [h.len] at s1 s6
    obtain ⟨m, hm⟩ : ∃ m, m = wid R := ⟨_, rfl⟩
    rw [← hm] at m1 m20 hL C'
    clear C hB hrl hm
    go_enter Try.func32, Try.ntmps32
    go_wp2_with fail
    refine C'.out.mono ?_
    rintro e w1 ⟨A1, n1, c1, rfl, o1, b1⟩
    have hn1 := o1.1
    rw [sums_length] at hn1
    obtain rfl := hn1
    have a1 := o1.arr II_length
    clear C' o1
    go_wp2
    go_loopw [6, 20] (fun v i wr => ∃ k : Nat, k ≤ m ∧ i = .int .i64 k ∧ Own PP 2 wr w1.heap.size 45 v k (means R k) ∧ Below w1.heap.size w1 wr) (fun _ i _ => m - (intOf i).toNat)
    case atStart => exact ⟨0, Nat.zero_le _, rfl, Own.nil_ _ _ _ _ _, Below.refl _ _⟩
    case round =>
      obtain ⟨k, hk, rfl, hw, hb⟩ := hrel
      by_cases hlt : k < m
      · obtain ⟨b, off, x, rfl, hbB, hx, d1⟩ := a1.int hlt
        rw [sums_get R hlt] at hx
        injection hx with hx
        subst hx
        have d1' := (hb.cell (by exact hbB)).trans d1
        have sb := hsb.out k
        have HS := Lib.hid (show means R (k + 1) = means R k ++ [fr (sumAt R k) n] by rw [means_succ, hln.out])
        have K := Lib.hid (fun W => implFracOf_any (sumAt R k) n W (by omega) (by omega))
        obtain ⟨SS, hSS⟩ : ∃ SS, SS = sumAt R k := ⟨_, rfl⟩
        rw [← hSS] at K HS d1' sb
        obtain ⟨S, D, hF⟩ : ∃ S D, fr SS n = (S, D) := ⟨_, _, rfl⟩
        rw [hF] at K HS
        have hB0 := Lib.hid (b1.trans (hb.mono b1.size))
        have HW := Lib.hid hw
        have HB := Lib.hid hb
        have hsz := hb.size
        have hsz1 := b1.size
        clear d1 hSS hF hw hb
        go_wp2_with fail
        refine (K.out _).mono ?_
        rintro e w2 ⟨rfl, b2⟩
        have HO := Lib.hid (HW.out.below b2 (Nat.le_refl _))
        have hs2 := b2.size
        go_wp2_with (at_builtin; refine wpList_append_own _ rfl _ _ 39 rfl w1.heap.size 45 i0 (.agg #[.int .i64 0, .int .i64 0]) 2 16 Try.underlying39 hi hz0 hz1 hz2 rfl (by decide) _ _ _ rfl ((HO.out.2.alloc _).alloc _) ⟨w2.heap.size + 1, 0, none⟩ 1 1 [.int .i64 S, .int .i64 D] rfl rfl ?c1 ?c2 ?c3 ?c4 ?c5 ?_)
        case c1 => first | exact cell_new2 _ _ _ _ | (have := cell_new2 (w2.alloc (.cells #[.int .i64 S, .int .i64 D] 45)) (.int .i64 S) (.int .i64 D) 45; simpa using this)
        case c2 => exact one_PP _ _
        case c3 => unfold maxLen; omega
        case c4 => omega
        case c5 => simp; omega
        intro v' w4 hown' hg4 _
        have hw4 : Own PP 2 w4 w1.heap.size 45 v' (k + 1) (means R k ++ [(S, D)]) := Own.snoc' HO.out.1 (by simp [PP]) hown'
        rw [← HS.out] at hw4
        have B2 := HB.out.trans (b2.mono hsz)
        have hb4 := ((B2.alloc B2.size (.cells #[.int .i64 S, .int .i64 D] 45)).alloc (by have := B2.size; simp; omega) (.cells #[.int .i64 S, .int .i64 D] 45)).grown hg4 (by have := B2.size; simp; omega) (fun j hj => (HO.out.2.lt j hj).1)
        clear hown' hg4 b2 B2
        go_wp2
        go_roundw
        case rel => exact ⟨k + 1, by omega, by go_num, hw4, hb4⟩
        case measure => simp [intOf]; omega
      · obtain rfl : k = m := by omega
        obtain ⟨A2, c2, rfl, _, _⟩ := hw.form
        go_wp2
        go_ret2
        exact retPairs_yes hL.out.symm (hw.less b1.size) (b1.trans (hb.mono b1.size))

set_option maxHeartbeats 2000000 in
theorem specMean_any (A : Option Addr) (n c : Nat) (R : List (List Int)) (w : World) (h : Rows2 w w.heap.size A n R) (hn : n ≤ 1099511627776) (hrl : ∀ r ∈ R, r.length ≤ 1099511627776) :
    Calls Try.prog 33 #[.slice A n c] w (RetPairs 45 w (meansR R) (stackB R)) := by
  obtain ⟨i0, hi, hz0, hz1, hz2⟩ := info_parts infoFrac
  have C := fun W hW => specStackValid_any A n c R W hW hn hrl
  have o0 := Own.made PP 2 w w.heap.size 45 (Nat.le_refl _)
  have h0 := (h.alloc (Nat.le_refl _) (.cells #[] 45)).more (show w.heap.size ≤ (w.alloc (.cells #[] 45)).heap.size by simp)
  have b0 : Below w.heap.size w (w.alloc (.cells #[] 45)) := (Below.refl w.heap.size w).alloc (Nat.le_refl _) _
  cases hB : stackB R with
  | false =>
    rw [hB] at C
    have C' := Lib.hid C
    have hL := Lib.hid (show meansR R = [] by unfold meansR; rw [hB]; rfl)
    clear C hB hrl
    go_enter Try.func33, Try.ntmps33
    go_wp2_with fail
    refine (C'.out _ h0).mono ?_
    rintro e w1 ⟨rfl, hb1⟩
    have o1 := o0.below hb1 (Nat.le_refl _)
    have b1 := b0.trans (hb1.mono b0.size)
    clear o0 b0 h0 hb1
    go_wp2
    go_ret2
    rw [hL.out]
    exact retPairs_made o1 b1
  | true =>
    rw [hB] at C
    have C' := Lib.hid C
    have hL := Lib.hid (show meansR R = means R (wid R) by unfold meansR; rw [hB]; rfl)
    obtain ⟨s1, s6⟩ := stack_len hB
    obtain ⟨m1, m20⟩ := stack_wid hB
    have hsb := Lib.hid (stack_sum_bd hB)
    have hln := Lib.hid h.len
    rw [h.len] at s1 s6
    obtain ⟨b0', off0, r0, A0, c0, hA0, hb0, hx0, d0, hd0, ha0⟩ := h.row (k := 0) (by omega)
    have hw0 := wid_of hx0
    obtain ⟨m, hm⟩ : ∃ m, m = wid R := ⟨_, rfl⟩
    have HM := Lib.hid hm
    rw [← hm] at m1 m20 hw0 hL
    rw [← hw0, Nat.add_zero] at d0
    subst hA0
    have K := Lib.hid (fun k W hW hk => l41Sum_any (some ⟨b0', off0, none⟩) n c k R W hW hB hk)
    clear C hB hrl hx0 hw0 ha0 hm
    have hn0 : 0 < n := by omega
    go_enter Try.func33, Try.ntmps33
    go_wp2_with fail
    refine (C'.out _ h0).mono ?_
    rintro e w1 ⟨rfl, hb1⟩
    have o1 := o0.below hb1 (Nat.le_refl _)
    have b1 := b0.trans (hb1.mono b0.size)
    clear o0 b0 h0 hb1 C'
    go_wp2
    go_loopw [4, 5] (fun v i wr => ∃ k : Nat, k ≤ m ∧ i = .int .i64 k ∧ Own PP 2 wr w.heap.size 45 v k (means R k) ∧ Below w.heap.size w wr) (fun _ i _ => m - (intOf i).toNat)
    case atStart => exact ⟨0, Nat.zero_le _, rfl, o1, b1⟩
    case round =>
      clear o1 b1
      obtain ⟨k, hk, rfl, hw, hb⟩ := hrel
      have d1 := (hb.cell (by exact hb0)).trans d0
      by_cases hlt : k < m
      · have HS := Lib.hid (show means R (k + 1) = means R k ++ [fr (sumAt R k) n] by rw [means_succ, hln.out])
        have hkw : k < wid R := by rw [← HM.out]; exact hlt
        have K' := Lib.hid (K.out k _ ((h.below' hb).more hb.size) hkw)
        have sb := hsb.out k
        have F := Lib.hid (fun W => specFracOf_any (sumAt R k) n W (by omega) (by omega))
        obtain ⟨SS, hSS⟩ : ∃ SS, SS = sumAt R k := ⟨_, rfl⟩
        rw [← hSS] at K' F HS sb
        obtain ⟨S, D, hF⟩ : ∃ S D, fr SS n = (S, D) := ⟨_, _, rfl⟩
        rw [hF] at F HS
        have HW := Lib.hid hw
        have HB := Lib.hid hb
        have hsz := hb.size
        clear hkw hSS hF hw hb
        go_wp2_with fail
        refine K'.out.mono ?_
        rintro e w' ⟨rfl, rfl⟩
        go_wp2_with fail
        refine (F.out _).mono ?_
        rintro e w2 ⟨rfl, b2⟩
        have HO := Lib.hid (HW.out.below b2 (Nat.le_refl _))
        have hs2 := b2.size
        go_wp2_with (at_builtin; refine wpList_append_own _ rfl _ _ 39 rfl w.heap.size 45 i0 (.agg #[.int .i64 0, .int .i64 0]) 2 16 Try.underlying39 hi hz0 hz1 hz2 rfl (by decide) _ _ _ rfl ((HO.out.2.alloc _).alloc _) ⟨w2.heap.size + 1, 0, none⟩ 1 1 [.int .i64 S, .int .i64 D] rfl rfl ?c1 ?c2 ?c3 ?c4 ?c5 ?_)
        case c1 => first | exact cell_new2 _ _ _ _ | (have := cell_new2 (w2.alloc (.cells #[.int .i64 S, .int .i64 D] 45)) (.int .i64 S) (.int .i64 D) 45; simpa using this)
        case c2 => exact one_PP _ _
        case c3 => unfold maxLen; omega
        case c4 => omega
        case c5 => simp; omega
        intro v' w4 hown' hg4 _
        have hw4 : Own PP 2 w4 w.heap.size 45 v' (k + 1) (means R k ++ [(S, D)]) := Own.snoc' HO.out.1 (by simp [PP]) hown'
        rw [← HS.out] at hw4
        have B2 := HB.out.trans (b2.mono hsz)
        have hb4 := ((B2.alloc B2.size (.cells #[.int .i64 S, .int .i64 D] 45)).alloc (by have := B2.size; simp; omega) (.cells #[.int .i64 S, .int .i64 D] 45)).grown hg4 (by have := B2.size; simp; omega) (fun j hj => (HO.out.2.lt j hj).1)
        clear hown' hg4 b2 B2 d1
        go_wp2
        go_roundw
        case rel => exact ⟨k + 1, by omega, by go_num, hw4, hb4⟩
        case measure => simp [intOf]; omega
      · obtain rfl : k = m := by omega
        obtain ⟨A2, c2, rfl, _, _⟩ := hw.form
        go_wp2
        go_ret2
        exact retPairs_yes hL.out.symm hw hb
end Go.Proofs.Ytfohfcpnhhiemaa
