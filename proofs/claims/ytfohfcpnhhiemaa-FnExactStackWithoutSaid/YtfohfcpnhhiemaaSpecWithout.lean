/-
  Contract: StackWithout of the reference.
-/
import Derived.Test.YtfohfcpnhhiemaaWithout
import Derived.Test.YtfohfcpnhhiemaaAppend
namespace Go.Proofs.Ytfohfcpnhhiemaa
open Go.RowKit
set_option linter.unusedSimpArgs false
set_option linter.unusedVariables false

theorem retRows_made {T T' : TypeId} {w w' : World} {A : Option Addr} {c : Nat} (ho : OwnRR w' w.heap.size T T' (.slice A 0 c) 0 [] []) (hb : Below w.heap.size w w') (hc : 0 ≤ c) : RetRows T T' w [] false (.returned (.tuple #[.slice A 0 c, .bool false])) w' :=
  ⟨A, 0, c, [], rfl, ho, hc, hb⟩

set_option maxHeartbeats 2000000 in
theorem specWithout_any (A : Option Addr) (n c : Nat) (R : List (List Int)) (i : Int) (w : World) (h : Rows2 w w.heap.size A n R) (hn : n ≤ 1099511627776) (hrl : ∀ r ∈ R, r.length ≤ 1099511627776) :
    Calls Try.prog 21 #[.slice A n c, .int .i64 i] w (RetRows 28 3 w (woR R i) (woB R i)) := by
  obtain ⟨i0, hi', hz0, hz1, hz2⟩ := info_parts infoInt
  obtain ⟨j0, ji, jz0, jz1, jz2⟩ := info_parts infoRow
  have b0 : Below w.heap.size w (w.alloc (.cells #[] 28)) := (Below.refl w.heap.size w).alloc (Nat.le_refl _) _
  have h0 := (h.below' b0).more b0.size
  have C := specStackValid_any A n c R _ h0 hn hrl
  have O0 := OwnRR.made w w.heap.size 28 3 (Nat.le_refl _)
  have hln := Lib.hid h.len
  have hlen := h.len
  have HO0 := Lib.hid O0
  have HB0 := Lib.hid b0
  clear O0 b0 h0
  cases hW : woB R i with
  | false =>
    have hL := Lib.hid (show woR R i = [] by unfold woR; rw [hW]; rfl)
    have C' := Lib.hid C
    have hor : stackB R = false ∨ (stackB R = true ∧ ¬ (0 ≤ i ∧ i ≤ (n : Int) - 1)) ∨ (stackB R = true ∧ (0 ≤ i ∧ i ≤ (n : Int) - 1) ∧ n = 1) := by
      cases hB : stackB R with
      | false => exact .inl rfl
      | true =>
        have : ¬ (0 ≤ i ∧ i < n ∧ n ≠ 1) := fun e => by rw [(woB_iff R i).2 ⟨hB, by rw [hlen]; exact e⟩] at hW; cases hW
        rcases Classical.em (0 ≤ i ∧ i ≤ (n : Int) - 1) with h1 | h1
        · exact .inr (.inr ⟨rfl, h1, by omega⟩)
        · exact .inr (.inl ⟨rfl, h1⟩)
    clear C hW hrl hlen
    rcases hor with hB | ⟨hB, hi⟩ | ⟨hB, hi, h1⟩
    · rw [hB] at C'
      clear hB
      go_enter Try.func21, Try.ntmps21
      go_wp2_with fail
      refine C'.out.mono ?_
      rintro e w1 ⟨rfl, b1⟩
      go_wp2
      go_ret2
      rw [hL.out]
      exact retRows_made (HO0.out.below b1 (Nat.le_refl _)) (HB0.out.trans (b1.mono HB0.out.size)) (Nat.le_refl _)
    · rw [hB] at C'
      have HI := Lib.hid (fun W => l6In_any i 0 ((n : Int) - 1) false (decide_eq_false hi) W)
      clear hB hi
      go_enter Try.func21, Try.ntmps21
      go_wp2_with fail
      refine C'.out.mono ?_
      rintro e w1 ⟨rfl, b1⟩
      go_wp2_with fail
      refine (HI.out _).mono ?_
      rintro e w2 ⟨rfl, rfl⟩
      go_wp2
      go_ret2
      rw [hL.out]
      exact retRows_made (HO0.out.below b1 (Nat.le_refl _)) (HB0.out.trans (b1.mono HB0.out.size)) (Nat.le_refl _)
    · rw [hB] at C'
      have HI := Lib.hid (fun W => l6In_any i 0 ((n : Int) - 1) true (decide_eq_true hi) W)
      have f3 : ((n : Int) == 1) = true := by simp; omega
      clear hB hi h1
      go_enter Try.func21, Try.ntmps21
      go_wp2_with fail
      refine C'.out.mono ?_
      rintro e w1 ⟨rfl, b1⟩
      go_wp2_with fail
      refine (HI.out _).mono ?_
      rintro e w2 ⟨rfl, rfl⟩
      go_wp2
      go_ret2
      rw [hL.out]
      exact retRows_made (HO0.out.below b1 (Nat.le_refl _)) (HB0.out.trans (b1.mono HB0.out.size)) (Nat.le_refl _)
  | true =>
    obtain ⟨hB, hi0, hi1, hn1⟩ := (woB_iff R i).1 hW
    have hL := Lib.hid (show woR R i = R.eraseIdx i.toNat by unfold woR; rw [hW]; rfl)
    obtain ⟨s1, s6⟩ := stack_len hB
    have hmem := Lib.hid (fun r hr => stack_mem hB (r := r) hr)
    rw [hB] at C
    have C' := Lib.hid C
    rw [hlen] at s1 s6 hi1 hn1
    obtain ⟨p, rfl⟩ : ∃ p : Nat, i = p := ⟨i.toNat, by omega⟩
    rw [Int.toNat_natCast] at hL
    have HI := Lib.hid (fun W => l6In_any (p : Int) 0 ((n : Int) - 1) true (decide_eq_true (by omega)) W)
    have f3 : ((n : Int) == 1) = false := by simp; omega
    clear C hW hrl hlen hB
    go_enter Try.func21, Try.ntmps21
    go_wp2_with fail
    refine C'.out.mono ?_
    rintro e w1 ⟨rfl, b1⟩
    have B1 := HB0.out.trans (b1.mono HB0.out.size)
    have O1 := HO0.out.below b1 (Nat.le_refl _)
    clear C' b1 HB0 HO0
    go_wp2_with fail
    refine (HI.out _).mono ?_
    rintro e w2 ⟨rfl, rfl⟩
    go_wp2_with fail
    clear f3 HI
    go_loopw [6, 7] (fun v k wr => ∃ (j : Nat) (us : List Value), j ≤ n ∧ k = .int .i64 j ∧ OwnRR wr w.heap.size 28 3 v (wo R p j).length us (wo R p j) ∧ Below w.heap.size w wr) (fun _ k _ => n - (intOf k).toNat)
    case atStart => exact ⟨0, [], Nat.zero_le _, rfl, O1, B1⟩
    case round =>
      clear O1 B1
      obtain ⟨j, us, hj, rfl, hw, hb⟩ := hrel
      by_cases hlt : j < n
      · obtain ⟨b, off, r, A', c', rfl, hbB, hx, c1', hc1', ha⟩ := h.row hlt
        obtain ⟨hra, hrw, hr1, hr20⟩ := hmem.out r (List.mem_of_getElem? hx)
        have g1 := (hb.cell (by exact hbB)).trans c1'
        have i1 : (j : Int) < (n : Int) := by omega
        by_cases hjp : j = p
        · subst hjp
          have hT := Lib.hid (wo_eq hx)
          clear hx hra hrw
          have f1 : ((j : Int) != (j : Int)) = false := by simp
          go_wp2
          go_roundw
          case rel => exact ⟨j + 1, us, by omega, by go_num, by rw [hT.out]; exact hw, hb⟩
          case measure => simp [intOf]; omega
        · have hT := Lib.hid (wo_ne hx hjp)
          have f1 : ((j : Int) != (p : Int)) = true := by simp; omega
          have f2 : ¬ (j : Int) = (p : Int) := by omega
          have hwl := wo_le R p j
          have hbw : b < wr.heap.size := Nat.lt_of_lt_of_le hbB hb.size
          have g1' : (wr.alloc (.cells #[] 3)).cell? ⟨b, off + j, none⟩ = some (.slice A' r.length c') := (World.cell?_alloc_lt _ _ _ (by exact hbw)).trans g1
          have hsrc := ((ha.below' hb).more hb.size).alloc (Nat.le_refl _) (.cells #[] 3)
          have hvl := Lib.hid (fun g hg => (hw.own.2.lt g hg).2)
          have hol := Lib.hid (fun (k : Nat) u' (hk : us[k]? = some u') g hg => (hw.lt hk g hg).2)
          obtain ⟨N, hN⟩ : ∃ N, N = (wo R p j).length := ⟨_, rfl⟩
          rw [← hN] at hw hwl
          have HN := Lib.hid hN
          clear hx hra hrw ha hN
          go_wp2_with (at_builtin; refine wpList_append_arr _ rfl _ _ 28 rfl wr.heap.size 3 i0 (.int .i64 0) 1 8 Try.underlying28 hi' hz0 hz1 hz2 rfl (by decide) II_length one_II' _ 0 [] rfl (Own.made II 1 wr wr.heap.size 3 (Nat.le_refl _)) wr.heap.size _ r.length c' r rfl hsrc (by unfold maxLen; omega) (by omega) (by simp) ?_)
          intro v2 w2 o2 g2 _
          have b2 : Below wr.heap.size wr w2 := ((Below.refl wr.heap.size wr).alloc (Nat.le_refl _) (.cells #[] 3)).grown g2 (by simp) (fun g hg => by simp [Value.ownBlock] at hg; omega)
          have B2 := hb.trans (b2.mono hb.size)
          have hw2 := hw.below b2 (Nat.le_refl _)
          obtain ⟨Au, cu, rfl, hcu, _⟩ := o2.form
          have hO' := Lib.hid (o2.less (base' := w.heap.size) hb.size)
          have hnb := Lib.hid (fun g hg => o2.2.lt g hg)
          have HW := Lib.hid hw2
          clear hw hw2 o2 g2 hsrc
          go_wp2_with (at_builtin; refine wpList_append_own_at _ rfl _ _ 23 rfl w.heap.size 28 j0 (.slice none 0 0) 1 24 Try.underlying23 ji jz0 jz1 jz2 rfl (by decide) _ _ _ rfl (HW.out.own.2.alloc _) ⟨w2.heap.size, 0, none⟩ 1 1 [.slice Au r.length cu] rfl rfl ?e1 ?e2 ?e3 ?e4 ?e5 ?_)
          first | (case e1 => exact cell_new1 _ _ _) | skip
          case e2 => first | exact one_VV rfl | rfl
          case e3 => unfold maxLen; omega
          case e4 => omega
          case e5 => have := B2.size; simp; omega
          intro v' w7 hown' hg7 _ hat
          have O7 : OwnRR w7 w.heap.size 28 3 v' (N + 1) (us ++ [.slice Au r.length cu]) (wo R p j ++ [r]) := by
            refine HW.out.snoc (B0 := wr.heap.size) hO'.out (fun g hg => hnb.out g hg) hvl.out hol.out hown' hg7 (by first | exact hat | (rw [World.size_alloc]; exact hat))
          have hN1 : N + 1 = (wo R p (j + 1)).length := by rw [hT.out, List.length_append, ← HN.out]; rfl
          rw [← hT.out, hN1] at O7
          have hvw := Lib.hid (fun g hg => HW.out.own.2.lt g hg)
          have hb7 := (B2.alloc B2.size (.cells #[.slice Au r.length cu] 28)).grown hg7 (by have := B2.size; simp; omega) (fun g hg => (hvw.out g hg).1)
          have O7' := Lib.hid O7
          clear hown' hg7 hat O7 HW hb B2 b2 g1 g1' hN1
          go_wp2
          go_roundw
          case rel => exact ⟨j + 1, _, by omega, by go_num, O7'.out, hb7⟩
          case measure => simp [intOf]; omega
      · obtain rfl : j = n := by omega
        rw [wo_all hln.out] at hw
        obtain ⟨A7, c7, rfl, hc7, _⟩ := hw.own.form
        go_wp2
        go_ret2
        rw [hL.out]
        exact ⟨A7, _, c7, us, rfl, hw, hc7, hb⟩
end Go.Proofs.Ytfohfcpnhhiemaa
