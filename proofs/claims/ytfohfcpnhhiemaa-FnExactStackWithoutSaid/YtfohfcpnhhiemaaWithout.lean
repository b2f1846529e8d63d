/-
  Contracts: StackWithout of the program.
-/
import Derived.Test.YtfohfcpnhhiemaaMiddle
import Derived.Test.YtfohfcpnhhiemaaOwnR
import Derived.Test.YtfohfcpnhhiemaaDrawStack
namespace Go.Proofs.Ytfohfcpnhhiemaa
open Go.RowKit
set_option linter.unusedSimpArgs false
set_option linter.unusedVariables false

/-- The rows ahead of j, without the one at i. -/
def wo (R : List (List Int)) (i j : Nat) : List (List Int) := (R.take j).eraseIdx i
theorem wo_ne {R : List (List Int)} {i j : Nat} {r : List Int} (h : R[j]? = some r) (hne : j ≠ i) : wo R i (j + 1) = wo R i j ++ [r] := by
  have hj := (List.getElem?_eq_some_iff.1 h).1
  have hl : (R.take j).length = j := by rw [List.length_take]; omega
  unfold wo
  rw [take_snoc h]
  rcases Nat.lt_or_ge i j with hi | hi
  · rw [List.eraseIdx_append_of_lt_length (by rw [hl]; exact hi)]
  · rw [List.eraseIdx_of_length_le (by rw [List.length_append, hl]; simp; omega), List.eraseIdx_of_length_le (by rw [hl]; exact hi)]
theorem wo_eq {R : List (List Int)} {j : Nat} {r : List Int} (h : R[j]? = some r) : wo R j (j + 1) = wo R j j := by
  have hj := (List.getElem?_eq_some_iff.1 h).1
  have hl : (R.take j).length = j := by rw [List.length_take]; omega
  unfold wo
  rw [take_snoc h, List.eraseIdx_append_of_length_le (by rw [hl]; exact Nat.le_refl _), hl, Nat.sub_self, List.eraseIdx_of_length_le (l := R.take j) (by rw [hl]; exact Nat.le_refl _)]
  simp
theorem wo_le (R : List (List Int)) (i j : Nat) : (wo R i j).length ≤ j := by
  unfold wo
  have h1 := List.length_take (l := R) (i := j)
  have h2 := List.length_eraseIdx_le (R.take j) i
  omega
theorem wo_all {R : List (List Int)} {i n : Nat} (h : R.length = n) : wo R i n = R.eraseIdx i := by
  unfold wo; rw [List.take_of_length_le (by omega)]
def woB (R : List (List Int)) (i : Int) : Bool := stackB R && decide (0 ≤ i ∧ i < R.length ∧ R.length ≠ 1)
def woR (R : List (List Int)) (i : Int) : List (List Int) := if woB R i = true then R.eraseIdx i.toNat else []
theorem woB_iff (R : List (List Int)) (i : Int) : woB R i = true ↔ stackB R = true ∧ 0 ≤ i ∧ i < R.length ∧ R.length ≠ 1 := by simp [woB]
def RetRows (T T' : TypeId) (w : World) (R : List (List Int)) (ok : Bool) (e : Ending) (w' : World) : Prop :=
  ∃ A n c vs, e = .returned (.tuple #[.slice A n c, .bool ok]) ∧ OwnRR w' w.heap.size T T' (.slice A n c) n vs R ∧ n ≤ c ∧ Below w.heap.size w w'
theorem retRows_no {T T' : TypeId} {w w' : World} (hb : Below w.heap.size w w') : RetRows T T' w [] false (.returned (.tuple #[.slice none 0 0, .bool false])) w' :=
  ⟨none, 0, 0, [], rfl, OwnRR.nil_ _ _ _ _, Nat.le_refl _, hb⟩
/-- A row that was cloned. -/
theorem clone_any (A : Option Addr) (c : Nat) (r : List Int) (w : World) (h : Arr II 1 w w.heap.size A r.length r) (h0 : 0 < r.length) (h20 : r.length ≤ 1000) :
    Calls Try.prog 55 #[.slice A r.length c] w fun e w' => ∃ v', e = .returned v' ∧ Own II 1 w' w.heap.size 3 v' r.length r ∧ Below w.heap.size w w' := by
  obtain ⟨b, off, e, hb, hc⟩ := h.2 h0
  subst e
  have C := Try.slices_Clone_int b off r.length c r w (Nat.le_refl _) (by omega) (fun j hj => by
    have hg := List.getElem?_eq_getElem hj
    have := hc j _ hg 0 _ rfl
    rw [Nat.mul_one, Nat.add_zero] at this
    rw [this, List.getD_eq_getElem?_getD, hg]
    rfl)
  refine C.mono ?_
  rintro e w' ⟨v', rfl, ho, _, hb'⟩
  refine ⟨v', rfl, ⟨rfl, ?_⟩, hb'⟩
  rw [flatMap_II]
  rw [List.take_of_length_le (Nat.le_refl _)] at ho
  exact ho

set_option maxHeartbeats 2000000 in
theorem implWithout_any (A : Option Addr) (n c : Nat) (R : List (List Int)) (i : Int) (w : World) (h : Rows2 w w.heap.size A n R) (hn : n ≤ 1099511627776) (hrl : ∀ r ∈ R, r.length ≤ 1099511627776) :
    Calls Try.prog 23 #[.slice A n c, .int .i64 i] w (RetRows 28 3 w (woR R i) (woB R i)) := by
  obtain ⟨j0, ji, jz0, jz1, jz2⟩ := info_parts infoRow
  have C := implStackValid_any A n c R w h hn hrl
  have hln := Lib.hid h.len
  have hlen := h.len
  cases hW : woB R i with
  | false =>
    have hL := Lib.hid (show woR R i = [] by unfold woR; rw [hW]; rfl)
    have C' := Lib.hid C
    have hor : stackB R = false ∨ (stackB R = true ∧ (i < 0 ∨ (0 ≤ i ∧ (n : Int) ≤ i) ∨ (0 ≤ i ∧ i < n ∧ n = 1))) := by
      cases hB : stackB R with
      | false => exact .inl rfl
      | true =>
        refine .inr ⟨rfl, ?_⟩
        have : ¬ (0 ≤ i ∧ i < n ∧ n ≠ 1) := fun e => by rw [(woB_iff R i).2 ⟨hB, by rw [hlen]; exact e⟩] at hW; cases hW
        omega
    clear C hW hrl hlen
    rcases hor with hB | ⟨hB, hi | ⟨hi, hi2⟩ | ⟨hi, hi2, rfl⟩⟩
    all_goals
      rw [hB] at C'
      clear hB
      go_enter Try.func23, Try.ntmps23
      go_wp2_with fail
      refine C'.out.mono ?_
      rintro e w1 ⟨rfl, rfl⟩
      go_wp2
      go_ret2
      rw [hL.out]
      exact retRows_no (Below.refl _ _)
  | true =>
    obtain ⟨hB, hi0, hi1, hn1⟩ := (woB_iff R i).1 hW
    have hL := Lib.hid (show woR R i = R.eraseIdx i.toNat by unfold woR; rw [hW]; rfl)
    obtain ⟨s1, s6⟩ := stack_len hB
    have hmem := Lib.hid (fun r hr => stack_mem hB (r := r) hr)
    rw [hB] at C
    have C' := Lib.hid C
    rw [hlen] at s1 s6 hi1 hn1
    obtain ⟨p, rfl⟩ : ∃ p : Nat, i = p := ⟨i.toNat, by omega⟩
    rw [Int.toNat_natCast] at hL
    have f1 : ¬ (p : Int) < 0 := by omega
    have f2 : ¬ (n : Int) = 1 := by omega
    have f3 : ((n : Int) == 1) = false := by simp; omega
    have f4 : ¬ n ≤ p := by omega
    have f5 : decide ((p : Int) < 0) = false := decide_eq_false (by omega)
    clear C hW hrl hlen hB
    go_enter Try.func23, Try.ntmps23
    go_wp2_with fail
    refine C'.out.mono ?_
    rintro e w1 ⟨rfl, rfl⟩
    clear C'
    go_wp2_with fail
    clear f1 f2 f3 f4 f5
    go_loopw [6, 29] (fun v k wr => ∃ (j : Nat) (us : List Value), j ≤ n ∧ k = .int .i64 j ∧ OwnRR wr w.heap.size 28 3 v (wo R p j).length us (wo R p j) ∧ Below w.heap.size w wr) (fun _ k _ => n - (intOf k).toNat)
    case atStart => exact ⟨0, [], Nat.zero_le _, rfl, OwnRR.nil_ _ _ _ _, Below.refl _ _⟩
    case round =>
      obtain ⟨j, us, hj, rfl, hw, hb⟩ := hrel
      by_cases hlt : j < n
      · obtain ⟨b, off, r, A', c', rfl, hbB, hx, c1', hc1', ha⟩ := h.row hlt
        obtain ⟨hra, hrw, hr1, hr20⟩ := hmem.out r (List.mem_of_getElem? hx)
        have g1 := (hb.cell (by exact hbB)).trans c1'
        have i1 : (j : Int) < (n : Int) := by omega
        by_cases hjp : j = p
        · subst hjp
          have hT := Lib.hid (wo_eq hx)
          clear hx hra hrw
          have f1 : ((j : Int) != (j : Int)) = false := by simp
          go_wp2
          go_roundw
          case rel => exact ⟨j + 1, us, by omega, by go_num, by rw [hT.out]; exact hw, hb⟩
          case measure => simp [intOf]; omega
        · have hT := Lib.hid (wo_ne hx hjp)
          have f1 : ((j : Int) != (p : Int)) = true := by simp; omega
          have f2 : ¬ (j : Int) = (p : Int) := by omega
          have hwl := wo_le R p j
          have K := Lib.hid (clone_any A' c' r wr ((ha.below' hb).more hb.size) (by omega) (by omega))
          have hvl := Lib.hid (fun g hg => (hw.own.2.lt g hg).2)
          have hol := Lib.hid (fun (k : Nat) u' (hk : us[k]? = some u') g hg => (hw.lt hk g hg).2)
          obtain ⟨N, hN⟩ : ∃ N, N = (wo R p j).length := ⟨_, rfl⟩
          rw [← hN] at hw hwl
          have HN := Lib.hid hN
          clear hx hra hrw ha hN
          go_wp2_with fail
          refine K.out.mono ?_
          rintro e w2 ⟨v2, rfl, o2, b2⟩
          have B2 := hb.trans (b2.mono hb.size)
          have hw2 := hw.below b2 (Nat.le_refl _)
          obtain ⟨Au, cu, rfl, hcu, _⟩ := o2.form
          have hO' := Lib.hid (o2.less (base' := w.heap.size) hb.size)
          have hnb := Lib.hid (fun g hg => o2.2.lt g hg)
          have HW := Lib.hid hw2
          clear hw hw2 o2 K
          go_wp2_with (at_builtin; refine wpList_append_own_at _ rfl _ _ 23 rfl w.heap.size 28 j0 (.slice none 0 0) 1 24 Try.underlying23 ji jz0 jz1 jz2 rfl (by decide) _ _ _ rfl (HW.out.own.2.alloc _) ⟨w2.heap.size, 0, none⟩ 1 1 [.slice Au r.length cu] rfl rfl ?e1 ?e2 ?e3 ?e4 ?e5 ?_)
          first | (case e1 => exact cell_new1 _ _ _) | skip
          case e2 => first | exact one_VV rfl | rfl
          case e3 => unfold maxLen; omega
          case e4 => omega
          case e5 => have := B2.size; simp; omega
          intro v' w7 hown' hg7 _ hat
          have O7 : OwnRR w7 w.heap.size 28 3 v' (N + 1) (us ++ [.slice Au r.length cu]) (wo R p j ++ [r]) := by
            refine HW.out.snoc (B0 := wr.heap.size) hO'.out (fun g hg => hnb.out g hg) hvl.out hol.out hown' hg7 (by first | exact hat | (rw [World.size_alloc]; exact hat))
          have hN1 : N + 1 = (wo R p (j + 1)).length := by rw [hT.out, List.length_append, ← HN.out]; rfl
          rw [← hT.out, hN1] at O7
          have hvw := Lib.hid (fun g hg => HW.out.own.2.lt g hg)
          have hb7 := (B2.alloc B2.size (.cells #[.slice Au r.length cu] 28)).grown hg7 (by have := B2.size; simp; omega) (fun g hg => (hvw.out g hg).1)
          have O7' := Lib.hid O7
          clear hown' hg7 hat O7 HW hb B2 b2 g1 hN1
          go_wp2
          go_roundw
          case rel =>
            exact ⟨j + 1, _, by omega, by go_num, O7'.out, hb7⟩
          case measure => simp [intOf]; omega
      · obtain rfl : j = n := by omega
        rw [wo_all hln.out] at hw
        obtain ⟨A7, c7, rfl, hc7, _⟩ := hw.own.form
        go_wp2
        go_ret2
        rw [hL.out]
        exact ⟨A7, _, c7, us, rfl, hw, hc7, hb⟩
end Go.Proofs.Ytfohfcpnhhiemaa
