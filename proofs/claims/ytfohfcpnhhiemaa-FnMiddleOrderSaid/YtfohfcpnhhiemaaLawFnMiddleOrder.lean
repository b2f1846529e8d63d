/-
  The walk of the law FnMiddleOrder.
-/
import Derived.Test.YtfohfcpnhhiemaaMiddle
import Derived.Test.YtfohfcpnhhiemaaSpecMiddle
import Derived.Test.YtfohfcpnhhiemaaInts
import Derived.Test.YtfohfcpnhhiemaaDrawStacks
namespace Go.Proofs.Ytfohfcpnhhiemaa
open Go.RowKit
set_option linter.unusedSimpArgs false
set_option linter.unusedVariables false

def idx : Nat → Int
  | 0 => -1
  | q + 1 => q
theorem idx_eq (n : Nat) : (n : Int) - 1 = idx n := by
  cases n with
  | zero => rfl
  | succ q => simp only [idx]; omega
theorem rows_of_own {w w' : World} {T : TypeId} {v : Value} {A : Option Addr} {n c : Nat} {us : List Value} {Q : List (List Int)} (hv : v = .slice A n c) (h : Own VV 1 w' w.heap.size T v n us) (hl : Q.length = n)
    (hr : ∀ (q : Nat) u r, us[q]? = some u → Q[q]? = some r → RowV w w.heap.size u r) (hb : Below w.heap.size w w') : Rows2 w' w'.heap.size A n Q := by
  subst hv
  exact ⟨us, h.arr VV_length, by rw [h.1, hl], fun k u r hu hq => ((hr k u r hu hq).below hb).more hb.size⟩
theorem wid_all {R : List (List Int)} {m : Nat} (h0 : R ≠ []) (h : ∀ r ∈ R, r.length = m) : wid R = m := by
  cases R with
  | nil => exact absurd rfl h0
  | cons r t => exact h r (List.mem_cons_self ..)
theorem stack_of {R : List (List Int)} {m : Nat} (h : ∀ r ∈ R, r.all numB = true ∧ r.length = m) (hm : 1 ≤ m ∧ m ≤ 20) (hl : 1 ≤ R.length ∧ R.length ≤ 6) : stackB R = true ∧ wid R = m := by
  have hw : wid R = m := wid_all (by intro e; subst e; simp at hl) fun r hr => (h r hr).2
  refine ⟨(stackB_iff R).2 ⟨fun r hr => ⟨(rowB_iff r).2 ⟨(h r hr).1, by rw [(h r hr).2]; exact hm⟩, by rw [hw]; exact (h r hr).2⟩, hl⟩, hw⟩
theorem mids_perm {R Q : List (List Int)} (h : Q.Perm R) (h0 : 0 < R.length) (m : Nat) : mids Q m = mids R m := by
  unfold mids
  apply List.map_congr_left
  intro k _
  exact mid_perm (h.map _) (by rw [col_length]; exact h0)
theorem mids_one (r : List Int) : mids [r] r.length = r := by
  unfold mids
  apply List.ext_getElem?
  intro k
  rcases Nat.lt_or_ge k r.length with h | h
  · have : r[k]? = some r[k] := List.getElem?_eq_getElem h
    simp only [List.getElem?_map, List.getElem?_range h, Option.map_some, this]
    rw [show col [r] k = [at0 r k] from rfl, mid_one, at0_of this]
  · rw [List.getElem?_eq_none (by simp; exact h), List.getElem?_eq_none h]

set_option maxRecDepth 100000 in
set_option maxHeartbeats 4000000 in
theorem walk_FnMiddleOrder (w : World) (A : Option Addr) (n c : Nat) (l : List Int) (h : Arr BB 1 w w.heap.size A n l) (hby : ∀ x ∈ l, 0 ≤ x ∧ x ≤ 255) (hc : n ≤ c) :
    Calls Try.prog 12 #[.slice A n c] w fun e w' => e = .returned (.bool true) ∧ Below w.heap.size w w' := by
  have C := Lib.hid (DrawStackMiddle_any A n c l w h hby hc)
  clear hby h
  by_cases hb : 1048576 < n
  · go_enter Try.func12, Try.ntmps12
    go_wp2_with fail
    go_ret
    exact ⟨rfl, Below.refl _ _⟩
  go_enter Try.func12, Try.ntmps12
  go_wp2_with fail
  refine C.out.mono ?_
  rintro e w1 ⟨A1, n1, c1, vs, R, rfl, ho, hc1, hn1, hR, b1⟩
  have a1 := ho.rows
  have hR' := Lib.hid (fun (r : List Int) (hr : r ∈ R) => show r.length ≤ 1099511627776 by have := hR r hr; omega)
  have HR10 := Lib.hid hR
  clear C ho hR
  have K1 := Lib.hid (fun W h1 => implMiddle_any A1 n1 c1 R W h1 (by omega) hR'.out)
  have K2 := Lib.hid (fun W h1 => specMiddle_any A1 n1 c1 R W h1 (by omega) hR'.out)
  cases hB : stackB R with
  | false =>
    rw [hB, show midsR R = [] by unfold midsR; rw [hB]; rfl] at K1 K2
    clear hB
    go_wp2_with fail
    refine (K1.out _ a1).mono ?_
    rintro e w2 ⟨A2, m2, c2, rfl, o2, b2⟩
    have B2 := b1.trans (b2.mono b1.size)
    have a2 := (a1.below' b2).more b2.size
    have x2 := o2.arr II_length
    clear a1 b1 b2 o2
    go_wp2_with fail
    refine (K2.out _ a2).mono ?_
    rintro e w3 ⟨A3, m3, c3, rfl, o3, b3⟩
    have B3 := B2.trans (b3.mono B2.size)
    have HS := Lib.hid (sameInts_later (c := c2) (c' := c3) ((x2.below' b3).more b3.size) (o3.arr II_length))
    clear a2 b3 B2 x2 o3 K1 K2
    go_wp2_with fail
    refine (HS.out _ (Below.refl _ _)).mono ?_
    rintro e w4 ⟨rfl, b4⟩
    go_wp2_with fail
    refine (HS.out _ b4).mono ?_
    rintro e w5 ⟨rfl, b5⟩
    clear b4
    go_wp2
    go_ret
    exact ⟨rfl, B3.trans (b5.mono B3.size)⟩
  | true =>
    rw [hB, show midsR R = mids R (wid R) by unfold midsR; rw [hB]; rfl] at K1 K2
    obtain ⟨s1, s6⟩ := stack_len hB
    obtain ⟨m1, m20⟩ := stack_wid hB
    have hln := Lib.hid a1.len
    rw [a1.len] at s1 s6
    have HB := Lib.hid hB
    obtain ⟨M, hM⟩ : ∃ M, M = wid R := ⟨_, rfl⟩
    have HM := Lib.hid hM
    rw [← hM] at m1 m20 K1 K2
    have hVl : (mids R M).length = M := mids_length R M
    clear hB hM
    go_wp2_with fail
    refine (K1.out _ a1).mono ?_
    rintro e w2 ⟨A2, m2, c2, rfl, o2, b2⟩
    have B2 := b1.trans (b2.mono b1.size)
    have a2 := (a1.below' b2).more b2.size
    have x2 := o2.arr II_length
    have hm2 := o2.1
    rw [hVl] at hm2
    obtain rfl : m2 = M := hm2.symm
    clear a1 b1 b2 o2
    go_wp2_with fail
    refine (K2.out _ a2).mono ?_
    rintro e w3 ⟨A3, m3, c3, rfl, o3, b3⟩
    have B3 := B2.trans (b3.mono B2.size)
    have a3 := (a2.below' b3).more b3.size
    have x3 := (x2.below' b3).more b3.size
    have HS := Lib.hid (sameInts_later (c := c2) (c' := c3) x3 (o3.arr II_length))
    clear a2 b3 B2 x2 o3 K2
    go_wp2_with fail
    refine (HS.out _ (Below.refl _ _)).mono ?_
    rintro e w5 ⟨rfl, b5⟩
    have B5 := B3.trans (b5.mono B3.size)
    have a5 := (a3.below' b5).more b5.size
    have x5 := (x3.below' b5).more b5.size
    clear HS B3 b5 a3 x3
    obtain ⟨j0, ji, jz0, jz1, jz2⟩ := info_parts infoRow
    have hmem := Lib.hid (fun r hr => stack_mem HB.out (r := r) hr)
    go_wp2_with fail
    go_loopw [8, 9] (fun v i wr => ∃ (p : Nat) (us : List Value), p ≤ n1 ∧ i = .int .i64 (idx p) ∧ Own VV 1 wr w5.heap.size 28 v (n1 - p) us ∧ Hid (∀ (q : Nat) u r, us[q]? = some u → R.reverse[q]? = some r → RowV w5 w5.heap.size u r) ∧ Below w5.heap.size w5 wr) (fun _ i _ => (intOf i + 1).toNat)
    case atStart => exact ⟨n1, [], Nat.le_refl _, by rw [idx_eq], by rw [Nat.sub_self]; exact Own.made VV 1 w5 w5.heap.size _ (Nat.le_refl _), fun q u r hq => by simp at hq, (Below.refl _ _).alloc (Nat.le_refl _) _⟩
    case round =>
      obtain ⟨p, us, hp, rfl, hw, hus, hb⟩ := hrel
      rcases p with _ | p
      · rw [show idx 0 = -1 from rfl]
        rw [Nat.sub_zero] at hw
        obtain ⟨A7, c7, rfl, _, _⟩ := hw.form
        have a7 := rows_of_own rfl hw (by rw [List.length_reverse, hln.out]) hus.out hb
        have hst := stack_of (R := R.reverse) (m := m2) (fun r hr => by
          have := hmem.out r (List.mem_reverse.1 hr)
          exact ⟨this.1, by rw [HM.out]; exact this.2.1⟩) ⟨m1, m20⟩ (by rw [List.length_reverse, hln.out]; exact ⟨s1, s6⟩)
        have K7 := implMiddle_any A7 n1 c7 R.reverse _ a7 (by omega) (fun r hr => hR'.out r (List.mem_reverse.1 hr))
        rw [hst.1, show midsR R.reverse = mids R m2 by unfold midsR; rw [if_pos hst.1, hst.2]; exact mids_perm (List.reverse_perm R) (by rw [hln.out]; omega) _] at K7
        have K7' := Lib.hid K7
        obtain ⟨b0, off0, r0, A0, c0, rfl, hb0, hx0, d0, hd0, ha0⟩ := a5.row (k := 0) (by omega)
        rw [Nat.add_zero] at d0
        have hr0 := hmem.out r0 (List.mem_of_getElem? hx0)
        have hR1 : R.take 1 = [r0] := by
          cases hRc : R with
          | nil => rw [hRc] at hx0; simp at hx0
          | cons a t => rw [hRc] at hx0; simp at hx0; subst hx0; rfl
        have hst1 := stack_of (R := [r0]) (m := r0.length) (fun r hr => by simp at hr; subst hr; exact ⟨hr0.1, rfl⟩) hr0.2.2 (by simp)
        have K8 := fun W h1 => implMiddle_any (some ⟨b0, off0, none⟩) 1 c1 [r0] W h1 (by omega) (fun r hr => by simp at hr; subst hr; have := hr0.2.2; omega)
        rw [hst1.1, show midsR [r0] = r0 by unfold midsR; rw [if_pos hst1.1, hst1.2]; exact mids_one r0] at K8
        have K8' := Lib.hid K8
        have a51 := a5.take (k := 1) (by omega)
        rw [hR1] at a51
        have hr20 : r0.length ≤ 20 := hr0.2.2.2
        have j1 : 1 ≤ c1 := by omega
        have j2 : (1 : Int) ≤ (c1 : Int) := by omega
        have j3 : (1 : Int) ≤ (n1 : Int) := by omega
        have in0 : (0 : Int) < (n1 : Int) := by omega
        have A0' := Lib.hid ha0
        clear hst K7 hx0 hr0 hR1 hst1 K8 a7 hus hw ha0
        go_wp2_with fail
        refine K7'.out.mono ?_
        rintro e w8 ⟨A8, m8, c8, rfl, o8, b8⟩
        have B8 := hb.trans (b8.mono hb.size)
        have x8 := o8.arr II_length
        have a58 := (a51.below' B8).more B8.size
        have x58 := (x5.below' B8).more B8.size
        clear o8 b8 hb K7'
        go_wp2_with fail
        refine (K8'.out _ a58).mono ?_
        rintro e w9 ⟨A9, m9, c9, rfl, o9, b9⟩
        have B9 := B8.trans (b9.mono B8.size)
        have x9 := o9.arr II_length
        have x89 := (x8.below' b9).more b9.size
        have x59 := (x58.below' b9).more b9.size
        have HS1 := Lib.hid (sameInts_later (c := c8) (c' := c2) x89 x59)
        have HS2 := Lib.hid (sameInts_later (c := c9) (c' := c0) x9 ((A0'.out.below' B9).more B9.size))
        have d9 := (B9.cell (by exact hb0)).trans d0
        clear o9 b9 B8 a58 x58 x8 x9 x89 x59 a51 d0
        go_wp2_with fail
        refine (HS1.out _ (Below.refl _ _)).mono ?_
        rintro e w10 ⟨rfl, b10⟩
        have d10 := (b10.cell (show b0 < w9.heap.size by have := B9.size; omega)).trans d9
        go_wp2_with fail
        refine (HS2.out _ b10).mono ?_
        rintro e w11 ⟨rfl, b11⟩
        have B11 := B5.trans ((B9.trans (b11.mono B9.size)).mono B5.size)
        go_wp2
        go_ret
        exact ⟨rfl, B11⟩
      · rw [show idx (p + 1) = (p : Int) from rfl]
        obtain ⟨b, off, r, A', c', rfl, hbB, hx, c1', hc1', ha⟩ := a5.row (k := p) (by omega)
        have hr20 := (hmem.out r (List.mem_of_getElem? hx)).2.2.2
        have g1 := (hb.cell (by exact hbB)).trans c1'
        have i1 : (p : Int) < (n1 : Int) := by omega
        have hRr := Lib.hid (show R.reverse[n1 - (p + 1)]? = some r by
          rw [List.getElem?_reverse (by rw [hln.out]; omega), hln.out, show n1 - 1 - (n1 - (p + 1)) = p by omega]; exact hx)
        have hrv := Lib.hid (show RowV w5 w5.heap.size (.slice A' r.length c') r from ⟨A', c', rfl, hc1', ha⟩)
        clear hx c1' ha
        go_wp2_with (at_builtin; refine wpList_append_own _ rfl _ _ 23 rfl w5.heap.size 28 j0 (.slice none 0 0) 1 24 Try.underlying23 ji jz0 jz1 jz2 rfl (by decide) _ _ _ rfl (hw.2.alloc _) ⟨wr.heap.size, 0, none⟩ 1 1 [.slice A' r.length c'] rfl rfl ?d1 ?d2 ?d3 ?d4 ?d5 ?_)
        first | (case d1 => exact cell_new1 _ _ _) | skip
        case d2 => first | exact one_VV rfl | rfl
        case d3 => unfold maxLen; omega
        case d4 => omega
        case d5 => have := hb.size; simp; omega
        intro v' w7 hown' hg7 _
        have hw7 : Own VV 1 w7 w5.heap.size 28 v' (n1 - (p + 1) + 1) (us ++ [.slice A' r.length c']) := Own.snoc' hw.1 (by simp [VV]) hown'
        rw [show n1 - (p + 1) + 1 = n1 - p by omega] at hw7
        have hus7 : Hid (∀ (q : Nat) u z, (us ++ [Value.slice A' r.length c'])[q]? = some u → R.reverse[q]? = some z → RowV w5 w5.heap.size u z) := fun q u r' hq hr' => by
          rcases Nat.lt_or_ge q us.length with h1 | h1
          · rw [List.getElem?_append_left h1] at hq
            exact hus.out q u r' hq hr'
          · rw [List.getElem?_append_right h1] at hq
            have e0 : q - us.length = 0 := by have := (List.getElem?_eq_some_iff.1 hq).1; simp at this; omega
            rw [e0] at hq
            have e1 : q = n1 - (p + 1) := by rw [← hw.1]; omega
            rw [e1, hRr.out] at hr'
            simp at hq hr'
            subst hq; subst hr'
            exact hrv.out
        have hb7 := (hb.alloc hb.size (.cells #[.slice A' r.length c'] 28)).grown hg7 (by have := hb.size; simp; omega) (fun j hj => (hw.2.lt j hj).1)
        clear hown' hg7 hw hus hrv hRr g1 hb
        go_wp2
        go_roundw
        case rel => refine ⟨p, us ++ [.slice A' r.length c'], by omega, by rw [idx_eq], hw7, ?_, hb7⟩; exact hus7
        case measure => simp [intOf] <;> omega
end Go.Proofs.Ytfohfcpnhhiemaa
