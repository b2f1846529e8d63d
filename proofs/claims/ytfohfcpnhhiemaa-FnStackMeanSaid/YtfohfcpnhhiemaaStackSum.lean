/-
  Contracts: the program's and the reference's StackSum; l41Sum.
-/
import Derived.Test.YtfohfcpnhhiemaaStackValid
import Derived.Test.YtfohfcpnhhiemaaAppend
namespace Go.Proofs.Ytfohfcpnhhiemaa
open Go.RowKit
set_option linter.unusedSimpArgs false
set_option linter.unusedVariables false

theorem infoInt : (Try.prog.info? 3).map (fun i => (i.zero, i.size, i.bytes)) = some (some (.int .i64 0), 1, 8) := by kernel_rfl
theorem zeros_II (n : Nat) : (List.replicate n (0 : Int)).flatMap II = (madeCells #[Value.int .i64 0] n).toList := by
  apply List.ext_getElem?
  intro j
  have e : (List.replicate n (0 : Int)).flatMap II = List.replicate n (Value.int .i64 0) := by
    induction n with
    | zero => rfl
    | succ n ih => rw [List.replicate_succ, List.flatMap_cons, ih, List.replicate_succ]; rfl
  rw [e]
  rcases Nat.lt_or_ge j n with h | h
  · simp [madeCells, h, Nat.mod_one]
  · rw [List.getElem?_eq_none (by simp; omega), List.getElem?_eq_none (by simp [madeCells]; omega)]
/-- A call hands back a row of its own, and whether there is one. -/
def RetInts (T : TypeId) (w : World) (l : List Int) (ok : Bool) (e : Ending) (w' : World) : Prop :=
  ∃ A n c, e = .returned (.tuple #[.slice A n c, .bool ok]) ∧ Own II 1 w' w.heap.size T (.slice A n c) n l ∧ Below w.heap.size w w'
theorem retInts_no {T : TypeId} {w w' : World} (hb : Below w.heap.size w w') : RetInts T w [] false (.returned (.tuple #[.slice none 0 0, .bool false])) w' :=
  ⟨none, 0, 0, rfl, Own.nil_ _ _ _ _ _, hb⟩
theorem retInts_made {T : TypeId} {w w' : World} {A : Option Addr} {c : Nat} (ho : Own II 1 w' w.heap.size T (.slice A 0 c) 0 []) (hb : Below w.heap.size w w') : RetInts T w [] false (.returned (.tuple #[.slice A 0 c, .bool false])) w' :=
  ⟨A, 0, c, rfl, ho, hb⟩
theorem retInts_yes {T : TypeId} {w w' : World} {l l' : List Int} {A : Option Addr} {n c : Nat} (he : l' = l) (ho : Own II 1 w' w.heap.size T (.slice A n c) n l') (hb : Below w.heap.size w w') : RetInts T w l true (.returned (.tuple #[.slice A n c, .bool true])) w' := by
  subst he
  exact ⟨A, n, c, rfl, ho, hb⟩
def sumsR (R : List (List Int)) : List Int := if stackB R = true then sums R (wid R) else []
theorem map_set (f : Nat → Int) (P : List Int) {k : Nat} (h : k < P.length) : ((List.range k).map f ++ P.drop k).set k (f k) = (List.range (k + 1)).map f ++ P.drop (k + 1) := by
  rw [List.set_append_right _ _ (by simp)]
  simp only [List.length_map, List.length_range, Nat.sub_self]
  rw [List.drop_eq_getElem_cons h, List.set_cons_zero, List.range_succ, List.map_append, List.append_assoc]
  rfl
theorem map_get (f : Nat → Int) (P : List Int) {k : Nat} {x : Int} (h : P[k]? = some x) : ((List.range k).map f ++ P.drop k)[k]? = some x := by
  rw [List.getElem?_append_right (by simp)]
  simp [h]
def addF (R : List (List Int)) (k : Nat) (r : List Int) (j : Nat) : Int := sumAt (R.take k) j + at0 r j
theorem sums_snoc {R : List (List Int)} {k : Nat} {r : List Int} (h : R[k]? = some r) (m : Nat) : (List.range m).map (addF R k r) = sums (R.take (k + 1)) m := by
  unfold sums
  apply List.map_congr_left
  intro j _
  unfold addF
  rw [take_snoc h, sumAt_append]
  simp [sumAt]
theorem sums_zero (m : Nat) : sums [] m = List.replicate m 0 := by
  unfold sums
  apply List.ext_getElem?
  intro j
  rcases Nat.lt_or_ge j m with h | h
  · simp [h, sumAt]
  · rw [List.getElem?_eq_none (by simp; omega), List.getElem?_eq_none (by simp; omega)]

set_option maxHeartbeats 2000000 in
theorem implSum_any (A : Option Addr) (n c : Nat) (R : List (List Int)) (w : World) (h : Rows2 w w.heap.size A n R) (hn : n ≤ 1099511627776) (hrl : ∀ r ∈ R, r.length ≤ 1099511627776) :
    Calls Try.prog 29 #[.slice A n c] w (RetInts 3 w (sumsR R) (stackB R)) := by
  obtain ⟨i0, hi, hz0, hz1, hz2⟩ := info_parts infoInt
  have C := implStackValid_any A n c R w h hn hrl
  cases hB : stackB R with
  | false =>
    rw [hB] at C
    have C' := Lib.hid C
    have hL := Lib.hid (show sumsR R = [] by unfold sumsR; rw [hB]; rfl)
    clear C hB hrl
    go_enter Try.func29, Try.ntmps29
    go_wp2_with fail
    refine C'.out.mono ?_
    rintro e w1 ⟨rfl, rfl⟩
    go_wp2
    go_ret2
    rw [hL.out]
    exact retInts_no (Below.refl _ _)
  | true =>
    rw [hB] at C
    have C' := Lib.hid C
    have hL := Lib.hid (show sumsR R = sums R (wid R) by unfold sumsR; rw [hB]; rfl)
    obtain ⟨s1, s6⟩ := stack_len hB
    obtain ⟨m1, m20⟩ := stack_wid hB
    have hmem := Lib.hid (fun r hr => stack_mem hB (r := r) hr)
    have hall := Lib.hid (stack_all hB)
    have hln := Lib.hid h.len
    rw [h.len] at s1 s6
    obtain ⟨b0, off0, r0, A0, c0, hA0, hb0, hx0, d0, hd0, ha0⟩ := h.row (k := 0) (by omega)
    have hw0 := wid_of hx0
    obtain ⟨m, hm⟩ : ∃ m, m = wid R := ⟨_, rfl⟩
    have HM := Lib.hid hm
    rw [← hm] at m1 m20 hw0 hL
    rw [← hw0, Nat.add_zero] at d0
    subst hA0
    clear C hB hrl hx0 hw0 ha0 hm
    have hn0 : 0 < n := by omega
    go_enter Try.func29, Try.ntmps29
    go_wp2_with fail
    refine C'.out.mono ?_
    rintro e w1 ⟨rfl, rfl⟩
    clear C'
    go_wp2_with (at_make; refine wpList_make_full _ rfl _ _ 28 rfl w.heap.size 3 i0 (.int .i64 0) 1 Try.underlying28 hi hz0 hz1 _ _ _ _ m rfl rfl (by omega) (by omega) ?b1 ?b2 ?b3 ?_)
    case b1 => rw [hz2]; omega
    case b2 => unfold maxLen; omega
    case b3 => exact Nat.le_refl _
    intro w1 hown hg
    go_wp2
    have hb1 : Below w.heap.size w w1 := below_of_grown hg (Nat.le_refl _) (by intro k hk; cases hk)
    have hO : Own II 1 w1 w.heap.size 3 (.slice (some ⟨w.heap.size, 0, none⟩) m m) m (List.replicate m 0) := ⟨by simp, by rw [zeros_II]; exact hown⟩
    rw [← sums_zero] at hO
    clear hown hg
    go_loopw [19] (fun i wr => ∃ k : Nat, k ≤ n ∧ i = .int .i64 k ∧ Own II 1 wr w.heap.size 3 (.slice (some ⟨w.heap.size, 0, none⟩) m m) m (sums (R.take k) m) ∧ Below w.heap.size w wr) (fun i _ => n - (intOf i).toNat)
    case atStart => exact ⟨0, Nat.zero_le _, rfl, by rw [List.take_zero]; exact hO, hb1⟩
    case round =>
      clear hO hb1
      obtain ⟨k, hk, rfl, hw, hb⟩ := hrel
      by_cases hlt : k < n
      · obtain ⟨b, off, r, A', c', e, hbB, hx, c1, hc1, ha⟩ := h.row hlt
        injection e with e; injection e with e1 e2; subst e1; subst e2
        obtain ⟨hra, hrw, hr1, hr20⟩ := hmem.out r (List.mem_of_getElem? hx)
        rw [← HM.out] at hrw
        rw [hrw] at c1 hc1 ha
        have c1' := (hb.cell (by exact hbB)).trans c1
        have hS := Lib.hid (sums_snoc hx m)
        have hbd := Lib.hid (fun j => sumAt_bd (R := R.take k) (fun x hx => hall.out x (List.mem_of_mem_take hx)) j)
        have hab := Lib.hid (at0_bd hra)
        have hkl : (R.take k).length ≤ k := List.length_take_le _ _
        obtain ⟨wo, rfl⟩ : ∃ wo : World, wo = wr := ⟨_, rfl⟩
        clear hx c1 hra hrw hr1 hr20
        go_wp2
        go_loopw [25] (fun i wr => ∃ j : Nat, j ≤ m ∧ i = .int .i64 j ∧ Own II 1 wr w.heap.size 3 (.slice (some ⟨w.heap.size, 0, none⟩) m m) m ((List.range j).map (addF R k r) ++ (sums (R.take k) m).drop j) ∧ Below w.heap.size w wr) (fun i _ => m - (intOf i).toNat)
        case atStart => exact ⟨0, Nat.zero_le _, rfl, by simpa using hw, hb⟩
        case round =>
          clear hw hb c1'
          obtain ⟨j, hj, rfl, hw, hb⟩ := hrel
          by_cases hjm : j < m
          · obtain ⟨b', off', x, e, hbB', hx, c2⟩ := ha.int hjm
            subst e
            have c2' := (hb.cell (by exact hbB')).trans c2
            have q0 := hw.intAt (map_get (addF R k r) (sums (R.take k) m) (sums_get _ hjm))
            have f0 := hw.2.frozenAt j
            have hfx : addF R k r j = sumAt (R.take k) j + x := by unfold addF; rw [at0_of hx]
            have S := hw.setInt (k := j) (addF R k r j)
            rw [map_set _ _ (by rw [sums_length]; exact hjm), hfx] at S
            have S' := Lib.hid S
            have B' := hb.setCell (p := ⟨w.heap.size, j, none⟩) (Nat.le_refl _) (.int .i64 (sumAt (R.take k) j + x))
            have h1 := hbd.out j
            have h2 := hab.out j
            rw [at0_of hx] at h2
            obtain ⟨SS, hSS⟩ : ∃ SS, SS = sumAt (R.take k) j := ⟨_, rfl⟩
            rw [← hSS] at q0 S' B' h1
            have h3 : -100000 ≤ SS ∧ SS ≤ 100000 := by omega
            obtain ⟨h4, h5⟩ := h3
            obtain ⟨h6, h7⟩ := h2
            clear hw hb S c2 hx hSS h1 hfx
            go_wp2
            go_roundw
            case rel => exact ⟨j + 1, by omega, by go_num, S'.out, B'⟩
            case measure => simp [intOf]; omega
          · obtain rfl : j = m := by omega
            rw [List.drop_of_length_le (by rw [sums_length]; exact Nat.le_refl _), List.append_nil, hS.out] at hw
            go_wp2
            go_roundw
            case rel => exact ⟨k + 1, by omega, by go_num, hw, hb⟩
            case measure => simp [intOf]; omega
      · have htk : R.take k = R := List.take_of_length_le (by rw [hln.out]; omega)
        rw [htk] at hw
        clear htk
        go_wp2
        go_ret2
        exact retInts_yes hL.out.symm hw hb

set_option maxHeartbeats 400000 in
theorem l41Sum_any (A : Option Addr) (n c k : Nat) (R : List (List Int)) (w : World) (h : Rows2 w w.heap.size A n R) (hB : stackB R = true) (hk : k < wid R) :
    Calls Try.prog 52 #[.slice A n c, .int .i64 k] w fun e w' => e = .returned (.int .i64 (sumAt R k)) ∧ w = w' := by
  obtain ⟨s1, s6⟩ := stack_len hB
  obtain ⟨m1, m20⟩ := stack_wid hB
  have hmem := Lib.hid (fun r hr => stack_mem hB (r := r) hr)
  have hall := Lib.hid (stack_all hB)
  have hln := Lib.hid h.len
  rw [h.len] at s1 s6
  have hk20 : k ≤ 20 := by omega
  have HK := Lib.hid hk
  clear hB hk
  go_enter Try.func52, Try.ntmps52
  go_wp2
  go_loop [5, 6] (fun s i => ∃ j : Nat, j ≤ n ∧ i = .int .i64 j ∧ s = .int .i64 (sumAt (R.take j) k)) (fun _ i => n - (intOf i).toNat)
  case atStart => exact ⟨0, Nat.zero_le _, rfl, rfl⟩
  case round =>
    obtain ⟨j, hj, rfl, rfl⟩ := hrel
    by_cases hlt : j < n
    · obtain ⟨b, off, r, A', c', rfl, hbB, hx, c1, hc1, ha⟩ := h.row hlt
      obtain ⟨hra, hrw, hr1, hr20⟩ := hmem.out r (List.mem_of_getElem? hx)
      have hkr : k < r.length := by rw [hrw]; exact HK.out
      obtain ⟨b', off', x, rfl, hbB', hy, c2⟩ := ha.int hkr
      have h1 := sumAt_bd (R := R.take j) (fun x hx => hall.out x (List.mem_of_mem_take hx)) k
      have h2 := at0_bd hra k
      rw [at0_of hy] at h2
      have hS := Lib.hid (show sumAt (R.take (j + 1)) k = sumAt (R.take j) k + x by rw [take_snoc hx, sumAt_append]; simp [sumAt, at0_of hy])
      have hkl : (R.take j).length ≤ j := List.length_take_le _ _
      obtain ⟨SS, hSS⟩ : ∃ SS, SS = sumAt (R.take j) k := ⟨_, rfl⟩
      rw [← hSS] at h1 hS ⊢
      have h4 : -100000 ≤ SS := by omega
      have h5 : SS ≤ 100000 := by omega
      obtain ⟨h6, h7⟩ := h2
      clear hx hy hra hrw hSS h1
      go_wp2
      go_round
      case rel => exact ⟨j + 1, by omega, by go_num, by rw [hS.out]⟩
      case measure => simp [intOf]; omega
    · have htk : R.take j = R := List.take_of_length_le (by rw [hln.out]; omega)
      have ht := Lib.hid htk
      clear htk
      go_wp2
      go_ret
      exact ⟨ret_int (by rw [ht.out]), rfl⟩

set_option maxHeartbeats 2000000 in
theorem specSum_any (A : Option Addr) (n c : Nat) (R : List (List Int)) (w : World) (h : Rows2 w w.heap.size A n R) (hn : n ≤ 1099511627776) (hrl : ∀ r ∈ R, r.length ≤ 1099511627776) :
    Calls Try.prog 48 #[.slice A n c] w (RetInts 3 w (sumsR R) (stackB R)) := by
  obtain ⟨i0, hi, hz0, hz1, hz2⟩ := info_parts infoInt
  have C := fun W hW => specStackValid_any A n c R W hW hn hrl
  have o0 := Own.made II 1 w w.heap.size 3 (Nat.le_refl _)
  have h0 := (h.alloc (Nat.le_refl _) (.cells #[] 3)).more (show w.heap.size ≤ (w.alloc (.cells #[] 3)).heap.size by simp)
  have b0 : Below w.heap.size w (w.alloc (.cells #[] 3)) := (Below.refl w.heap.size w).alloc (Nat.le_refl _) _
  cases hB : stackB R with
  | false =>
    rw [hB] at C
    have C' := Lib.hid C
    have hL := Lib.hid (show sumsR R = [] by unfold sumsR; rw [hB]; rfl)
    clear C hB hrl
    go_enter Try.func48, Try.ntmps48
    go_wp2_with fail
    refine (C'.out _ h0).mono ?_
    rintro e w1 ⟨rfl, hb1⟩
    have o1 := o0.below hb1 (Nat.le_refl _)
    have b1 := b0.trans (hb1.mono b0.size)
    clear o0 b0 h0 hb1
    go_wp2
    go_ret2
    rw [hL.out]
    exact retInts_made o1 b1
  | true =>
    rw [hB] at C
    have C' := Lib.hid C
    have hL := Lib.hid (show sumsR R = sums R (wid R) by unfold sumsR; rw [hB]; rfl)
    obtain ⟨s1, s6⟩ := stack_len hB
    obtain ⟨m1, m20⟩ := stack_wid hB
    rw [h.len] at s1 s6
    obtain ⟨b0', off0, r0, A0, c0, hA0, hb0, hx0, d0, hd0, ha0⟩ := h.row (k := 0) (by omega)
    have hw0 := wid_of hx0
    obtain ⟨m, hm⟩ : ∃ m, m = wid R := ⟨_, rfl⟩
    have HM := Lib.hid hm
    rw [← hm] at m1 m20 hw0 hL
    rw [← hw0, Nat.add_zero] at d0
    subst hA0
    have K := Lib.hid (fun k W hW hk => l41Sum_any (some ⟨b0', off0, none⟩) n c k R W hW hB hk)
    clear C hB hrl hx0 hw0 ha0 hm
    have hn0 : 0 < n := by omega
    go_enter Try.func48, Try.ntmps48
    go_wp2_with fail
    refine (C'.out _ h0).mono ?_
    rintro e w1 ⟨rfl, hb1⟩
    have o1 := o0.below hb1 (Nat.le_refl _)
    have b1 := b0.trans (hb1.mono b0.size)
    clear o0 b0 h0 hb1 C'
    go_wp2
    go_loopw [4, 5] (fun v i wr => ∃ k : Nat, k ≤ m ∧ i = .int .i64 k ∧ Own II 1 wr w.heap.size 3 v k (sums R k) ∧ Below w.heap.size w wr) (fun _ i _ => m - (intOf i).toNat)
    case atStart => exact ⟨0, Nat.zero_le _, rfl, o1, b1⟩
    case round =>
      clear o1 b1
      obtain ⟨k, hk, rfl, hw, hb⟩ := hrel
      have d1 := (hb.cell (by exact hb0)).trans d0
      by_cases hlt : k < m
      · have hS := Lib.hid (show sums R (k + 1) = sums R k ++ [sumAt R k] by unfold sums; rw [List.range_succ, List.map_append]; rfl)
        have hkw : k < wid R := by rw [← HM.out]; exact hlt
        have K' := Lib.hid (K.out k _ ((h.below' hb).more hb.size) hkw)
        clear hkw
        go_wp2_with fail
        refine K'.out.mono ?_
        rintro e w' ⟨rfl, rfl⟩
        go_wp2_with (at_builtin; refine wpList_append_own _ rfl _ _ 28 rfl w.heap.size 3 i0 (.int .i64 0) 1 8 Try.underlying28 hi hz0 hz1 hz2 rfl (by decide) _ _ _ rfl (hw.2.alloc _) ⟨wr.heap.size, 0, none⟩ 1 1 [.int .i64 (sumAt R k)] rfl rfl ?c1 ?c2 ?c3 ?c4 ?c5 ?_)
        case c1 => exact cell_new1 _ _ _
        case c2 => exact one_II _
        case c3 => unfold maxLen; omega
        case c4 => omega
        case c5 => have := hb.size; simp; omega
        intro v' w4 hown' hg4 _
        have hw4 : Own II 1 w4 w.heap.size 3 v' (k + 1) (sums R k ++ [sumAt R k]) := Own.snoc' hw.1 (by simp [II]) hown'
        rw [← hS.out] at hw4
        have hb4 := (hb.alloc hb.size (.cells #[.int .i64 (sumAt R k)] 3)).grown hg4 (by have := hb.size; simp; omega) (fun j hj => (hw.2.lt j hj).1)
        clear hown' hg4 hw hb d1
        go_wp2
        go_roundw
        case rel => exact ⟨k + 1, by omega, by go_num, hw4, hb4⟩
        case measure => simp [intOf]; omega
      · obtain rfl : k = m := by omega
        obtain ⟨A2, c2, rfl, _, _⟩ := hw.form
        go_wp2
        go_ret2
        exact retInts_yes hL.out.symm hw hb
end Go.Proofs.Ytfohfcpnhhiemaa
