/-
  Contracts: the reference's l42Place and SampleMost.
-/
import Derived.Test.YtoelnlkkkpijhaaMost
namespace Go.Proofs.Ytoelnlkkkpijhaa
open Go.RowKit
set_option linter.unusedSimpArgs false
set_option linter.unusedVariables false

def placeI : Option (Nat × Int) → Int
  | none => -1
  | some q => q.1
def placeD : Option (Nat × Int) → Int
  | none => 0
  | some q => q.2

set_option maxHeartbeats 1000000 in
theorem l42Place_any (A : Option Addr) (n c k : Nat) (d width : Int) (l : List Pc) (w : World) (h : Arr PP 2 w w.heap.size A n l) (hn : n ≤ 20) (hF : coreFrom 0 l = true) (hk : k ≤ n) (hd : 0 ≤ d ∧ d ≤ 100000) (hw : 1 ≤ width ∧ width ≤ 1000) :
    Calls Try.prog 37 #[.slice A n c, .int .i64 k, .int .i64 d, .int .i64 width] w fun e w' => e = .returned (.tuple #[.int .i64 (placeI (placeL width (l.drop k) d k)), .int .i64 (placeD (placeL width (l.drop k) d k))]) ∧ w = w' := by
  have hln := Lib.hid h.1
  have hF' := Lib.hid hF
  obtain ⟨d0, d1⟩ := hd
  obtain ⟨w1l, w1h⟩ := hw
  clear hF
  go_enter Try.func37, Try.ntmps37
  go_wp2
  go_loop [1] (fun i => ∃ j : Nat, j ≤ n ∧ i = .int .i64 j ∧ placeL width (l.drop j) d j = placeL width (l.drop k) d k) (fun i => n - (intOf i).toNat)
  case atStart => exact ⟨k, hk, rfl, rfl⟩
  case round =>
    obtain ⟨j, hj, rfl, hp⟩ := hrel
    have hp' := Lib.hid hp
    clear hp
    by_cases hlt : j < n
    · obtain ⟨b, off, x, y, rfl, hbB, hx, c1, c2⟩ := h.pair hlt
      have hm := coreFrom_mem hF'.out _ (List.mem_of_getElem? hx)
      have m0 : (0 : Int) ≤ x := hm.1
      have m1 : x < y := hm.2.1
      have m2 : y ≤ 30000 := hm.2.2
      have hE := Lib.hid (drop_cons hx)
      clear hm hx
      by_cases hdx : x ≤ d
      · by_cases hfit : d + width ≤ y
        · have hr : placeL width (l.drop k) d k = some (j, d) := by
            rw [← hp'.out, hE.out, placeL, if_pos (by show max d x + width ≤ y; omega)]
            simp only [Option.some.injEq, Prod.mk.injEq, true_and]; omega
          have hr' := Lib.hid hr
          clear hr
          go_wp2
          all_goals
            go_ret2
            exact ⟨by rw [hr'.out]; first | rfl | (simp only [placeI, placeD]; congr 3; omega), rfl⟩
        · have hr : placeL width (l.drop (j + 1)) d (j + 1) = placeL width (l.drop k) d k := by
            rw [← hp'.out, hE.out, placeL, if_neg (by show ¬ max d x + width ≤ y; omega)]
          have hr' := Lib.hid hr
          clear hr
          go_wp2
          all_goals
            go_round
            case rel => exact ⟨j + 1, by omega, by go_num, hr'.out⟩
            case measure => simp [intOf]; omega
      · by_cases hfit : x + width ≤ y
        · have hr : placeL width (l.drop k) d k = some (j, x) := by
            rw [← hp'.out, hE.out, placeL, if_pos (by show max d x + width ≤ y; omega)]
            simp only [Option.some.injEq, Prod.mk.injEq, true_and]; omega
          have hr' := Lib.hid hr
          clear hr
          have hdx' : d ≤ x := by omega
          go_wp2
          all_goals
            go_ret2
            exact ⟨by rw [hr'.out]; first | rfl | (simp only [placeI, placeD]; congr 3; omega), rfl⟩
        · have hr : placeL width (l.drop (j + 1)) d (j + 1) = placeL width (l.drop k) d k := by
            rw [← hp'.out, hE.out, placeL, if_neg (by show ¬ max d x + width ≤ y; omega)]
          have hr' := Lib.hid hr
          clear hr
          have hdx' : d ≤ x := by omega
          go_wp2
          all_goals
            go_round
            case rel => exact ⟨j + 1, by omega, by go_num, hr'.out⟩
            case measure => simp [intOf]; omega
    · have hr : placeL width (l.drop k) d k = none := by
        rw [← hp'.out, drop_end (by rw [hln.out]; omega)]
        rfl
      have hr' := Lib.hid hr
      clear hr
      go_wp2
      go_ret2
      exact ⟨by rw [hr'.out]; rfl, rfl⟩

theorem nle_of {a b : Int} (h : (!decide (a ≤ b)) = false) : a ≤ b := by simpa using h
theorem l6In_yes (x a b : Int) (w : World) (h1 : a ≤ x) (h2 : x ≤ b) : Calls Try.prog 36 #[.int .i64 x, .int .i64 a, .int .i64 b] w fun e w' => e = .returned (.bool true) ∧ w = w' := by
  go_enter Try.func36, Try.ntmps36
  go_wp2
  go_ret
  exact ⟨rfl, rfl⟩

set_option maxHeartbeats 1000000 in
theorem specMost_any (A : Option Addr) (n c : Nat) (l : List Pc) (width kf : Int) (w : World) (h : Arr PP 2 w w.heap.size A n l) (hc : n ≤ c) (hn : n ≤ 1099511627776) :
    Calls Try.prog 22 #[.slice A n c, .int .i64 width, .int .i64 kf] w fun e w' => e = .returned (.int .i64 (mostOf l width kf)) ∧ Below w.heap.size w w' := by
  have hln := Lib.hid h.1
  have C := specCoreValid_any A n c l w h hn
  cases hB : coreB l with
  | false =>
    rw [hB] at C
    have C' := Lib.hid C
    have hL := Lib.hid (show mostOf l width kf = -1 by unfold mostOf mostOk; rw [hB]; rfl)
    clear C hB
    go_enter Try.func22, Try.ntmps22
    go_wp2_with fail
    refine C'.out.mono ?_
    rintro e w1 ⟨rfl, hb⟩
    go_wp2
    go_ret
    exact ⟨ret_int hL.out.symm, hb⟩
  | true =>
    rw [hB] at C
    have C' := Lib.hid C
    by_cases hw : 1 ≤ width ∧ width ≤ 1000
    · by_cases hk : 0 ≤ kf ∧ kf ≤ 100
      · have hL := Lib.hid (show mostOf l width kf = cnt width kf l by unfold mostOf; rw [if_pos ((mostOk_iff _ _ _).2 ⟨hB, hw, hk⟩)])
        have hF := Lib.hid ((coreB_iff l).1 hB).1
        have h20 := ((coreB_iff l).1 hB).2
        rw [h.1] at h20
        have hw' := hw
        obtain ⟨w1l, w1h⟩ := hw
        obtain ⟨k0, k1⟩ := hk
        have hcl := cnt_le_len (w := width) w1l k0 hF.out
        have hll := lenOf_bd' hF.out
        obtain ⟨M, hM⟩ : ∃ M, M = cnt width kf l := ⟨_, rfl⟩
        have hM30 : M ≤ 30000 := by omega
        have HM := Lib.hid hM
        have hc00 := Lib.hid (cnt_nonneg (w := width) w1l k0 hF.out)
        clear C hB hM hcl hll
        go_enter Try.func22, Try.ntmps22
        go_wp2_with fail
        refine C'.out.mono ?_
        rintro e w1 ⟨rfl, hb1⟩
        clear C'
        go_wp2_with fail
        refine (l6In_yes _ _ _ _ w1l w1h).mono ?_
        rintro e w' ⟨rfl, rfl⟩
        go_wp2_with fail
        refine (l6In_yes _ _ _ _ k0 k1).mono ?_
        rintro e w' ⟨rfl, rfl⟩
        go_wp2_with fail
        have h1 := (h.below' hb1).more hb1.size
        refine (l42Place_any A n c 0 0 width l w1 h1 h20 hF.out (Nat.zero_le _) ⟨by omega, by omega⟩ hw').mono ?_
        rintro e w' ⟨rfl, rfl⟩
        go_wp2_with fail
        go_loopw [7, 8, 9] (fun m i f wr => ∃ (m' k0' : Nat) (d : Int), m = .int .i64 m' ∧ k0' ≤ n ∧ i = .int .i64 (placeI (placeL width (l.drop k0') d k0')) ∧ f = .int .i64 (placeD (placeL width (l.drop k0') d k0')) ∧ 0 ≤ d ∧ d ≤ 30000 ∧ (∀ p tl, l.drop k0' = p :: tl → d ≤ p.2) ∧ (m' : Int) + cnt width kf (absL (l.drop k0') d) = M ∧ Below w1.heap.size w1 wr) (fun m _ _ _ => (M + 1 - intOf m).toNat)
        case atStart =>
          refine ⟨0, 0, 0, rfl, Nat.zero_le _, rfl, rfl, by omega, by omega, fun p tl e => ?_, ?_, Below.refl _ _⟩
          · have := coreFrom_mem hF.out p (by rw [List.drop_zero] at e; rw [e]; exact List.mem_cons_self ..)
            omega
          · rw [List.drop_zero, absL_self hF.out (Int.le_refl _), HM.out]; simp
        case round =>
          obtain ⟨m, k', d, rfl, hk', hi, hf, hd0, hd1, hdp, hsum, hb⟩ := hrel
          have hFd := coreFrom_drop k' hF.out
          have PC := place_cut (w := width) (kf := kf) w1l k0 (t := l.drop k') (d := d) (i := k') hFd hdp
          have AG := (absL_good (d := d) hFd).1
          have CC := cut_cnt (w := width) w1l k0 AG
          cases hR : placeL width (l.drop k') d k' with
          | none =>
            rw [hR] at hi hf
            simp only [placeI, placeD] at hi hf
            subst hi; subst hf
            have h0 := CC.1 (PC.1 hR)
            have hmM := Lib.hid (show (m : Int) = cnt width kf l by rw [← HM.out]; omega)
            clear PC CC hR hsum h0 AG hFd hdp
            go_wp2
            go_ret
            exact ⟨ret_int (by rw [hL.out, hmM.out]), hb1.trans (hb.mono hb1.size)⟩
          | some q =>
            obtain ⟨j, fr⟩ := q
            rw [hR] at hi hf
            simp only [placeI, placeD] at hi hf
            subst hi; subst hf
            obtain ⟨⟨x, y⟩, tl, hkj, hdr, hxf, hdf, hfy, hpre, hcut⟩ := PC.2 hR
            rw [List.drop_drop, show k' + (j - k') = j by omega] at hdr
            have hcnt := CC.2 hcut
            have hjn : j < n := by
              have : j < l.length := by
                rcases Nat.lt_or_ge j l.length with h1 | h1
                · exact h1
                · rw [drop_end h1] at hdr; cases hdr
              rw [h.1] at this; exact this
            have hxl : l[j]? = some (x, y) := by have := congrArg (fun t => t[0]?) hdr; simpa using this
            have hm := coreFrom_mem hF.out _ (List.mem_of_getElem? hxl)
            have m1 : x < y := hm.2.1
            have m2 : y ≤ 30000 := hm.2.2
            have hcn := cnt_nonneg (w := width) w1l k0 (absL_good (d := min y (fr + width + kf)) (coreFrom_drop j hF.out)).1
            rw [← hdr] at hcnt
            have hcnt' : cnt width kf (absL (l.drop k') d) = 1 + cnt width kf (absL (l.drop j) (min y (fr + width + kf))) := hcnt
            have step : ∀ d', d' = min y (fr + width + kf) → Hid (((m + 1 : Nat) : Int) + cnt width kf (absL (l.drop j) d') = M ∧ (0 ≤ d' ∧ d' ≤ 30000) ∧ (∀ p tl, l.drop j = p :: tl → d' ≤ p.2)) := by
              rintro d' rfl
              refine ⟨by omega, by have h1 : x ≤ fr := hxf; have h2 : fr + width ≤ y := hfy; omega, fun p tl' e => ?_⟩
              rw [hdr] at e
              injection e with e _
              rw [← e]
              show min y _ ≤ y
              omega
            have hmM : (m : Int) < M := by have h3 := (step _ rfl).out.1; omega
            obtain ⟨b, off, x', y', rfl, hbB, hx', c1, c2⟩ := h1.pair hjn
            rw [hxl] at hx'
            simp only [Option.some.injEq, Prod.mk.injEq] at hx'
            obtain ⟨rfl, rfl⟩ := hx'
            have c2' := (hb.cell (by exact hbB)).trans c2
            have hf0 : 0 ≤ fr := by omega
            have hf1 : fr + width ≤ y := hfy
            have h2 := (h1.below' hb).more hb.size
            have step' := Lib.hid step
            clear PC CC hR hsum AG hFd hdp hcut hcnt hcnt' hcn hxl hm c1 c2 hpre hdr step hxf hfy
            rcases (show fr + width + kf < y ∨ y < fr + width + kf ∨ y = fr + width + kf by omega) with ht | ht | ht
            · go_wp2_with fail
              have st := step'.out _ (show fr + width + kf = min y (fr + width + kf) by omega)
              have hst := st.out
              refine (l42Place_any _ n c j (fr + width + kf) width l wr h2 h20 hF.out (by omega) ⟨by omega, by omega⟩ hw').mono ?_
              rintro e w' ⟨rfl, rfl⟩
              clear hst
              go_wp2
              go_roundw
              case rel => exact ⟨m + 1, j, _, by go_num, by omega, rfl, rfl, st.out.2.1.1, st.out.2.1.2, st.out.2.2, st.out.1, hb⟩
              case measure => simp [intOf]; omega
            · go_wp2_with fail
              have st := step'.out _ (show y = min y (fr + width + kf) by omega)
              have hst := st.out
              refine (l42Place_any _ n c j (y) width l wr h2 h20 hF.out (by omega) ⟨by omega, by omega⟩ hw').mono ?_
              rintro e w' ⟨rfl, rfl⟩
              clear hst
              go_wp2
              go_roundw
              case rel => exact ⟨m + 1, j, _, by go_num, by omega, rfl, rfl, st.out.2.1.1, st.out.2.1.2, st.out.2.2, st.out.1, hb⟩
              case measure => simp [intOf]; omega
            · obtain rfl := ht
              go_wp2_with fail
              have st := step'.out _ (show fr + width + kf = min (fr + width + kf) (fr + width + kf) by omega)
              have hst := st.out
              refine (l42Place_any _ n c j (fr + width + kf) width l wr h2 h20 hF.out (by omega) ⟨by omega, by omega⟩ hw').mono ?_
              rintro e w' ⟨rfl, rfl⟩
              clear hst
              go_wp2
              go_roundw
              case rel => exact ⟨m + 1, j, _, by go_num, by omega, rfl, rfl, st.out.2.1.1, st.out.2.1.2, st.out.2.2, st.out.1, hb⟩
              case measure => simp [intOf]; omega
      · have hL := Lib.hid (show mostOf l width kf = -1 by unfold mostOf; rw [if_neg (by rw [mostOk_iff]; intro hh; exact hk hh.2.2)])
        clear C hB
        obtain ⟨w1l, w1h⟩ := hw
        rcases (show kf < 0 ∨ (0 ≤ kf ∧ 100 < kf) by omega) with k0 | ⟨k0, k1⟩
        all_goals
          clear hk
          go_enter Try.func22, Try.ntmps22
          go_wp2_with fail
          refine C'.out.mono ?_
          rintro e w1 ⟨rfl, hb⟩
          go_wp2
          all_goals first | (go_ret; exact ⟨ret_int hL.out.symm, hb⟩) | (exfalso; omega) | (exfalso; have hno := nle_of (a := kf) (b := 100) (by assumption); omega) | (exfalso; have hno := nle_of (a := width) (b := 1000) (by assumption); omega)
    · have hL := Lib.hid (show mostOf l width kf = -1 by unfold mostOf; rw [if_neg (by rw [mostOk_iff]; intro hh; exact hw hh.2.1)])
      clear C hB
      rcases (show width < 1 ∨ (1 ≤ width ∧ 1000 < width) by omega) with k0 | ⟨k0, k1⟩
      all_goals
        clear hw
        go_enter Try.func22, Try.ntmps22
        go_wp2_with fail
        refine C'.out.mono ?_
        rintro e w1 ⟨rfl, hb⟩
        go_wp2
        all_goals first | (go_ret; exact ⟨ret_int hL.out.symm, hb⟩) | (exfalso; omega) | (exfalso; have hno := nle_of (a := kf) (b := 100) (by assumption); omega) | (exfalso; have hno := nle_of (a := width) (b := 1000) (by assumption); omega)
end Go.Proofs.Ytoelnlkkkpijhaa
