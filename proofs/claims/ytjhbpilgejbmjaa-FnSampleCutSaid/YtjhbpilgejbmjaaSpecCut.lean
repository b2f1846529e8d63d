/-
  Contracts: the reference's l42Left and SampleCut.
-/
import Derived.Test.YtjhbpilgejbmjaaCut
import Derived.Test.YtjhbpilgejbmjaaPlainW
import Derived.Test.YtjhbpilgejbmjaaPlace2
import Derived.RegionTactic
namespace Go.Proofs.Ytjhbpilgejbmjaa
open Go.RowKit
set_option linter.unusedSimpArgs false
set_option linter.unusedVariables false

theorem behind_bd {d : Int} : ∀ {t : List Pc} {d0 : Int}, coreFrom d0 t = true → 0 ≤ behind d t ∧ behind d t ≤ lenOf t := by
  intro t
  induction t with
  | nil => intro _ _; simp [behind, lenOf]
  | cons p t ih =>
    intro d0 h
    have h' := (coreFrom_cons _ _ _).1 h
    have := ih h'.2
    simp only [behind, lenOf]
    omega
theorem behind_snoc (d : Int) (a : List Pc) (x y : Int) : behind d (a ++ [(x, y)]) = behind d a + max 0 (y - max d x) := by rw [behind_append]; simp [behind]

set_option maxHeartbeats 1000000 in
theorem l42Left_any (A : Option Addr) (n c : Nat) (d : Int) (l : List Pc) (w : World) (h : Arr PP 2 w w.heap.size A n l) (hn : n ≤ 1099511627776) (hF : coreFrom 0 l = true) (hd : 0 ≤ d ∧ d ≤ 100000) :
    Calls Try.prog 47 #[.slice A n c, .int .i64 d] w fun e w' => e = .returned (.int .i64 (behind d l)) ∧ Below w.heap.size w w' := by
  have hln := Lib.hid h.1
  have hF' := Lib.hid hF
  obtain ⟨d0, d1⟩ := hd
  clear hF
  go_enter Try.func47, Try.ntmps47
  go_wp2
  go_loopw [5, 6] (fun s i wr => ∃ k : Nat, k ≤ n ∧ i = .int .i64 k ∧ s = .int .i64 (behind d (l.take k)) ∧ Below w.heap.size w wr) (fun _ i _ => n - (intOf i).toNat)
  case atStart => exact ⟨0, Nat.zero_le _, rfl, rfl, Below.refl _ _⟩
  case round =>
    obtain ⟨k, hk, rfl, rfl, hb⟩ := hrel
    by_cases hlt : k < n
    · obtain ⟨b, off, x, y, rfl, hbB, hx, c1, c2⟩ := h.pair hlt
      have hm := coreFrom_mem hF'.out _ (List.mem_of_getElem? hx)
      have m0 : (0 : Int) ≤ x := hm.1
      have m1 : x < y := hm.2.1
      have m2 : y ≤ 30000 := hm.2.2
      have c1' := (hb.cell (by exact hbB)).trans c1
      have c2' := (hb.cell (by exact hbB)).trans c2
      have hS : Hid (behind d (l.take (k + 1)) = behind d (l.take k) + max 0 (y - max d x)) := by rw [take_snoc hx]; exact behind_snoc _ _ _ _
      have hbd := behind_bd (d := d) (coreFrom_take k hF'.out)
      have hlb := lenOf_bd' (coreFrom_take k hF'.out)
      have hlt' : (k : Int) < (n : Int) := by omega
      obtain ⟨S, hSS⟩ : ∃ S, S = behind d (l.take k) := ⟨_, rfl⟩
      have hS0 : 0 ≤ S := by omega
      have hS1 : S ≤ 30000 := by omega
      rw [← hSS] at hS ⊢
      clear hm hx c1 c2 hSS hbd hlb
      have key : ∀ v : Int, v = max 0 (y - max d x) → Hid (behind d (l.take (k + 1)) = S + v) := fun v hv => by rw [hv]; exact hS
      have key' := Lib.hid key
      clear key hS
      rcases (show (x < d ∧ d < y) ∨ (x < d ∧ y ≤ d) ∨ d < x ∨ x = d by omega) with ⟨h1, h2⟩ | ⟨h1, h2⟩ | h1 | h1
      · have K := key'.out (y - d) (by omega)
        go_wp2_with fail
        go_region
        all_goals
          go_wp2
          go_roundw
          case rel => exact ⟨k + 1, by omega, by go_num, by first | (rw [K.out]; done) | (rw [K.out]; go_num), by first | exact hb | exact hb.drew | exact below_drewN hb _⟩
          case measure => simp [intOf]; omega
      · have K := key'.out (0) (by omega)
        go_wp2_with fail
        go_region
        all_goals
          go_wp2
          go_roundw
          case rel => exact ⟨k + 1, by omega, by go_num, by first | (rw [K.out]; done) | (rw [K.out]; go_num), by first | exact hb | exact hb.drew | exact below_drewN hb _⟩
          case measure => simp [intOf]; omega
      · have K := key'.out (y - x) (by omega)
        go_wp2_with fail
        go_region
        all_goals
          go_wp2
          go_roundw
          case rel => exact ⟨k + 1, by omega, by go_num, by first | (rw [K.out]; done) | (rw [K.out]; go_num), by first | exact hb | exact hb.drew | exact below_drewN hb _⟩
          case measure => simp [intOf]; omega
      · have h3 : ¬ d < x := by omega
        have K := key'.out (y - x) (by omega)
        go_wp2_with fail
        go_region
        all_goals
          go_wp2
          go_roundw
          case rel => exact ⟨k + 1, by omega, by go_num, by first | (rw [K.out]; done) | (rw [K.out]; go_num), by first | exact hb | exact hb.drew | exact below_drewN hb _⟩
          case measure => simp [intOf]; omega
    · have htk : l.take k = l := List.take_of_length_le (by rw [hln.out]; omega)
      have ht := Lib.hid htk
      clear htk
      go_wp2
      go_ret
      exact ⟨ret_int (by rw [ht.out]), hb⟩

theorem l6In_any (x a b : Int) (r : Bool) (hr : decide (a ≤ x ∧ x ≤ b) = r) (w : World) : Calls Try.prog 45 #[.int .i64 x, .int .i64 a, .int .i64 b] w fun e w' => e = .returned (.bool r) ∧ w = w' := by
  rcases (show x < a ∨ (a ≤ x ∧ b < x) ∨ (a ≤ x ∧ x ≤ b) by omega) with h | ⟨h, h2⟩ | ⟨h, h2⟩
  · rw [decide_eq_false (by omega)] at hr
    subst hr
    go_enter Try.func45, Try.ntmps45
    go_wp2
    go_ret
    exact ⟨rfl, rfl⟩
  · rw [decide_eq_false (by omega)] at hr
    subst hr
    go_enter Try.func45, Try.ntmps45
    go_wp2
    go_ret
    exact ⟨ret_bool (by simp; omega), rfl⟩
  · rw [decide_eq_true (by omega)] at hr
    subst hr
    exact l6In_yes x a b w h h2

theorem retCut_made {T : TypeId} {w w' : World} {r : Option (List Int × List Pc)} {A : Option Addr} {c : Nat} (hr : r = none) (ho : Own II 1 w' w.heap.size T (.slice A 0 c) 0 []) (hb : Below w.heap.size w w') : RetCut T w r (.returned (.tuple #[.slice A 0 c, .int .i64 0, .bool false])) w' := by
  subst hr
  exact ⟨A, 0, c, rfl, ho, hb⟩

set_option maxHeartbeats 2000000 in
theorem specCut_any (A : Option Addr) (n c : Nat) (l : List Pc) (A' : Option Addr) (n' c' : Nat) (os : List (Int × Int)) (kf : Int) (w : World) (h : Arr PP 2 w w.heap.size A n l) (hc : n ≤ c) (hn : n ≤ 1099511627776)
    (h' : Arr PP 2 w w.heap.size A' n' os) (hn' : n' ≤ 1099511627776) :
    Calls Try.prog 15 #[.slice A n c, .slice A' n' c', .int .i64 kf] w (RetCut 3 w (cutAll l os kf)) := by
  obtain ⟨i0, hi, hz0, hz1, hz2⟩ := info_parts infoInt
  have C := fun W hW => specCoreValid_any A n c l W hW hn
  cases hB : coreB l with
  | false =>
    rw [hB] at C
    have C' := Lib.hid C
    have hL := Lib.hid (show cutAll l os kf = none by unfold cutAll cutOk; rw [hB]; rfl)
    clear C hB
    go_enter Try.func15, Try.ntmps15
    go_wp2_with fail
    refine (C'.out _ ((h.alloc (Nat.le_refl _) _).more (by simp))).mono ?_
    rintro e w1 ⟨rfl, hb⟩
    have o1 := (Own.made II 1 w w.heap.size 3 (Nat.le_refl _)).below hb (Nat.le_refl _)
    have b1 := ((Below.refl w.heap.size w).alloc (Nat.le_refl _) _).trans (hb.mono (by simp))
    clear hb
    go_wp2
    go_ret3
    exact retCut_made hL.out o1 b1
  | true =>
    rw [hB] at C
    have C' := Lib.hid C
    clear C
    have O := fun W hW => l42Orders_any A' n' c' os W hW hn'
    cases hO : ordersB os with
    | false =>
      have hL := Lib.hid (show cutAll l os kf = none by unfold cutAll cutOk; rw [hB, hO]; rfl)
      rw [hO] at O
      have O' := Lib.hid O
      clear hB hO O
      go_enter Try.func15, Try.ntmps15
      go_wp2_with fail
      refine (C'.out _ ((h.alloc (Nat.le_refl _) _).more (by simp))).mono ?_
      rintro e w1 ⟨rfl, hb⟩
      have o1 := (Own.made II 1 w w.heap.size 3 (Nat.le_refl _)).below hb (Nat.le_refl _)
      have b1 := ((Below.refl w.heap.size w).alloc (Nat.le_refl _) _).trans (hb.mono (by simp))
      clear hb
      go_wp2_with fail
      refine (O'.out _ ((h'.below' b1).more b1.size)).mono ?_
      rintro e w2 ⟨rfl, rfl⟩
      go_wp2
      go_ret3
      exact retCut_made hL.out o1 b1
    | true =>
      rw [hO] at O
      have O' := Lib.hid O
      clear O
      cases hK : decide (0 ≤ kf ∧ kf ≤ 100) with
      | false =>
        have hL := Lib.hid (show cutAll l os kf = none by unfold cutAll cutOk; rw [hB, hO, hK]; rfl)
        have K' := Lib.hid (fun w => l6In_any kf 0 100 _ hK w)
        clear hB hO hK
        go_enter Try.func15, Try.ntmps15
        go_wp2_with fail
        refine (C'.out _ ((h.alloc (Nat.le_refl _) _).more (by simp))).mono ?_
        rintro e w1 ⟨rfl, hb⟩
        have o1 := (Own.made II 1 w w.heap.size 3 (Nat.le_refl _)).below hb (Nat.le_refl _)
        have b1 := ((Below.refl w.heap.size w).alloc (Nat.le_refl _) _).trans (hb.mono (by simp))
        clear hb
        go_wp2_with fail
        refine (O'.out _ ((h'.below' b1).more b1.size)).mono ?_
        rintro e w2 ⟨rfl, rfl⟩
        go_wp2_with fail
        refine (K'.out _).mono ?_
        rintro e w3 ⟨rfl, rfl⟩
        go_wp2
        go_ret3
        exact retCut_made hL.out o1 b1
      | true =>
        have hL := Lib.hid (show cutAll l os kf = cutW kf (widths os) l by unfold cutAll cutOk; rw [hB, hO, hK]; rfl)
        have K' := Lib.hid (fun w => l6In_any kf 0 100 _ hK w)
        obtain ⟨k0, k1⟩ : 0 ≤ kf ∧ kf ≤ 100 := of_decide_eq_true hK
        have hF := Lib.hid ((coreB_iff l).1 hB).1
        have h20 := ((coreB_iff l).1 hB).2
        rw [h.1] at h20
        have hall := Lib.hid ((ordersB_iff os).1 hO).1
        have h8 := ((ordersB_iff os).1 hO).2
        rw [h'.1] at h8
        have hln := Lib.hid h.1
        have hlo := Lib.hid h'.1
        clear hB hO hK
        go_enter Try.func15, Try.ntmps15
        go_wp2_with fail
        refine (C'.out _ ((h.alloc (Nat.le_refl _) _).more (by simp))).mono ?_
        rintro e w1 ⟨rfl, hb⟩
        have o1 := (Own.made II 1 w w.heap.size 3 (Nat.le_refl _)).below hb (Nat.le_refl _)
        have b1 := ((Below.refl w.heap.size w).alloc (Nat.le_refl _) _).trans (hb.mono (by simp))
        clear hb C'
        go_wp2_with fail
        refine (O'.out _ ((h'.below' b1).more b1.size)).mono ?_
        rintro e w2 ⟨rfl, rfl⟩
        clear O'
        go_wp2_with fail
        refine (K'.out _).mono ?_
        rintro e w3 ⟨rfl, rfl⟩
        clear K'
        go_wp2
        go_loopw [9, 10, 11, 12] (fun v kk dd i wr => ∃ (j k : Nat) (d : Int) (xs : List Int), j ≤ n' ∧ i = .int .i64 j ∧ k ≤ n ∧ kk = .int .i64 k ∧ dd = .int .i64 d ∧ 0 ≤ d ∧ d ≤ 30000 ∧ Hid (cutW kf (widths (os.take j)) l = some (xs, absL (l.drop k) d) ∧ (∀ p tl, l.drop k = p :: tl → d ≤ p.2) ∧ (∀ p ∈ l.take k, p.2 ≤ d)) ∧ Own II 1 wr w.heap.size 3 v xs.length xs ∧ Below w.heap.size w wr) (fun _ _ _ i _ => n' - (intOf i).toNat)
        case atStart => exact ⟨0, 0, 0, [], Nat.zero_le _, rfl, Nat.zero_le _, rfl, rfl, Int.le_refl _, by omega, ⟨by rw [List.drop_zero, absL_self hF.out (Int.le_refl _)]; rfl, fun p tl e => by have := coreFrom_mem hF.out p (by rw [List.drop_zero] at e; rw [e]; exact List.mem_cons_self ..); omega, fun p hp => by simp at hp⟩, o1, b1⟩
        case round =>
          obtain ⟨j, k, d, xs, hj, rfl, hk, rfl, rfl, hd0, hd1, hcut, hw, hb⟩ := hrel
          have hallj : (os.take j).all okOrder = true := by rw [List.all_eq_true]; intro x hx; exact List.all_eq_true.1 hall.out x (List.mem_of_mem_take hx)
          by_cases hlt : j < n'
          · obtain ⟨b, off, x, y, rfl, hbB, hx, c1, c2⟩ := h'.pair hlt
            have hok := (okOrder_iff x y).1 (List.all_eq_true.1 hall.out _ (List.mem_of_getElem? hx))
            obtain ⟨ok1, ok2, ok3, ok4⟩ := hok
            have hsn : Hid (widths (os.take (j + 1)) = widths (os.take j) ++ List.replicate y.toNat x) := by rw [take_snoc hx, widths_snoc]; rfl
            have hwk := Lib.hid (widths_all hallj)
            have hwl : (widths (os.take j)).length ≤ 160 := by have := widths_bd hallj; have h3 : (os.take j).length ≤ j := List.length_take_le _ _; omega
            obtain ⟨y, rfl⟩ : ∃ z : Nat, y = (z : Int) := ⟨y.toNat, by omega⟩
            have c1o := (hb.cell (by exact hbB)).trans c1
            have c2o := (hb.cell (by exact hbB)).trans c2
            obtain ⟨wo, rfl⟩ : ∃ wo : World, wo = wr := ⟨_, rfl⟩
            clear hallj hx
            go_wp2
            go_loopw [9, 10, 11, 13] (fun v kk dd i wr => ∃ (m k : Nat) (d : Int) (xs : List Int), m ≤ y ∧ i = .int .i64 m ∧ k ≤ n ∧ kk = .int .i64 k ∧ dd = .int .i64 d ∧ 0 ≤ d ∧ d ≤ 30000 ∧ Hid (cutW kf (widths (os.take j) ++ List.replicate m x) l = some (xs, absL (l.drop k) d) ∧ (∀ p tl, l.drop k = p :: tl → d ≤ p.2) ∧ (∀ p ∈ l.take k, p.2 ≤ d)) ∧ Own II 1 wr w.heap.size 3 v xs.length xs ∧ Below w.heap.size w wr) (fun _ _ _ i _ => y - (intOf i).toNat)
            case atStart => exact ⟨0, k, d, xs, Nat.zero_le _, rfl, hk, rfl, rfl, hd0, hd1, by rw [List.replicate_zero, List.append_nil]; exact hcut, hw, hb⟩
            case round =>
              clear hk hd0 hd1 hcut hw hb c1o c2o
              obtain ⟨m, k, d, xs, hm, rfl, hk, rfl, rfl, hd0, hd1, hcut, hw, hb⟩ := hrel
              have c1' := (hb.cell (by exact hbB)).trans c1
              have c2' := (hb.cell (by exact hbB)).trans c2
              have hall2 : ∀ z ∈ widths (os.take j) ++ List.replicate m x, 1 ≤ z := fun z hz => by
                rcases List.mem_append.1 hz with hz | hz
                · exact (hwk.out z hz).1
                · rw [List.eq_of_mem_replicate hz]; exact ok1
              have hX : xs.length ≤ 180 := by have := (cutW_good k0 hall2 hF.out hcut.out.1).2.2; rw [List.length_append, List.length_replicate] at this; omega
              have ST := cut_step ok1 k0 hF.out hcut.out.1 hcut.out.2.1 hcut.out.2.2
              rw [List.append_assoc, ← List.replicate_succ'] at ST
              have a3 := (h.below' hb).more hb.size
              clear hall2
              by_cases hmy : m < y
              · cases hR : placeL x (l.drop k) d k with
                | none =>
                  have hnone : cutW kf (widths os) l = none := by
                    refine widths_take_cut (k := j + 1) ?_
                    have e1 : List.replicate y x = List.replicate (m + 1) x ++ List.replicate (y - (m + 1)) x := by
                      rw [List.replicate_append_replicate]; congr 1; omega
                    rw [hsn.out, Int.toNat_natCast, e1, ← List.append_assoc]
                    exact cutW_none (ST.1 hR)
                  have hNone := Lib.hid (hL.out.trans hnone)
                  have P := l42Place_any A n c k d x l _ a3 h20 hF.out hk ⟨hd0, by omega⟩ ⟨ok1, ok2⟩
                  rw [hR] at P
                  simp only [placeI, placeD] at P
                  have P' := Lib.hid P
                  clear P hR ST hnone hcut
                  go_wp2_with fail
                  refine P'.out.mono ?_
                  rintro e w4 ⟨rfl, rfl⟩
                  go_wp2
                  go_ret3
                  exact retCut_made hNone.out (Own.made II 1 _ w.heap.size 3 hb.size) (hb.alloc hb.size _)
                | some q =>
                  obtain ⟨i, fr⟩ := q
                  obtain ⟨⟨x', y'⟩, hki, hl, hq1, hq2, hq3, e1, e2, e3⟩ := ST.2 _ _ hR
                  have P := l42Place_any A n c k d x l _ a3 h20 hF.out hk ⟨hd0, by omega⟩ ⟨ok1, ok2⟩
                  rw [hR] at P
                  simp only [placeI, placeD] at P
                  have P' := Lib.hid P
                  have hin : i < n := by have := (List.getElem?_eq_some_iff.1 hl).1; rw [hln.out] at this; exact this
                  have hm2 := coreFrom_mem hF.out _ (List.mem_of_getElem? hl)
                  have hm3 : y' ≤ 30000 := hm2.2.2
                  have hm4 : (0 : Int) ≤ x' := hm2.1
                  obtain ⟨b', off', x'', y'', rfl, hbB', hl', c3, c4⟩ := h.pair hin
                  rw [hl] at hl'
                  simp only [Option.some.injEq, Prod.mk.injEq] at hl'
                  obtain ⟨rfl, rfl⟩ := hl'
                  have hq3' : fr + x ≤ y' := hq3
                  have hq1' : x' ≤ fr := hq1
                  have key : ∀ d', d' = min y' (fr + x + kf) → Hid (cutW kf (widths (os.take j) ++ List.replicate (m + 1) x) l = some (xs ++ [fr], absL (l.drop i) d') ∧ (∀ p tl, l.drop i = p :: tl → d' ≤ p.2) ∧ (∀ p ∈ l.take i, p.2 ≤ d')) := fun d' hd' => by rw [hd']; exact ⟨e1, e2, e3⟩
                  have KEY := Lib.hid key
                  clear P hR ST hcut hl hm2 e1 e2 e3 key hq1 hq3
                  go_wp2_with fail
                  refine P'.out.mono ?_
                  rintro e w4 ⟨rfl, rfl⟩
                  clear P'
                  go_wp2_with (at_builtin; refine wpList_append_own_at _ rfl _ _ 27 rfl w.heap.size 3 i0 (.int .i64 0) 1 8 Try.underlying27 hi hz0 hz1 hz2 rfl (by decide) _ _ _ rfl (hw.2.alloc _) ⟨wr.heap.size, 0, none⟩ 1 1 [.int .i64 fr] rfl rfl ?c1 ?c2 ?c3 ?c4 ?c5 ?_)
                  case c1 => exact cell_new1 _ _ _
                  case c2 => exact one_II _
                  case c3 => unfold maxLen; omega
                  case c4 => omega
                  case c5 => have := hb.size; simp; omega
                  intro v' w5 hown' hg5 _ hat
                  have hw5 : Own II 1 w5 w.heap.size 3 v' (xs.length + 1) (xs ++ [fr]) := Own.snoc' hw.1 (by simp [II]) hown'
                  rw [show xs.length + 1 = (xs ++ [fr]).length by simp] at hw5
                  have B5 := (hb.alloc hb.size (.cells #[.int .i64 fr] 3)).grown hg5 (by have := hb.size; simp; omega) (fun g hg => (hw.2.lt g hg).1)
                  have d1 := (B5.cell (by exact hbB)).trans c1
                  have d4 := (B5.cell (by exact hbB')).trans c4
                  clear hown' hg5 hat hw hb a3 c1' c2'
                  have i1 : (i : Int) < (n : Int) := by omega
                  have i2 : (j : Int) < (n' : Int) := by omega
                  rcases (show fr + x + kf < y' ∨ y' < fr + x + kf ∨ y' = fr + x + kf by omega) with ht | ht | ht
                  · have st := KEY.out (fr + x + kf) (by omega)
                    go_wp2_with fail
                    go_region
                    all_goals
                      go_wp2
                      go_roundw
                      case rel => exact ⟨m + 1, i, _, _, by omega, by go_num, by omega, rfl, rfl, by omega, by omega, st, by first | exact hw5 | exact hw5.drew | exact hw5.drewN _, by first | exact B5 | exact B5.drew | exact below_drewN B5 _⟩
                      case measure => simp [intOf]; omega
                  · have st := KEY.out y' (by omega)
                    go_wp2_with fail
                    go_region
                    all_goals
                      go_wp2
                      go_roundw
                      case rel => exact ⟨m + 1, i, _, _, by omega, by go_num, by omega, rfl, rfl, by omega, by omega, st, by first | exact hw5 | exact hw5.drew | exact hw5.drewN _, by first | exact B5 | exact B5.drew | exact below_drewN B5 _⟩
                      case measure => simp [intOf]; omega
                  · obtain rfl := ht
                    have st := KEY.out (fr + x + kf) (by omega)
                    go_wp2_with fail
                    go_region
                    all_goals
                      go_wp2
                      go_roundw
                      case rel => exact ⟨m + 1, i, _, _, by omega, by go_num, by omega, rfl, rfl, by omega, by omega, st, by first | exact hw5 | exact hw5.drew | exact hw5.drewN _, by first | exact B5 | exact B5.drew | exact below_drewN B5 _⟩
                      case measure => simp [intOf]; omega
              · obtain rfl : m = y := by omega
                have hc3 : Hid (cutW kf (widths (os.take (j + 1))) l = some (xs, absL (l.drop k) d) ∧ (∀ p tl, l.drop k = p :: tl → d ≤ p.2) ∧ (∀ p ∈ l.take k, p.2 ≤ d)) := by rw [hsn.out, Int.toNat_natCast]; exact hcut
                clear hcut ST
                go_wp2
                go_roundw
                case rel => exact ⟨j + 1, k, d, xs, by omega, by go_num, hk, rfl, rfl, hd0, hd1, hc3, hw, hb⟩
                case measure => simp [intOf]; omega
          · have htk : os.take j = os := List.take_of_length_le (by rw [hlo.out]; omega)
            have hfin := Lib.hid (show cutAll l os kf = some (xs, absL (l.drop k) d) by rw [hL.out]; rw [htk] at hcut; exact hcut.out.1)
            have hlen := Lib.hid (show behind d l = lenOf (absL (l.drop k) d) by
              rw [← behind_abs (coreFrom_drop k hF.out) hcut.out.2.1]
              conv => lhs; rw [← List.take_append_drop k l, behind_append, behind_pre hcut.out.2.2, Int.zero_add])
            have K := Lib.hid (l42Left_any A n c d l _ ((h.below' hb).more hb.size) hn hF.out ⟨hd0, by omega⟩)
            obtain ⟨A2, c2, rfl, _, _⟩ := hw.form
            clear hcut htk hallj
            go_wp2_with fail
            refine K.out.mono ?_
            rintro e w9 ⟨rfl, hb9⟩
            have hw9 := hw.below hb9 (Nat.le_refl _)
            have hB9 := hb.trans (hb9.mono hb.size)
            clear hb9 hw hb
            go_wp2
            go_ret3
            exact retCut_some hfin.out hlen.out hw9 hB9
theorem specCut_as {A : Option Addr} {n c : Nat} {l : List Pc} {A' : Option Addr} {n' c' : Nat} {os : List (Int × Int)} {kf : Int} {w : World} {xs : List Int} {left : Int} {ok : Bool} (h : Arr PP 2 w w.heap.size A n l) (hc : n ≤ c) (hn : n ≤ 1099511627776)
    (h' : Arr PP 2 w w.heap.size A' n' os) (hn' : n' ≤ 1099511627776) (e1 : cutX (cutAll l os kf) = xs) (e2 : cutLeft (cutAll l os kf) = left) (e3 : (cutAll l os kf).isSome = ok) :
    Calls Try.prog 15 #[.slice A n c, .slice A' n' c', .int .i64 kf] w (RetTops 3 w xs left ok) := by
  subst e1; subst e2; subst e3
  exact specCut_any A n c l A' n' c' os kf w h hc hn h' hn'
end Go.Proofs.Ytjhbpilgejbmjaa
