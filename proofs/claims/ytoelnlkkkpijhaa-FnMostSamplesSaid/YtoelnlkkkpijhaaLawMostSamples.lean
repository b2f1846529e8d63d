/-
  The walk of the law: as many samples as can be cut are cut.
-/
import Derived.Test.YtoelnlkkkpijhaaLawMosts
import Derived.Test.YtoelnlkkkpijhaaCut
namespace Go.Proofs.Ytoelnlkkkpijhaa
open Go.RowKit
set_option linter.unusedSimpArgs false
set_option linter.unusedVariables false

theorem widths_one (a m : Int) : widths [(a, m)] = List.replicate m.toNat a := by simp [widths]
theorem ordersB_one {a m : Int} (h1 : 1 ≤ a ∧ a ≤ 1000) (h2 : 1 ≤ m ∧ m ≤ 20) : ordersB [(a, m)] = true := by
  rw [ordersB_iff]
  refine ⟨?_, by simp⟩
  simp only [List.all_cons, List.all_nil, Bool.and_true]
  exact (okOrder_iff _ _).2 ⟨h1.1, h1.2, h2.1, h2.2⟩
theorem most_cut {L : List Pc} {a k m : Int} (hB : coreB L = true) (ha : 1 ≤ a ∧ a ≤ 1000) (hk : 0 ≤ k ∧ k ≤ 100) (hm : 1 ≤ m ∧ m ≤ 20) : (cutAll L [(a, m)] k).isSome = true ↔ m ≤ cnt a k L := by
  rw [cutAll_ok hB (ordersB_one ha hm) hk, widths_one, cutW_rep ha.1 hk.1 _ ((coreB_iff L).1 hB).1]
  omega

set_option maxHeartbeats 1000000 in
theorem walk_FnMostSamples (w : World) (A : Option Addr) (n c : Nat) (l : List Int) (h : Arr BB 1 w w.heap.size A n l) (hby : ∀ x ∈ l, 0 ≤ x ∧ x ≤ 255) (hc : n ≤ c) :
    Calls Try.prog 12 #[.slice A n c] w fun e w' => e = .returned (.bool true) ∧ Below w.heap.size w w' := by
  have C := Lib.hid (DrawSampleMost_any A n c l w h hby hc)
  clear hby h
  by_cases hb : 1048576 < n
  · go_enter Try.func12, Try.ntmps12
    go_wp2_with fail
    go_ret
    exact ⟨rfl, Below.refl _ _⟩
  go_enter Try.func12, Try.ntmps12
  go_wp2_with fail
  refine C.out.mono ?_
  rintro e w1 ⟨A1, n1, c1, L, a, k, rfl, o1, hn1, b1⟩
  clear C
  have hc1 := o1.cap
  have a1 := o1.arr PP_length
  clear o1
  go_wp2_with fail
  refine (implMost_any A1 n1 c1 L a k _ a1 hc1 (by omega)).mono ?_
  rintro e w2 ⟨rfl, b2⟩
  have a2 := (a1.below' b2).more b2.size
  have B2 := b1.trans (b2.mono b1.size)
  clear a1 b1 b2
  go_wp2_with fail
  refine (specMost_any A1 n1 c1 L a k _ a2 hc1 (by omega)).mono ?_
  rintro e w3 ⟨rfl, b3⟩
  have a3 := (a2.below' b3).more b3.size
  have B3 := B2.trans (b3.mono B2.size)
  clear a2 B2 b3
  by_cases hpos : 0 ≤ mostOf L a k
  · obtain ⟨hB, ⟨wl, wh⟩, ⟨kl, kh⟩, hE⟩ := mostOf_good hpos
    have hF := ((coreB_iff L).1 hB).1
    have h3 := lenOf_bd' hF
    have h5 := cnt_le_len wl kl hF
    have hP : ∀ m, 1 ≤ m → m ≤ 20 → ((cutAll L [(a, m)] k).isSome = true ↔ m ≤ mostOf L a k) := fun m h1 h2 => by rw [hE]; exact most_cut hB ⟨wl, wh⟩ ⟨kl, kh⟩ ⟨h1, h2⟩
    have hQ : ∀ m, m < 1 ∨ 20 < m → (cutAll L [(a, m)] k).isSome = false := fun m hm => by
      rw [cutAll_bad]; rfl
      rintro ⟨_, h2, _⟩
      have := ((ordersB_iff _).1 h2).1
      simp only [List.all_cons, List.all_nil, Bool.and_true, okOrder_iff] at this
      omega
    have hM : mostOf L a k ≤ 30000 := by omega
    obtain ⟨M, hMM⟩ : ∃ M, M = mostOf L a k := ⟨_, rfl⟩
    rw [← hMM] at hP hM hpos ⊢
    have hX : ∀ m, (cutAll L [(a, m)] k).isSome = (decide (1 ≤ m) && decide (m ≤ 20) && decide (m ≤ M)) := fun m => by
      by_cases h1 : 1 ≤ m
      · by_cases h2 : m ≤ 20
        · have := hP m h1 h2
          rw [decide_eq_true h1, decide_eq_true h2]
          by_cases h3 : m ≤ M
          · rw [decide_eq_true h3]; exact this.2 h3
          · rw [decide_eq_false h3]; simpa using (not_congr this).2 h3
        · rw [decide_eq_false h2, hQ m (by omega)]; simp
      · rw [decide_eq_false h1, hQ m (by omega)]; simp
    clear hMM hE hF h3 h5 hP hQ hB
    have K1 : ∀ (x : Option Addr) (y : World), Arr PP 2 y y.heap.size A1 n1 L → Arr PP 2 y y.heap.size x 1 [(a, M)] → ∀ ok, (decide (1 ≤ M) && decide (M ≤ 20) && decide (M ≤ M)) = ok → Calls Try.prog 27 #[.slice A1 n1 c1, .slice x 1 1, .int .i64 k] y (RetTops 3 y (cutX (cutAll L [(a, M)] k)) (cutLeft (cutAll L [(a, M)] k)) ok) :=
      fun x y ha hx ok hok => implCut_as ha hc1 (by omega) hx (by omega) rfl rfl ((hX M).trans hok)
    have K2 : ∀ (x : Option Addr) (y : World), Arr PP 2 y y.heap.size A1 n1 L → Arr PP 2 y y.heap.size x 1 [(a, M + 1)] → Calls Try.prog 27 #[.slice A1 n1 c1, .slice x 1 1, .int .i64 k] y (RetTops 3 y (cutX (cutAll L [(a, M + 1)] k)) (cutLeft (cutAll L [(a, M + 1)] k)) false) :=
      fun x y ha hx => implCut_as ha hc1 (by omega) hx (by omega) rfl rfl ((hX (M + 1)).trans (by rw [decide_eq_false (show ¬ M + 1 ≤ M by omega)]; simp))
    have HK1 := Lib.hid K1
    have HK2 := Lib.hid K2
    clear K1 K2 hX
    obtain ⟨ok, hok, hcase⟩ : ∃ ok, Hid ((decide (1 ≤ M) && decide (M ≤ 20) && decide (M ≤ M)) = ok) ∧ ((M = 0 ∧ ok = false) ∨ (1 ≤ M ∧ M ≤ 20 ∧ ok = true) ∨ (20 < M ∧ ok = false)) := by
      refine ⟨_, rfl, ?_⟩
      rcases (show M = 0 ∨ (1 ≤ M ∧ M ≤ 20) ∨ 20 < M by omega) with h0 | ⟨h1, h2⟩ | h2
      · subst h0; exact .inl ⟨rfl, by simp⟩
      · exact .inr (.inl ⟨h1, h2, by simp [h1, h2]⟩)
      · exact .inr (.inr ⟨h2, by simp; omega⟩)
    rcases hcase with ⟨h0, h1⟩ | ⟨h1, h2, h0⟩ | ⟨h2, h0⟩
    · subst h0; subst h1
      go_wp2_with fail
      refine (HK1.out _ _ ((a3.alloc (Nat.le_refl _) _).more (by simp)) ((Own.lit1 w3 w3.heap.size _ _ _ (Nat.le_refl _)).arr PP_length) _ hok.out).mono ?_
      rintro e w5 ⟨A5, n5, c5, rfl, o5, b5⟩
      have b5' : Below w3.heap.size w3 w5 := ((Below.refl w3.heap.size w3).alloc (Nat.le_refl _) _).trans (b5.mono (by simp))
      have a5 := (a3.below' b5').more b5'.size
      have B5 := B3.trans (b5'.mono B3.size)
      clear o5 b5 b5'
      go_wp2_with fail
      refine (HK2.out _ _ ((a5.alloc (Nat.le_refl _) _).more (by simp)) ((Own.lit1 w5 w5.heap.size _ _ _ (Nat.le_refl _)).arr PP_length)).mono ?_
      rintro e w6 ⟨A6, n6, c6, rfl, o6, b6⟩
      have B6 := (B5.alloc B5.size _).trans (b6.mono (by have := B5.size; simp; omega))
      clear o6 b6
      go_wp2
      go_ret
      exact ⟨rfl, B6⟩
    all_goals
      subst h0
      go_wp2_with fail
      refine (HK1.out _ _ ((a3.alloc (Nat.le_refl _) _).more (by simp)) ((Own.lit1 w3 w3.heap.size _ _ _ (Nat.le_refl _)).arr PP_length) _ hok.out).mono ?_
      rintro e w5 ⟨A5, n5, c5, rfl, o5, b5⟩
      have b5' : Below w3.heap.size w3 w5 := ((Below.refl w3.heap.size w3).alloc (Nat.le_refl _) _).trans (b5.mono (by simp))
      have a5 := (a3.below' b5').more b5'.size
      have B5 := B3.trans (b5'.mono B3.size)
      clear o5 b5 b5'
      go_wp2_with fail
      refine (HK2.out _ _ ((a5.alloc (Nat.le_refl _) _).more (by simp)) ((Own.lit1 w5 w5.heap.size _ _ _ (Nat.le_refl _)).arr PP_length)).mono ?_
      rintro e w6 ⟨A6, n6, c6, rfl, o6, b6⟩
      have B6 := (B5.alloc B5.size _).trans (b6.mono (by have := B5.size; simp; omega))
      clear o6 b6
      go_wp2
      go_ret
      exact ⟨rfl, B6⟩
  · have hN := mostOf_neg hpos
    obtain ⟨M, hMM⟩ : ∃ M, M = mostOf L a k := ⟨_, rfl⟩
    rw [← hMM] at hN ⊢
    clear hMM hpos
    subst hN
    go_wp2
    go_ret
    exact ⟨rfl, B3⟩
end Go.Proofs.Ytoelnlkkkpijhaa
