/-
  The walk of the law on orders in another order.
-/
import Derived.Test.YtoelnlkkkpijhaaLawNeed
import Derived.Test.YtoelnlkkkpijhaaAppend
namespace Go.Proofs.Ytoelnlkkkpijhaa
open Go.RowKit
set_option linter.unusedSimpArgs false
set_option linter.unusedVariables false

theorem need_turn {l : List (Int × Int)} (k : Nat) (h : ordersB l = true) : need (l.drop k ++ l.take k) = need l ∧ sumI (widths l) = need l ∧ 0 ≤ need l ∧ need l ≤ 160000 ∧ l.all okOrder = true := by
  obtain ⟨h1, h8⟩ := (ordersB_iff l).1 h
  have ht : (l.take k).all okOrder = true := by rw [List.all_eq_true]; intro x hx; exact List.all_eq_true.1 h1 x (List.mem_of_mem_take hx)
  have hd : (l.drop k).all okOrder = true := by rw [List.all_eq_true]; intro x hx; exact List.all_eq_true.1 h1 x (List.mem_of_mem_drop hx)
  have e : needOf l = needOf (l.take k) + needOf (l.drop k) := by rw [← needOf_append, List.take_append_drop]
  have hb := needOf_bd h1
  rw [need_good (by rw [List.all_append, ht, hd]; rfl) (by rw [List.length_append, List.length_take, List.length_drop]; omega), need_good h1 h8, needOf_append, sumI_widths h1]
  refine ⟨by omega, rfl, hb.1, by omega, h1⟩

set_option maxHeartbeats 1000000 in
theorem walk_FnNeedOrder (w : World) (A : Option Addr) (n c : Nat) (l : List Int) (h : Arr BB 1 w w.heap.size A n l) (hby : ∀ x ∈ l, 0 ≤ x ∧ x ≤ 255) (hc : n ≤ c)
    (A' : Option Addr) (n' c' : Nat) (l' : List Int) (h' : Arr BB 1 w w.heap.size A' n' l') (hby' : ∀ x ∈ l', 0 ≤ x ∧ x ≤ 255) (hc' : n' ≤ c') :
    Calls Try.prog 5 #[.slice A n c, .slice A' n' c'] w fun e w' => e = .returned (.bool true) ∧ Below w.heap.size w w' := by
  clear h' hby'
  have C := Lib.hid (DrawSampleNeed_any A n c l w h hby hc)
  clear hby h
  by_cases hb : 1048576 < n
  · go_enter Try.func5, Try.ntmps5
    go_wp2_with fail
    go_ret
    exact ⟨rfl, Below.refl _ _⟩
  by_cases hb' : 1048576 < n'
  · go_enter Try.func5, Try.ntmps5
    go_wp2_with fail
    go_ret
    exact ⟨rfl, Below.refl _ _⟩
  go_enter Try.func5, Try.ntmps5
  go_wp2_with fail
  refine C.out.mono ?_
  rintro e w1 ⟨A1, n1, c1, L, rfl, o1, hn1, b1⟩
  clear C
  have hn1c : n1 ≤ c1 := by obtain ⟨_, _, e, h1, _⟩ := o1.form; injection e with _ _ e2; omega
  have a1 := o1.arr PP_length
  clear o1
  go_wp2_with fail
  refine (implNeed_any A1 n1 c1 L _ a1 (by omega)).mono ?_
  rintro e w2 ⟨rfl, b2⟩
  have a2 := (a1.below' b2).more b2.size
  have B2 := b1.trans (b2.mono b1.size)
  clear a1 b1 b2
  go_wp2_with fail
  refine (specNeed_any A1 n1 c1 L _ a2 (by omega)).mono ?_
  rintro e w3 ⟨rfl, b3⟩
  have a3 := (a2.below' b3).more b3.size
  have B3 := B2.trans (b3.mono B2.size)
  clear a2 B2 b3
  cases hob : ordersB L with
  | false =>
    have hN : need L = -1 := by unfold need; rw [hob]; rfl
    clear hob
    go_wp2
    go_ret
    exact ⟨rfl, B3⟩
  | true =>
    obtain ⟨k, hk⟩ : ∃ k, k = n' % (n1 + 1) := ⟨_, rfl⟩
    have hkn : k ≤ n1 := by have := Nat.mod_lt n' (show 0 < n1 + 1 by omega); omega
    obtain ⟨e1, e2, p1, p2, hall⟩ := need_turn k hob
    obtain ⟨i0, hi, hz0, hz1, hz2⟩ := info_parts infoOrder
    have hkE : ((n' : Int) % ((n1 : Int) + 1)) = (k : Int) := by rw [hk]; simp
    have HE := Lib.hid hkE
    have E1 := Lib.hid e1
    have E2 := Lib.hid e2
    have AK := a3.cutAt hkn hn1c
    have AT := a3.take hkn
    obtain ⟨Ak, hAk⟩ : ∃ X, (if c1 = k then A1 else Option.map (fun x => x.add (k * 2)) A1) = X := ⟨_, rfl⟩
    rw [hAk] at AK
    have hkc : k ≤ c1 := by omega
    have i1 : (k : Int) ≤ (c1 : Int) := by omega
    have i2 : (k : Int) ≤ (n1 : Int) := by omega
    have i3 : (0 : Int) ≤ (k : Int) := by omega
    have M1 : 0 + (n1 - k) ≤ maxLen := by unfold maxLen; omega
    have M2 : (n1 - k) + k ≤ maxLen := by unfold maxLen; omega
    clear hkE hk e1 e2
    go_wp2_with fail
    rw [HE.out]
    go_region_law (first
      | (refine step_append_arr _ rfl (.tmp 40) (.tmp 43) 25 rfl w3.heap.size 51 i0 (.agg #[.int .i64 0, .int .i64 0]) 2 16 Try.underlying25 hi hz0 hz1 hz2 rfl (by decide) PP_length one_PP' (.slice (some ⟨w3.heap.size, 0, none⟩) 0 0) 0 [] (by simp [Act.eval, Act.put]) (Own.made PP 2 w3.drew w3.heap.size 51 (Nat.le_refl _)) w3.heap.size Ak (n1 - k) (c1 - k) (L.drop k) (by simp [Act.eval, Act.put]) (Arr.alloc (w := w3.drew) AK (Nat.le_refl _) _) M1 (by omega) (by simp) ?_; intro v4 w4 hO4 hg4 hat4; simp only [Nat.zero_add, List.nil_append] at hO4)
      | (refine step_append_arr _ rfl (.tmp 44) (.tmp 47) 25 rfl w3.heap.size 51 i0 (.agg #[.int .i64 0, .int .i64 0]) 2 16 Try.underlying25 hi hz0 hz1 hz2 rfl (by decide) PP_length one_PP' v4 (n1 - k) (L.drop k) (by simp [Act.eval, Act.put]) hO4 w3.heap.size A1 k c1 (L.take k) (by simp [Act.eval, Act.put]) ((Arr.alloc (w := w3.drew) AT (Nat.le_refl _) _).grown hg4 (by simp) (by intro g hg; simp [Value.ownBlock] at hg; omega)) M2 (by omega) (by have := hg4.size; simp at this; omega) ?_; intro v5 w5 hO5 hg5 hat5))
    have b4 : Below w3.heap.size w3 w4 := ((Below.refl w3.heap.size w3).drew.alloc (Nat.le_refl _) _).grown hg4 (by simp) (by intro g hg; simp [Value.ownBlock] at hg; omega)
    have b5 : Below w3.heap.size w3 w5 := b4.grown hg5 b4.size (fun g hg => (hO4.2.lt g hg).1)
    rw [show n1 - k + k = n1 by omega] at hO5
    obtain ⟨A5, c5, rfl, _, _⟩ := hO5.form
    have a5 := hO5.arr PP_length
    have n5 : n1 ≤ 1099511627776 := by omega
    clear hg4 hg5 hat4 hat5 hO4 hO5 b4 AK AT M1 M2 i1 i2 i3
    go_wp2_with fail
    have K5 := implNeed_any A5 n1 c5 _ _ a5 n5
    rw [E1.out] at K5
    refine K5.mono ?_
    rintro e w6 ⟨rfl, b6⟩
    clear K5 a5
    have B6 := b5.trans (b6.mono b5.size)
    go_wp2_with fail
    refine (widthsOf_any A1 n1 c1 L _ ((a3.below' B6).more B6.size) hall (by omega)).mono ?_
    rintro e w7 ⟨A7, c7, rfl, o7, b7⟩
    have B7 := B6.trans (b7.mono B6.size)
    go_wp2_with fail
    have K7 := sumOf_any A7 _ c7 _ _ (o7.arr II_length) (fun x hx => by have := widths_all hall x hx; omega) (by have := widths_bd hall; have := a3.1; omega)
    rw [E2.out] at K7
    refine K7.mono ?_
    rintro e w8 ⟨rfl, b8⟩
    have B8 := B3.trans ((B7.trans (b8.mono B7.size)).mono B3.size)
    clear K7
    go_wp2
    go_ret
    exact ⟨rfl, B8⟩
end Go.Proofs.Ytoelnlkkkpijhaa
