/-
  The walk of the law FnCutSplit.
-/
import Derived.Test.YtjhbpilgejbmjaaCutHead
import Derived.Test.YtjhbpilgejbmjaaPairOrder
import Derived.Test.YtjhbpilgejbmjaaAppend
import Derived.Deep.RegionHeld3
namespace Go.Proofs.Ytjhbpilgejbmjaa
open Go.RowKit
set_option linter.unusedSimpArgs false
set_option linter.unusedVariables false

theorem split_last {O : List (Int × Int)} {k : Nat} {wd mn : Int} (h : O[k]? = some (wd, mn)) (hl : O.length = k + 1) (hm : 1 ≤ mn) : widths (O.take k ++ [(wd, 1), (wd, mn - 1)]) = widths O := by
  have e : O = O.take k ++ [(wd, mn)] := by
    have h1 := take_snoc h
    rw [List.take_of_length_le (by omega)] at h1
    exact h1
  conv => rhs; rw [e]
  rw [widths_snoc, show [(wd, (1 : Int)), (wd, mn - 1)] = [(wd, 1)] ++ [(wd, mn - 1)] from rfl, ← List.append_assoc, widths_snoc, widths_snoc, List.append_assoc]
  congr 1
  rw [List.replicate_append_replicate]
  congr 1
  omega
theorem Own.litPP2 (w : World) (base : Nat) (T : TypeId) (a b c d : Int) (hb : base ≤ w.heap.size) : Own PP 2 (w.alloc (.cells #[.int .i64 a, .int .i64 b, .int .i64 c, .int .i64 d] T)) base T (.slice (some ⟨w.heap.size, 0, none⟩) 2 2) 2 [(a, b), (c, d)] :=
  ⟨rfl, World.ownsRow_lit w #[.int .i64 a, .int .i64 b, .int .i64 c, .int .i64 d] 2 hb (by unfold maxLen; omega) rfl⟩
theorem Own.made1 (w : World) (o : Obj) (base : Nat) (T : TypeId) (hb : base ≤ w.heap.size) : Own PP 2 ((w.alloc o).alloc (.cells #[] T)) base T (.slice (some ⟨w.heap.size + 1, 0, none⟩) 0 0) 0 [] := by
  have := Own.made PP 2 (w.alloc o) base T (by simp; omega)
  rw [World.size_alloc] at this
  exact this
theorem litPP2_kept {w w' : World} {T : TypeId} {a b c d : Int} {row : Option Nat} (hg : (w.alloc (.cells #[.int .i64 a, .int .i64 b, .int .i64 c, .int .i64 d] T)).grownBy w' row) (hr : row ≠ some w.heap.size) : Arr PP 2 w' w'.heap.size (some ⟨w.heap.size, 0, none⟩) 2 [(a, b), (c, d)] :=
  Own.arr (base := 0) (T := T) (c := 2) ⟨rfl, (Own.litPP2 w 0 T a b c d (Nat.zero_le _)).2.kept hg (.inr fun e => hr e.symm)⟩ PP_length
theorem litPP2_kept3 {w w' : World} {T : TypeId} {a b c d : Int} {row : Option Nat} {o : Obj} (hg : ((w.alloc (.cells #[.int .i64 a, .int .i64 b, .int .i64 c, .int .i64 d] T)).alloc o).grownBy w' row) (hr : row ≠ some w.heap.size) : Arr PP 2 w' w'.heap.size (some ⟨w.heap.size, 0, none⟩) 2 [(a, b), (c, d)] :=
  Own.arr (base := 0) (T := T) (c := 2) ⟨rfl, ((Own.litPP2 w 0 T a b c d (Nat.zero_le _)).alloc o).2.kept hg (.inr fun e => hr e.symm)⟩ PP_length

set_option maxRecDepth 100000 in
set_option maxHeartbeats 2000000 in
theorem walk_FnCutSplit (w : World) (A : Option Addr) (n c : Nat) (l : List Int) (h : Arr BB 1 w w.heap.size A n l) (hby : ∀ x ∈ l, 0 ≤ x ∧ x ≤ 255) (hc : n ≤ c) :
    Calls Try.prog 3 #[.slice A n c] w fun e w' => e = .returned (.bool true) ∧ Below w.heap.size w w' := by
  have C := Lib.hid (DrawSampleCut_any A n c l w h hby hc)
  clear hby h
  by_cases hb : 1048576 < n
  · go_enter Try.func3, Try.ntmps3
    go_wp2_with fail
    go_ret
    exact ⟨rfl, Below.refl _ _⟩
  go_enter Try.func3, Try.ntmps3
  go_wp2_with fail
  refine C.out.mono ?_
  rintro e w1 ⟨A1, n1, c1, L, A2, n2, c2, O, kf, rfl, o1, hn1, o2, hn2, b1⟩
  clear C
  have hc1 := o1.cap
  have hc2 := o2.cap
  have a1 := o1.arr PP_length
  have a2 := o2.arr PP_length
  clear o1 o2
  cases hr : cutAll L O kf with
  | none =>
    have K1 := Lib.hid (fun W h1 h2 => @implCut_as A1 n1 c1 L A2 n2 c2 O kf W [] 0 false h1 hc1 (by omega) h2 (by omega) (by rw [hr]; rfl) (by rw [hr]; rfl) (by rw [hr]; rfl))
    have K2 := Lib.hid (fun W h1 h2 => @specCut_as A1 n1 c1 L A2 n2 c2 O kf W [] 0 false h1 hc1 (by omega) h2 (by omega) (by rw [hr]; rfl) (by rw [hr]; rfl) (by rw [hr]; rfl))
    clear hr
    go_wp2_with fail
    refine (K1.out _ a1 a2).mono ?_
    rintro e w2 ⟨A3, n3, c3, rfl, o3, b2⟩
    have B2 := b1.trans (b2.mono b1.size)
    have a1' := (a1.below' b2).more b2.size
    have a2' := (a2.below' b2).more b2.size
    have x3 := o3.arr II_length
    clear o3 a1 a2 b1 b2 K1
    go_wp2_with fail
    refine (K2.out _ a1' a2').mono ?_
    rintro e w3 ⟨A4, n4, c4, rfl, o4, b3⟩
    have B3 := B2.trans (b3.mono B2.size)
    have HS := Lib.hid (sameInts_later (c := c3) (c' := c4) ((x3.below' b3).more b3.size) (o4.arr II_length))
    clear o4 b3 B2 a1' a2' x3 K2
    go_wp2_with fail
    refine (HS.out _ (Below.refl _ _)).mono ?_
    rintro e w4 ⟨rfl, b4⟩
    go_wp2_with fail
    refine (HS.out _ b4).mono ?_
    rintro e w5 ⟨rfl, b5⟩
    clear b4
    go_wp2
    go_ret
    exact ⟨rfl, B3.trans (b5.mono B3.size)⟩
  | some q =>
    obtain ⟨xs, M⟩ := q
    obtain ⟨LF, hLF⟩ : ∃ z, z = lenOf M := ⟨_, rfl⟩
    have K1 := Lib.hid (fun W h1 h2 => @implCut_as A1 n1 c1 L A2 n2 c2 O kf W xs LF true h1 hc1 (by omega) h2 (by omega) (by rw [hr]; rfl) (by rw [hr, hLF]; rfl) (by rw [hr]; rfl))
    have K2 := Lib.hid (fun W h1 h2 => @specCut_as A1 n1 c1 L A2 n2 c2 O kf W xs LF true h1 hc1 (by omega) h2 (by omega) (by rw [hr]; rfl) (by rw [hr, hLF]; rfl) (by rw [hr]; rfl))
    obtain ⟨hB, hO, ⟨k0, k1⟩, hcut⟩ := cutAll_some hr
    have hF := Lib.hid ((coreB_iff L).1 hB).1
    have hall := Lib.hid ((ordersB_iff O).1 hO).1
    have hCut := Lib.hid hcut
    have HB := Lib.hid hB
    have HO := Lib.hid hO
    have HLF := Lib.hid hLF
    have hgd := cutW_good k0 (fun x hx => (widths_all hall.out x hx).1) hF.out hcut
    have hlen := cutW_len k0 (fun x hx => (widths_all hall.out x hx).1) hF.out hcut
    have hlb := lenOf_bd' hF.out
    have hlm := lenOf_bd' hgd.1
    have hw160 := widths_bd hall.out
    have hl2 := a2.1
    have hl1 := a1.1
    have LF0 : 0 ≤ LF := by omega
    have LF1 : LF ≤ 30000 := by omega
    have hX : xs.length ≤ 200 := by omega
    have hXW := Lib.hid hgd.2.2
    have HL1 := Lib.hid hl1
    have HL2 := Lib.hid hl2
    have hLen := Lib.hid hlen
    clear hr hB hO hcut hLF hgd hlen hlb hlm hw160 hl1 hl2
    go_wp2_with fail
    refine (K1.out _ a1 a2).mono ?_
    rintro e w2 ⟨A3, n3, c3, rfl, o3, b2⟩
    have B2 := b1.trans (b2.mono b1.size)
    have a1' := (a1.below' b2).more b2.size
    have a2' := (a2.below' b2).more b2.size
    have x3 := o3.arr II_length
    have hc3 := o3.cap
    have hn3 := o3.1
    clear o3 a1 a2 b1 b2
    go_wp2_with fail
    refine (K2.out _ a1' a2').mono ?_
    rintro e w3 ⟨A4, n4, c4, rfl, o4, b3⟩
    have B3 := B2.trans (b3.mono B2.size)
    have a1 := (a1'.below' b3).more b3.size
    have a2 := (a2'.below' b3).more b3.size
    have x3' := (x3.below' b3).more b3.size
    have HS := Lib.hid (sameInts_later (c := c3) (c' := c4) x3' (o4.arr II_length))
    clear o4 b3 B2 a1' a2' x3 K2
    go_wp2_with fail
    refine (HS.out _ (Below.refl _ _)).mono ?_
    rintro e w5 ⟨rfl, b5⟩
    have B5 := B3.trans (b5.mono B3.size)
    have a15 := (a1.below' b5).more b5.size
    have a25 := (a2.below' b5).more b5.size
    have x35 := (x3'.below' b5).more b5.size
    clear HS B3 b5 a1 a2 x3'
    obtain rfl : xs.length = n3 := hn3
    rcases Nat.eq_zero_or_pos n2 with hz | hz
    · subst hz
      go_wp2
      go_ret
      exact ⟨rfl, B5⟩
    obtain ⟨k, hk⟩ : ∃ k, k = n2 - 1 := ⟨_, rfl⟩
    have hkn : k < n2 := by omega
    obtain ⟨bo, oo, wd, mn, eA, hbo, hok, g3, g4⟩ := a25.pair hkn
    have hmo := List.all_eq_true.1 hall.out (wd, mn) (List.mem_of_getElem? hok)
    rw [okOrder_iff] at hmo
    obtain ⟨w1', w2', m1', m2'⟩ := hmo
    have hl8 := ((ordersB_iff O).1 HO.out).2
    have hN : n2 = k + 1 := by omega
    have eI : (n2 : Int) - 1 = (k : Int) := by omega
    have eW : IntKind.i64.wrap ((n2 : Int) - 1) = (k : Int) := by rw [eI]; exact IntWalk.i64_in _ (by omega)
    have HK := Lib.hid hN
    have f0 : ((n2 : Int) == 0) = false := by simp; omega
    have iA : (k : Int) < (n2 : Int) := by omega
    have iB : (0 : Int) ≤ (k : Int) := by omega
    have iC : (k : Int) ≤ (c2 : Int) := by omega
    clear hN hk hz
    by_cases h8 : n2 = 8
    · subst eA
      have f1 : ((n2 : Int) == 8) = true := by simp; omega
      clear h8
      go_wp2
      go_ret
      exact ⟨rfl, B5⟩
    · have f1 : ((n2 : Int) == 8) = false := by simp; omega
      by_cases h2 : mn < 2
      · subst eA
        have f2 : decide (mn < 2) = true := decide_eq_true h2
        have g4' := g4
        go_wp2_with fail
        go_ret
        exact ⟨rfl, B5⟩
      · have f2 : decide (mn < 2) = false := decide_eq_false h2
        have i2 : 2 ≤ mn := by omega
        have hl2 := HL2.out
        have hN := HK.out
        rw [hl2] at hl8
        obtain ⟨i0, hi, hz0, hz1, hz2⟩ := info_parts infoOrder
        have hO2 := split_last hok (show O.length = k + 1 by omega) (show 1 ≤ mn by omega)
        have hw2 : widths (O.take k ++ [(wd, 1), (wd, mn - 1)]) = widths O := hO2
        have hall2 : (O.take k ++ [(wd, 1), (wd, mn - 1)]).all okOrder = true := by
          rw [List.all_append, Bool.and_eq_true]
          refine ⟨?_, ?_⟩
          · rw [List.all_eq_true]; intro x hx; exact List.all_eq_true.1 hall.out x (List.mem_of_mem_take hx)
          · have e1 : okOrder (wd, 1) = true := (okOrder_iff _ _).2 ⟨w1', w2', by omega, by omega⟩
            have e2 : okOrder (wd, mn - 1) = true := (okOrder_iff _ _).2 ⟨w1', w2', by omega, by omega⟩
            simp only [List.all_cons, List.all_nil, Bool.and_true, e1, e2]
        have hord : ordersB (O.take k ++ [(wd, 1), (wd, mn - 1)]) = true := (ordersB_iff _).2 ⟨hall2, by rw [List.length_append, List.length_take]; simp; omega⟩
        have hAll : cutAll L (O.take k ++ [(wd, 1), (wd, mn - 1)]) kf = some (xs, M) := by rw [cutAll_ok HB.out hord ⟨k0, k1⟩, hw2]; exact hCut.out
        obtain ⟨OS, hOS⟩ : ∃ z, z = O.take k ++ [(wd, 1), (wd, mn - 1)] := ⟨_, rfl⟩
        have K3 := Lib.hid (fun W A7 n7 c7 (hn7 : n7 ≤ 20) h1 h2 => @implCut_as A1 n1 c1 L A7 n7 c7 OS kf W xs LF true h1 hc1 (by omega) h2 (by omega) (by rw [hOS, hAll]; rfl) (by rw [hOS, hAll, HLF.out]; rfl) (by rw [hOS, hAll]; rfl))
        have HOS := Lib.hid hOS
        have AT := a25.take (k := k) (by omega)
        have KB := Lib.hid (show k ≤ 7 by omega)
        have M1 : 0 + k ≤ maxLen := by unfold maxLen; omega
        have M2 : k + 2 ≤ maxLen := by unfold maxLen; omega
        have P1 : (0 + k) * 16 ≤ 140737488355328 := by omega
        have P2 : (k + 2) * 16 ≤ 140737488355328 := by omega
        subst eA
        clear hO2 hw2 hall2 hord hAll hOS hl8 hok K1 h8 h2 hN a25 hl2
        go_wp2_with fail
        have eM : IntKind.i64.wrap (mn - 1) = mn - 1 := IntWalk.i64_in _ (by omega)
        clear f0 f1 f2 eI
        go_region_held3 (fun w' => w'.cell? ⟨bo, oo + k * 2, none⟩ = some (.int .i64 wd) ∧ w'.cell? ⟨bo, oo + k * 2 + 1, none⟩ = some (.int .i64 mn)) (first | go_keep | (exact ⟨(S7.cell (by exact hbo)).trans g3, (S7.cell (by exact hbo)).trans g4⟩) | (exact ⟨(S6.cell (by exact hbo)).trans g3, (S6.cell (by exact hbo)).trans g4⟩)) (first
          | (refine step_append_arr _ rfl (.tmp 92) (.tmp 96) 24 rfl w5.heap.size 32 i0 (.agg #[.int .i64 0, .int .i64 0]) 2 16 Try.underlying24 hi hz0 hz1 hz2 rfl (by decide) PP_length one_PP' (.slice (some ⟨w5.heap.size, 0, none⟩) 0 0) 0 [] (by simp [Act.eval, Act.put]) (Own.made PP 2 w5.drew w5.heap.size 32 (Nat.le_refl _)) w5.heap.size (some ⟨bo, oo, none⟩) k c2 (O.take k) (by simp [Act.eval, Act.put]) (Arr.alloc (w := w5.drew) AT (Nat.le_refl _) _) M1 P1 (by simp) ?_; intro v6 w6 hO6 hg6 hat6; simp only [Nat.zero_add, List.nil_append] at hO6; have S6 : Below w5.heap.size w5 w6 := (((Below.refl w5.heap.size w5).drew.alloc (Nat.le_refl _) _)).grown hg6 (by simp) (fun g hg => by simp [Value.ownBlock] at hg; omega))
          | (refine step_append_arr _ rfl (.tmp 92) (.tmp 96) 24 rfl w5.heap.size 32 i0 (.agg #[.int .i64 0, .int .i64 0]) 2 16 Try.underlying24 hi hz0 hz1 hz2 rfl (by decide) PP_length one_PP' (.slice (some ⟨w5.heap.size, 0, none⟩) 0 0) 0 [] (by simp [Act.eval, Act.put]) (Own.alloc (Own.made PP 2 w5.drew w5.heap.size 32 (Nat.le_refl _)) (.cells #[.int .i64 wd, .int .i64 1, .int .i64 wd, .int .i64 (mn - 1)] 32)) w5.heap.size (some ⟨bo, oo, none⟩) k c2 (O.take k) (by simp [Act.eval, Act.put]) (Arr.alloc (Arr.alloc (w := w5.drew) AT (Nat.le_refl _) _) (by simp) _) M1 P1 (by simp; omega) ?_; intro v6 w6 hO6 hg6 hat6; simp only [Nat.zero_add, List.nil_append] at hO6; have S6 : Below w5.heap.size w5 w6 := ((((Below.refl w5.heap.size w5).drew.alloc (Nat.le_refl _) _).alloc (by simp) _)).grown hg6 (by simp; omega) (fun g hg => by simp [Value.ownBlock] at hg; omega); have L6 := (litPP2_kept (T := 32) (a := wd) (b := 1) (c := wd) (d := mn - 1) (w := w5.drew.alloc (.cells #[] 32)) hg6 (by simp [Value.ownBlock])); simp only [World.size_alloc] at L6)
          | (refine step_append_arr _ rfl (.tmp 92) (.tmp 96) 24 rfl w5.heap.size 32 i0 (.agg #[.int .i64 0, .int .i64 0]) 2 16 Try.underlying24 hi hz0 hz1 hz2 rfl (by decide) PP_length one_PP' (.slice (some ⟨w5.heap.size + 1, 0, none⟩) 0 0) 0 [] (by simp [Act.eval, Act.put]) (Own.made1 w5.drew (.cells #[.int .i64 wd, .int .i64 1, .int .i64 wd, .int .i64 (mn - 1)] 32) w5.heap.size 32 (Nat.le_refl _)) w5.heap.size (some ⟨bo, oo, none⟩) k c2 (O.take k) (by simp [Act.eval, Act.put]) (Arr.alloc (Arr.alloc (w := w5.drew) AT (Nat.le_refl _) _) (by simp) _) M1 P1 (by simp; omega) ?_; intro v6 w6 hO6 hg6 hat6; simp only [Nat.zero_add, List.nil_append] at hO6; have S6 : Below w5.heap.size w5 w6 := ((((Below.refl w5.heap.size w5).drew.alloc (Nat.le_refl _) _).alloc (by simp) _)).grown hg6 (by simp; omega) (fun g hg => by simp [Value.ownBlock] at hg; omega); have L6 := (litPP2_kept3 (T := 32) (a := wd) (b := 1) (c := wd) (d := mn - 1) (w := w5.drew) hg6 (by simp [Value.ownBlock])))
          | (refine step_append_arr _ rfl (.tmp 97) (.tmp 119) 24 rfl w5.heap.size 32 i0 (.agg #[.int .i64 0, .int .i64 0]) 2 16 Try.underlying24 hi hz0 hz1 hz2 rfl (by decide) PP_length one_PP' v6 k (O.take k) (by simp [Act.eval, Act.put]) (hO6.alloc _) _ (some ⟨w6.heap.size, 0, none⟩) 2 2 [(wd, 1), (wd, mn - 1)] (by simp [Act.eval, Act.put]) (Own.arr (Own.litPP2 w6 w6.heap.size 32 wd 1 wd (mn - 1) (Nat.le_refl _)) PP_length) M2 P2 (by have := S6.size; simp; omega) ?_; intro v7 w7 hO7 hg7 hat7; have S7 : Below w5.heap.size w5 w7 := (S6.alloc S6.size _).grown hg7 (by have := S6.size; simp; omega) (fun g hg => (hO6.2.lt g hg).1))
          | (refine step_append_arr _ rfl (.tmp 97) (.tmp 119) 24 rfl w5.heap.size 32 i0 (.agg #[.int .i64 0, .int .i64 0]) 2 16 Try.underlying24 hi hz0 hz1 hz2 rfl (by decide) PP_length one_PP' v6 k (O.take k) (by simp [Act.eval, Act.put]) hO6 _ (some ⟨w5.heap.size + 1, 0, none⟩) 2 2 [(wd, 1), (wd, mn - 1)] (by simp [Act.eval, Act.put]) L6 M2 P2 S6.size ?_; intro v7 w7 hO7 hg7 hat7; have S7 : Below w5.heap.size w5 w7 := S6.grown hg7 S6.size (fun g hg => (hO6.2.lt g hg).1))
          | (refine step_append_arr _ rfl (.tmp 97) (.tmp 119) 24 rfl w5.heap.size 32 i0 (.agg #[.int .i64 0, .int .i64 0]) 2 16 Try.underlying24 hi hz0 hz1 hz2 rfl (by decide) PP_length one_PP' v6 k (O.take k) (by simp [Act.eval, Act.put]) hO6 _ (some ⟨w5.heap.size, 0, none⟩) 2 2 [(wd, 1), (wd, mn - 1)] (by simp [Act.eval, Act.put]) L6 M2 P2 S6.size ?_; intro v7 w7 hO7 hg7 hat7; have S7 : Below w5.heap.size w5 w7 := S6.grown hg7 S6.size (fun g hg => (hO6.2.lt g hg).1)))
        all_goals
          obtain ⟨A7, c7, rfl, _, _⟩ := hO7.form
          have a7 := hO7.arr PP_length
          rw [← HOS.out] at a7
          have a17 := (a15.below' S7).more S7.size
          have x37 := (x35.below' S7).more S7.size
          have B7 := B5.trans (S7.mono B5.size)
          clear hO7 hg7 hat7 S7 S6 hO6 hg6 hat6 a15 x35 B5 AT
          go_wp2_with fail
          refine (K3.out _ _ (k + 2) c7 (by have := KB.out; omega) a17 a7).mono ?_
          rintro e w8 ⟨A8, n8, c8, rfl, o8, b8⟩
          have B8 := B7.trans (b8.mono B7.size)
          obtain rfl : xs.length = n8 := o8.1
          have HS := Lib.hid (sameInts_later (c := c8) (c' := c3) (o8.arr II_length) ((x37.below' b8).more b8.size))
          clear o8 b8 a17 x37 a7 B7
          go_wp2_with fail
          refine (HS.out _ (Below.refl _ _)).mono ?_
          rintro e w9 ⟨rfl, b9⟩
          go_wp2
          go_ret
          exact ⟨rfl, B8.trans (b9.mono B8.size)⟩
end Go.Proofs.Ytjhbpilgejbmjaa
