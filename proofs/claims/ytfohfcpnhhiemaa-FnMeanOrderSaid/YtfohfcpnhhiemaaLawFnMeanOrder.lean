/-
  The walk of the law FnMeanOrder.
-/
import Derived.Test.YtfohfcpnhhiemaaMeans
import Derived.Test.YtfohfcpnhhiemaaFracs
import Derived.Test.YtfohfcpnhhiemaaDrawStacks
import Derived.Test.YtfohfcpnhhiemaaPlainG
import Derived.Test.YtfohfcpnhhiemaaRowsSV
namespace Go.Proofs.Ytfohfcpnhhiemaa
open Go.RowKit
set_option linter.unusedSimpArgs false
set_option linter.unusedVariables false

theorem Own.litSV (w : World) (base : Nat) (T : TypeId) (s : Option Addr × Nat × Nat) (hb : base ≤ w.heap.size) : Own SV 1 (w.alloc (.cells #[.slice s.1 s.2.1 s.2.2] T)) base T (.slice (some ⟨w.heap.size, 0, none⟩) 1 1) 1 [s] :=
  ⟨rfl, World.ownsRow_lit w #[.slice s.1 s.2.1 s.2.2] 1 hb (by unfold maxLen; omega) rfl⟩
theorem Own.madeSV1 (w : World) (o : Obj) (base : Nat) (T : TypeId) (hb : base ≤ w.heap.size) : Own SV 1 ((w.alloc o).alloc (.cells #[] T)) base T (.slice (some ⟨w.heap.size + 1, 0, none⟩) 0 0) 0 [] := by
  have := Own.made SV 1 (w.alloc o) base T (by simp; omega)
  rw [World.size_alloc] at this
  exact this
theorem litSV_kept {w w' : World} {T : TypeId} {s : Option Addr × Nat × Nat} {row : Option Nat} (hg : (w.alloc (.cells #[.slice s.1 s.2.1 s.2.2] T)).grownBy w' row) (hr : row ≠ some w.heap.size) : Arr SV 1 w' w'.heap.size (some ⟨w.heap.size, 0, none⟩) 1 [s] :=
  Own.arr (base := 0) (T := T) (c := 1) ⟨rfl, (Own.litSV w 0 T s (Nat.zero_le _)).2.kept hg (.inr fun e => hr e.symm)⟩ SV_length
theorem litSV_kept3 {w w' : World} {T : TypeId} {s : Option Addr × Nat × Nat} {row : Option Nat} {o : Obj} (hg : ((w.alloc (.cells #[.slice s.1 s.2.1 s.2.2] T)).alloc o).grownBy w' row) (hr : row ≠ some w.heap.size) : Arr SV 1 w' w'.heap.size (some ⟨w.heap.size, 0, none⟩) 1 [s] :=
  Own.arr (base := 0) (T := T) (c := 1) ⟨rfl, ((Own.litSV w 0 T s (Nat.zero_le _)).alloc o).2.kept hg (.inr fun e => hr e.symm)⟩ SV_length

set_option maxRecDepth 100000 in
set_option maxHeartbeats 4000000 in
theorem walk_FnMeanOrder (w : World) (A : Option Addr) (n c : Nat) (l : List Int) (h : Arr BB 1 w w.heap.size A n l) (hby : ∀ x ∈ l, 0 ≤ x ∧ x ≤ 255) (hc : n ≤ c) :
    Calls Try.prog 6 #[.slice A n c] w fun e w' => e = .returned (.bool true) ∧ Below w.heap.size w w' := by
  have C := Lib.hid (DrawStackMean_any A n c l w h hby hc)
  clear hby h
  by_cases hb : 1048576 < n
  · go_enter Try.func6, Try.ntmps6
    go_wp2_with fail
    go_ret
    exact ⟨rfl, Below.refl _ _⟩
  go_enter Try.func6, Try.ntmps6
  go_wp2_with fail
  refine C.out.mono ?_
  rintro e w1 ⟨A1, n1, c1, vs, R, rfl, ho, hc1, hn1, hR, b1⟩
  have a1 := ho.rows
  have hR' := Lib.hid (fun (r : List Int) (hr : r ∈ R) => show r.length ≤ 1099511627776 by have := hR r hr; omega)
  have HR10 := Lib.hid hR
  clear C ho hR
  have K1 := Lib.hid (fun W h1 => implMean_any A1 n1 c1 R W h1 (by omega) hR'.out)
  have K2 := Lib.hid (fun W h1 => specMean_any A1 n1 c1 R W h1 (by omega) hR'.out)
  cases hB : stackB R with
  | false =>
    rw [hB, show meansR R = [] by unfold meansR; rw [hB]; rfl] at K1 K2
    clear hB
    go_wp2_with fail
    refine (K1.out _ a1).mono ?_
    rintro e w2 ⟨A2, m2, c2, rfl, o2, b2⟩
    have B2 := b1.trans (b2.mono b1.size)
    have a2 := (a1.below' b2).more b2.size
    have x2 := o2.arr PP_length
    clear a1 b1 b2 o2
    go_wp2_with fail
    refine (K2.out _ a2).mono ?_
    rintro e w3 ⟨A3, m3, c3, rfl, o3, b3⟩
    have B3 := B2.trans (b3.mono B2.size)
    have HS := Lib.hid (sameFracs_later (c := c2) (c' := c3) ((x2.below' b3).more b3.size) (o3.arr PP_length))
    clear a2 b3 B2 x2 o3 K1 K2
    go_wp2_with fail
    refine (HS.out _ (Below.refl _ _)).mono ?_
    rintro e w4 ⟨rfl, b4⟩
    go_wp2_with fail
    refine (HS.out _ b4).mono ?_
    rintro e w5 ⟨rfl, b5⟩
    clear b4
    go_wp2
    go_ret
    exact ⟨rfl, B3.trans (b5.mono B3.size)⟩
  | true =>
    rw [hB, show meansR R = means R (wid R) by unfold meansR; rw [hB]; rfl] at K1 K2
    obtain ⟨s1, s6⟩ := stack_len hB
    obtain ⟨m1, m20⟩ := stack_wid hB
    have hln := Lib.hid a1.len
    rw [a1.len] at s1 s6
    have HB := Lib.hid hB
    obtain ⟨M, hM⟩ : ∃ M, M = wid R := ⟨_, rfl⟩
    have HM := Lib.hid hM
    rw [← hM] at m1 m20 K1 K2
    have hVl : (means R M).length = M := means_length R M
    clear hB hM
    go_wp2_with fail
    refine (K1.out _ a1).mono ?_
    rintro e w2 ⟨A2, m2, c2, rfl, o2, b2⟩
    have B2 := b1.trans (b2.mono b1.size)
    have a2 := (a1.below' b2).more b2.size
    have x2 := o2.arr PP_length
    have hm2 := o2.1
    rw [hVl] at hm2
    obtain rfl : m2 = M := hm2.symm
    clear a1 b1 b2 o2
    go_wp2_with fail
    refine (K2.out _ a2).mono ?_
    rintro e w3 ⟨A3, m3, c3, rfl, o3, b3⟩
    have B3 := B2.trans (b3.mono B2.size)
    have a3 := (a2.below' b3).more b3.size
    have x3 := (x2.below' b3).more b3.size
    have HS := Lib.hid (sameFracs_later (c := c2) (c' := c3) x3 (o3.arr PP_length))
    clear a2 b3 B2 x2 o3 K2
    go_wp2_with fail
    refine (HS.out _ (Below.refl _ _)).mono ?_
    rintro e w5 ⟨rfl, b5⟩
    have B5 := B3.trans (b5.mono B3.size)
    have a5 := (a3.below' b5).more b5.size
    have x5 := (x3.below' b5).more b5.size
    clear HS B3 b5 a3 x3
    obtain ⟨j0, ji, jz0, jz1, jz2⟩ := info_parts infoRow
    have hmem := Lib.hid (fun r hr => stack_mem HB.out (r := r) hr)
    obtain ⟨b0, off0, r0, A0, c0, e0, hb0, hx0, d0, hd0, ha0⟩ := a5.row (k := 0) (by omega)
    rw [Nat.add_zero] at d0
    have in0 : (0 : Int) < (n1 : Int) := by omega
    obtain ⟨ss, hs1, hs3⟩ := a5.toSV
    have hsl := hs1.1
    have AK := hs1.cutAt (k := 1) (cap := c1) (by omega) (by omega)
    subst e0
    obtain ⟨Ak, hAk⟩ : ∃ X, (if c1 = 1 then some (⟨b0, off0, none⟩ : Addr) else some ⟨b0, off0 + 1, none⟩) = X := ⟨_, rfl⟩
    have hAk' : (if c1 = 1 then some (⟨b0, off0, none⟩ : Addr) else Option.map (fun x => x.add (1 * 1)) (some (⟨b0, off0, none⟩ : Addr))) = Ak := by rw [← hAk]; rfl
    rw [hAk'] at AK
    have hQ := stack_of (R := R.drop 1 ++ [r0]) (m := m2) (fun r hr => by
      rcases List.mem_append.1 hr with h1 | h1
      · have := hmem.out r (List.mem_of_mem_drop h1); exact ⟨this.1, by rw [HM.out]; exact this.2.1⟩
      · simp at h1; subst h1; have := hmem.out _ (List.mem_of_getElem? hx0); exact ⟨this.1, by rw [HM.out]; exact this.2.1⟩) ⟨m1, m20⟩ (by rw [List.length_append, List.length_drop, hln.out]; simp; omega)
    have hQl : (R.drop 1 ++ [r0]).length = n1 - 1 + 1 := by rw [List.length_append, List.length_drop, hln.out]; rfl
    have hmt : meansR (R.drop 1 ++ [r0]) = means R m2 := by unfold meansR; rw [if_pos hQ.1, hQ.2]; exact means_turn hx0 _
    have RT := Lib.hid (fun (w' : World) (v : Value) A n c (hv : v = .slice A n c) (ho : Own SV 1 w' w5.heap.size 28 v n (ss.drop 1 ++ [(A0, r0.length, c0)])) (hb : Below w5.heap.size w5 w') => show Rows2 w' w'.heap.size A n (R.drop 1 ++ [r0]) from
      rows_of_own hv ho.ofSV (by rw [hQl, ← ho.1, List.length_append, List.length_drop, hsl]; rfl) (fun q u r hq hr => by
        rw [List.map_append] at hq
        have hm0 : ((ss.drop 1).map svOf).length = n1 - 1 := by rw [List.length_map, List.length_drop, hsl]
        have hm1 : (R.drop 1).length = n1 - 1 := by rw [List.length_drop, hln.out]
        rcases Nat.lt_or_ge q (n1 - 1) with h1 | h1
        · rw [List.getElem?_append_left (by rw [hm0]; exact h1)] at hq
          rw [List.getElem?_append_left (by rw [hm1]; exact h1)] at hr
          rw [List.map_drop, List.getElem?_drop] at hq
          rw [List.getElem?_drop] at hr
          exact hs3 _ u r hq hr
        · rw [List.getElem?_append_right (by rw [hm0]; exact h1)] at hq
          rw [List.getElem?_append_right (by rw [hm1]; exact h1)] at hr
          have e0 : q - (n1 - 1) = 0 := by have := (List.getElem?_eq_some_iff.1 hq).1; rw [hm0] at this; simp at this; omega
          rw [hm0, e0] at hq
          rw [hm1, e0] at hr
          simp at hq hr
          subst hq; subst hr
          exact ⟨A0, c0, rfl, hd0, ha0⟩) hb)
    have K8 := Lib.hid (fun W A c h1 => implMean_any A n1 c (R.drop 1 ++ [r0]) W h1 (by omega) (fun r hr => by
      rcases List.mem_append.1 hr with h1 | h1
      · exact hR'.out r (List.mem_of_mem_drop h1)
      · simp at h1; subst h1; exact hR'.out _ (List.mem_of_getElem? hx0)))
    rw [hQ.1, hmt] at K8
    have M1 : 0 + (n1 - 1) ≤ maxLen := by unfold maxLen; omega
    have M2 : n1 - 1 + 1 ≤ maxLen := by unfold maxLen; omega
    have P1 : (0 + (n1 - 1)) * 24 ≤ 140737488355328 := by omega
    have P2 : (n1 - 1 + 1) * 24 ≤ 140737488355328 := by omega
    have j1 : 1 ≤ c1 := by omega
    have j2 : (1 : Int) ≤ (c1 : Int) := by omega
    have j3 : (1 : Int) ≤ (n1 : Int) := by omega
    have in1 : 0 < n1 := by omega
    have NN := Lib.hid (show n1 - 1 + 1 = n1 by omega)
    have g0 := d0
    clear hQ hQl hmt hs1 hs3 hAk' hx0 ha0 a5 d0 K1
    go_wp2_with fail
    go_region_held3 (fun w' => w'.cell? ⟨b0, off0, none⟩ = some (.slice A0 r0.length c0)) (first | go_keep | (exact (S8.cell (by exact hb0)).trans g0) | (exact (S7.cell (by exact hb0)).trans g0) | (exact (S6.cell (by exact hb0)).trans g0)) (first
          | (refine step_append_arr _ rfl (.tmp 47) (.tmp 49) 23 rfl w5.heap.size 28 j0 (.slice none 0 0) 1 24 Try.underlying23 ji jz0 jz1 jz2 rfl (by decide) SV_length one_SV (.slice (some ⟨w5.heap.size, 0, none⟩) 0 0) 0 [] (by simp [Act.eval, Act.put]) (Own.made SV 1 w5.drew w5.heap.size 28 (Nat.le_refl _)) w5.heap.size Ak (n1 - 1) (c1 - 1) (ss.drop 1) (by simp [Act.eval, Act.put]) (Arr.alloc (w := w5.drew) AK (Nat.le_refl _) _) M1 P1 (by simp) ?_; intro v6 w6 hO6 hg6 hat6; simp only [Nat.zero_add, List.nil_append] at hO6; have S6 : Below w5.heap.size w5 w6 := (((Below.refl w5.heap.size w5).drew.alloc (Nat.le_refl _) _)).grown hg6 (by simp) (fun g hg => by simp [Value.ownBlock] at hg; omega))
          | (refine step_append_arr _ rfl (.tmp 47) (.tmp 49) 23 rfl w5.heap.size 28 j0 (.slice none 0 0) 1 24 Try.underlying23 ji jz0 jz1 jz2 rfl (by decide) SV_length one_SV (.slice (some ⟨w5.heap.size, 0, none⟩) 0 0) 0 [] (by simp [Act.eval, Act.put]) (Own.alloc (Own.made SV 1 w5.drew w5.heap.size 28 (Nat.le_refl _)) (.cells #[.slice A0 r0.length c0] 28)) w5.heap.size Ak (n1 - 1) (c1 - 1) (ss.drop 1) (by simp [Act.eval, Act.put]) (Arr.alloc (Arr.alloc (w := w5.drew) AK (Nat.le_refl _) _) (by simp) _) M1 P1 (by simp; omega) ?_; intro v6 w6 hO6 hg6 hat6; simp only [Nat.zero_add, List.nil_append] at hO6; have S6 : Below w5.heap.size w5 w6 := ((((Below.refl w5.heap.size w5).drew.alloc (Nat.le_refl _) _).alloc (by simp) _)).grown hg6 (by simp; omega) (fun g hg => by simp [Value.ownBlock] at hg; omega); have L6 := (litSV_kept (T := 28) (s := (A0, r0.length, c0)) (w := w5.drew.alloc (.cells #[] 28)) hg6 (by simp [Value.ownBlock])); simp only [World.size_alloc] at L6)
          | (refine step_append_arr _ rfl (.tmp 47) (.tmp 49) 23 rfl w5.heap.size 28 j0 (.slice none 0 0) 1 24 Try.underlying23 ji jz0 jz1 jz2 rfl (by decide) SV_length one_SV (.slice (some ⟨w5.heap.size + 1, 0, none⟩) 0 0) 0 [] (by simp [Act.eval, Act.put]) (Own.madeSV1 w5.drew (.cells #[.slice A0 r0.length c0] 28) w5.heap.size 28 (Nat.le_refl _)) w5.heap.size Ak (n1 - 1) (c1 - 1) (ss.drop 1) (by simp [Act.eval, Act.put]) (Arr.alloc (Arr.alloc (w := w5.drew) AK (Nat.le_refl _) _) (by simp) _) M1 P1 (by simp; omega) ?_; intro v6 w6 hO6 hg6 hat6; simp only [Nat.zero_add, List.nil_append] at hO6; have S6 : Below w5.heap.size w5 w6 := ((((Below.refl w5.heap.size w5).drew.alloc (Nat.le_refl _) _).alloc (by simp) _)).grown hg6 (by simp; omega) (fun g hg => by simp [Value.ownBlock] at hg; omega); have L6 := (litSV_kept3 (T := 28) (s := (A0, r0.length, c0)) (w := w5.drew) hg6 (by simp [Value.ownBlock])))
          | (refine step_append_arr _ rfl (.tmp 50) (.tmp 54) 23 rfl w5.heap.size 28 j0 (.slice none 0 0) 1 24 Try.underlying23 ji jz0 jz1 jz2 rfl (by decide) SV_length one_SV v6 (n1 - 1) (ss.drop 1) (by simp [Act.eval, Act.put]) (hO6.alloc _) _ (some ⟨w6.heap.size, 0, none⟩) 1 1 [(A0, r0.length, c0)] (by simp [Act.eval, Act.put]) (Own.arr (Own.litSV w6 w6.heap.size 28 (A0, r0.length, c0) (Nat.le_refl _)) SV_length) M2 P2 (by have := S6.size; simp; omega) ?_; intro v7 w7 hO7 hg7 hat7; have S7 : Below w5.heap.size w5 w7 := (S6.alloc S6.size _).grown hg7 (by have := S6.size; simp; omega) (fun g hg => (hO6.2.lt g hg).1); rw [NN.out] at hO7; obtain ⟨A7, c7, rfl, _, _⟩ := hO7.form; have a7 := RT.out w7 _ A7 _ c7 rfl hO7 S7)
          | (refine step_append_arr _ rfl (.tmp 50) (.tmp 54) 23 rfl w5.heap.size 28 j0 (.slice none 0 0) 1 24 Try.underlying23 ji jz0 jz1 jz2 rfl (by decide) SV_length one_SV v6 (n1 - 1) (ss.drop 1) (by simp [Act.eval, Act.put]) hO6 _ (some ⟨w5.heap.size + 1, 0, none⟩) 1 1 [(A0, r0.length, c0)] (by simp [Act.eval, Act.put]) L6 M2 P2 S6.size ?_; intro v7 w7 hO7 hg7 hat7; have S7 : Below w5.heap.size w5 w7 := S6.grown hg7 S6.size (fun g hg => (hO6.2.lt g hg).1); rw [NN.out] at hO7; obtain ⟨A7, c7, rfl, _, _⟩ := hO7.form; have a7 := RT.out w7 _ A7 _ c7 rfl hO7 S7)
          | (refine step_append_arr _ rfl (.tmp 50) (.tmp 54) 23 rfl w5.heap.size 28 j0 (.slice none 0 0) 1 24 Try.underlying23 ji jz0 jz1 jz2 rfl (by decide) SV_length one_SV v6 (n1 - 1) (ss.drop 1) (by simp [Act.eval, Act.put]) hO6 _ (some ⟨w5.heap.size, 0, none⟩) 1 1 [(A0, r0.length, c0)] (by simp [Act.eval, Act.put]) L6 M2 P2 S6.size ?_; intro v7 w7 hO7 hg7 hat7; have S7 : Below w5.heap.size w5 w7 := S6.grown hg7 S6.size (fun g hg => (hO6.2.lt g hg).1); rw [NN.out] at hO7; obtain ⟨A7, c7, rfl, _, _⟩ := hO7.form; have a7 := RT.out w7 _ A7 _ c7 rfl hO7 S7)
          | (go_at_call 32; refine (K8.out w7 A7 c7 a7).mono ?_; rintro e w8 ⟨A8, m8, c8, rfl, o8, b8⟩; have S8 : Below w5.heap.size w5 w8 := S7.trans (b8.mono S7.size)))
    all_goals
      have x58 := (x5.below' S8).more S8.size
      have HS2 := Lib.hid (sameFracs_later (c := c8) (c' := c2) (o8.arr PP_length) x58)
      have B8 := B5.trans (S8.mono B5.size)
      clear S6 S7 S8 a7 o8 b8 hO6 hg6 hat6 hO7 hg7 hat7 x5 x58 AK
      go_wp2_with fail
      refine (HS2.out _ (Below.refl _ _)).mono ?_
      rintro e w9 ⟨rfl, b9⟩
      go_wp2
      go_ret
      exact ⟨rfl, B8.trans (b9.mono B8.size)⟩
end Go.Proofs.Ytfohfcpnhhiemaa
