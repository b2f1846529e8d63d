/-
  Contract: the drawn stack.
-/
import Derived.Test.YtfohfcpnhhiemaaDrawRow
import Derived.Test.YtfohfcpnhhiemaaOwnR
import Derived.Deep.RegionHeld3
namespace Go.Proofs.Ytfohfcpnhhiemaa
open Go.RowKit
set_option linter.unusedSimpArgs false
set_option linter.unusedVariables false

theorem infoRow : (Try.prog.info? 28).map (fun i => (i.zero, i.size, i.bytes)) = some (some (.slice none 0 0), 1, 24) := by kernel_rfl
theorem undrewS {w w1 : World} {row : Option Nat} (h : w.drew.grownBy w1 row) : w.grownBy w1 row := ⟨h.os, h.tape, h.output, h.size, h.block⟩
theorem Own.litI (w : World) (base : Nat) (T : TypeId) (x : Int) (hb : base ≤ w.heap.size) : Own II 1 (w.alloc (.cells #[.int .i64 x] T)) base T (.slice (some ⟨w.heap.size, 0, none⟩) 1 1) 1 [x] :=
  ⟨rfl, World.ownsRow_lit w #[.int .i64 x] 1 hb (by unfold maxLen; omega) rfl⟩
/-- What a drawn stack is: rows of the draw's own; the reader stands further on; nothing else has turned. -/
def DrawnRows (T T' : TypeId) (w : World) (g : Nat) (TR : TypeId) (p m : Nat) (e : Ending) (w' : World) : Prop :=
  ∃ (v : Value) (n : Nat) (vs : List Value) (R : List (List Int)) (p' : Nat), e = .returned v ∧ OwnRR w' w.heap.size T T' v n vs R ∧ n ≤ 5 ∧ (∀ r ∈ R, r.length ≤ 10) ∧ Rd w' g TR p' ∧ p' ≤ p + m ∧ w.grownBy w' (some g)

set_option maxHeartbeats 4000000 in
theorem l93Stack_any (g p : Nat) (w : World) (h : Rd w g 62 p) (hp : p ≤ 100000) :
    Calls Try.prog 57 #[.pointer (some ⟨g, 0, none⟩)] w (DrawnRows 28 3 w g 62 p 20000) := by
  obtain ⟨i0, hi, hz0, hz1, hz2⟩ := info_parts infoInt
  obtain ⟨j0, ji, jz0, jz1, jz2⟩ := info_parts infoRow
  have hg := h.lt
  go_enter Try.func57, Try.ntmps57
  go_wp2_with fail
  have h1 := h.alloc (.cells #[] 28)
  have O1 := OwnRR.made w w.heap.size 28 3 (Nat.le_refl _)
  have z1 : (w.alloc (.cells #[] 28)).heap.size = w.heap.size + 1 := by simp
  have Gz : w.grownBy (w.alloc (.cells #[] 28)) (some g) := World.grownBy_alloc w _ _
  refine (l91Row_any g p _ h1 (by omega)).mono ?_
  rintro e w1 ⟨A4, m, c4, L, p1, rfl, o4, hm, hr1, hp1, hg1⟩
  have O2 := O1.kept hg1 (by intro k hk; injection hk with hk; omega)
  have G1 := grown_trans' Gz hg1
  rw [z1] at o4
  have hs1 := hg1.size
  rw [z1] at hs1
  clear h1 O1 Gz hg1 z1
  go_wp2_with fail
  refine (pick_any g p1 4 _ hr1 (by omega) (by omega)).mono ?_
  rintro e w2 ⟨n, rfl, hn, hr2, hg2⟩
  have O3 := O2.kept hg2 (by intro k hk; injection hk with hk; omega)
  have o5 := o4.kept hg2 (by intro k hk; injection hk with hk; omega)
  have G2 := grown_trans' G1 hg2
  have hs2 := hg2.size
  have hn4 : n < 4 := by omega
  clear O2 o4 G1 hr1 hg2
  obtain ⟨B1, hB1⟩ : ∃ B, B = w2.heap.size := ⟨_, rfl⟩
  have a5 := o5.arr II_length
  have hblk : ∀ b off, 0 < m → A4 = some ⟨b, off, none⟩ → w.heap.size < b ∧ b < B1 := fun b off h0 e => by
    subst e
    have := o5.2.lt b rfl
    omega
  have HBK := Lib.hid hblk
  have A5 := Lib.hid a5
  clear o5 a5 hblk
  go_wp2_with fail
  go_loopw [3, 6] (fun v i wr => ∃ (k q : Nat) (vs : List Value) (R : List (List Int)), k ≤ n + 1 ∧ i = .int .i64 k ∧ OwnRR wr w.heap.size 28 3 v k vs R ∧ Hid (∀ r ∈ R, r.length ≤ 7) ∧ Hid (∀ g, v.ownBlock = some g → g = w.heap.size ∨ B1 ≤ g) ∧ Rd wr g 62 q ∧ q ≤ p1 + 1 + 20 * k ∧ w.grownBy wr (some g) ∧ B1 ≤ wr.heap.size ∧ Hid (∀ b, w.heap.size < b → b < B1 → wr.heap[b]? = w2.heap[b]?)) (fun _ i _ => n + 1 - (intOf i).toNat)
  case atStart => exact ⟨0, p1 + 1, [], [], Nat.zero_le _, rfl, O3, fun r hr => by simp at hr, fun g hg => by simp [Value.ownBlock] at hg; omega, hr2, by omega, G2, by omega, fun b _ _ => rfl⟩
  case round =>
    clear O3 G2 hr2
    obtain ⟨k, q, vs, R, hk, rfl, hw, hR, hv, hr, hq, G, hB, hF⟩ := hrel
    by_cases hlt : k < n + 1
    · have hlt' : (k : Int) < 1 + (n : Int) := by omega
      have hsz := hr.lt
      have hvl : ∀ g, u3.ownBlock = some g → g < wr.heap.size := fun g hg => (hw.own.2.lt g hg).2
      have hol : ∀ (k : Nat) u', vs[k]? = some u' → ∀ g, u'.ownBlock = some g → g < wr.heap.size := fun k u' hk g hg => (hw.lt hk g hg).2
      have HVL := Lib.hid hvl
      have HOL := Lib.hid hol
      obtain ⟨wo, rfl⟩ : ∃ wo : World, wo = wr := ⟨_, rfl⟩
      have hN := Own.made II 1 wo wo.heap.size 3 (Nat.le_refl _)
      have hRd := hr.alloc (.cells #[] 3)
      have GN : wo.grownBy (wo.alloc (.cells #[] 3)) (some g) := World.grownBy_alloc wo _ _
      clear hvl hol
      go_wp2_with fail
      go_loopw [7, 8] (fun v i wr => ∃ (j q' : Nat) (l : List Int), j ≤ m ∧ i = .int .i64 j ∧ Own II 1 wr wo.heap.size 3 v j l ∧ Rd wr g 62 q' ∧ q' ≤ q + j ∧ wo.grownBy wr (some g)) (fun _ i _ => m - (intOf i).toNat)
      case atStart => exact ⟨0, q, [], Nat.zero_le _, rfl, hN, hRd, by omega, GN⟩
      case round =>
        clear hN hRd GN
        obtain ⟨j, q', l, hj, rfl, hn', hr', hq', G'⟩ := hrel
        by_cases hjm : j < m
        · obtain ⟨b, off, x, rfl, hbB, hx, c1⟩ := A5.out.int hjm
          have hbk := HBK.out b off (by omega) rfl
          have c1' : wr.cell? ⟨b, off + j, none⟩ = some (.int .i64 x) := (World.cell?_of_block ((G'.block b (by omega) (by intro e; injection e with e; omega)).trans (hF.out b hbk.1 hbk.2))).trans c1
          have hn0 := hn'
          have HW := Lib.hid hn0
          have HR' := Lib.hid hr'
          have HG' := Lib.hid G'
          have hlt2 : (j : Int) < (m : Int) := by omega
          have M1 : j + 1 ≤ maxLen := by unfold maxLen; omega
          have hrl := hr'.lt
          have gsz := G'.size
          clear hn' hn0 hr' G' hx c1
          go_wp2_with fail
          go_region_held3 (fun w' => w'.cell? ⟨b, off + j, none⟩ = some (.int .i64 x)) (first | go_keep | assumption | (exact hg6.cell ((World.cell?_alloc_lt _ _ _ (by have := hg5.size; exact Nat.lt_of_lt_of_le (show b < wr.heap.size from (by omega)) this)).trans c5) (fun e => by have := (HW.out.2.lt b e.symm).1; omega))) (first
            | (go_at_call 58; refine (pick_any g q' 9 _ ?_ (by omega) (by omega)).mono ?_; exact (HR'.out.below (Below.refl _ _).drew (Nat.lt_succ_self _)); rintro e w5 ⟨y, rfl, hy, hr5, hg5⟩; have c5 := hg5.cell (show wr.drew.cell? ⟨b, off + j, none⟩ = some (.int .i64 x) from c1') (by intro e; injection e with e; have e' : b = g := e; omega))
            | (refine step_append_arr _ rfl (.tmp 27) (.tmp 36) 28 rfl wo.heap.size 3 i0 (.int .i64 0) 1 8 Try.underlying28 hi hz0 hz1 hz2 rfl (by decide) II_length one_II' u7 j l (by simp [Act.eval, Act.put]) (((Own.drew HW.out).kept hg5 (by intro k hk; injection hk with hk; omega)).alloc _) _ _ 1 1 [_] (by simp [Act.eval, Act.put]) (Own.arr (Own.litI w5 w5.heap.size 3 _ (Nat.le_refl _)) II_length) M1 (by omega) (by have := hg5.size; simp at this ⊢; omega) ?_; intro v6 w6 hO6 hg6 hat6))
          have hr6 := Lib.hid ((hr5.alloc _).grown hg6 (fun b hb => by have := (HW.out.2.lt b hb).1; omega))
          have G6 := Lib.hid (grown_step (grown_alloc (grown_trans' HG'.out (undrewS hg5)) _) hg6 (fun b hb => .inr (HW.out.2.lt b hb).1))
          have O6 := Lib.hid hO6
          clear hr5 hg5 hg6 hat6 hO6 c5 c1'
          go_wp2
          go_roundw
          case rel => exact ⟨j + 1, q' + 1, _, by omega, by go_num, O6.out, hr6.out, by omega, G6.out⟩
          case measure => simp [intOf]; omega
        · obtain rfl : j = m := by omega
          have hw' := hw.kept G' (by intro k hk; injection hk with hk; omega)
          have Go := grown_trans' G G'
          have hs' := G'.size
          have hF' : Hid (∀ b, w.heap.size < b → b < B1 → wr.heap[b]? = w2.heap[b]?) := fun b h1 h2 => (G'.block b (by omega) (by intro e; injection e with e; omega)).trans (hF.out b h1 h2)
          obtain ⟨Au, cu, rfl, hcu, _⟩ := hn'.form
          have hnl := hn'.1
          have hnb := Lib.hid (fun g hg => hn'.2.lt g hg)
          have hO' := Lib.hid (hn'.less (base' := w.heap.size) G.size)
          have HW := Lib.hid hw'
          have HG := Lib.hid Go
          have HR := Lib.hid hr'
          have vlt := Lib.hid (fun g hg => hw'.own.2.lt g hg)
          clear hw hn' G G' hr hr' hw' Go hF
          go_wp2_with (at_builtin; refine wpList_append_own_at _ rfl _ _ 23 rfl w.heap.size 28 j0 (.slice none 0 0) 1 24 Try.underlying23 ji jz0 jz1 jz2 rfl (by decide) _ _ _ rfl (HW.out.own.2.alloc _) ⟨wr.heap.size, 0, none⟩ 1 1 [.slice Au j cu] rfl rfl ?c1 ?c2 ?c3 ?c4 ?c5 ?_)
          case c1 => exact cell_new1 _ _ _
          case c2 => exact one_VV rfl
          case c3 => unfold maxLen; omega
          case c4 => omega
          case c5 => have := HG.out.size; simp; omega
          intro v' w5 hown' hg5 _ hat
          have O5 : OwnRR w5 w.heap.size 28 3 v' (k + 1) (vs ++ [.slice Au j cu]) (R ++ [l]) := by
            refine HW.out.snoc (B0 := wo.heap.size) (by rw [← hnl] at hO' ⊢; exact hO'.out) (fun g hg => hnb.out g hg) HVL.out HOL.out hown' hg5 (by rw [World.size_alloc]; exact hat)
          have hr5 := Lib.hid ((HR.out.alloc (.cells #[.slice Au j cu] 28)).grown hg5 (fun b hb => by have := (vlt.out b hb).1; omega))
          have G5 := Lib.hid (grown_step (grown_alloc HG.out (.cells #[.slice Au j cu] 28)) hg5 (fun b hb => .inr (vlt.out b hb).1))
          have V5 : Hid (∀ g, v'.ownBlock = some g → g = w.heap.size ∨ B1 ≤ g) := fun g hg => by
            rcases hat with h1 | h1
            · exact hv.out g (h1.symm.trans hg)
            · rw [hg] at h1; injection h1 with h1; omega
          have F5 : Hid (∀ b, w.heap.size < b → b < B1 → w5.heap[b]? = w2.heap[b]?) := fun b h1 h2 =>
            (hg5.block b (by simp; omega) (fun e => by rcases hv.out b e.symm with h3 | h3 <;> omega)).trans ((Below.heap_alloc wr _ b (by omega)).trans (hF'.out b h1 h2))
          have RL : Hid (∀ r ∈ R ++ [l], r.length ≤ 7) := fun r hr => by
            rcases List.mem_append.1 hr with h1 | h1
            · exact hR.out r h1
            · simp at h1; subst h1; omega
          have s5 : B1 ≤ w5.heap.size := by have := hg5.size; simp at this; omega
          have O5' := Lib.hid O5
          clear hown' hg5 hat O5 HW HG HR
          go_wp2
          go_roundw
          case rel => exact ⟨k + 1, _, _, _, by omega, by go_num, O5'.out, RL, V5, hr5.out, by omega, G5.out, s5, F5⟩
          case measure => simp [intOf]; omega
    · obtain rfl : k = n + 1 := by omega
      obtain ⟨G0, c0, rfl, hG0, hG1, hkc⟩ := hw.own.head (by omega)
      have hvl := hw.own.1
      have hlR := hw.lenR
      obtain ⟨u0, hu0⟩ : ∃ u0, vs[0]? = some u0 := ⟨_, List.getElem?_eq_getElem (by omega)⟩
      obtain ⟨r0, hr0⟩ : ∃ r0, R[0]? = some r0 := ⟨_, List.getElem?_eq_getElem (by omega)⟩
      have hl7 := hR.out r0 (List.mem_of_getElem? hr0)
      obtain ⟨Au, cu, hue, hcu, _⟩ := (hw.row 0 u0 r0 hu0 hr0).form
      subst hue
      have HU := Lib.hid hu0
      have HRR := Lib.hid hr0
      clear hu0 hr0 hlt
      go_wp2_with fail
      refine (pick_any g q 30 _ hr (by omega) (by omega)).mono ?_
      rintro e w3 ⟨x, rfl, hx, hr3, hg3⟩
      have hw3 := hw.kept hg3 (by intro k hk; injection hk with hk; omega)
      have G3 := grown_trans' G hg3
      have hG3 : G0 < w3.heap.size := by have := hg3.size; omega
      clear hw hr G hg3 hF hv
      by_cases hx0 : x = 0
      · subst hx0
        have H3 := Lib.hid hw3
        have HR3 := Lib.hid hr3
        have HG3 := Lib.hid G3
        have row0 := Lib.hid (hw3.row 0 _ r0 HU.out HRR.out)
        have f0 : w3.cell? ⟨G0, 0, none⟩ = some (.slice Au r0.length cu) := by
          have := hw3.own.2.cellAt 0 (by omega)
          rw [flatMap_VV] at this
          exact this.trans HU.out
        have z0 : w3.frozen? ⟨G0, 0, none⟩ = false := hw3.own.2.frozenAt 0
        have hneq := Lib.hid (hw3.out 0 _ HU.out)
        have rlt := Lib.hid (fun g hg => row0.out.2.lt g hg)
        have hn0 : (0 : Int) < (n : Int) + 1 := by omega
        clear hw3 hr3 G3
        go_wp2_with (at_builtin; refine wpList_append_own_at _ rfl _ _ 28 rfl w.heap.size 3 i0 (.int .i64 0) 1 8 Try.underlying28 hi hz0 hz1 hz2 rfl (by decide) _ _ _ rfl (row0.out.alloc _).2 ⟨w3.heap.size, 0, none⟩ 1 1 [.int .i64 1] rfl rfl ?c1 ?c2 ?c3 ?c4 ?c5 ?_)
        case c1 => exact cell_new1 _ _ _
        case c2 => exact one_II _
        case c3 => unfold maxLen; omega
        case c4 => omega
        case c5 => have := HG3.out.size; simp; omega
        intro v' w5 hown' hg5 _ hat
        have hne0 : some G0 ≠ (Value.slice Au r0.length cu).ownBlock := fun e => hneq.out G0 e.symm rfl
        have f5 : w5.cell? ⟨G0, 0, none⟩ = some (.slice Au r0.length cu) := hg5.cell ((World.cell?_alloc_lt _ _ _ (by exact hG3)).trans f0) hne0
        have z5 : w5.frozen? ⟨G0, 0, none⟩ = false := by
          have hb : w5.heap[G0]? = w3.heap[G0]? := (hg5.block G0 (by simp; omega) hne0).trans (Below.heap_alloc w3 _ G0 hG3)
          have e : w5.frozen? ⟨G0, 0, none⟩ = w3.frozen? ⟨G0, 0, none⟩ := by unfold World.frozen?; simp only [hb]
          exact e.trans z0
        have O5 : Own II 1 w5 w.heap.size 3 v' (r0 ++ [1]).length (r0 ++ [1]) := by
          have := Own.snoc' (f := II) (x := (1 : Int)) row0.out.1 (by simp [II]) hown'
          have e1 : (r0 ++ [(1 : Int)]).length = r0.length + 1 := by simp
          rw [e1]
          exact this
        have RR := Lib.hid ((H3.out.alloc (.cells #[.int .i64 1] 3)).turn HU.out O5 hg5 (by
          rcases hat with h1 | h1
          · exact .inl h1
          · exact .inr ⟨_, h1, by simp⟩))
        have hr5 := Lib.hid ((HR3.out.alloc (.cells #[.int .i64 1] 3)).grown hg5 (fun b hb => by have := (rlt.out b hb).1; omega))
        have G5 := Lib.hid (grown_step (grown_alloc HG3.out (.cells #[.int .i64 1] 3)) hg5 (fun b hb => .inr (rlt.out b hb).1))
        obtain ⟨A6, c6, rfl, _, _⟩ := O5.form
        rw [show (r0 ++ [(1 : Int)]).length = r0.length + 1 from by simp] at RR
        clear hown' hg5 hat O5 f0 z0 hne0
        go_wp2
        go_ret
        refine ⟨_, _, _, _, _, rfl, RR.out, by omega, fun r hr => ?_, hr5.out.grown (grown_setCell (grown_refl _ (some G0)) (.inl rfl) _) (by intro k hk; injection hk with hk; omega), by omega, grown_setCell G5.out (.inr hG0) _⟩
        rcases List.mem_or_eq_of_mem_set hr with h1 | h1
        · have := hR.out r h1; omega
        · subst h1; simp; omega
      · by_cases hx1 : x = 1
        · subst hx1
          have d0 : ((1 : Int) == 0) = false := rfl
          go_wp2
          go_ret
          exact ⟨_, 0, [], [], _, rfl, OwnRR.made w3 w.heap.size _ _ G3.size, by omega, fun r hr => by simp at hr, hr3.alloc _, by omega, grown_alloc G3 _⟩
        · have d0 : ((x : Int) == 0) = false := by simp; omega
          have d1 : ((x : Int) == 1) = false := by simp; omega
          go_wp2
          go_ret
          exact ⟨_, _, _, R, _, rfl, hw3, by omega, fun r hr => by have := hR.out r hr; omega, hr3, by omega, G3⟩
end Go.Proofs.Ytfohfcpnhhiemaa
