/-
  Contract: l51Piece of the reference.
-/
import Derived.Test.YtefadlbfkhndfaaGreatDoorSpecSt
import Derived.Test.YtefadlbfkhndfaaGreatDoorGB
import Derived.Test.YtefadlbfkhndfaaGreatDoorGA
import Derived.Test.YtefadlbfkhndfaaGreatDoorGD
import Derived.Lib.Builder
import Derived.MapKept
namespace Go.Proofs.YtefadlbfkhndfaaGreatDoor
open Go.RowKit
set_option linter.unusedSimpArgs false
set_option linter.unusedVariables false

theorem blk2 {w : World} {g : Nat} {a b : Value} {T : TypeId} (h : w.heap[g]? = some (.cells #[a, b] T (0, 0))) : w.cell? ⟨g, 0, none⟩ = some a ∧ w.cell? ⟨g, 1, none⟩ = some b ∧ w.frozen? ⟨g, 0, none⟩ = false ∧ w.frozen? ⟨g, 1, none⟩ = false :=
  ⟨(Lib.cell_of_heap h 0).trans rfl, (Lib.cell_of_heap h 1).trans rfl, Lib.frozen_of_heap h 0, Lib.frozen_of_heap h 1⟩
theorem Own.litPPs (w : World) (base : Nat) (T : TypeId) (x y : Int) (hb : base ≤ w.heap.size) : Own PP 2 (w.alloc (.cells #[.int .i64 x, .int .i64 y] T)) base T (.slice (some ⟨w.heap.size, 0, none⟩) 1 1) 1 [(x, y)] :=
  ⟨rfl, World.ownsRow_lit w #[.int .i64 x, .int .i64 y] 1 hb (by unfold maxLen; omega) rfl⟩
theorem setCell2_grown (w : World) (g : Nat) (a b : Value) : w.grownBy ((w.setCell ⟨g, 0, none⟩ a).setCell ⟨g, 1, none⟩ b) (some g) := by
  have h1 : w.grownBy (w.setCell ⟨g, 0, none⟩ a) (some g) := ⟨rfl, rfl, rfl, by simp [World.setCell], fun k _ hk => Below.heap_setCell _ _ _ _ (fun e => hk (by simp [e]))⟩
  have h2 : (w.setCell ⟨g, 0, none⟩ a).grownBy ((w.setCell ⟨g, 0, none⟩ a).setCell ⟨g, 1, none⟩ b) (some g) := ⟨rfl, rfl, rfl, by simp [World.setCell], fun k _ hk => Below.heap_setCell _ _ _ _ (fun e => hk (by simp [e]))⟩
  exact grown_trans' h1 h2

theorem calls_laterS {P : Program} {f : FuncId} {a : Array Value} {w0 W : World} {R : Ending} (hW : Below w0.heap.size w0 W) (K : Calls P f a W fun e w' => e = R ∧ Below W.heap.size W w') : Calls P f a W fun e w' => e = R ∧ Below w0.heap.size w0 w' :=
  K.mono fun _ _ ⟨he, h2⟩ => ⟨he, hW.trans (h2.mono hW.size)⟩
set_option maxRecDepth 100000 in
set_option maxHeartbeats 4000000 in
theorem l51Piece_any (v : Value) (s : St) (x y : Int) (w : World) (h : SV w v s) (hl : s.core.length ≤ 900) :
    Calls Tryz.prog 70 #[v, .int .i64 x, .int .i64 y] w (RetS w (addPiece s x y).1 ((addPiece s x y).2 ++ [10])) := by
  obtain ⟨i0, hi, hz0, hz1, hz2⟩ := info_parts infoPc
  obtain ⟨Ac, nc, cc, Al, nl, cl, rfl, hA, hL, hcc, hcl⟩ := h
  have hn : nc ≤ 900 := by rw [← hA.1]; exact hl
  obtain ⟨P, hP⟩ : ∃ P, P = w.heap.size := ⟨_, rfl⟩
  obtain ⟨w0, hw0⟩ : ∃ w0, w0 = (w.alloc (.cells #[.slice Ac nc cc, .slice Al nl cl] 47)).alloc (.cells #[.slice none 0 0, .slice none 0 0] 47) := ⟨_, rfl⟩
  have B0 : Below P w w0 := by rw [hw0, hP]; exact ((Below.refl w.heap.size w).alloc (Nat.le_refl _) _).alloc (by simp) _
  have z0 : w0.heap.size = P + 1 + 1 := by rw [hw0, hP]; simp
  have hb0 : w0.heap[P]? = some (.cells #[.slice Ac nc cc, .slice Al nl cl] 47 (0, 0)) := by
    rw [hw0, hP]
    exact (((Below.refl (w.alloc (.cells #[.slice Ac nc cc, .slice Al nl cl] 47)).heap.size _).alloc (Nat.le_refl _) _).block w.heap.size (by simp)).trans (MapKept.heap_alloc w _).1
  have hr0 : w0.heap[P + 1]? = some (.cells #[.slice none 0 0, .slice none 0 0] 47 (0, 0)) := by
    rw [hw0, hP]
    have := (MapKept.heap_alloc (w.alloc (.cells #[.slice Ac nc cc, .slice Al nl cl] 47)) (.cells #[.slice none 0 0, .slice none 0 0] 47)).1
    simpa using this
  have hM := Own.made PP 2 w0 w0.heap.size 69 (Nat.le_refl _)
  have hA0 : Arr PP 2 (w0.alloc (.cells #[] 69)) P Ac nc s.core := by rw [hP] at B0 ⊢; exact (hA.below B0 (Nat.le_refl _)).alloc B0.size _
  have HA := Lib.hid hA
  have HL := Lib.hid hL
  have M1 : 0 + nc ≤ maxLen := by unfold maxLen; omega
  have M2 : nc + 1 ≤ maxLen := by unfold maxLen; omega
  rw [z0] at hM
  have hbA := hb0
  have hrA := hr0
  have BA := Lib.hid (And.intro (B0.alloc (by have := B0.size; omega) (.cells #[] 69)) (And.intro ((((Below.refl w0.heap.size w0).alloc (Nat.le_refl _) (.cells #[] 69)).block P (by omega)).trans hb0) ((((Below.refl w0.heap.size w0).alloc (Nat.le_refl _) (.cells #[] 69)).block (P + 1) (by omega)).trans hr0)))
  have zA : (w0.alloc (.cells #[] 69)).heap.size = P + 1 + 1 + 1 := by simp [z0]
  clear hA hL hl B0 hb0 hr0 hrA
  subst hP
  go_enter Tryz.func70, Tryz.ntmps70
  go_upto_region 1 with fail
  rw [← hw0]
  clear hw0
  obtain ⟨t0, t1, _, _⟩ := blk2 hbA
  go_wp2_with (at_builtin; refine wpList_append_arr _ rfl _ _ 37 rfl (w.heap.size + 1 + 1) 69 i0 (.agg #[.int .i64 0, .int .i64 0]) 2 16 Tryz.underlying37 hi hz0 hz1 hz2 rfl (by decide) PP_length one_PP' _ 0 [] rfl hM w.heap.size _ nc cc s.core rfl hA0 M1 (by omega) (by rw [zA]; omega) ?_)
  intro v3 w3 hO3 hg3 _
  try simp only [Nat.zero_add, List.nil_append] at hO3
  have z3 : w.heap.size + 1 + 1 + 1 ≤ w3.heap.size := by rw [← zA]; exact hg3.size
  have hown : (Value.slice (some (Addr.mk (w.heap.size + 1 + 1) 0 none)) 0 0).ownBlock = some (w.heap.size + 1 + 1) := rfl
  rw [hown] at hg3
  have D3 := Lib.hid (And.intro (BA.out.1.grown hg3 BA.out.1.size (fun k hk => by injection hk with hk; omega)) (And.intro ((hg3.block w.heap.size (by rw [zA]; omega) (fun e => by injection e with e; omega)).trans BA.out.2.1) ((hg3.block (w.heap.size + 1) (by rw [zA]; omega) (fun e => by injection e with e; omega)).trans BA.out.2.2)))
  have G3 := Lib.hid (fun k hk => hO3.2.lt k hk)
  clear hM hg3 hA0 hbA t0 t1 hown
  go_wp2_with (at_builtin; refine wpList_append_arr _ rfl _ _ 37 rfl (w.heap.size + 1 + 1) 69 i0 (.agg #[.int .i64 0, .int .i64 0]) 2 16 Tryz.underlying37 hi hz0 hz1 hz2 rfl (by decide) PP_length one_PP' _ nc s.core rfl (hO3.alloc _) _ (some ⟨w3.heap.size, 0, none⟩) 1 1 [(x, y)] rfl (Own.arr (Own.litPPs w3 w3.heap.size 69 x y (Nat.le_refl _)) PP_length) M2 (by omega) (by simp; omega) ?_)
  intro v5 w5 hO5 hg5 _
  have D5 := Lib.hid (And.intro ((D3.out.1.alloc D3.out.1.size (.cells #[.int .i64 x, .int .i64 y] 69)).grown hg5 (by simp; omega) (fun k hk => by have := (G3.out k hk).1; omega)) (And.intro ((hg5.block w.heap.size (by simp; omega) (fun e => by have := (G3.out _ e.symm).1; omega)).trans ((((Below.refl w3.heap.size w3).alloc (Nat.le_refl _) (.cells #[.int .i64 x, .int .i64 y] 69)).block w.heap.size (by omega)).trans D3.out.2.1)) ((hg5.block (w.heap.size + 1) (by simp; omega) (fun e => by have := (G3.out _ e.symm).1; omega)).trans ((((Below.refl w3.heap.size w3).alloc (Nat.le_refl _) (.cells #[.int .i64 x, .int .i64 y] 69)).block (w.heap.size + 1) (by omega)).trans D3.out.2.2))))
  have z5 : w.heap.size + 1 + 1 ≤ w5.heap.size := by have := hg5.size; simp at this; omega
  obtain ⟨A5, c5, rfl, hc5, _⟩ := hO5.form
  have HO5 := Lib.hid hO5
  have KV0 := fun W (hW : Below w5.heap.size w5 W) => calls_laterS hW (specCoreValid_any A5 (nc + 1) c5 _ W ((HO5.out.below hW (Nat.le_refl _)).arr PP_length) (by omega))
  obtain ⟨r0, r1, _, _⟩ := blk2 D5.out.2.1
  clear hO5 hg5 D3 G3 hO3 z3 BA zA M1 M2
  cases hC : coreB (s.core ++ [(x, y)]) with
  | true =>
    rw [hC] at KV0
    have KV := Lib.hid KV0
    have HP := Lib.hid (show addPiece s x y = ({ s with core := s.core ++ [(x, y)] }, okT) by unfold addPiece; rw [hC]; rfl)
    clear KV0 hC
    go_wp2_with fail
    go_region_with (first
      | (go_at_call 69; refine (KV.out _ (Below.refl _ _).drew).mono ?_; rintro e w6 ⟨rfl, b6⟩; obtain ⟨s0, s1, _, _⟩ := blk2 ((b6.block w.heap.size (by omega)).trans D5.out.2.1))
      | (go_at_call 72; refine (l51Core_yes (.slice Ac nc cc) (.slice Al nl cl) (.slice A5 (nc + 1) c5) w6 ⟨_, _, _, rfl⟩ ⟨_, _, _, rfl⟩ ⟨_, _, _, rfl⟩).mono ?_; rintro e w7 ⟨rfl, b7⟩; have b57 := b6.trans (b7.mono b6.size); have hres := (b57.block (w.heap.size + 1) (by omega)).trans D5.out.2.2; obtain ⟨p0, p1, f0, f1⟩ := blk2 hres))
    all_goals
      go_wp2
      obtain ⟨y0, y1⟩ := st_set (a := .slice A5 (nc + 1) c5) (b := .slice Al nl cl) p0 p1
      refine bodyPost_ret (v := .tuple #[.agg #[.slice A5 (nc + 1) c5, .slice Al nl cl], .string (tx (saidT true))]) (by simp [results, Tryz.results70, go_sem, y0, y1]) rfl ?_
      have g7 := setCell2_grown w7 (w.heap.size + 1) (.slice A5 (nc + 1) c5) (.slice Al nl cl)
      have B7 := ((D5.out.1.trans (b57.mono (by omega))).setCell (p := ⟨w.heap.size + 1, 0, none⟩) (by simp) (.slice A5 (nc + 1) c5)).setCell (p := ⟨w.heap.size + 1, 1, none⟩) (by simp) (.slice Al nl cl)
      have O7 := (HO5.out.below b57 (Nat.le_refl _)).kept g7 (fun k hk => by injection hk with hk; omega)
      rw [HP.out]
      exact ⟨_, rfl, ⟨A5, nc + 1, c5, Al, nl, cl, rfl, O7.arr PP_length, (HL.out.below B7 (Nat.le_refl _)).more B7.size, hc5, hcl⟩, B7⟩
  | false =>
    rw [hC] at KV0
    have KV := Lib.hid KV0
    have HP := Lib.hid (show addPiece s x y = (s, noT) by unfold addPiece; rw [hC]; rfl)
    clear KV0 hC
    go_wp2_with fail
    go_region_with (first
      | (go_at_call 69; refine (KV.out _ (Below.refl _ _).drew).mono ?_; rintro e w6 ⟨rfl, b6⟩; obtain ⟨s0, s1, _, _⟩ := blk2 ((b6.block w.heap.size (by omega)).trans D5.out.2.1))
      | (go_at_call 72; refine (l51Core_no (.slice Ac nc cc) (.slice Al nl cl) (.slice A5 (nc + 1) c5) w6 ⟨_, _, _, rfl⟩ ⟨_, _, _, rfl⟩ ⟨_, _, _, rfl⟩).mono ?_; rintro e w7 ⟨rfl, b7⟩; have b57 := b6.trans (b7.mono b6.size); have hres := (b57.block (w.heap.size + 1) (by omega)).trans D5.out.2.2; obtain ⟨p0, p1, f0, f1⟩ := blk2 hres))
    all_goals
      go_wp2
      obtain ⟨y0, y1⟩ := st_set (a := .slice Ac nc cc) (b := .slice Al nl cl) p0 p1
      refine bodyPost_ret (v := .tuple #[.agg #[.slice Ac nc cc, .slice Al nl cl], .string (tx (saidT false))]) (by simp [results, Tryz.results70, go_sem, y0, y1]) rfl ?_
      have g7 := setCell2_grown w7 (w.heap.size + 1) (.slice Ac nc cc) (.slice Al nl cl)
      have B7 := ((D5.out.1.trans (b57.mono (by omega))).setCell (p := ⟨w.heap.size + 1, 0, none⟩) (by simp) (.slice Ac nc cc)).setCell (p := ⟨w.heap.size + 1, 1, none⟩) (by simp) (.slice Al nl cl)
      rw [HP.out]
      exact ⟨_, rfl, ⟨Ac, nc, cc, Al, nl, cl, rfl, (HA.out.below B7 (Nat.le_refl _)).more B7.size, (HL.out.below B7 (Nat.le_refl _)).more B7.size, hcc, hcl⟩, B7⟩
end Go.Proofs.YtefadlbfkhndfaaGreatDoor
