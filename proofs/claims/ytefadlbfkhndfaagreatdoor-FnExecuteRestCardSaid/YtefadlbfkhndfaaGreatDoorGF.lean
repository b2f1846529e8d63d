/-
  What the texts below prove: contracts and plain laws, each with its conditions.
-/
import Derived.Test.YtefadlbfkhndfaaGreatDoorGD
import Derived.Test.YtefadlbfkhndfaaGreatDoorGC
import Derived.Deep.RegionHeld3
import Derived.Test.YtefadlbfkhndfaaGreatDoorGA
import Derived.Lib.BufferMore

/-
  The state of the program's script in memory.
-/
namespace Go.Proofs.YtefadlbfkhndfaaGreatDoor
open Go.RowKit
set_option linter.unusedSimpArgs false
set_option linter.unusedVariables false

def Scr (w : World) (g : Nat) (s : St) : Prop := ∃ Ac nc cc Al nl cl, w.heap[g]? = some (.cells #[.slice Ac nc cc, .slice Al nl cl] 53 (0, 0)) ∧
  Own PP 2 w (g + 1) 69 (.slice Ac nc cc) nc s.core ∧ Own LL 2 w (g + 1) 73 (.slice Al nl cl) nl s.lays
theorem Scr.lt {w : World} {g : Nat} {s : St} (h : Scr w g s) : g < w.heap.size := by
  obtain ⟨_, _, _, _, _, _, h, _⟩ := h
  exact (Array.getElem?_eq_some_iff.1 h).1
theorem Scr.below {w w' : World} {g C : Nat} {s : St} (h : Scr w g s) (hb : Below C w w') (hC : w.heap.size ≤ C) : Scr w' g s := by
  have hl := h.lt
  obtain ⟨Ac, nc, cc, Al, nl, cl, h1, h2, h3⟩ := h
  exact ⟨Ac, nc, cc, Al, nl, cl, (hb.block g (by omega)).trans h1, h2.below hb hC, h3.below hb hC⟩
/-- What turns rows of bytes and the builder's block alone leaves a row as it was. -/
theorem Own.keeps {α : Type} {f : α → List Value} {sz : Nat} {w w' : World} {base b : Nat} {T : TypeId} {v : Value} {n : Nat} {l : List α} (h : Own f sz w base T v n l) (hk : Keeps b w w') (hT : T ≠ 5) (hb : v.ownBlock ≠ some b) : Own f sz w' base T v n l := by
  refine ⟨h.1, h.2.1, ?_⟩
  rcases h.2.2 with h0 | ⟨g, cap, cur, hv, hbg, hg, r⟩
  · exact .inl h0
  · refine .inr ⟨g, cap, cur, hv, hbg, (hk g cur T _ (fun e => hb (by rw [hv]; simp [Value.ownBlock, e])) hg hT).trans hg, r⟩
theorem Own.not_block {α : Type} {f : α → List Value} {sz : Nat} {w : World} {base b : Nat} {T T' : TypeId} {cs : Array Value} {fr : Nat × Nat} {v : Value} {n : Nat} {l : List α} (h : Own f sz w base T v n l) (hb : w.heap[b]? = some (.cells cs T' fr)) (hT : T ≠ T') : v.ownBlock ≠ some b := by
  rcases h.2.2 with ⟨rfl, _⟩ | ⟨g, cap, cur, rfl, _, hg, _⟩
  · simp [Value.ownBlock]
  · intro e
    obtain rfl : g = b := by simpa [Value.ownBlock] using e
    rw [hg] at hb
    injection hb with hb
    injection hb with _ h2 _
    exact hT h2
end Go.Proofs.YtefadlbfkhndfaaGreatDoor

/-
  Contract: the program's Execute, where (*script).execute does at each line what the plain words say.
-/
namespace Go.Proofs.YtefadlbfkhndfaaGreatDoor
open Go.RowKit
set_option linter.unusedSimpArgs false
set_option linter.unusedVariables false

/-- What execute does at a line. -/
def LineOk (s : St) (ws : List (List UInt8)) : Prop := (lineX s ws).2.length ≤ 1000 ∧ ∀ (w : World) (g k : Nat), Scr w g s → Tab w → Errs w → g < k → w.heap[k]? = some (.cells (ws.map fun x => Value.string (tx x)).toArray 9 (0, 0)) →
  Calls Tryz.prog 45 #[.pointer (some ⟨g, 0, none⟩), .slice (some ⟨k, 0, none⟩) ws.length ws.length] w fun e w' =>
    ∃ t b, e = .returned (.tuple #[.string (tx t), .bool b]) ∧ (if b = true then t else noT) = (lineX s ws).2 ∧ Scr w' g (lineX s ws).1 ∧ w.grownBy w' (some g)

theorem Bd.block {w : World} {b : Nat} {l : List UInt8} (h : Bd w b l) : ∃ cs, w.heap[b]? = some (.cells cs 56 (0, 0)) := by
  rcases h with ⟨_, v, h, _⟩ | ⟨_, v, h, _⟩ <;> exact ⟨_, h⟩
theorem BuilderAt_grown {T e : TypeId} {B b g : Nat} {p : Value} {bs : List Value} {w w' : World} (h : Lib.BuilderAt T e B b p bs w) (hg : w.grownBy w' (some g)) (hgB : g < B) : Lib.BuilderAt T e B b p bs w' := by
  have hl := h.lt
  obtain ⟨hB, v, hbk, hown, hne⟩ := h
  refine ⟨hB, v, (hg.block b hl (fun e => by injection e with e; omega)).trans hbk, hown.kept hg ?_, hne⟩
  cases hv : v.ownBlock with
  | none => exact .inl rfl
  | some k => exact .inr (fun e => by injection e with e; have := (hown.lt k hv).1; omega)
theorem Bd.grown {w w' : World} {b g : Nat} {l : List UInt8} (h : Bd w b l) (hg : w.grownBy w' (some g)) (hgb : g < b) : Bd w' b l := by
  rcases h with h | h
  · exact .inl (BuilderAt_grown h hg hgb)
  · exact .inr (BuilderAt_grown h hg hgb)
theorem Scr.keeps {w w' : World} {g b : Nat} {s : St} {l : List UInt8} (h : Scr w g s) (hB : Bd w b l) (hk : Keeps b w w') (hgb : g ≠ b) : Scr w' g s := by
  obtain ⟨cs, hb⟩ := hB.block
  obtain ⟨Ac, nc, cc, Al, nl, cl, h1, h2, h3⟩ := h
  exact ⟨Ac, nc, cc, Al, nl, cl, (hk g _ _ _ hgb h1 (by decide)).trans h1, h2.keeps hk (by decide) (h2.not_block hb (by decide)), h3.keeps hk (by decide) (h3.not_block hb (by decide))⟩
theorem Scr.cells {w : World} {g : Nat} {s : St} (h : Scr w g s) : ∃ Ac cc Al cl, w.cell? ⟨g, 0, none⟩ = some (.slice Ac s.core.length cc) ∧ w.cell? ⟨g, 1, none⟩ = some (.slice Al s.lays.length cl) := by
  obtain ⟨Ac, nc, cc, Al, nl, cl, h1, h2, h3⟩ := h
  rw [h2.1, h3.1]
  exact ⟨Ac, cc, Al, cl, (Lib.cell_of_heap h1 0).trans rfl, (Lib.cell_of_heap h1 1).trans rfl⟩

/-! ### Lengths -/
theorem splitB_bd (c : UInt8) : ∀ t : List UInt8, (splitB c t).length ≤ t.length + 1 ∧ ∀ x ∈ splitB c t, x.length ≤ t.length := by
  intro t
  induction t with
  | nil => exact ⟨by simp [splitB], fun x hx => by simp [splitB] at hx; subst hx; simp⟩
  | cons b t ih =>
    unfold splitB
    split
    · refine ⟨by simp; omega, fun x hx => ?_⟩
      rcases List.mem_cons.1 hx with rfl | hx
      · simp
      · have := ih.2 x hx; simp; omega
    · cases hs : splitB c t with
      | nil => exact absurd hs (splitB_ne c t)
      | cons h r =>
        rw [hs] at ih
        refine ⟨by simp [preS] at ih ⊢; omega, fun x hx => ?_⟩
        simp only [preS, List.mem_cons] at hx
        rcases hx with rfl | hx
        · have := ih.2 h List.mem_cons_self; simp; omega
        · have := ih.2 x (List.mem_cons_of_mem _ hx); simp; omega
theorem runX_snoc {L : List (List UInt8)} {k : Nat} {x : List UInt8} {s : St} (h : L[k]? = some x) :
    runX s (L.take (k + 1)) = ((lineX (runX s (L.take k)).1 (splitB 32 x)).1, (runX s (L.take k)).2 ++ ((lineX (runX s (L.take k)).1 (splitB 32 x)).2 ++ [10])) := by
  rw [take_snoc h, runX_append]; simp [runX]

/-- Where Execute stands. -/
def EI (w wr : World) (N : Nat) (LC : Array Value) (s : St) (o : List UInt8) : Prop := Scr wr N s ∧ Bd wr (N + 1) o ∧ wr.heap[N + 1 + 1]? = some (.cells LC 9 (0, 0)) ∧ Below N w wr
theorem EI.start (w : World) (LC : Array Value) : EI w (((w.alloc (.cells #[.slice none 0 0, .slice none 0 0] 53)).alloc (.cells #[.pointer none, .slice none 0 0] 56)).alloc (.cells LC 9)) w.heap.size LC st0 [] := by
  have h1 := (MapKept.heap_alloc w (.cells #[.slice none 0 0, .slice none 0 0] 53)).1
  have z1 : (w.alloc (.cells #[.slice none 0 0, .slice none 0 0] 53)).heap.size = w.heap.size + 1 := by simp
  have S1 : Scr (w.alloc (.cells #[.slice none 0 0, .slice none 0 0] 53)) w.heap.size st0 := ⟨none, 0, 0, none, 0, 0, h1, Own.nil_ _ _ _ _ _, Own.nil_ _ _ _ _ _⟩
  have B1 : Below w.heap.size w (w.alloc (.cells #[.slice none 0 0, .slice none 0 0] 53)) := (Below.refl _ w).alloc (Nat.le_refl _) _
  generalize w.alloc (.cells #[.slice none 0 0, .slice none 0 0] 53) = w1 at h1 z1 S1 B1 ⊢
  have D2 := Bd.fresh w1
  have z2 : (w1.alloc (.cells #[.pointer none, .slice none 0 0] 56)).heap.size = w.heap.size + 1 + 1 := by simp [z1]
  have b2 : Below w1.heap.size w1 (w1.alloc (.cells #[.pointer none, .slice none 0 0] 56)) := (Below.refl _ w1).alloc (Nat.le_refl _) _
  have S2 := S1.below b2 (Nat.le_refl _)
  have B2 := B1.trans (b2.mono B1.size)
  rw [z1] at D2
  generalize w1.alloc (.cells #[.pointer none, .slice none 0 0] 56) = w2 at D2 z2 S2 B2 ⊢
  have b3 : Below w2.heap.size w2 (w2.alloc (.cells LC 9)) := (Below.refl _ w2).alloc (Nat.le_refl _) _
  have h3 := (MapKept.heap_alloc w2 (.cells LC 9)).1
  rw [z2] at h3
  exact ⟨S2.below b3 (Nat.le_refl _), D2.below b3 (Nat.le_refl _), h3, B2.trans (b3.mono B2.size)⟩
theorem grown_other {w w' : World} {g k : Nat} {o : Obj} (h : w.heap[k]? = some o) (hg : w.grownBy w' (some g)) (hne : k ≠ g) : w'.heap[k]? = some o :=
  (hg.block k (Array.getElem?_eq_some_iff.1 h).1 (fun e => hne (by injection e))).trans h

set_option maxRecDepth 100000 in
set_option maxHeartbeats 8000000 in
theorem implExecute_any (t : List UInt8) (hl : t.length ≤ 500) (w : World) (hT : Tab w) (hE : Errs w)
    (H : ∀ j x, (linesX t)[j]? = some x → LineOk (runX st0 ((linesX t).take j)).1 (splitB 32 x)) (hok : (runX st0 (linesX t)).1.core.length ≤ 10000 ∧ (runX st0 (linesX t)).1.lays.length ≤ 10000) :
    Calls Tryz.prog 15 #[.string (tx t)] w fun e w' => e = .returned (.string (tx (execT t))) ∧ Below w.heap.size w w' := by
  have hX := Lib.hid (show execT t = (runX st0 (linesX t)).2 ++ endT (runX st0 (linesX t)).1 by unfold execT; rw [if_neg (by omega)])
  obtain ⟨b1, b2⟩ := splitB_bd 10 t
  have hz : (tx t).size = t.length := tx_size t
  have f0 : ¬ (500 < ((tx t).size : Int)) := by omega
  have C1 := Lib.hid (fun W => split_any t 10 (by omega) W)
  obtain ⟨S, hS⟩ : ∃ S, S = splitB 10 t := ⟨_, rfl⟩
  have hS0 : S ≠ [] := by rw [hS]; exact splitB_ne 10 t
  have hSL : linesX t = S.dropLast := by rw [hS]; rfl
  rw [← hS] at C1 b1 b2
  rw [hSL] at H hok hX
  obtain ⟨m, hm⟩ : ∃ m, S.length = m + 1 := ⟨S.length - 1, by have := List.length_pos_iff.2 hS0; omega⟩
  have hd : ∀ j, j < m → S.dropLast[j]? = S[j]? := fun j hj => by rw [List.dropLast_eq_take, List.getElem?_take, if_pos (by omega)]
  have hdl : S.dropLast.length = m := by rw [List.length_dropLast, hm]; rfl
  rw [hm] at b1 C1
  have HT := Lib.hid hT
  have HEr := Lib.hid hE
  have HH := Lib.hid H
  have HD := Lib.hid hd
  have HB := Lib.hid b2
  have HOK := Lib.hid hok
  clear hT hE H hd b2 hok hS hSL hS0
  go_enter Tryz.func15, Tryz.ntmps15
  go_wp2_with (go_at_call 44; refine (C1.out _).mono ?_; rintro e w' ⟨rfl, rfl⟩)
  have E0 := Lib.hid (EI.start w (List.map (fun x => Value.string (tx x)) S).toArray)
  generalize (((w.alloc (.cells #[.slice none 0 0, .slice none 0 0] 53)).alloc (.cells #[.pointer none, .slice none 0 0] 56)).alloc (.cells (List.map (fun x => Value.string (tx x)) S).toArray 9)) = w0 at E0 ⊢
  obtain ⟨N, hN⟩ : ∃ N, N = w.heap.size := ⟨_, rfl⟩
  rw [← hN] at E0
  simp only [← hN]
  have HN := Lib.hid hN
  clear hN C1
  go_loopw [7, 8, 9, 21] (fun _ _ _ i wr => ∃ j : Nat, j ≤ m ∧ i = .int .i64 j ∧ EI w wr N (List.map (fun x => Value.string (tx x)) S).toArray (runX st0 (S.dropLast.take j)).1 (runX st0 (S.dropLast.take j)).2 ∧ (runX st0 (S.dropLast.take j)).2.length ≤ 1001 * j) (fun _ _ _ i _ => m - (intOf i).toNat)
  case atStart => exact ⟨0, Nat.zero_le _, rfl, E0.out, by simp [runX]⟩
  case round =>
    obtain ⟨j, hj, rfl, ⟨hs, hB, hL, hb⟩, hlen⟩ := hrel
    by_cases hlt : j < m
    · obtain ⟨x, hx⟩ : ∃ x, S[j]? = some x := ⟨S[j]'(by omega), List.getElem?_eq_getElem (by omega)⟩
      have hx' := (HD.out j hlt).trans hx
      obtain ⟨hlo, HLN⟩ := HH.out j x hx'
      have hsn := runX_snoc (s := st0) hx'
      have hxl := HB.out x (List.mem_of_getElem? hx)
      have cx : wr.cell? ⟨N + 1 + 1, j, none⟩ = some (.string (tx x)) := by rw [Lib.cell_of_heap hL]; simp [hx]
      have C2 := Lib.hid (fun W => split_any x 32 (by omega) W)
      have ij : (j : Int) < (m : Int) := by omega
      have ij0 : (0 : Int) ≤ (j : Int) := by omega
      obtain ⟨s, hss⟩ : ∃ s, s = (runX st0 (S.dropLast.take j)).1 := ⟨_, rfl⟩
      obtain ⟨o, ho⟩ : ∃ o, o = (runX st0 (S.dropLast.take j)).2 := ⟨_, rfl⟩
      rw [← hss] at hs hlo HLN hsn
      rw [← ho] at hB hlen hsn
      have lL := (Array.getElem?_eq_some_iff.1 hL).1
      have bA : Below wr.heap.size wr (wr.alloc (.cells ((splitB 32 x).map fun x => Value.string (tx x)).toArray 9)) := (Below.refl _ wr).alloc (Nat.le_refl _) _
      have hNz : N + 1 + 1 < wr.heap.size := lL
      have kA := (MapKept.heap_alloc wr (.cells ((splitB 32 x).map fun x => Value.string (tx x)).toArray 9)).1
      have K := Lib.hid (HLN _ N wr.heap.size (hs.below bA (Nat.le_refl _)) (HT.out.below (hb.trans (bA.mono (by omega))) (by rw [HN.out]; exact Nat.le_refl _)) (HEr.out.below (hb.trans (bA.mono (by omega))) (by rw [HN.out]; exact Nat.le_refl _)) (by omega) kA)
      have BA := Lib.hid (And.intro (hB.below bA (Nat.le_refl _)) (And.intro ((bA.block _ lL).trans hL) (hb.trans (bA.mono (by omega)))))
      have HSN := Lib.hid hsn
      have HLO := Lib.hid hlo
      clear hs hB hL hb bA kA HLN hss ho hsn hlo lL hx hx' hxl
      go_wp2_with (go_at_call 44; refine (C2.out _).mono ?_; rintro e w' ⟨rfl, rfl⟩)
      refine K.out.mono ?_
      rintro e w3 ⟨r, ok, rfl, hif, s3, g3⟩
      obtain ⟨B2, L2, b2⟩ := BA.out
      have B3 := B2.grown g3 (by omega)
      have L3 := grown_other L2 g3 (by omega)
      have b3 : Below N w w3 := b2.grown g3 (by simp; omega) (fun k hk => by injection hk with hk; omega)
      generalize (lineX s (splitB 32 x)).1 = s' at s3 HSN
      obtain ⟨r2, hr2⟩ : ∃ r2, r2 = (lineX s (splitB 32 x)).2 := ⟨_, rfl⟩
      rw [← hr2] at hif HSN HLO
      have hr : r2.length ≤ 1000 := HLO.out
      have W4 := Lib.hid (wstr_keep (N + 1) o (r2 ++ [10]) w3 B3 (by simp; omega))
      have A1 : ∀ W : World, (Op.stringOp .add (tx r2) ⟨#[10]⟩).run Tryz.prog W = .ok (.string (tx (r2 ++ [10]))) W := add_at (tx r2) (tx [10]) _ (by rw [tx_size, tx_size]; simp; omega) (tx_add _ _)
      clear K BA C2 cx B2 L2 b2 hr2 g3
      cases ok with
      | true =>
        simp only [if_true] at hif
        subst hif
        go_wp2_with (go_at_call 46; refine W4.out.mono ?_; rintro e w4 ⟨rfl, B4, b4, k4⟩)
        go_roundw
        case rel => exact ⟨j + 1, by omega, by go_num, by rw [HSN.out]; exact ⟨s3.keeps B3 k4 (by omega), B4, (k4 _ _ _ _ (by omega) L3 (by decide)).trans L3, b3.trans (b4.mono (by omega))⟩, by rw [HSN.out]; simp; omega⟩
        case measure => simp [intOf]; omega
      | false =>
        simp only [Bool.false_eq_true, if_false] at hif
        subst hif
        have A2 : ∀ W : World, (Op.stringOp .add ⟨#[110, 111]⟩ ⟨#[10]⟩).run Tryz.prog W = .ok (.string (tx (noT ++ [10]))) W := A1
        go_wp2_with (go_at_call 46; refine W4.out.mono ?_; rintro e w4 ⟨rfl, B4, b4, k4⟩)
        go_roundw
        case rel => exact ⟨j + 1, by omega, by go_num, by rw [HSN.out]; exact ⟨s3.keeps B3 k4 (by omega), B4, (k4 _ _ _ _ (by omega) L3 (by decide)).trans L3, b3.trans (b4.mono (by omega))⟩, by rw [HSN.out]; simp; omega⟩
        case measure => simp [intOf]; omega
    · obtain rfl : j = m := by omega
      have ij : ¬ ((j : Int) < (j : Int)) := by omega
      rw [List.take_of_length_le (by omega)] at hs hB hlen
      obtain ⟨k1, k2⟩ := HOK.out
      obtain ⟨s, hss⟩ : ∃ s, s = (runX st0 S.dropLast).1 := ⟨_, rfl⟩
      obtain ⟨o, ho⟩ : ∃ o, o = (runX st0 S.dropLast).2 := ⟨_, rfl⟩
      rw [← hss] at hs k1 k2 hX
      rw [← ho] at hB hlen hX
      obtain ⟨Ac, cc, Al, cl, c0, c1⟩ := hs.cells
      have lN := hs.lt
      have lL := (Array.getElem?_eq_some_iff.1 hL).1
      have hNz : N + 1 + 1 < wr.heap.size := lL
      obtain ⟨nc, hnc⟩ : ∃ nc, nc = s.core.length := ⟨_, rfl⟩
      obtain ⟨nl, hnl⟩ : ∃ nl, nl = s.lays.length := ⟨_, rfl⟩
      rw [← hnc] at c0 k1
      rw [← hnl] at c1 k2
      have HTr := Lib.hid (show Tab wr.drew from (HT.out.below hb (by rw [HN.out]; exact Nat.le_refl _)).drew)
      obtain ⟨X, hXx⟩ : ∃ X, X = tx (Lib.decDigits nc) := ⟨_, rfl⟩
      obtain ⟨Y, hYy⟩ : ∃ Y, Y = tx (Lib.decDigits nl) := ⟨_, rfl⟩
      have I1 := Lib.hid (fun W hT => itoaB_any nc (by omega) W hT)
      have I2 := Lib.hid (fun W hT => itoaB_any nl (by omega) W hT)
      rw [← hXx] at I1
      rw [← hYy] at I2
      have xz : X.size ≤ 8 := by rw [hXx, tx_size]; exact dec_len 7 nc (by omega)
      have yz : Y.size ≤ 8 := by rw [hYy, tx_size]; exact dec_len 7 nl (by omega)
      have pz : (ByteArray.mk #[112, 105, 101, 99, 101, 115, 32]).size = 7 := rfl
      have qz : (ByteArray.mk #[32, 108, 97, 121, 101, 114, 115, 32]).size = 8 := rfl
      have nz : (ByteArray.mk #[10]).size = 1 := rfl
      obtain ⟨T1, h1⟩ : ∃ T, T = (ByteArray.mk #[112, 105, 101, 99, 101, 115, 32]) ++ X := ⟨_, rfl⟩
      obtain ⟨T2, h2⟩ : ∃ T, T = T1 ++ (ByteArray.mk #[32, 108, 97, 121, 101, 114, 115, 32]) := ⟨_, rfl⟩
      obtain ⟨T3, h3⟩ : ∃ T, T = T2 ++ Y := ⟨_, rfl⟩
      have z1 : T1.size ≤ 15 := by rw [h1, ByteArray.size_append]; omega
      have z2 : T2.size ≤ 23 := by rw [h2, ByteArray.size_append]; omega
      have z3 : T3.size ≤ 31 := by rw [h3, ByteArray.size_append]; omega
      have hfin : T3 ++ (ByteArray.mk #[10]) = tx (endT s) := by
        rw [h3, h2, h1, hXx, hYy]
        show tx [112, 105, 101, 99, 101, 115, 32] ++ tx _ ++ tx [32, 108, 97, 121, 101, 114, 115, 32] ++ tx _ ++ tx [10] = _
        rw [tx_add, tx_add, tx_add, tx_add, hnc, hnl]
        rfl
      have A1 := add_at (ByteArray.mk #[112, 105, 101, 99, 101, 115, 32]) X T1 (by omega) h1.symm
      have A2 := add_at T1 (ByteArray.mk #[32, 108, 97, 121, 101, 114, 115, 32]) T2 (by omega) h2.symm
      have A3 := add_at T2 Y T3 (by omega) h3.symm
      have A4 := add_at T3 (ByteArray.mk #[10]) (tx (endT s)) (by omega) hfin
      have ez : (endT s).length ≤ 1000 := by rw [← tx_size, ← hfin, ByteArray.size_append]; omega
      have BS := Lib.hid (fun W => wstr_any (N + 1) o (endT s) W)
      obtain ⟨TE, hTE⟩ : ∃ TE, TE = tx (endT s) := ⟨_, rfl⟩
      rw [← hTE] at A4 BS
      have HBd := Lib.hid hB
      have HBW := Lib.hid hb
      have HLen := Lib.hid (show o.length + (endT s).length ≤ 1000000 by omega)
      have HE := Lib.hid (show tx (o ++ endT s) = tx (execT t) by rw [hX.out])
      have G1 : Below (N + 1) wr wr := Below.refl _ _
      clear hXx hYy h1 h2 h3 hfin pz qz nz xz yz z1 z2 z3 hTE hss ho hlen hX hnc hnl hs hB hL hb ez HOK HB HH HD E0
      go_wp2_with fail
      go_region_held3 (fun w' => w'.cell? ⟨N, 0, none⟩ = some (.slice Ac nc cc) ∧ w'.cell? ⟨N, 1, none⟩ = some (.slice Al nl cl)) (first | (go_keep; done) | (refine ⟨(Below.cell (B := wr.heap.size) (p := ⟨N, 0, none⟩) ?_ (by exact lN)).trans c0, (Below.cell (B := wr.heap.size) (p := ⟨N, 1, none⟩) ?_ (by exact lN)).trans c1⟩ <;> (go_grown; done)) | (refine ⟨(Below.cell (B := N + 1) (p := ⟨N, 0, none⟩) S4 (by exact Nat.lt_succ_self _)).trans c0, (Below.cell (B := N + 1) (p := ⟨N, 1, none⟩) S4 (by exact Nat.lt_succ_self _)).trans c1⟩)) (first
        | (go_at_call 47; refine ((by first | exact I1.out _ HTr.out | exact I2.out _ HTr.out) : Calls _ _ _ wr.drew _).mono ?_; rintro e w2 ⟨rfl, b2⟩; have S2 : Below wr.heap.size wr w2 := ((Below.refl wr.heap.size wr).drew).trans b2; have T2' := Lib.hid (HTr.out.below b2 (Nat.le_refl _)); have z2 := S2.size)
        | (go_at_call 47; refine ((by first | exact I1.out _ T2'.out | exact I2.out _ T2'.out) : Calls _ _ _ w2 _).mono ?_; rintro e w3 ⟨rfl, b3⟩; have S3 : Below wr.heap.size wr w3 := S2.trans (b3.mono z2); have z3 := S3.size)
        | (go_at_call 46; refine (BS.out w3 (HBd.out.below S3 (Nat.le_refl _)) HLen.out).mono ?_; rintro e w4 ⟨rfl, B4, b4⟩; have S4 : Below (N + 1) wr w4 := (S3.mono (by omega)).trans b4))
      all_goals
        have HB4 := Lib.hid B4
        have HS4 := Lib.hid S4
        clear B4 S4 b4 S3 S2 b3 b2 A1 A2 A3 A4
        go_wp2_with (go_at_call 48; refine (bstr_any (N + 1) _ w4 HB4.out).mono ?_; rintro e w5 ⟨rfl, b5⟩)
        go_ret
        exact ⟨ret_str HE.out, (HBW.out.trans ((HS4.out.trans b5).mono (by omega))).mono (by rw [HN.out]; exact Nat.le_refl _)⟩
theorem run_small (ls : List (List UInt8)) : (runX st0 ls).1.core.length ≤ 10000 ∧ (runX st0 ls).1.lays.length ≤ 10000 := by
  obtain ⟨h1, h2⟩ := runX_ok (ls := ls) st0_ok
  have := ((coreB_iff _).1 h1).2
  have := ((layB_iff _).1 h2).2
  omega
end Go.Proofs.YtefadlbfkhndfaaGreatDoor

/-
  Contracts: slices.Clone at rows of pieces; (*script).setCore.
-/
namespace Go.Proofs.YtefadlbfkhndfaaGreatDoor
open Go.RowKit
set_option linter.unusedSimpArgs false
set_option linter.unusedVariables false

theorem infoPieceC : (Tryz.prog.info? 69).map (fun i => (i.zero, i.size, i.bytes)) = some (some (.agg #[.int .i64 0, .int .i64 0]), 2, 16) := by kernel_rfl

set_option maxRecDepth 100000 in
set_option maxHeartbeats 2000000 in
theorem cloneP_any (base : Nat) (A : Option Addr) (n c : Nat) (l : List Pc) (w : World) (h : Own PP 2 w base 69 (.slice A n c) n l) (hn : n ≤ 1000) :
    Calls Tryz.prog 65 #[.slice A n c] w fun e w' => ∃ A' c', e = .returned (.slice A' n c') ∧ Own PP 2 w' w.heap.size 69 (.slice A' n c') n l ∧ Below w.heap.size w w' := by
  obtain ⟨i0, hi, hz0, hz1, hz2⟩ := info_parts infoPieceC
  have hA := h.arr PP_length
  rcases h.2.2 with ⟨e0, hn0⟩ | ⟨g, cap, cur, hv, _⟩
  · injection e0 with e1 e2 e3
    subst e1
    subst e2
    subst e3
    have hl0 : l = [] := List.eq_nil_of_length_eq_zero h.1
    subst hl0
    clear h hA
    have eN := fun W => Go.Lib.run_eql_slice_nil_nil (P := Tryz.prog) W 0 0 Tryz.underlying37
    go_enter Tryz.func65, Tryz.ntmps65
    go_wp2
    go_ret
    exact ⟨none, 0, rfl, Own.nil_ _ _ _ _ _, Below.refl _ _⟩
  · injection hv with e1 e2 e3
    subst e1
    clear h e2 e3
    have hA' := hA.alloc (Nat.le_refl _) (.cells #[] 69)
    have hM := Own.made PP 2 w w.heap.size 69 (Nat.le_refl _)
    have eS := fun W => Go.Lib.run_eql_slice_some_nil (P := Tryz.prog) W ⟨g, 0, none⟩ n c Tryz.underlying37
    have hB := (Below.refl w.heap.size w).alloc (Nat.le_refl _) (.cells #[] 69)
    go_enter Tryz.func65, Tryz.ntmps65
    go_wp2_with (at_builtin; refine wpList_append_arr _ rfl _ _ 37 rfl w.heap.size 69 i0 (.agg #[.int .i64 0, .int .i64 0]) 2 16 Tryz.underlying37 hi hz0 hz1 hz2 rfl (by decide) PP_length one_PP' _ 0 [] rfl hM w.heap.size _ n c l rfl hA' (by unfold maxLen; omega) (by omega) (by simp) ?_)
    intro v' w2 hO hg _
    have hB2 := hB.grown hg (by simp) (fun k hk => (hM.2.lt k hk).1)
    obtain ⟨A', c', rfl, _, _⟩ := hO.form
    clear hM hB hA hA'
    go_wp2
    go_ret
    exact ⟨A', c', rfl, hO, hB2⟩

theorem Scr.frozen {w : World} {g : Nat} {s : St} (h : Scr w g s) (i : Nat) : w.frozen? ⟨g, i, none⟩ = false := by
  obtain ⟨Ac, nc, cc, Al, nl, cl, h1, h2, h3⟩ := h
  exact Lib.frozen_of_heap h1 i
theorem setCell_grown (w : World) (g i : Nat) (v : Value) : w.grownBy (w.setCell ⟨g, i, none⟩ v) (some g) :=
  ⟨rfl, rfl, rfl, by simp [World.setCell], fun k _ hk => Below.heap_setCell _ _ _ _ (fun e => hk (by simp [e]))⟩
theorem Scr.setCore {w : World} {g : Nat} {s : St} (h : Scr w g s) {A : Option Addr} {n c : Nat} {l : List Pc} (hO : Own PP 2 w (g + 1) 69 (.slice A n c) n l) : Scr (w.setCell ⟨g, 0, none⟩ (.slice A n c)) g { s with core := l } := by
  obtain ⟨Ac, nc, cc, Al, nl, cl, h1, h2, h3⟩ := h
  have hg := setCell_grown w g 0 (.slice A n c)
  exact ⟨A, n, c, Al, nl, cl, Lib.heap_setCell_same h1 _, hO.kept hg (fun k hk => by injection hk with hk; omega), h3.kept hg (fun k hk => by injection hk with hk; omega)⟩

set_option maxHeartbeats 2000000 in
theorem setCore_yes (g : Nat) (s : St) (A : Option Addr) (n c : Nat) (w : World) (h : Scr w g s) :
    Calls Tryz.prog 77 #[.pointer (some ⟨g, 0, none⟩), .slice A n c, .bool true] w fun e w' => e = .returned (.tuple #[.string ⟨#[111, 107]⟩, .bool true]) ∧ w' = w.setCell ⟨g, 0, none⟩ (.slice A n c) := by
  obtain ⟨A0, c0, A1, c1, x0, x1⟩ := h.cells
  have hf := h.frozen 0
  clear h
  go_enter Tryz.func77, Tryz.ntmps77
  go_wp2
  go_ret2
  exact ⟨rfl, rfl⟩
set_option maxHeartbeats 2000000 in
theorem setCore_no (g : Nat) (A : Option Addr) (n c : Nat) (w : World) :
    Calls Tryz.prog 77 #[.pointer (some ⟨g, 0, none⟩), .slice A n c, .bool false] w fun e w' => e = .returned (.tuple #[.string ⟨#[111, 107]⟩, .bool false]) ∧ w' = w := by
  go_enter Tryz.func77, Tryz.ntmps77
  go_wp2
  go_ret2
  exact ⟨rfl, rfl⟩
end Go.Proofs.YtefadlbfkhndfaaGreatDoor

/-
  Contracts: slices.Clone at rows of layers; the script's layers set.
-/
namespace Go.Proofs.YtefadlbfkhndfaaGreatDoor
open Go.RowKit
set_option linter.unusedSimpArgs false
set_option linter.unusedVariables false

theorem infoLayerC : (Tryz.prog.info? 73).map (fun i => (i.zero, i.size, i.bytes)) = some (some (.agg #[.int .i64 0, .bool false]), 2, 16) := by kernel_rfl

set_option maxRecDepth 100000 in
set_option maxHeartbeats 2000000 in
theorem cloneL_any (base : Nat) (A : Option Addr) (n c : Nat) (l : List Ly) (w : World) (h : Own LL 2 w base 73 (.slice A n c) n l) (hn : n ≤ 1000) :
    Calls Tryz.prog 103 #[.slice A n c] w fun e w' => ∃ A' c', e = .returned (.slice A' n c') ∧ Own LL 2 w' w.heap.size 73 (.slice A' n c') n l ∧ Below w.heap.size w w' := by
  obtain ⟨i0, hi, hz0, hz1, hz2⟩ := info_parts infoLayerC
  have hA := h.arr LL_length
  rcases h.2.2 with ⟨e0, hn0⟩ | ⟨g, cap, cur, hv, _⟩
  · injection e0 with e1 e2 e3
    subst e1
    subst e2
    subst e3
    have hl0 : l = [] := List.eq_nil_of_length_eq_zero h.1
    subst hl0
    clear h hA
    have eN := fun W => Go.Lib.run_eql_slice_nil_nil (P := Tryz.prog) W 0 0 Tryz.underlying27
    go_enter Tryz.func103, Tryz.ntmps103
    go_wp2
    go_ret
    exact ⟨none, 0, rfl, Own.nil_ _ _ _ _ _, Below.refl _ _⟩
  · injection hv with e1 e2 e3
    subst e1
    clear h e2 e3
    have hA' := hA.alloc (Nat.le_refl _) (.cells #[] 73)
    have hM := Own.made LL 2 w w.heap.size 73 (Nat.le_refl _)
    have eS := fun W => Go.Lib.run_eql_slice_some_nil (P := Tryz.prog) W ⟨g, 0, none⟩ n c Tryz.underlying27
    have hB := (Below.refl w.heap.size w).alloc (Nat.le_refl _) (.cells #[] 73)
    go_enter Tryz.func103, Tryz.ntmps103
    go_wp2_with (at_builtin; refine wpList_append_arr _ rfl _ _ 27 rfl w.heap.size 73 i0 (.agg #[.int .i64 0, .bool false]) 2 16 Tryz.underlying27 hi hz0 hz1 hz2 rfl (by decide) LL_length one_LL' _ 0 [] rfl hM w.heap.size _ n c l rfl hA' (by unfold maxLen; omega) (by omega) (by simp) ?_)
    intro v' w2 hO hg _
    have hB2 := hB.grown hg (by simp) (fun k hk => (hM.2.lt k hk).1)
    obtain ⟨A', c', rfl, _, _⟩ := hO.form
    clear hM hB hA hA'
    go_wp2
    go_ret
    exact ⟨A', c', rfl, hO, hB2⟩

theorem Scr.setLays {w : World} {g : Nat} {s : St} (h : Scr w g s) {A : Option Addr} {n c : Nat} {l : List Ly} (hO : Own LL 2 w (g + 1) 73 (.slice A n c) n l) : Scr (w.setCell ⟨g, 1, none⟩ (.slice A n c)) g { s with lays := l } := by
  obtain ⟨Ac, nc, cc, Al, nl, cl, h1, h2, h3⟩ := h
  have hg := setCell_grown w g 1 (.slice A n c)
  exact ⟨Ac, nc, cc, A, n, c, Lib.heap_setCell_same h1 _, h2.kept hg (fun k hk => by injection hk with hk; omega), hO.kept hg (fun k hk => by injection hk with hk; omega)⟩
theorem Scr.laysOwn {w : World} {g : Nat} {s : St} (h : Scr w g s) : ∃ Al cl, w.cell? ⟨g, 1, none⟩ = some (.slice Al s.lays.length cl) ∧ Own LL 2 w (g + 1) 73 (.slice Al s.lays.length cl) s.lays.length s.lays := by
  obtain ⟨Ac, nc, cc, Al, nl, cl, h1, h2, h3⟩ := h
  have e := h3.1
  subst e
  exact ⟨Al, cl, (Lib.cell_of_heap h1 1).trans rfl, h3⟩
end Go.Proofs.YtefadlbfkhndfaaGreatDoor
