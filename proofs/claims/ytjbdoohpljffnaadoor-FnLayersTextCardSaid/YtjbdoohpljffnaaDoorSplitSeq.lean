/-
  Contract: strings.SplitSeq at a separator of one byte: what the function value that it hands back does.
-/
import Derived.Test.YtjbdoohpljffnaaDoorSeqLaw
import Derived.Test.YtjbdoohpljffnaaDoorSplitP
import Derived.Test.YtjbdoohpljffnaaDoorShelf
import Derived.Shelf.RegionOpen
import Derived.OwnWalkIn
import Derived.TacticsInMore
import Derived.LoopNIn
import Derived.LoopIn
import Derived.WalkKit
namespace Go.Proofs.YtjbdoohpljffnaaDoor
open Go.RowKit Go.Shelf
set_option linter.unusedSimpArgs false
set_option linter.unusedVariables false
attribute [local go_sem] Oper.semAt_some

theorem txl (l : List UInt8) : (tx l).data.toList = l := by simp [tx]
theorem tx_extract (l : List UInt8) (a b : Nat) : (tx l).extract a b = tx ((l.drop a).take (b - a)) := by
  apply ByteArray.ext
  apply Array.toList_inj.1
  rw [Lib.extract_data, txl, txl]
/-- The blocks from lo to hi lie as they lay. -/
def SameIn (lo hi : Nat) (A B : World) : Prop := ∀ k, lo ≤ k → k < hi → B.heap[k]? = A.heap[k]?
theorem SameIn.trans {lo hi : Nat} {A B C : World} (h : SameIn lo hi A B) (k : SameIn lo hi B C) : SameIn lo hi A C := fun i h1 h2 => (k i h1 h2).trans (h i h1 h2)
theorem SameIn.boxed {lo hi : Nat} {A B : World} (h : SameIn lo hi A B) {k : Nat} {T : TypeId} {v : Value} (hk : Boxed A k T v) (h1 : lo ≤ k) (h2 : k < hi) : Boxed B k T v := (h k h1 h2).trans hk
/-- How much is left in the cell. -/
def leftS (W : World) (b : Nat) : Nat := match W.cell? ⟨b, 0, none⟩ with | some (.string s) => s.size + 1 | _ => 0
theorem leftS_eq {W : World} {b : Nat} {T : TypeId} {l : List UInt8} (h : Boxed W b T (.string (tx l))) : leftS W b = l.length + 1 := by
  unfold leftS; rw [h.cell]; simp [tx_size]

set_option maxRecDepth 100000 in
set_option maxHeartbeats 2000000 in
theorem splitSeq1_in (n : Nat) (hn : 1 ≤ n) (l B : Nat) (s0 : List UInt8) (hs0 : s0.length ≤ 2000000) (J Jx : List (List UInt8) → World → Prop)
    (hJs : ∀ s V u, J s V → J s (V.setCell ⟨B, 0, none⟩ u))
    (hY : ∀ pre x V, pre ++ [x] <+: splitB 10 s0 → J pre V → YieldAt Fence.wide (n - 1) Tryd.prog l #[.string (tx x)] V fun e V' =>
      (e = .returned (.bool true) ∧ J (pre ++ [x]) V' ∧ SameIn B (B + 3) V V') ∨ (e = .returned (.bool false) ∧ Jx (pre ++ [x]) V'))
    (W : World) (hBs : Boxed W B 9 (.string (tx s0))) (hBp : Boxed W (B + 1) 9 (.string ⟨#[10]⟩)) (hBv : Boxed W (B + 2) 3 (.int .i64 0)) (h0 : J [] W) :
    CallsIn Fence.wide n Tryd.prog 94 #[.func (.yield l) #[] #[], .pointer (some ⟨B + 1, 0, none⟩), .pointer (some ⟨B, 0, none⟩), .pointer (some ⟨B + 2, 0, none⟩)] W fun e W' => (∃ v, e = .returned v) ∧
      (J (splitB 10 s0) W' ∨ ∃ pre, Jx pre W') := by
  refine callsIn_of_wp Tryd.func94 rfl trivial ?_ rfl
  simp only [Tryd.ntmps94, List.size_toArray, List.length_cons, List.length_nil, Nat.reduceAdd, Nat.reduceSub, Array.replicate_succ, Array.replicate_zero, List.push_toArray, List.append_toArray, List.nil_append, List.cons_append]
  have cs := hBs.cell
  have cp := hBp.cell
  have cv := hBv.cell
  gi_wp2
  gi_loopw [] (fun wr => ∃ (pre : List (List UInt8)) (rest : List UInt8), splitB 10 s0 = pre ++ splitB 10 rest ∧ rest.length ≤ s0.length ∧ Boxed wr B 9 (.string (tx rest)) ∧ Boxed wr (B + 1) 9 (.string ⟨#[10]⟩) ∧ Boxed wr (B + 2) 3 (.int .i64 0) ∧ J pre wr)
    (fun wr => leftS wr B)
  case atStart => exact ⟨[], s0, rfl, Nat.le_refl _, hBs, hBp, hBv, h0⟩
  case round =>
    obtain ⟨pre, rest, hsp, hlen, hS, hP, hV, hJ⟩ := hrel
    have cs1 := hS.cell
    have cp1 := hP.cell
    have cv1 := hV.cell
    have fs1 := hS.frozen
    have K := Lib.hid (Tryd.strings_Index_one (tx rest) 10 wr)
    rcases split_idx 10 rest with ⟨hi, h2⟩ | ⟨k, hi, hk, h2⟩
    · rw [txl, hi] at K
      obtain ⟨fn, tmps, assign, body, hy, hR⟩ := hY pre rest wr (by rw [hsp, h2]; exact List.prefix_refl _) hJ
      gi_wp2_with (refine ⟨trivial, ?_⟩; gi_at_call 96; refine (callsIn_wide.2 K.out).mono ?_; rintro e w' ⟨rfl, rfl⟩)
      refine hR.mono ?_
      rintro e W3 (⟨rfl, hJ3, hk3⟩ | ⟨rfl, hJx3⟩)
      · gi_wp2
        go_end0
        exact ⟨⟨_, rfl⟩, .inl (by rw [hsp, h2]; exact hJ3)⟩
      · gi_wp2
        go_end0
        exact ⟨⟨_, rfl⟩, .inr ⟨_, hJx3⟩⟩
    · rw [txl, hi] at K
      have kz : k ≤ (tx rest).size := by rw [tx_size]; omega
      have kz1 : k + 1 ≤ (tx rest).size := by rw [tx_size]; omega
      have k0 : (0 : Int) ≤ (k : Int) := by omega
      have hw1 : IntKind.i64.wrap ((k : Int) + 1) = (k : Int) + 1 := IntWalk.i64_in _ ⟨by omega, by omega⟩
      have hw0 : IntKind.i64.wrap ((k : Int) + 0) = (k : Int) := by rw [Int.add_zero]; exact IntWalk.i64_in _ ⟨by omega, by omega⟩
      obtain ⟨fn, tmps, assign, body, hy, hR⟩ := hY pre (rest.take k) wr (by rw [hsp, h2]; exact ⟨splitB 10 (rest.drop (k + 1)), by simp⟩) hJ
      have e1 : tx (rest.take k) = (tx rest).extract 0 k := by rw [tx_extract]; simp
      rw [e1] at hy
      gi_wp2_with (refine ⟨trivial, ?_⟩; gi_at_call 96; refine (callsIn_wide.2 K.out).mono ?_; rintro e w' ⟨rfl, rfl⟩)
      refine hR.mono ?_
      rintro e W3 (⟨rfl, hJ3, hk3⟩ | ⟨rfl, hJx3⟩)
      · have hS3 := hk3.boxed hS (Nat.le_refl _) (by omega)
        have hP3 := hk3.boxed hP (by omega) (by omega)
        have hV3 := hk3.boxed hV (by omega) (by omega)
        have cs3 := hS3.cell
        have cp3 := hP3.cell
        have fs3 := hS3.frozen
        clear hR hy K
        have e2 : (tx rest).extract (k + 1) (tx rest).size = tx (rest.drop (k + 1)) := by rw [tx_extract, List.take_of_length_le (by rw [List.length_drop, tx_size]; exact Nat.le_refl _)]
        gi_wp2
        go_roundw
        case rel =>
          exact ⟨pre ++ [rest.take k], rest.drop (k + 1), by rw [hsp, h2]; simp, by rw [List.length_drop]; omega, hS3.set _, (heap_set_other (by omega) _).trans hP3, (heap_set_other (by omega) _).trans hV3, hJs _ _ _ hJ3⟩
        case measure => rw [leftS_eq (hS3.set (.string (tx (rest.drop (k + 1))))), leftS_eq hS, List.length_drop]; omega
      · gi_wp2
        refine bodyPost_ret (results_none rfl _ _ _) rfl ?_
        exact ⟨⟨_, rfl⟩, .inr ⟨_, hJx3⟩⟩

/-- Three boxes: what is left of the text, the separator, and how much of it stays. -/
def Boxes3 (B : Nat) (s0 : List UInt8) (w : World) : Prop := Boxed w B 9 (.string (tx s0)) ∧ Boxed w (B + 1) 9 (.string ⟨#[10]⟩) ∧ Boxed w (B + 2) 3 (.int .i64 0)
theorem splitSeq_cell (n : Nat) (hn : 1 ≤ n) (s0 : List UInt8) (hs0 : s0.length ≤ 2000000) (B : Nat) (w : World) (hB : B + 3 ≤ w.heap.size) (h : Boxes3 B s0 w) :
    SeqCell Fence.wide n Tryd.prog 94 #[.pointer (some ⟨B + 1, 0, none⟩), .pointer (some ⟨B, 0, none⟩), .pointer (some ⟨B + 2, 0, none⟩)] (fun x : List UInt8 => Value.string (tx x)) (SameIn B (B + 3)) B (splitB 10 s0) w :=
  fun l J Jx W hW hJs hY h0 => splitSeq1_in n hn l B s0 hs0 J Jx hJs hY W ((hW.block _ (by omega)).trans h.1) ((hW.block _ (by omega)).trans h.2.1) ((hW.block _ (by omega)).trans h.2.2) h0

set_option maxHeartbeats 1000000 in
theorem splitSeq_any (s0 : List UInt8) (w : World) :
    Calls Tryd.prog 69 #[.string (tx s0), .string ⟨#[10]⟩] w fun e w' =>
      e = .returned (.func (.func 94) #[] #[.pointer (some ⟨w.heap.size + 1, 0, none⟩), .pointer (some ⟨w.heap.size, 0, none⟩), .pointer (some ⟨w.heap.size + 2, 0, none⟩)]) ∧
      w' = ((w.alloc (.cells #[.string (tx s0)] 9)).alloc (.cells #[.string ⟨#[10]⟩] 9)).alloc (.cells #[.int .i64 0] 3) := by
  have inner : Calls Tryd.prog 85 #[.string (tx s0), .string ⟨#[10]⟩, .int .i64 0] w fun e w' =>
      e = .returned (.func (.func 94) #[] #[.pointer (some ⟨w.heap.size + 1, 0, none⟩), .pointer (some ⟨w.heap.size, 0, none⟩), .pointer (some ⟨w.heap.size + 2, 0, none⟩)]) ∧
      w' = ((w.alloc (.cells #[.string (tx s0)] 9)).alloc (.cells #[.string ⟨#[10]⟩] 9)).alloc (.cells #[.int .i64 0] 3) := by
    go_enter Tryd.func85, Tryd.ntmps85
    go_wp2
    go_ret
    exact ⟨by simp, rfl⟩
  go_enter Tryd.func69, Tryd.ntmps69
  go_wp2_with (go_at_call 85; refine inner.mono ?_; rintro e w' ⟨rfl, rfl⟩)
  go_ret
  exact ⟨rfl, rfl⟩
theorem boxes3_new (s0 : List UInt8) (w : World) : Boxes3 w.heap.size s0 (((w.alloc (.cells #[.string (tx s0)] 9)).alloc (.cells #[.string ⟨#[10]⟩] 9)).alloc (.cells #[.int .i64 0] 3)) := by
  have b1 := Boxed.new w 9 (.string (tx s0))
  have b2 := Boxed.new (w.alloc (.cells #[.string (tx s0)] 9)) 9 (.string ⟨#[10]⟩)
  have b3 := Boxed.new ((w.alloc (.cells #[.string (tx s0)] 9)).alloc (.cells #[.string ⟨#[10]⟩] 9)) 3 (.int .i64 0)
  rw [World.size_alloc] at b2
  rw [World.size_alloc, World.size_alloc] at b3
  exact ⟨(b1.alloc _).alloc _, b2.alloc _, b3⟩
end Go.Proofs.YtjbdoohpljffnaaDoor
