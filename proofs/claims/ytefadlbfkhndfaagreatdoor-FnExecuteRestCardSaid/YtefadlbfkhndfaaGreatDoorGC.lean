/-
  What the texts below prove: contracts and plain laws, each with its conditions.
-/
import Derived.Test.YtefadlbfkhndfaaGreatDoorGB
import Derived.Test.YtefadlbfkhndfaaGreatDoorShelf
import Derived.Lib.Builder
import Derived.Lib.AppendStr
import Derived.Lib.UnsafeStr
import Derived.Lib.Strings
import Derived.Lib.Slices
import Derived.Lib.Walk
import Derived.Laws.Externs
import Derived.Laws.IdiomCopy
import Derived.Lib.AppendIntMem
import Derived.Shelf.Strings.SplitCore
import Derived.Lib.SplitLaws
import Derived.Lib.SmallJoins
import Derived.Test.YtefadlbfkhndfaaGreatDoorGA
import Derived.Lib.Join
import Derived.Deep.RegionHeld3
import Derived.Test.YtefadlbfkhndfaaGreatDoorRows
import Derived.Shelf.Strconv.AtoiAll
import Derived.BigQuiet

/-
  Contracts: strings.Builder's WriteString, WriteByte, String at a builder that the call itself has made; strconv.Itoa at a number of few digits.
-/
namespace Go.Proofs.YtefadlbfkhndfaaGreatDoor
open Go.RowKit
set_option linter.unusedSimpArgs false
set_option linter.unusedVariables false

theorem sizeBuilder : (Tryz.prog.info? 56).map (·.size) = some 2 := by kernel_rfl
theorem liesBuilder : liesAt Tryz.prog Tryz.prog.depth 56 (2 / Tryz.prog.cellsOf 56) 0 56 1 = true := by kernel_rfl
theorem infoByte : (Tryz.prog.info? 5).map (fun i => (i.zero, i.size, i.bytes)) = some (some (.int .u8 0), 1, 1) := by kernel_rfl

set_option maxHeartbeats 1000000 in
set_option maxRecDepth 100000 in
theorem copyCheck_used (b : Nat) (w : World) (h0 : w.cell? ⟨b, 0, none⟩ = some (.pointer (some ⟨b, 0, none⟩))) :
    Calls Tryz.prog 83 #[.pointer (some ⟨b, 0, none⟩)] w fun e w' => e = .returned (.tuple #[]) ∧ w' = w := by
  obtain ⟨j, hj, _⟩ := Option.map_eq_some_iff.1 sizeBuilder
  go_enter Tryz.func83, Tryz.ntmps83
  go_wp2
  rw [Lib.run_neq_ptr_same w _ Tryz.underlying54 hj]
  go_wp2
  go_end0
  exact ⟨rfl, rfl⟩

set_option maxHeartbeats 1000000 in
set_option maxRecDepth 100000 in
theorem copyCheck_fresh (b : Nat) (w : World) (h0 : w.cell? ⟨b, 0, none⟩ = some (.pointer none)) (hsh : w.shape? b = some (56, 2)) (hfz : w.frozen? ⟨b, 0, none⟩ = false) :
    Calls Tryz.prog 83 #[.pointer (some ⟨b, 0, none⟩)] w fun e w' => e = .returned (.tuple #[]) ∧ w' = w.setCell ⟨b, 0, none⟩ (.pointer (some ⟨b, 0, none⟩)) := by
  obtain ⟨j, hj, hjs⟩ := Option.map_eq_some_iff.1 sizeBuilder
  go_enter Tryz.func83, Tryz.ntmps83
  go_wp2
  rw [Lib.run_to_unsafe w ⟨b, 0, none⟩ Tryz.underlying54 Tryz.underlying117 hj (by rw [hjs]; decide) hsh (Nat.zero_lt_succ 1)]
  simp only [Result.andThen]
  rw [Oper.upon_value]
  go_wp2
  rw [run_callFunc_extern Tryz.func105 (by kernel_rfl) (by kernel_rfl) (by kernel_rfl) (e := Extern.AbiNoEscape.same) (by kernel_rfl)]
  rw [Lib.run_noEscape]
  simp only [Result.andThen]
  rw [Oper.upon_value]
  go_wp2
  rw [Lib.run_from_unsafe w ⟨b, 0, none⟩ Tryz.underlying117 Tryz.underlying54 hj hsh liesBuilder]
  simp only [Result.andThen]
  rw [Oper.upon_value]
  go_wp2
  go_end0
  exact ⟨rfl, rfl⟩

theorem copyCheck_any (B b : Nat) (bs : List Value) (w : World) (h : Lib.IsBuilder 56 5 B b bs w) :
    Calls Tryz.prog 83 #[.pointer (some ⟨b, 0, none⟩)] w fun e w' => e = .returned (.tuple #[]) ∧ (Lib.BuilderAt 56 5 B b (.pointer (some ⟨b, 0, none⟩)) bs w' ∧ Below B w w') := by
  rcases h with h | h
  · refine (copyCheck_fresh b w h.cell0 h.shape h.frozen0).mono ?_
    rintro e w' ⟨rfl, rfl⟩
    exact ⟨rfl, h.used _, (Below.refl B w).setCell (p := ⟨b, 0, none⟩) h.1 _⟩
  · refine (copyCheck_used b w h.cell0).mono ?_
    rintro e w' ⟨rfl, rfl⟩
    exact ⟨rfl, h, Below.refl B _⟩

set_option maxHeartbeats 2000000 in
set_option maxRecDepth 100000 in
theorem writeByte_any (B b : Nat) (bs : List Value) (c : Int) (w : World) (h : Lib.IsBuilder 56 5 B b bs w) (hlen : bs.length + 1 ≤ 140737488355328) (hBw : B ≤ w.heap.size) :
    Calls Tryz.prog 86 #[.pointer (some ⟨b, 0, none⟩), .int .u8 c] w fun e w' => e = .returned .nilIface ∧ (Lib.BuilderAt 56 5 B b (.pointer (some ⟨b, 0, none⟩)) (bs ++ [.int .u8 c]) w' ∧ Below B w w') := by
  obtain ⟨i0, hi, hz0, hz1, hz2⟩ := info_parts infoByte
  go_enter Tryz.func86, Tryz.ntmps86
  go_wp2_with fail
  refine (copyCheck_any B b bs _ h).mono ?_
  rintro e w1 ⟨rfl, h1, hb1⟩
  obtain ⟨hB, v, hbk, hown, hne⟩ := h1
  have c0 : w1.cell? ⟨b, 0, none⟩ = some (.pointer (some ⟨b, 0, none⟩)) := by rw [Lib.cell_of_heap hbk]; rfl
  have c1 : w1.cell? ⟨b, 1, none⟩ = some v := by rw [Lib.cell_of_heap hbk]; rfl
  go_wp2_with (at_builtin; refine wpList_append_own _ rfl _ _ 24 rfl B 5 i0 (.int .u8 0) 1 1 Tryz.underlying24 hi hz0 hz1 hz2 rfl (by decide) _ _ _ rfl (hown.alloc _) ⟨w1.heap.size, 0, none⟩ 1 1 [.int .u8 c] rfl rfl ?c1 ?c2 ?c3 ?c4 ?c5 ?_)
  case c1 =>
    intro j u hj
    match j, hj with
    | 0, hj => simp at hj; subst hj; simp [Addr.add]
  case c2 => intro u hu; simp at hu; subst hu; rfl
  case c3 => unfold maxLen; omega
  case c4 => omega
  case c5 => have := hb1.size; simp; omega
  intro v' w2 hown' hgrow _
  have hlt : b < w1.heap.size := by
    rcases Nat.lt_or_ge b w1.heap.size with h' | h'
    · exact h'
    · simp [Array.getElem?_eq_none h'] at hbk
  have hb2 : w2.heap[b]? = some (.cells #[.pointer (some ⟨b, 0, none⟩), v] 56 (0, 0)) := by
    rw [hgrow.block b (by simp; omega) (fun e => hne e.symm), Lib.alloc_old w1 _ b hlt]
    exact hbk
  have d0 : w2.cell? ⟨b, 0, none⟩ = some (.pointer (some ⟨b, 0, none⟩)) := by rw [Lib.cell_of_heap hb2]; rfl
  have d1 : w2.cell? ⟨b, 1, none⟩ = some v := by rw [Lib.cell_of_heap hb2]; rfl
  have f1 : w2.frozen? ⟨b, 1, none⟩ = false := Lib.frozen_of_heap hb2 1
  obtain ⟨g, cap, rfl⟩ : ∃ g cap, v' = .slice (some ⟨g, 0, none⟩) (bs.length + 1) cap := by
    rcases hown'.2 with ⟨_, h0⟩ | ⟨g, cap, cur, hv, _⟩
    · omega
    · exact ⟨g, cap, hv⟩
  go_wp2
  go_ret
  refine ⟨rfl, ?_, ?_⟩
  · exact Lib.BuilderAt.put (T := 56) (e := 5) hB hb2 (bs' := bs ++ [.int .u8 c]) (by simpa using hown') (by decide)
  · exact ((hb1.alloc (by have := hb1.size; omega) _).grown hgrow (by have := hb1.size; simp; omega) (fun k hk => (hown.lt k hk).1)).setCell (p := ⟨b, 1, none⟩) hB _

set_option maxHeartbeats 2000000 in
set_option maxRecDepth 100000 in
theorem writeString_any (B b : Nat) (bs : List Value) (s : ByteArray) (w : World) (h : Lib.IsBuilder 56 5 B b bs w) (hlen : bs.length + s.size ≤ 140737488355328) (hBw : B ≤ w.heap.size) :
    Calls Tryz.prog 46 #[.pointer (some ⟨b, 0, none⟩), .string s] w fun e w' => e = .returned (.tuple #[.int .i64 s.size, .nilIface]) ∧ (Lib.BuilderAt 56 5 B b (.pointer (some ⟨b, 0, none⟩)) (bs ++ Lib.strCells s) w' ∧ Below B w w') := by
  obtain ⟨i0, hi, hz0, hz1, hz2⟩ := info_parts infoByte
  go_enter Tryz.func46, Tryz.ntmps46
  go_wp2_with fail
  refine (copyCheck_any B b bs _ h).mono ?_
  rintro e w1 ⟨rfl, h1, hb1⟩
  obtain ⟨hB, v, hbk, hown, hne⟩ := h1
  have c0 : w1.cell? ⟨b, 0, none⟩ = some (.pointer (some ⟨b, 0, none⟩)) := by rw [Lib.cell_of_heap hbk]; rfl
  have c1 : w1.cell? ⟨b, 1, none⟩ = some v := by rw [Lib.cell_of_heap hbk]; rfl
  go_wp2_with (at_builtin; refine Lib.wpList_append_own_string _ rfl _ _ 24 9 rfl B 5 i0 Tryz.underlying24 Tryz.underlying9 hi hz0 hz1 hz2 _ _ _ rfl hown s rfl ?c3 ?c4 ?c5 ?_)
  case c3 => unfold maxLen; omega
  case c4 => omega
  case c5 => have := hb1.size; omega
  intro v' w2 hown' hgrow _
  have hlt : b < w1.heap.size := by
    rcases Nat.lt_or_ge b w1.heap.size with h' | h'
    · exact h'
    · simp [Array.getElem?_eq_none h'] at hbk
  have hb2 : w2.heap[b]? = some (.cells #[.pointer (some ⟨b, 0, none⟩), v] 56 (0, 0)) := by
    rw [hgrow.block b hlt (fun e => hne e.symm)]
    exact hbk
  have d0 : w2.cell? ⟨b, 0, none⟩ = some (.pointer (some ⟨b, 0, none⟩)) := by rw [Lib.cell_of_heap hb2]; rfl
  have d1 : w2.cell? ⟨b, 1, none⟩ = some v := by rw [Lib.cell_of_heap hb2]; rfl
  have f1 : w2.frozen? ⟨b, 1, none⟩ = false := Lib.frozen_of_heap hb2 1
  obtain ⟨ao, n', cap, rfl⟩ : ∃ ao n' cap, v' = .slice ao n' cap := by
    rcases hown'.2 with ⟨hv, _⟩ | ⟨g, cap, cur, hv, _⟩
    · exact ⟨_, _, _, hv⟩
    · exact ⟨_, _, _, hv⟩
  go_wp2
  go_ret2
  refine ⟨rfl, ?_, ?_⟩
  · exact Lib.BuilderAt.put (T := 56) (e := 5) hB hb2 (bs' := bs ++ Lib.strCells s) (by simpa [Lib.strCells_length] using hown') (by decide)
  · exact (hb1.grown hgrow (by have := hb1.size; omega) (fun k hk => (hown.lt k hk).1)).setCell (p := ⟨b, 1, none⟩) hB _

/-! ### In this seat's words -/
/-- Block b is a builder of the call's own, which holds the text l. -/
def Bd (w : World) (b : Nat) (l : List UInt8) : Prop := Lib.IsBuilder 56 5 b b (Lib.byteCells l) w
theorem Bd.fresh (w : World) : Bd (w.alloc (.cells #[.pointer none, .slice none 0 0] 56)) w.heap.size [] := Lib.fresh_isBuilder _ _ w
theorem Bd.lt {w : World} {b : Nat} {l : List UInt8} (h : Bd w b l) : b < w.heap.size := by
  rcases h with h | h
  · exact h.lt
  · exact h.lt
theorem BuilderAt_below {T e : TypeId} {B b C : Nat} {p : Value} {bs : List Value} {w w' : World} (h : Lib.BuilderAt T e B b p bs w) (hb : Below C w w') (hC : w.heap.size ≤ C) : Lib.BuilderAt T e B b p bs w' := by
  have hl := h.lt
  obtain ⟨hB, v, hbk, hown, hne⟩ := h
  refine ⟨hB, v, (hb.block b (by omega)).trans hbk, hown.kept (row := none) ⟨hb.os, hb.tape, hb.output, hb.size, fun k hk _ => hb.block k (by omega)⟩ (by cases v.ownBlock <;> simp), hne⟩
theorem Bd.below {w w' : World} {b C : Nat} {l : List UInt8} (h : Bd w b l) (hb : Below C w w') (hC : w.heap.size ≤ C) : Bd w' b l := by
  rcases h with h | h
  · exact .inl (BuilderAt_below h hb hC)
  · exact .inr (BuilderAt_below h hb hC)
def WrotePost (b : Nat) (l s : List UInt8) (w : World) (e : Ending) (w' : World) : Prop := e = .returned (.tuple #[.int .i64 s.length, .nilIface]) ∧ Bd w' b (l ++ s) ∧ Below b w w'
theorem wstr_any (b : Nat) (l s : List UInt8) (w : World) (h : Bd w b l) (hlen : l.length + s.length ≤ 1000000) :
    Calls Tryz.prog 46 #[.pointer (some ⟨b, 0, none⟩), .string (tx s)] w (WrotePost b l s w) := by
  refine (writeString_any b b (Lib.byteCells l) (tx s) w h (by rw [Lib.byteCells_length, tx_size]; omega) (Nat.le_of_lt h.lt)).mono ?_
  rintro e w' ⟨rfl, h1, hb⟩
  refine ⟨by rw [tx_size], .inr ?_, hb⟩
  have e1 : Lib.byteCells l ++ Lib.strCells (tx s) = Lib.byteCells (l ++ s) := by simp [Lib.byteCells, Lib.strCells, tx]
  rw [e1] at h1
  exact h1
theorem wbyte_any (b : Nat) (l : List UInt8) (c : UInt8) (w : World) (h : Bd w b l) (hlen : l.length ≤ 1000000) :
    Calls Tryz.prog 86 #[.pointer (some ⟨b, 0, none⟩), .int .u8 (c.toNat : Int)] w fun e w' => e = .returned .nilIface ∧ Bd w' b (l ++ [c]) ∧ Below b w w' := by
  refine (writeByte_any b b (Lib.byteCells l) c.toNat w h (by rw [Lib.byteCells_length]; omega) (Nat.le_of_lt h.lt)).mono ?_
  rintro e w' ⟨rfl, h1, hb⟩
  refine ⟨rfl, .inr ?_, hb⟩
  have e1 : Lib.byteCells l ++ [Value.int .u8 (c.toNat : Int)] = Lib.byteCells (l ++ [c]) := by simp [Lib.byteCells]
  rw [e1] at h1
  exact h1
theorem bstr_any (b : Nat) (l : List UInt8) (w : World) (h : Bd w b l) :
    Calls Tryz.prog 48 #[.pointer (some ⟨b, 0, none⟩)] w fun e w' => e = .returned (.string (tx l)) ∧ Below b w w' :=
  Tryz.Builder_String_any b b l w h (Nat.le_of_lt h.lt)

/-- The table that Itoa reads, from a block on. -/
def Tab (w : World) : Prop := Lib.TabBelow Tryz.prog w.heap.size w "internal/strconv.uint64pow10" .u64 Lib.pow10Tab
theorem Tab.below {w w' : World} {C : Nat} (h : Tab w) (hb : Below C w w') (hC : w.heap.size ≤ C) : Tab w' := fun w2 h2 => h w2 ((hb.mono hC).trans (h2.mono hb.size))
theorem Tab.alloc {w : World} (h : Tab w) (o : Obj) : Tab (w.alloc o) := h.below ((Below.refl w.heap.size w).alloc (Nat.le_refl _) o) (Nat.le_refl _)
theorem Tab.drew {w : World} (h : Tab w) : Tab w.drew := h.below (Below.refl w.heap.size w).drew (Nat.le_refl _)
theorem itoa_any (u : Nat) (hu : u ≤ 100000) (w : World) (h : Tab w) : Calls Tryz.prog 47 #[.int .i64 u] w fun e w' => e = .returned (.string (tx (Lib.decDigits u))) ∧ Below w.heap.size w w' := by
  refine (Tryz.strconv_Itoa u (by omega) (by omega) w h.here).mono ?_
  rintro e w' ⟨rfl, k, os, rfl⟩
  refine ⟨?_, Lib.below_grow _ _ (Nat.le_refl _) _ _⟩
  rw [show Lib.itoa (u : Int) = Lib.decDigits u by unfold Lib.itoa; rw [if_neg (by omega)]; simp]
  rfl
end Go.Proofs.YtefadlbfkhndfaaGreatDoor

/-
  The builder's WriteString once more: what it leaves alone above the builder.
-/
namespace Go.Proofs.YtefadlbfkhndfaaGreatDoor
open Go.RowKit
set_option linter.unusedSimpArgs false
set_option linter.unusedVariables false

/-- Rows that hold no bytes are as they were, but for block b. -/
def Keeps (b : Nat) (w w' : World) : Prop := ∀ q cs T fr, q ≠ b → w.heap[q]? = some (.cells cs T fr) → T ≠ 5 → w'.heap[q]? = w.heap[q]?
theorem copyCheck_keep (B b : Nat) (bs : List Value) (w : World) (h : Lib.IsBuilder 56 5 B b bs w) :
    Calls Tryz.prog 83 #[.pointer (some ⟨b, 0, none⟩)] w fun e w' => e = .returned (.tuple #[]) ∧ (Lib.BuilderAt 56 5 B b (.pointer (some ⟨b, 0, none⟩)) bs w' ∧ Below B w w' ∧ ∀ q, q ≠ b → w'.heap[q]? = w.heap[q]?) := by
  rcases h with h | h
  · refine (copyCheck_fresh b w h.cell0 h.shape h.frozen0).mono ?_
    rintro e w' ⟨rfl, rfl⟩
    exact ⟨rfl, h.used _, (Below.refl B w).setCell (p := ⟨b, 0, none⟩) h.1 _, fun q hq => Below.heap_setCell _ _ _ _ hq⟩
  · refine (copyCheck_used b w h.cell0).mono ?_
    rintro e w' ⟨rfl, rfl⟩
    exact ⟨rfl, h, Below.refl B _, fun q hq => rfl⟩

set_option maxHeartbeats 2000000 in
set_option maxRecDepth 100000 in
theorem writeString_keep (B b : Nat) (bs : List Value) (s : ByteArray) (w : World) (h : Lib.IsBuilder 56 5 B b bs w) (hlen : bs.length + s.size ≤ 140737488355328) (hBw : B ≤ w.heap.size) :
    Calls Tryz.prog 46 #[.pointer (some ⟨b, 0, none⟩), .string s] w fun e w' => e = .returned (.tuple #[.int .i64 s.size, .nilIface]) ∧ (Lib.BuilderAt 56 5 B b (.pointer (some ⟨b, 0, none⟩)) (bs ++ Lib.strCells s) w' ∧ Below B w w' ∧ Keeps b w w') := by
  obtain ⟨i0, hi, hz0, hz1, hz2⟩ := info_parts infoByte
  go_enter Tryz.func46, Tryz.ntmps46
  go_wp2_with fail
  refine (copyCheck_keep B b bs _ h).mono ?_
  rintro e w1 ⟨rfl, h1, hb1, hq1⟩
  obtain ⟨hB, v, hbk, hown, hne⟩ := h1
  have c0 : w1.cell? ⟨b, 0, none⟩ = some (.pointer (some ⟨b, 0, none⟩)) := by rw [Lib.cell_of_heap hbk]; rfl
  have c1 : w1.cell? ⟨b, 1, none⟩ = some v := by rw [Lib.cell_of_heap hbk]; rfl
  go_wp2_with (at_builtin; refine Lib.wpList_append_own_string _ rfl _ _ 24 9 rfl B 5 i0 Tryz.underlying24 Tryz.underlying9 hi hz0 hz1 hz2 _ _ _ rfl hown s rfl ?c3 ?c4 ?c5 ?_)
  case c3 => unfold maxLen; omega
  case c4 => omega
  case c5 => have := hb1.size; omega
  intro v' w2 hown' hgrow _
  have hlt : b < w1.heap.size := by
    rcases Nat.lt_or_ge b w1.heap.size with h' | h'
    · exact h'
    · simp [Array.getElem?_eq_none h'] at hbk
  have hb2 : w2.heap[b]? = some (.cells #[.pointer (some ⟨b, 0, none⟩), v] 56 (0, 0)) := by
    rw [hgrow.block b hlt (fun e => hne e.symm)]
    exact hbk
  have d0 : w2.cell? ⟨b, 0, none⟩ = some (.pointer (some ⟨b, 0, none⟩)) := by rw [Lib.cell_of_heap hb2]; rfl
  have d1 : w2.cell? ⟨b, 1, none⟩ = some v := by rw [Lib.cell_of_heap hb2]; rfl
  have f1 : w2.frozen? ⟨b, 1, none⟩ = false := Lib.frozen_of_heap hb2 1
  obtain ⟨ao, n', cap, rfl⟩ : ∃ ao n' cap, v' = .slice ao n' cap := by
    rcases hown'.2 with ⟨hv, _⟩ | ⟨g, cap, cur, hv, _⟩
    · exact ⟨_, _, _, hv⟩
    · exact ⟨_, _, _, hv⟩
  go_wp2
  go_ret2
  refine ⟨rfl, ?_, ?_, ?_⟩
  · exact Lib.BuilderAt.put (T := 56) (e := 5) hB hb2 (bs' := bs ++ Lib.strCells s) (by simpa [Lib.strCells_length] using hown') (by decide)
  · exact (hb1.grown hgrow (by have := hb1.size; omega) (fun k hk => (hown.lt k hk).1)).setCell (p := ⟨b, 1, none⟩) hB _
  · intro q cs T fr hqb hqw hqT
    have hw1 : w1.heap[q]? = some (.cells cs T fr) := (hq1 q hqb).trans hqw
    have hlq : q < w1.heap.size := by
      rcases Nat.lt_or_ge q w1.heap.size with h' | h'
      · exact h'
      · simp [Array.getElem?_eq_none h'] at hw1
    rw [Below.heap_setCell _ _ _ _ hqb, hgrow.block q hlq (fun e => Lib.ownBlock_ne hown hw1 hqT e.symm)]
    exact hq1 q hqb

/-- WriteString in this seat's words, with what it keeps. -/
theorem wstr_keep (b : Nat) (l s : List UInt8) (w : World) (h : Bd w b l) (hlen : l.length + s.length ≤ 1000000) :
    Calls Tryz.prog 46 #[.pointer (some ⟨b, 0, none⟩), .string (tx s)] w fun e w' => e = .returned (.tuple #[.int .i64 s.length, .nilIface]) ∧ Bd w' b (l ++ s) ∧ Below b w w' ∧ Keeps b w w' := by
  refine (writeString_keep b b (Lib.byteCells l) (tx s) w h (by rw [Lib.byteCells_length, tx_size]; omega) (Nat.le_of_lt h.lt)).mono ?_
  rintro e w' ⟨rfl, h1, hb, hk⟩
  refine ⟨by rw [tx_size], .inr ?_, hb, hk⟩
  have e1 : Lib.byteCells l ++ Lib.strCells (tx s) = Lib.byteCells (l ++ s) := by simp [Lib.byteCells, Lib.strCells, tx]
  rw [← e1]; exact h1
end Go.Proofs.YtefadlbfkhndfaaGreatDoor

/-
  Contract: strings.Split at a separator of one byte.
-/
namespace Go.Proofs.YtefadlbfkhndfaaGreatDoor
open Go.RowKit
set_option linter.unusedSimpArgs false
set_option linter.unusedVariables false

theorem tx1l (l : List UInt8) : (tx l).data.toList = l := by simp [tx]
theorem tx1x (l : List UInt8) (a b : Nat) : (tx l).extract a b = tx ((l.drop a).take (b - a)) := by
  apply ByteArray.ext
  apply Array.toList_inj.1
  rw [Lib.extract_data, tx1l, tx1l]
theorem indexB_one (l : List UInt8) (c : UInt8) : Lib.indexB (tx l) ⟨#[c]⟩ = Lib.indexByte l c := by
  unfold Lib.indexB
  rw [tx1l]
  exact Lib.index_one l c
theorem splitB_tx (c : UInt8) : ∀ (m : Nat) (l : List UInt8), l.count c ≤ m → Lib.splitB ⟨#[c]⟩ 0 m (tx l) = (splitB c l).map tx := by
  intro m
  induction m with
  | zero =>
    intro l h
    have hn : c ∉ l := fun hm => by have := List.count_pos_iff.2 hm; omega
    rw [Lib.splitB_zero, splitB_one l hn]; rfl
  | succ m ih =>
    intro l h
    by_cases hm : c ∈ l
    · obtain ⟨a, b, rfl, ha⟩ := List.eq_append_cons_of_mem hm
      have hc : b.count c ≤ m := by rw [List.count_append, List.count_cons_self] at h; omega
      rw [Lib.splitB_hit _ _ _ _ a.length (by rw [indexB_one]; exact indexByte_at a b ha), splitB_cut a b ha, List.map_cons, tx1x, tx1x, tx_size]
      have e1 : ((a ++ c :: b).drop 0).take (a.length + 0 - 0) = a := by simp
      have e2 : ((a ++ c :: b).drop (a.length + (ByteArray.mk #[c]).size)).take ((a ++ c :: b).length - (a.length + (ByteArray.mk #[c]).size)) = b := by
        rw [show (ByteArray.mk #[c]).size = 1 from rfl, List.take_of_length_le (by simp; omega)]
        rw [show a ++ c :: b = (a ++ [c]) ++ b by simp, show a.length + 1 = (a ++ [c]).length by simp, List.drop_left]
      rw [e1, e2, ih b hc]
    · have hi : Lib.indexByte l c = -1 := by
        rcases split_idx c l with ⟨h1, _⟩ | ⟨k, h1, h2, h3⟩
        · exact h1
        · rw [splitB_one l hm] at h3
          injection h3 with _ h4
          exact absurd h4.symm (splitB_ne c _)
      rw [Lib.splitB_miss _ _ _ _ (by rw [indexB_one]; exact hi), splitB_one l hm]; rfl

theorem split_any (l : List UInt8) (c : UInt8) (hl : l.length ≤ 1000000) (w : World) :
    Calls Tryz.prog 44 #[.string (tx l), .string ⟨#[c]⟩] w fun e w' => e = .returned (.slice (some ⟨w.heap.size, 0, none⟩) (splitB c l).length (splitB c l).length) ∧
      w' = w.alloc (.cells ((splitB c l).map fun x => Value.string (tx x)).toArray 9) := by
  have hcn : Lib.countB (tx l) ⟨#[c]⟩ = l.count c := by
    show Lib.count (tx l).data.toList [c] = _
    rw [tx1l, Lib.count_one]
  have hle : l.count c ≤ l.length := List.count_le_length
  have hlen := Lib.splitB_all ⟨#[c]⟩ (Nat.le_refl 1) 0 (l.count c) (tx l) hcn
  have hS := splitB_tx c (l.count c) l (Nat.le_refl _)
  have hz : (tx l).size = l.length := tx_size l
  have C := Any.strings_genSplit_core Tryz.lays221 (by kernel_rfl) (tx l) ⟨#[c]⟩ 0 (-1) (l.count c + 1) w (by omega) (Nat.le_refl 1) (Nat.zero_le _)
    (fun x a _ => (Tryz.strings_Index_one x c _).mono fun e w' ⟨h1, h2⟩ => ⟨by rw [h1]; show _ = Ending.returned (.int .i64 (Lib.index x.data.toList [c])); rw [Lib.index_one], h2⟩)
    ((Tryz.strings_Count_one (tx l) c w).mono fun e w' ⟨h1, h2⟩ => ⟨by rw [h1, hcn, tx1l]; rfl, h2⟩)
    (by decide) (by decide) (by rw [if_pos (by decide), hcn]; omega)
  rw [Nat.add_sub_cancel, hlen, hS] at C
  have hl2 : (splitB c l).length = l.count c + 1 := by rw [← hlen, hS, List.length_map]
  have e2 : Lib.cellsOf ((splitB c l).map tx) (l.count c + 1) = ((splitB c l).map fun x => Value.string (tx x)).toArray := by
    rw [← hl2, ← List.length_map (f := tx), Lib.cellsOf_full, List.map_map]; rfl
  rw [e2, ← hl2] at C
  have C' := Lib.hid C
  clear C hcn hle hlen hS hl2 e2
  go_enter Tryz.func44, Tryz.ntmps44
  go_wp2_with (go_at_call 75; refine C'.out.mono ?_; rintro e w' ⟨rfl, rfl⟩)
  go_ret
  exact ⟨rfl, rfl⟩
end Go.Proofs.YtefadlbfkhndfaaGreatDoor

/-
  Contract: strconv.Itoa at numbers of up to seven digits.
-/
namespace Go.Proofs.YtefadlbfkhndfaaGreatDoor
open Go.RowKit
set_option linter.unusedSimpArgs false
set_option linter.unusedVariables false

theorem itoaB_any (u : Nat) (hu : u ≤ 10000000) (w : World) (h : Tab w) : Calls Tryz.prog 47 #[.int .i64 u] w fun e w' => e = .returned (.string (tx (Lib.decDigits u))) ∧ Below w.heap.size w w' := by
  refine (Tryz.strconv_Itoa u (by omega) (by omega) w h.here).mono ?_
  rintro e w' ⟨rfl, k, os, rfl⟩
  refine ⟨?_, Lib.below_grow _ _ (Nat.le_refl _) _ _⟩
  rw [show Lib.itoa (u : Int) = Lib.decDigits u by unfold Lib.itoa; rw [if_neg (by omega)]; simp]
  rfl
end Go.Proofs.YtefadlbfkhndfaaGreatDoor

/-
  Contract: the program's scriptNumber.
-/
namespace Go.Proofs.YtefadlbfkhndfaaGreatDoor
open Go.RowKit
set_option linter.unusedSimpArgs false
set_option linter.unusedVariables false

theorem txnl (l : List UInt8) : (tx l).data.toList = l := by simp [tx]
theorem sn_take1 {l : List UInt8} {k acc : Nat} {b : UInt8} (h : Lib.decFrom 0 (l.take k) = some acc) (hb : l[k]? = some b) :
    Lib.decFrom 0 (l.take (k + 1)) = (Lib.digitVal b).map fun d => acc * 10 + d := by
  rw [take_snoc hb, decFrom_append, h]
  simp only [Option.bind, Lib.decFrom]
  cases Lib.digitVal b <;> rfl
theorem sn_bad {l : List UInt8} {k : Nat} (h : Lib.decFrom 0 (l.take k) = none) : Lib.decFrom 0 l = none := by
  rw [← List.take_append_drop k l, decFrom_append, h]; rfl

theorem atoi_dec6 {u : Nat} (h : u ≤ 999999) : Lib.atoi (Lib.decDigits u) = some (u : Int) := by
  have hm := dec_mem u
  have hd := decFrom_dec u
  cases hl : Lib.decDigits u with
  | nil => exact absurd hl (dec_ne u)
  | cons b r =>
    rw [hl] at hm hd
    have hb := hm b List.mem_cons_self
    have n1 : ¬ ((b == 45) = true) := fun e => by rw [show b = 45 by simpa using e] at hb; revert hb; decide
    have n2 : ¬ ((b == 43) = true) := fun e => by rw [show b = 43 by simpa using e] at hb; revert hb; decide
    rw [Lib.atoi, if_neg n1, if_neg n2, Lib.decNat, if_neg (by simp), hd]
    rfl
theorem dig_dec6 {u : Nat} (h : u ≤ 999999) : dig (Lib.decDigits u) = u := by
  unfold dig
  rw [if_pos ⟨dec_pos u, dec_len 5 u (by omega)⟩, decFrom_dec]

set_option maxRecDepth 100000 in
set_option maxHeartbeats 2000000 in
/-- A word of one to six digits. (An empty word ends in an error of strconv's: not here.) -/
theorem scriptNumber_dig (u : Nat) (hu : u ≤ 999999) (w : World) :
    Calls Tryz.prog 76 #[.string (tx (Lib.decDigits u))] w fun e w' => e = .returned (.int .i64 u) ∧ Below w.heap.size w w' := by
  obtain ⟨l, hl⟩ : ∃ l, l = Lib.decDigits u := ⟨_, rfl⟩
  have hlen : l.length ≤ 6 := by rw [hl]; exact dec_len 5 u (by omega)
  have hmem : ∀ b ∈ l, 48 ≤ b.toNat ∧ b.toNat ≤ 57 := by rw [hl]; exact dec_mem u
  have hat : Lib.atoi (tx l).data.toList = some (u : Int) := by rw [txnl, hl]; exact atoi_dec6 hu
  have hz : (tx l).size = l.length := tx_size l
  have A := Lib.hid (fun W => Tryz.strconv_Atoi (tx l) (u : Int) (by omega) hat W)
  have HM := Lib.hid hmem
  rw [← hl]
  clear hl hat hmem
  have f0 : ¬ (6 < ((tx l).size : Int)) := by omega
  go_enter Tryz.func76, Tryz.ntmps76
  go_wp2_with fail
  go_loopw [3, 11] (fun _ i wr => wr = w ∧ ∃ k : Nat, k ≤ l.length ∧ i = .int .i64 k) (fun _ i _ => l.length - (intOf i).toNat)
  case atStart => exact ⟨rfl, 0, Nat.zero_le _, rfl⟩
  case round =>
    obtain ⟨rfl, k, hk, rfl⟩ := hrel
    by_cases hlt : k < l.length
    · have ik : (k : Int) < ((tx l).size : Int) := by omega
      have ik0 : (0 : Int) ≤ (k : Int) := by omega
      obtain ⟨b, hb⟩ : ∃ b, l[k]? = some b := ⟨l[k], List.getElem?_eq_getElem hlt⟩
      have hbk : ∀ h, (tx l)[k]'h = b := fun h => by
        obtain ⟨_, e⟩ := List.getElem?_eq_some_iff.1 hb
        exact e
      obtain ⟨m1, m2⟩ := HM.out b (List.mem_of_getElem? hb)
      have f1 : ¬ ((b.toNat : Int) < 48) := by omega
      have f2 : ¬ (57 < (b.toNat : Int)) := by omega
      go_wp2_with fail
      refine ⟨⟨trivial, k + 1, by omega, by go_num⟩, by simp [intOf]; omega⟩
    · obtain rfl : k = l.length := by omega
      have ik : ¬ ((l.length : Int) < ((tx l).size : Int)) := by omega
      go_wp2_with (go_at_call 101; refine (A.out _).mono ?_; rintro e w' ⟨rfl, t, rfl⟩)
      go_ret
      exact ⟨rfl, Go.Joins.below_bytesWorld _ _ _ _ (Nat.le_refl _)⟩
end Go.Proofs.YtefadlbfkhndfaaGreatDoor

/-
  Contracts: CoreText of the reference and of the program.
-/
namespace Go.Proofs.YtefadlbfkhndfaaGreatDoor
open Go.RowKit
set_option linter.unusedSimpArgs false
set_option linter.unusedVariables false

/-! ### Plain words -/
def pcT (p : Pc) : List UInt8 := Lib.decDigits p.1.toNat ++ ([45] ++ Lib.decDigits p.2.toNat)
def rowsT (l : List Pc) : List UInt8 := Lib.join (l.map pcT) [32]
def coreT (l : List Pc) : List UInt8 := if coreB l = true then (if l.length = 0 then [45] else rowsT l) else []
theorem join_snoc (xs : List (List UInt8)) (x sep : List UInt8) (h : xs ≠ []) : Lib.join (xs ++ [x]) sep = Lib.join xs sep ++ (sep ++ x) := by
  cases xs with
  | nil => exact absurd rfl h
  | cons y t => rw [List.cons_append, Lib.join_cons, Lib.join_cons]; simp [Lib.joinTail]
theorem rowsT_one {l : List Pc} {p : Pc} (h : l[0]? = some p) : rowsT (l.take 1) = pcT p := by
  cases l with
  | nil => simp at h
  | cons q t => simp at h; subst h; simp [rowsT, Lib.join_one]
theorem rowsT_snoc {l : List Pc} {k : Nat} {p : Pc} (h : l[k]? = some p) (h0 : 0 < k) : rowsT (l.take (k + 1)) = rowsT (l.take k) ++ ([32] ++ pcT p) := by
  unfold rowsT
  rw [take_snoc h, List.map_append]
  refine join_snoc _ _ _ ?_
  intro e
  have h1 : ((l.take k).map pcT).length = 0 := by rw [e]; rfl
  have hl := (List.getElem?_eq_some_iff.1 h).1
  rw [List.length_map, List.length_take] at h1
  omega
theorem infoStr : (Tryz.prog.info? 9).map (fun i => (i.zero, i.size, i.bytes)) = some (some (.string ⟨#[]⟩), 1, 16) := by kernel_rfl
def ST (s : ByteArray) : List Value := [.string s]
theorem ST_length (s : ByteArray) : (ST s).length = 1 := rfl
theorem one_ST (s : ByteArray) : ∀ u ∈ ST s, u.oneCell' = true := by
  intro u hu; simp [ST] at hu; subst hu; rfl
theorem Own.litST (w : World) (base : Nat) (T : TypeId) (s : ByteArray) (hb : base ≤ w.heap.size) : Own ST 1 (w.alloc (.cells #[.string s] T)) base T (.slice (some ⟨w.heap.size, 0, none⟩) 1 1) 1 [s] :=
  ⟨rfl, World.ownsRow_lit w #[.string s] 1 hb (by unfold maxLen; omega) rfl⟩
/-- The sum of two texts, wherever it is reckoned. -/
theorem add_at (a b c : ByteArray) (h : a.size + b.size ≤ 1000000) (hc : a ++ b = c) : ∀ W : World, (Op.stringOp .add a b).run Tryz.prog W = .ok (.string c) W := fun W => by
  rw [← hc]; exact run_string_add_sum (P := Tryz.prog) (w := W) a b (by omega)
theorem dec_tx {u : Nat} (h : u ≤ 100000) : (tx (Lib.decDigits u)).size ≤ 6 := by rw [tx_size]; exact dec_short h

set_option maxHeartbeats 2000000 in
theorem specCoreText_any (A : Option Addr) (n c : Nat) (l : List Pc) (w : World) (h : Arr PP 2 w w.heap.size A n l) (hn : n ≤ 1099511627776) :
    Calls Tryz.prog 94 #[.slice A n c] w fun e w' => e = .returned (.string (tx (coreT l))) ∧ Below w.heap.size w w' := by
  have C := specCoreValid_any A n c l w h hn
  have hln := Lib.hid h.1
  have hl1 := h.1
  cases hB : coreB l with
  | false =>
    rw [hB] at C
    have C' := Lib.hid C
    have hL := Lib.hid (show coreT l = [] by unfold coreT; rw [hB]; rfl)
    clear C hB hl1
    go_enter Tryz.func94, Tryz.ntmps94
    go_wp2_with fail
    refine C'.out.mono ?_
    rintro e w1 ⟨rfl, b1⟩
    go_wp2
    go_ret
    exact ⟨ret_str (by rw [hL.out]; rfl), b1⟩
  | true =>
    rw [hB] at C
    have C' := Lib.hid C
    obtain ⟨hF, h20⟩ := (coreB_iff l).1 hB
    have hF' := Lib.hid hF
    rw [hl1] at h20
    by_cases h0 : n = 0
    · have hL := Lib.hid (show coreT l = [45] by unfold coreT; rw [if_pos hB, if_pos (by rw [hl1]; exact h0)])
      have f0 : ((n : Int) == 0) = true := by simp; omega
      clear C hB hl1 hF h0
      go_enter Tryz.func94, Tryz.ntmps94
      go_wp2_with fail
      refine C'.out.mono ?_
      rintro e w1 ⟨rfl, b1⟩
      go_wp2
      go_ret
      exact ⟨ret_str (by rw [hL.out]; rfl), b1⟩
    · have hL := Lib.hid (show coreT l = rowsT l by unfold coreT; rw [if_pos hB, if_neg (by rw [hl1]; exact h0)])
      have f0 : ((n : Int) == 0) = false := by simp; omega
      clear C hB hl1 hF
      go_enter Tryz.func94, Tryz.ntmps94
      go_wp2_with fail
      refine C'.out.mono ?_
      rintro e w1 ⟨rfl, b1⟩
      clear C'
      go_wp2_with fail
      clear f0
      go_loopw [3, 4] (fun s i wr => ∃ (k : Nat) (S : ByteArray), k ≤ n ∧ i = .int .i64 k ∧ s = .string S ∧ Hid (S = tx (rowsT (l.take k))) ∧ S.size ≤ 14 * k ∧ Below w.heap.size w wr) (fun _ i _ => n - (intOf i).toNat)
      case atStart => exact ⟨0, _, Nat.zero_le _, rfl, rfl, Lib.hid rfl, Nat.le_refl _, b1⟩
      case round =>
        obtain ⟨k, S, hk, rfl, rfl, hS, hSz, hb⟩ := hrel
        by_cases hlt : k < n
        · obtain ⟨b, off, x, y, rfl, hbB, hx, c1, c2⟩ := h.pair hlt
          have hm := coreFrom_mem hF'.out _ (List.mem_of_getElem? hx)
          have hm1 : (0 : Int) ≤ x ∧ x < y ∧ y ≤ 30000 := hm
          obtain ⟨u, rfl⟩ : ∃ u : Nat, x = u := ⟨x.toNat, by omega⟩
          obtain ⟨v, rfl⟩ : ∃ v : Nat, y = v := ⟨y.toNat, by omega⟩
          have hu : u ≤ 100000 := by omega
          have hv : v ≤ 100000 := by omega
          obtain ⟨X, hX⟩ : ∃ X, X = tx (Lib.decDigits u) := ⟨_, rfl⟩
          obtain ⟨Y, hY⟩ : ∃ Y, Y = tx (Lib.decDigits v) := ⟨_, rfl⟩
          have hXz : X.size ≤ 6 := by rw [hX]; exact dec_tx hu
          have hYz : Y.size ≤ 6 := by rw [hY]; exact dec_tx hv
          have K1 := fun W => l6Dec_any u W hu
          have K2 := fun W => l6Dec_any v W hv
          rw [← hX] at K1
          rw [← hY] at K2
          have K1' := Lib.hid K1
          have K2' := Lib.hid K2
          -- the separator ahead of all but the first
          obtain ⟨T0, hT0⟩ : ∃ T0, T0 = (if k = 0 then S else S ++ tx [32]) := ⟨_, rfl⟩
          have hT0z : T0.size ≤ 14 * k + 1 := by
            rw [hT0]; split
            · omega
            · rw [ByteArray.size_append, tx_size]; simp; omega
          obtain ⟨T1, hT1⟩ : ∃ T, T = T0 ++ X := ⟨_, rfl⟩
          obtain ⟨T2, hT2⟩ : ∃ T, T = T1 ++ tx [45] := ⟨_, rfl⟩
          obtain ⟨T3, hT3⟩ : ∃ T, T = T2 ++ Y := ⟨_, rfl⟩
          have z1 : T1.size = T0.size + X.size := by rw [hT1, ByteArray.size_append]
          have z2 : T2.size = T1.size + 1 := by rw [hT2, ByteArray.size_append, tx_size]; rfl
          have z3 : T3.size = T2.size + Y.size := by rw [hT3, ByteArray.size_append]
          have HF := Lib.hid (show T3 = tx (rowsT (l.take (k + 1))) by
            rw [hT3, hT2, hT1, hX, hY]
            have hT0' : T0 ++ tx (Lib.decDigits u) ++ tx [45] ++ tx (Lib.decDigits v) = T0 ++ tx (pcT ((u : Int), (v : Int))) := by
              rw [ByteArray.append_assoc, ByteArray.append_assoc, tx_add, tx_add]; rfl
            rw [hT0', hT0]
            by_cases hk0 : k = 0
            · subst hk0
              rw [if_pos rfl, hS.out, tx_add, rowsT_one hx]
              rfl
            · rw [if_neg hk0, hS.out, tx_add, tx_add, rowsT_snoc hx (by omega), List.append_assoc])
          have A1 := add_at T0 X T1 (by omega) hT1.symm
          have A2 : ∀ W : World, (Op.stringOp .add T1 ⟨#[45]⟩).run Tryz.prog W = .ok (.string T2) W := add_at T1 (tx [45]) T2 (by rw [tx_size]; simp; omega) hT2.symm
          have A3 := add_at T2 Y T3 (by omega) hT3.symm
          have c1' := (hb.cell (by exact hbB)).trans c1
          have c2' := (hb.cell (by exact hbB)).trans c2
          have hz3 : T3.size ≤ 14 * (k + 1) := by omega
          have ik : (k : Int) < (n : Int) := by omega
          have ik0 : (0 : Int) ≤ (k : Int) := by omega
          have hsz := hb.size
          have D1 := Later.cell (w0 := wr) (B := w.heap.size) (by exact hbB) c1'
          have D2 := Later.cell (w0 := wr) (B := w.heap.size) (by exact hbB) c2'
          by_cases hk0 : k = 0
          · have hT00 : T0 = S := by rw [hT0, if_pos hk0]
            have f1 : decide (0 < (k : Int)) = false := decide_eq_false (by omega)
            have f2 : decide (0 < k) = false := decide_eq_false (by omega)
            subst hT00
            clear K1 K2 hX hY hT1 hT2 hT3 hT0 hx hm hm1 c1 c2 c1' c2' hXz hYz hT0z z1 z2 z3 hS hSz hk0
            go_wp2_with fail
            refine wp_region_under (B := w.heap.size) (w0 := wr) (by kernel_rfl) (by kernel_rfl) (Below.refl _ _) ?_
            repeat (go_big_quiet_step ((first
              | (go_at_call 43; with_reducible exact Calls.under hsz (K1'.out _))
              | (go_at_call 43; with_reducible exact Calls.under hsz (K2'.out _)))))
            refine wpQuiet_nil ?_
            rintro w2 ⟨q, hq⟩
            have hb2 := hb.trans (show Below w.heap.size wr w2 by rw [hq]; exact q.2)
            clear hq q D1 D2 A1 A2 A3 f1 f2
            go_wp2
            go_roundw
            case rel => exact ⟨k + 1, T3, by omega, by go_num, rfl, HF, hz3, hb2⟩
            case measure => simp [intOf]; omega
          · have hT00 : S ++ tx [32] = T0 := by rw [hT0, if_neg hk0]
            have A0 : ∀ W : World, (Op.stringOp .add S ⟨#[32]⟩).run Tryz.prog W = .ok (.string T0) W := add_at S (tx [32]) T0 (by rw [tx_size]; simp; omega) hT00
            have f1 : decide (0 < (k : Int)) = true := decide_eq_true (by omega)
            have f2 : decide (0 < k) = true := decide_eq_true (by omega)
            clear K1 K2 hX hY hT1 hT2 hT3 hT0 hT00 hx hm hm1 c1 c2 c1' c2' hXz hYz hT0z z1 z2 z3 hS hSz hk0
            go_wp2_with fail
            refine wp_region_under (B := w.heap.size) (w0 := wr) (by kernel_rfl) (by kernel_rfl) (Below.refl _ _) ?_
            repeat (go_big_quiet_step ((first
              | (go_at_call 43; with_reducible exact Calls.under hsz (K1'.out _))
              | (go_at_call 43; with_reducible exact Calls.under hsz (K2'.out _)))))
            refine wpQuiet_nil ?_
            rintro w2 ⟨q, hq⟩
            have hb2 := hb.trans (show Below w.heap.size wr w2 by rw [hq]; exact q.2)
            clear hq q D1 D2 A0 A1 A2 A3 f1 f2
            go_wp2
            go_roundw
            case rel => exact ⟨k + 1, T3, by omega, by go_num, rfl, HF, hz3, hb2⟩
            case measure => simp [intOf]; omega
        · obtain rfl : k = n := by omega
          have hE := Lib.hid (show S = tx (coreT l) by rw [hS.out, List.take_of_length_le (by rw [hln.out]; exact Nat.le_refl _), hL.out])
          go_wp2
          go_ret
          exact ⟨ret_str hE.out, hb⟩
end Go.Proofs.YtefadlbfkhndfaaGreatDoor

/-
  Sums of texts.
-/
namespace Go.Proofs.YtefadlbfkhndfaaGreatDoor
open Go.RowKit
set_option linter.unusedSimpArgs false
set_option linter.unusedVariables false

theorem add_tx (a b c : List UInt8) (h : a ++ b = c) (hl : c.length ≤ 900000) : ∀ W : World, (Op.stringOp .add (tx a) (tx b)).run Tryz.prog W = .ok (.string (tx c)) W := by
  subst h
  rw [List.length_append] at hl
  exact add_at _ _ _ (by rw [tx_size, tx_size]; omega) (tx_add _ _)
end Go.Proofs.YtefadlbfkhndfaaGreatDoor

/-
  Plain law: the bytes of a core's text.
-/
namespace Go.Proofs.YtefadlbfkhndfaaGreatDoor
open Go.RowKit
set_option linter.unusedSimpArgs false
set_option linter.unusedVariables false

theorem dec_digit : ∀ (u : Nat), ∀ x ∈ Lib.decDigits u, 48 ≤ x.toNat ∧ x.toNat ≤ 57 := by
  intro u
  induction u using Nat.strongRecOn with
  | ind u ih =>
    intro x hx
    rw [Lib.decDigits] at hx
    split at hx
    · simp only [List.mem_singleton] at hx
      subst hx
      have : (UInt8.ofNat (48 + u)).toNat = 48 + u := by simp; omega
      omega
    · rcases List.mem_append.1 hx with h | h
      · exact ih _ (by omega) x h
      · simp only [List.mem_singleton] at h
        subst h
        have : (UInt8.ofNat (48 + u % 10)).toNat = 48 + u % 10 := by simp; omega
        omega
theorem dec_count (u : Nat) (b : UInt8) (hb : b.toNat < 48) : (Lib.decDigits u).count b = 0 :=
  List.count_eq_zero.2 fun hm => by have := dec_digit u b hm; omega
theorem pcT_count (p : Pc) : (pcT p).count 45 = 1 ∧ (pcT p).count 32 = 0 := by
  unfold pcT
  rw [List.count_append, List.count_append, List.count_append, List.count_append, dec_count _ 45 (by decide), dec_count _ 32 (by decide), dec_count _ 45 (by decide), dec_count _ 32 (by decide)]
  decide
theorem rowsT_count (l : List Pc) : ∀ k, k < l.length → (rowsT (l.take (k + 1))).count 45 = k + 1 ∧ (rowsT (l.take (k + 1))).count 32 = k := by
  intro k
  induction k with
  | zero =>
    intro hk
    rw [rowsT_one (List.getElem?_eq_getElem hk)]
    exact pcT_count _
  | succ k ih =>
    intro hk
    have h := ih (by omega)
    have hp := pcT_count l[k + 1]
    rw [rowsT_snoc (List.getElem?_eq_getElem hk) (by omega)]
    rw [List.count_append, List.count_append, List.count_append, List.count_append, h.1, h.2, hp.1, hp.2]
    exact ⟨rfl, rfl⟩
theorem coreT_count {l : List Pc} (h : coreB l = true) (h0 : l.length ≠ 0) : (coreT l).count 45 = l.length ∧ (coreT l).count 32 = l.length - 1 := by
  unfold coreT
  rw [if_pos h, if_neg h0]
  have := rowsT_count l (l.length - 1) (by omega)
  rw [show l.length - 1 + 1 = l.length by omega, List.take_of_length_le (Nat.le_refl _)] at this
  exact this
theorem join_append (xs ys : List (List UInt8)) (sep : List UInt8) (h : xs ≠ []) (h' : ys ≠ []) : Lib.join (xs ++ ys) sep = Lib.join xs sep ++ (sep ++ Lib.join ys sep) := by
  cases xs with
  | nil => exact absurd rfl h
  | cons x t =>
    cases ys with
    | nil => exact absurd rfl h'
    | cons y s =>
      rw [List.cons_append, Lib.join_cons, Lib.join_cons, Lib.join_cons]
      simp [Lib.joinTail]
theorem coreT_parts {l : List Pc} (h : coreB l = true) {k : Nat} (h0 : 0 < k) (h1 : k < l.length) : coreT (l.take k) ++ ([32] ++ coreT (l.drop k)) = coreT l := by
  obtain ⟨hF, h20⟩ := (coreB_iff l).1 h
  have ht : coreB (l.take k) = true := (coreB_iff _).2 ⟨coreFrom_take k hF, by rw [List.length_take]; omega⟩
  have hd : coreB (l.drop k) = true := (coreB_iff _).2 ⟨coreFrom_drop k hF, by rw [List.length_drop]; omega⟩
  unfold coreT
  rw [if_pos h, if_pos ht, if_pos hd, if_neg (show ¬ l.length = 0 by omega), if_neg (show ¬ (l.take k).length = 0 by rw [List.length_take]; omega), if_neg (show ¬ (l.drop k).length = 0 by rw [List.length_drop]; omega)]
  unfold rowsT
  conv => rhs; rw [← List.take_append_drop k l, List.map_append]
  refine (join_append _ _ _ ?_ ?_).symm
  · intro e; have := congrArg List.length e; rw [List.length_map, List.length_take, List.length_nil] at this; omega
  · intro e; have := congrArg List.length e; rw [List.length_map, List.length_drop, List.length_nil] at this; omega
theorem coreT_len (l : List Pc) : (coreT l).length ≤ 280 := by
  unfold coreT
  split
  · rename_i h
    obtain ⟨hF, h20⟩ := (coreB_iff l).1 h
    split
    · decide
    · have key : ∀ k, k ≤ l.length → (rowsT (l.take k)).length ≤ 14 * k := by
        intro k
        induction k with
        | zero => intro _; simp [rowsT, Lib.join_nil]
        | succ k ih =>
          intro hk
          have hx : l[k]? = some l[k] := List.getElem?_eq_getElem (by omega)
          have hm := coreFrom_mem hF _ (List.getElem_mem (show k < l.length by omega))
          have hp : (pcT l[k]).length ≤ 13 := by
            unfold pcT
            have a1 := dec_short (u := l[k].1.toNat) (by omega)
            have a2 := dec_short (u := l[k].2.toNat) (by omega)
            simp only [List.length_append, List.length_cons, List.length_nil]
            omega
          have := ih (by omega)
          by_cases hk0 : k = 0
          · subst hk0
            rw [rowsT_one hx]; omega
          · rw [rowsT_snoc hx (by omega)]
            simp only [List.length_append, List.length_cons, List.length_nil]
            omega
      have := key l.length (Nat.le_refl _)
      rw [List.take_of_length_le (Nat.le_refl _)] at this
      omega
  · decide
theorem tx_toList (l : List UInt8) : (tx l).toList = l := by unfold tx; exact ByteArray.toList_mk l
theorem tx_get (l : List UInt8) (k : Nat) (h : k < (tx l).size) : (tx l)[k] = l[k]'(by rw [← tx_size]; exact h) := by
  unfold tx
  exact List.getElem_toArray _
theorem count_snoc {l : List UInt8} {k : Nat} (h : k < l.length) (b : UInt8) : (l.take (k + 1)).count b = (l.take k).count b + (if l[k].toNat = b.toNat then 1 else 0) := by
  rw [take_snoc (List.getElem?_eq_getElem h), List.count_append]
  congr 1
  rw [List.count_singleton]
  by_cases e : l[k] = b
  · rw [if_pos (show l[k].toNat = b.toNat by rw [e]), if_pos (show (l[k] == b) = true by rw [e]; exact beq_self_eq_true _)]
  · rw [if_neg (fun h => e (UInt8.toNat_inj.1 h)), if_neg (by simpa using e)]
end Go.Proofs.YtefadlbfkhndfaaGreatDoor

/-
  Contracts: strings.Cut at a separator of one byte, strings.TrimSuffix, strings.CutSuffix, strconv.Atoi at every text.
-/
namespace Go.Proofs.YtefadlbfkhndfaaGreatDoor
open Go.RowKit Go.Shelf
set_option linter.unusedSimpArgs false
set_option linter.unusedVariables false

theorem txd (l : List UInt8) : (tx l).data.toList = l := by simp [tx]
theorem txe (l : List UInt8) (a b : Nat) : (tx l).extract a b = tx ((l.drop a).take (b - a)) := by
  apply ByteArray.ext
  apply Array.toList_inj.1
  rw [Lib.extract_data, txd, txd]
/-- What is ahead of the first byte c, and what is behind it. -/
def cutB (c : UInt8) (l : List UInt8) : List UInt8 × List UInt8 := if Lib.indexByte l c = -1 then (l, []) else (l.take (Lib.indexByte l c).toNat, l.drop ((Lib.indexByte l c).toNat + 1))
theorem cutB_no {c : UInt8} {l : List UInt8} (h : Lib.indexByte l c = -1) : cutB c l = (l, []) := by unfold cutB; rw [if_pos h]
theorem cutB_yes {c : UInt8} {l : List UInt8} {k : Nat} (h : Lib.indexByte l c = k) : cutB c l = (l.take k, l.drop (k + 1)) := by
  unfold cutB
  rw [if_neg (by rw [h]; omega), h]
  simp
theorem cutB_at {c : UInt8} (a b : List UInt8) (h : c ∉ a) : cutB c (a ++ c :: b) = (a, b) := by
  rw [cutB_yes (indexByte_at a b h)]
  simp

/-- A text without the byte c at its end, and whether it was there. -/
def cutE (c : UInt8) (l : List UInt8) : List UInt8 × Bool := if l.getLast? = some c then (l.dropLast, true) else (l, false)
theorem suf_last (c : UInt8) (l : List UInt8) : Lib.hasSuffix l [c] = decide (l.getLast? = some c) := by
  unfold Lib.hasSuffix
  rw [Bool.eq_iff_iff, List.isSuffixOf_iff_suffix, decide_eq_true_eq]
  constructor
  · rintro ⟨x, rfl⟩; simp
  · intro h
    obtain ⟨ys, rfl⟩ := List.getLast?_eq_some_iff.1 h
    exact ⟨ys, rfl⟩
theorem cutE_eq (c : UInt8) (l : List UInt8) : cutE c l = (Lib.trimSuffix l [c], Lib.hasSuffix l [c]) := by
  unfold cutE Lib.trimSuffix
  rw [suf_last]
  by_cases h : l.getLast? = some c
  · rw [if_pos h, decide_eq_true h, if_pos rfl, List.dropLast_eq_take]; rfl
  · rw [if_neg h, decide_eq_false h, if_neg (by simp)]
theorem cutsuf_any (l : List UInt8) (hl : l.length ≤ 1000000000) (w : World) :
    Calls Tryz.prog 102 #[.string (tx l), .string ⟨#[63]⟩] w fun e w' => e = .returned (.tuple #[.string (tx (cutE 63 l).1), .bool (cutE 63 l).2]) ∧ w' = w := by
  have := Tryz.strings_CutSuffix (tx l) ⟨#[63]⟩ w (by rw [tx_size]; omega)
  rw [txd] at this
  rw [cutE_eq]
  exact this

/-! ### strconv.Atoi -/
/-- The two error variables that Atoi reads hold what they were laid with. -/
def ErrsAt (w : World) : Prop := (∃ te pe, w.cell? ⟨4, 0, none⟩ = some (.iface te pe)) ∧ (∃ te pe, w.cell? ⟨5, 0, none⟩ = some (.iface te pe))
def Errs (w : World) : Prop := ErrsAt w ∧ 4 < w.heap.size ∧ 5 < w.heap.size
theorem Errs.below {w w' : World} {C : Nat} (h : Errs w) (hb : Below C w w') (hC : w.heap.size ≤ C) : Errs w' := by
  obtain ⟨⟨⟨t1, p1, h1⟩, t2, p2, h2⟩, h3, h4⟩ := h
  have hs := hb.size
  exact ⟨⟨⟨t1, p1, (hb.cell (by simp; omega)).trans h1⟩, t2, p2, (hb.cell (by simp; omega)).trans h2⟩, by omega, by omega⟩
theorem atoi_some (l : List UInt8) (v : Int) (hl : l.length ≤ 1000000000) (h : Lib.atoiAll l = .ok v) (w : World) :
    Calls Tryz.prog 101 #[.string (tx l)] w fun e w' => e = .returned (.tuple #[.int .i64 v, .nilIface]) ∧ Below w.heap.size w w' := by
  refine (Tryz.strconv_Atoi_ok (tx l) (by rw [tx_size]; omega) v (by rw [txd]; exact h) w).mono ?_
  rintro e w' ⟨rfl, rfl | ⟨t, rfl⟩⟩
  · exact ⟨rfl, Below.refl _ _⟩
  · exact ⟨rfl, Lib.bytesWorld_below _ _ _⟩
theorem atoi_none (l : List UInt8) (hl : l.length ≤ 1000000000) (h : ∀ v, Lib.atoiAll l ≠ .ok v) (w : World) (hE : Errs w) :
    Calls Tryz.prog 101 #[.string (tx l)] w fun e w' => (∃ x N, e = .returned (.tuple #[.int .i64 x, .iface 136 (.pointer (some ⟨N, 0, none⟩))])) ∧ Below w.heap.size w w' := by
  obtain ⟨⟨⟨t1, p1, h1⟩, t2, p2, h2⟩, _, _⟩ := hE
  have e := txd l
  cases ha : Lib.atoiAll l with
  | ok v => exact absurd ha (h v)
  | range =>
    refine (Tryz.strconv_Atoi_range (tx l) (by rw [tx_size]; omega) (by rw [e]; exact ha) _ w h2 (.inr ⟨_, _, rfl⟩)).mono ?_
    rintro e w' ⟨N, rfl, _, _, hb⟩
    exact ⟨⟨_, _, rfl⟩, hb⟩
  | _ =>
    rw [← e] at ha
    refine (Any.strconv_Atoi_syntax Tryz.laysC172 (tx l) (by rw [tx_size]; omega) ha _ w h1 (.inr ⟨_, _, rfl⟩)).mono ?_
    rintro e w' ⟨N, rfl, _, _, hb⟩
    exact ⟨⟨_, _, rfl⟩, hb⟩
end Go.Proofs.YtefadlbfkhndfaaGreatDoor

/-
  Contracts: the reference's l1Digits and l43Cut.
-/
namespace Go.Proofs.YtefadlbfkhndfaaGreatDoor
open Go.RowKit
set_option linter.unusedSimpArgs false
set_option linter.unusedVariables false

theorem txdd (l : List UInt8) : (tx l).data.toList = l := by simp [tx]
theorem decFrom_take1 {l : List UInt8} {k acc : Nat} {b : UInt8} (h : Lib.decFrom 0 (l.take k) = some acc) (hb : l[k]? = some b) :
    Lib.decFrom 0 (l.take (k + 1)) = (Lib.digitVal b).map fun d => acc * 10 + d := by
  rw [take_snoc hb, decFrom_append, h]
  simp only [Option.bind, Lib.decFrom]
  cases Lib.digitVal b <;> rfl
theorem decFrom_bad {l : List UInt8} {k : Nat} (h : Lib.decFrom 0 (l.take k) = none) : Lib.decFrom 0 l = none := by
  rw [← List.take_append_drop k l, decFrom_append, h]; rfl

set_option maxRecDepth 100000 in
set_option maxHeartbeats 2000000 in
theorem l1Digits_any (l : List UInt8) (hl : l.length ≤ 1000000000) (w : World) :
    Calls Tryz.prog 71 #[.string (tx l)] w fun e w' => e = .returned (.int .i64 (dig l)) ∧ w = w' := by
  have C0 := fun r hr => l6In_any ((tx l).size : Int) 1 6 r hr w
  have hz : (tx l).size = l.length := tx_size l
  by_cases h16 : 1 ≤ l.length ∧ l.length ≤ 6
  · have C := Lib.hid (C0 true (by rw [hz]; exact decide_eq_true (by omega)))
    have hD1 := Lib.hid (fun n (h : Lib.decFrom 0 l = some n) => show dig l = (n : Int) by unfold dig; rw [if_pos h16, h])
    have hD2 := Lib.hid (fun (h : Lib.decFrom 0 l = none) => show dig l = -1 by unfold dig; rw [if_pos h16, h])
    clear C0
    go_enter Tryz.func71, Tryz.ntmps71
    go_wp2_with (go_at_call 61; refine C.out.mono ?_; rintro e w' ⟨rfl, rfl⟩)
    clear C
    go_loopw [3, 4] (fun s i wr => wr = w ∧ ∃ (k acc : Nat), k ≤ l.length ∧ i = .int .i64 k ∧ s = .int .i64 acc ∧ Lib.decFrom 0 (l.take k) = some acc) (fun _ i _ => l.length - (intOf i).toNat)
    case atStart => exact ⟨rfl, 0, 0, Nat.zero_le _, rfl, rfl, rfl⟩
    case round =>
      obtain ⟨rfl, k, acc, hk, rfl, rfl, ha⟩ := hrel
      by_cases hlt : k < l.length
      · have ik : (k : Int) < ((tx l).size : Int) := by omega
        have ik0 : (0 : Int) ≤ (k : Int) := by omega
        obtain ⟨b, hb⟩ : ∃ b, l[k]? = some b := ⟨l[k], List.getElem?_eq_getElem hlt⟩
        have hbk : ∀ h, (tx l)[k]'h = b := fun h => by
          have := List.getElem?_eq_some_iff.1 hb
          obtain ⟨_, e⟩ := this
          exact e
        have hstep := decFrom_take1 ha hb
        have hacc0 := Lib.decFrom_lt (l.take k) 0 acc ha
        have hp6 : 10 ^ (l.take k).length ≤ 10 ^ 6 := Nat.pow_le_pow_right (by decide) (by rw [List.length_take]; omega)
        have hacc : acc ≤ 1000000 := by
          have e6 : (10 : Nat) ^ 6 = 1000000 := by decide
          omega
        clear hacc0 hp6 ha
        rcases (show b.toNat < 48 ∨ 57 < b.toNat ∨ (48 ≤ b.toNat ∧ b.toNat ≤ 57) by omega) with hc | hc | ⟨hc1, hc2⟩
        · have hd : Lib.digitVal b = none := by unfold Lib.digitVal; rw [if_neg (by omega)]
          rw [hd] at hstep
          have f1 : (b.toNat : Int) < 48 := by omega
          go_wp2_with fail
          go_ret
          exact ⟨ret_int (hD2.out (decFrom_bad hstep)).symm, rfl⟩
        · have hd : Lib.digitVal b = none := by unfold Lib.digitVal; rw [if_neg (by omega)]
          rw [hd] at hstep
          have f1 : ¬ ((b.toNat : Int) < 48) := by omega
          have f2 : 57 < (b.toNat : Int) := by omega
          go_wp2_with fail
          go_ret
          exact ⟨ret_int (hD2.out (decFrom_bad hstep)).symm, rfl⟩
        · have hd : Lib.digitVal b = some (b.toNat - 48) := by unfold Lib.digitVal; rw [if_pos (by omega)]
          rw [hd] at hstep
          have f1 : ¬ ((b.toNat : Int) < 48) := by omega
          have f2 : ¬ (57 < (b.toNat : Int)) := by omega
          obtain ⟨d, hdd⟩ : ∃ d : Nat, b.toNat = 48 + d := ⟨b.toNat - 48, by omega⟩
          rw [show b.toNat - 48 = d by omega] at hstep
          have hd9 : d ≤ 9 := by omega
          have e1 : (b.toNat : Int) - 48 = (d : Int) := by omega
          have e2 : wrap64 (10 * (acc : Int)) = 10 * (acc : Int) := w64 ⟨by omega, by omega⟩
          have e3 : wrap64 (10 * (acc : Int) + (d : Int)) = ((acc * 10 + d : Nat) : Int) := by rw [w64 ⟨by omega, by omega⟩]; omega
          clear hd hdd
          go_wp2_with fail
          refine ⟨⟨trivial, k + 1, acc * 10 + d, by omega, by go_num, ?_, hstep⟩, by simp [intOf]; omega⟩
          first | (rw [e1, e2, e3]; done) | (congr 1; omega) | (rw [e1]; congr 1; omega)
      · obtain rfl : k = l.length := by omega
        have hE := Lib.hid (show dig l = (acc : Int) by rw [List.take_of_length_le (Nat.le_refl _)] at ha; exact hD1.out _ ha)
        have ik : ¬ ((l.length : Int) < ((tx l).size : Int)) := by omega
        go_wp2
        go_ret
        exact ⟨ret_int hE.out.symm, rfl⟩
  · have C := Lib.hid (C0 false (by rw [hz]; exact decide_eq_false (by omega)))
    have hD := Lib.hid (show dig l = -1 by unfold dig; rw [if_neg h16])
    clear C0
    go_enter Tryz.func71, Tryz.ntmps71
    go_wp2_with (go_at_call 61; refine C.out.mono ?_; rintro e w' ⟨rfl, rfl⟩)
    go_ret
    exact ⟨ret_int hD.out.symm, rfl⟩

/-! ### Lines and words -/
theorem txdx (l : List UInt8) (a b : Nat) : (tx l).extract a b = tx ((l.drop a).take (b - a)) := by
  apply ByteArray.ext
  apply Array.toList_inj.1
  rw [Lib.extract_data, txdd, txdd]
/-- The walk of a text, byte by byte: what has been cut off, and what is begun. -/
def CutAt (c : UInt8) (l : List UInt8) (f k : Nat) (D : List (List UInt8)) : Prop := splitB c l = D ++ preS ((l.drop f).take (k - f)) (splitB c (l.drop k))
theorem CutAt.start (c : UInt8) (l : List UInt8) : CutAt c l 0 0 [] := by unfold CutAt; rw [List.drop_zero, List.nil_append]; simp only [Nat.sub_self, List.take_zero]; rw [preS_nil (splitB_ne c l)]
theorem CutAt.hit {c : UInt8} {l : List UInt8} {f k : Nat} {D : List (List UInt8)} (h : CutAt c l f k D) (hk : l[k]? = some c) : CutAt c l (k + 1) (k + 1) (D ++ [(l.drop f).take (k - f)]) := by
  unfold CutAt at h ⊢
  rw [h, splitB_step hk, if_pos rfl]
  simp only [Nat.sub_self, List.take_zero]
  rw [preS_nil (splitB_ne _ _), preS, List.append_nil]
  simp
theorem CutAt.miss {c b : UInt8} {l : List UInt8} {f k : Nat} {D : List (List UInt8)} (h : CutAt c l f k D) (hk : l[k]? = some b) (hb : b ≠ c) (hf : f ≤ k) : CutAt c l f (k + 1) D := by
  unfold CutAt at h ⊢
  rw [h, splitB_step hk, if_neg hb, preS_pre _ _ (splitB_ne _ _)]
  congr 2
  rw [show k + 1 - f = (k - f) + 1 by omega, List.take_add_one, List.getElem?_drop, show f + (k - f) = k by omega, hk]
  rfl
theorem CutAt.fin {c : UInt8} {l : List UInt8} {f k : Nat} {D : List (List UInt8)} (h : CutAt c l f k D) (hk : k = l.length) : splitB c l = D ++ [l.drop f] := by
  unfold CutAt at h
  rw [h, show l.drop k = [] from List.drop_of_length_le (by omega), splitB, preS, List.append_nil, List.take_of_length_le (by rw [List.length_drop]; omega)]

set_option maxRecDepth 100000 in
set_option maxHeartbeats 4000000 in
theorem l43Cut_any (l : List UInt8) (c : UInt8) (hl : l.length ≤ 1000000000) (w : World) :
    Calls Tryz.prog 41 #[.string (tx l), .int .u8 c.toNat] w fun e w' => ∃ A' n' c', e = .returned (.slice A' n' c') ∧ Own ST 1 w' w.heap.size 9 (.slice A' n' c') n' ((splitB c l).map tx) ∧ Below w.heap.size w w' := by
  obtain ⟨i0, hi, hz0, hz1, hz2⟩ := info_parts infoStr
  have hz : (tx l).size = l.length := tx_size l
  go_enter Tryz.func41, Tryz.ntmps41
  go_wp2_with fail
  go_loopw [5, 6, 7] (fun s f i wr => ∃ (k fr : Nat) (D : List (List UInt8)), k ≤ l.length ∧ fr ≤ k ∧ i = .int .i64 k ∧ f = .int .i64 fr ∧ D.length ≤ k ∧ Own ST 1 wr w.heap.size 9 s D.length (D.map tx) ∧ CutAt c l fr k D ∧ Below w.heap.size w wr) (fun _ _ i _ => l.length - (intOf i).toNat)
  case atStart => exact ⟨0, 0, [], Nat.zero_le _, Nat.le_refl _, rfl, rfl, Nat.le_refl _, Own.made _ _ _ _ _ (Nat.le_refl _), CutAt.start c l, (Below.refl _ w).alloc (Nat.le_refl _) _⟩
  case round =>
    obtain ⟨k, fr, D, hk, hfr, rfl, rfl, hDk, hw, hC, hb⟩ := hrel
    obtain ⟨A0, c0, rfl, _, _⟩ := hw.form
    by_cases hlt : k < l.length
    · have ik : (k : Int) < ((tx l).size : Int) := by omega
      have ik0 : (0 : Int) ≤ (k : Int) := by omega
      obtain ⟨b, hbb⟩ : ∃ b, l[k]? = some b := ⟨l[k], List.getElem?_eq_getElem hlt⟩
      have hbk : ∀ h, (tx l)[k]'h = b := fun h => by
        obtain ⟨_, e⟩ := List.getElem?_eq_some_iff.1 hbb
        exact e
      by_cases hbc : b = c
      · subst hbc
        have hfk : (fr : Int) ≤ (k : Int) := by omega
        have hkz : k ≤ (tx l).size := by omega
        obtain ⟨X, hX⟩ : ∃ X, X = (l.drop fr).take (k - fr) := ⟨_, rfl⟩
        have hx := txdx l fr k
        rw [← hX] at hx
        have hC' := hC.hit hbb
        rw [← hX] at hC'
        have hsz := hb.size
        have HL := hw.1
        clear hC hX hbb
        have K1 := cell_new1 wr (.string (tx X)) 9
        have K2 := one_ST (tx X)
        have K3 : D.length + 1 ≤ maxLen := by unfold maxLen; omega
        have K4 : (D.length + 1) * 16 ≤ 140737488355328 := by omega
        have K5 : w.heap.size ≤ (wr.alloc (.cells #[.string (tx X)] 9)).heap.size := by simp; omega
        go_wp2_with (at_builtin; (refine wpList_append_own _ rfl _ _ 48 rfl w.heap.size 9 i0 (.string ⟨#[]⟩) 1 16 Tryz.underlying48 hi hz0 hz1 hz2 rfl (by decide) _ _ _ rfl (hw.2.alloc _) ⟨wr.heap.size, 0, none⟩ 1 1 [.string (tx X)] rfl rfl K1 K2 K3 K4 K5 ?_))
        intro v' w4 hown' hg4 _
        have hw4 : Own ST 1 w4 w.heap.size 9 v' (D ++ [X]).length ((D ++ [X]).map tx) := by
          have := Own.snoc (x := tx X) HL hown'
          rw [List.map_append, List.length_append]
          exact this
        have hb4 : Below w.heap.size w w4 := (hb.alloc hsz (.cells #[.string (tx X)] 9)).grown hg4 (by simp; omega) (fun j hj => (hw.2.lt j hj).1)
        clear hw hown' hg4 hb
        go_wp2
        go_roundw
        case rel => exact ⟨k + 1, k + 1, D ++ [X], by omega, Nat.le_refl _, by go_num, by go_num, by simp; omega, hw4, hC', hb4⟩
        case measure => simp [intOf]; omega
      · have f1 : ((b.toNat : Int) == (c.toNat : Int)) = false := by
          rw [beq_eq_false_iff_ne]
          intro e
          exact hbc (UInt8.toNat_inj.1 (by omega))
        have hC' := hC.miss hbb hbc hfr
        go_wp2_with fail
        go_roundw
        case rel => exact ⟨k + 1, fr, D, by omega, by omega, by go_num, rfl, by omega, hw, hC', hb⟩
        case measure => simp [intOf]; omega
    · obtain rfl : k = l.length := by omega
      have ik : ¬ ((l.length : Int) < ((tx l).size : Int)) := by omega
      have hfk : (fr : Int) ≤ (l.length : Int) := by omega
      have hkz : fr ≤ (tx l).size := by omega
      have hx := txdx l fr l.length
      rw [List.take_of_length_le (by rw [List.length_drop]; omega)] at hx
      have hC' := hC.fin rfl
      obtain ⟨X, hX⟩ : ∃ X, X = l.drop fr := ⟨_, rfl⟩
      rw [← hX] at hx hC'
      have hsz := hb.size
      have HL := hw.1
      clear hC hX
      have K1 := cell_new1 wr (.string (tx X)) 9
      have K2 := one_ST (tx X)
      have K3 : D.length + 1 ≤ maxLen := by unfold maxLen; omega
      have K4 : (D.length + 1) * 16 ≤ 140737488355328 := by omega
      have K5 : w.heap.size ≤ (wr.alloc (.cells #[.string (tx X)] 9)).heap.size := by simp; omega
      go_wp2_with (at_builtin; (refine wpList_append_own _ rfl _ _ 48 rfl w.heap.size 9 i0 (.string ⟨#[]⟩) 1 16 Tryz.underlying48 hi hz0 hz1 hz2 rfl (by decide) _ _ _ rfl (hw.2.alloc _) ⟨wr.heap.size, 0, none⟩ 1 1 [.string (tx X)] rfl rfl K1 K2 K3 K4 K5 ?_))
      intro v' w4 hown' hg4 _
      have hw4 : Own ST 1 w4 w.heap.size 9 v' (D.length + 1) ((splitB c l).map tx) := by
        have := Own.snoc (x := tx X) HL hown'
        rw [hC', List.map_append]
        exact this
      have hb4 : Below w.heap.size w w4 := (hb.alloc hsz (.cells #[.string (tx X)] 9)).grown hg4 (by simp; omega) (fun j hj => (hw.2.lt j hj).1)
      obtain ⟨A1, c1, rfl, _, _⟩ := hw4.form
      clear hw hown' hg4 hb
      go_wp2
      go_ret
      exact ⟨_, _, _, rfl, hw4, hb4⟩
end Go.Proofs.YtefadlbfkhndfaaGreatDoor

/-
  Contract: the program's scriptNumber at every word.
-/
namespace Go.Proofs.YtefadlbfkhndfaaGreatDoor
open Go.RowKit
set_option linter.unusedSimpArgs false
set_option linter.unusedVariables false

theorem dig_long {l : List UInt8} (h : 6 < l.length) : dig l = -1 := by unfold dig; rw [if_neg (by omega)]
theorem dig_some {l : List UInt8} {u : Nat} (h0 : 1 ≤ l.length) (h6 : l.length ≤ 6) (h : Lib.decFrom 0 l = some u) : dig l = u := by unfold dig; rw [if_pos ⟨h0, h6⟩, h]
theorem dig_none {l : List UInt8} (h : Lib.decFrom 0 l = none) : dig l = -1 := by
  unfold dig
  split
  · rw [h]
  · rfl
theorem atoi_digs {l : List UInt8} {u : Nat} (h0 : 1 ≤ l.length) (h : Lib.decFrom 0 l = some u) : Lib.atoi l = some (u : Int) := by
  cases l with
  | nil => simp at h0
  | cons b r =>
    have hb : Lib.digitVal b ≠ none := fun e => by
      simp only [Lib.decFrom, e] at h
      cases h
    have n1 : ¬ ((b == 45) = true) := fun e => by rw [show b = 45 by simpa using e] at hb; exact hb (by decide)
    have n2 : ¬ ((b == 43) = true) := fun e => by rw [show b = 43 by simpa using e] at hb; exact hb (by decide)
    rw [Lib.atoi, if_neg n1, if_neg n2, Lib.decNat, if_neg (by simp), h]
    rfl

set_option maxRecDepth 100000 in
set_option maxHeartbeats 4000000 in
theorem scriptNumber_any (l : List UInt8) (hl : l.length ≤ 1000000000) (w : World) (hE : Errs w) :
    Calls Tryz.prog 76 #[.string (tx l)] w fun e w' => e = .returned (.int .i64 (dig l)) ∧ Below w.heap.size w w' := by
  have hz : (tx l).size = l.length := tx_size l
  by_cases h6 : l.length ≤ 6
  · have f0 : ¬ (6 < ((tx l).size : Int)) := by omega
    have HE := Lib.hid hE
    have D1 := Lib.hid (fun (h : Lib.decFrom 0 l = none) => dig_none h)
    have D2 := Lib.hid (fun (h0 : 1 ≤ l.length) u (h : Lib.decFrom 0 l = some u) => dig_some h0 h6 h)
    have A1 := Lib.hid (fun (h0 : 1 ≤ l.length) u (h : Lib.decFrom 0 l = some u) W => Tryz.strconv_Atoi (tx l) (u : Int) (by omega) (by rw [txnl]; exact atoi_digs h0 h) W)
    have A2 := Lib.hid (fun (h0 : l.length = 0) => atoi_none l hl (fun v e => by rw [List.eq_nil_of_length_eq_zero h0] at e; cases e) w hE)
    clear hE
    go_enter Tryz.func76, Tryz.ntmps76
    go_wp2_with fail
    go_loopw [3, 11] (fun _ i wr => wr = w ∧ ∃ k : Nat, k ≤ l.length ∧ i = .int .i64 k ∧ Hid (∃ acc, Lib.decFrom 0 (l.take k) = some acc)) (fun _ i _ => l.length - (intOf i).toNat)
    case atStart => exact ⟨rfl, 0, Nat.zero_le _, rfl, Lib.hid ⟨0, rfl⟩⟩
    case round =>
      obtain ⟨rfl, k, hk, rfl, ha⟩ := hrel
      by_cases hlt : k < l.length
      · have ik : (k : Int) < ((tx l).size : Int) := by omega
        have ik0 : (0 : Int) ≤ (k : Int) := by omega
        obtain ⟨b, hb⟩ : ∃ b, l[k]? = some b := ⟨l[k], List.getElem?_eq_getElem hlt⟩
        have hbk : ∀ h, (tx l)[k]'h = b := fun h => by
          obtain ⟨_, e⟩ := List.getElem?_eq_some_iff.1 hb
          exact e
        have hstep := Lib.hid (fun acc (ha : Lib.decFrom 0 (l.take k) = some acc) => decFrom_take1 ha hb)
        clear hb
        rcases (show b.toNat < 48 ∨ 57 < b.toNat ∨ (48 ≤ b.toNat ∧ b.toNat ≤ 57) by omega) with hc | hc | ⟨hc1, hc2⟩
        · have hf := Lib.hid (show dig l = -1 by
            obtain ⟨acc, h⟩ := ha.out
            have h2 := hstep.out acc h
            rw [show Lib.digitVal b = none by unfold Lib.digitVal; rw [if_neg (by omega)]] at h2
            exact D1.out (decFrom_bad h2))
          have f1 : (b.toNat : Int) < 48 := by omega
          go_wp2_with fail
          go_ret
          exact ⟨ret_int hf.out.symm, Below.refl _ _⟩
        · have hf := Lib.hid (show dig l = -1 by
            obtain ⟨acc, h⟩ := ha.out
            have h2 := hstep.out acc h
            rw [show Lib.digitVal b = none by unfold Lib.digitVal; rw [if_neg (by omega)]] at h2
            exact D1.out (decFrom_bad h2))
          have f1 : ¬ ((b.toNat : Int) < 48) := by omega
          have f2 : 57 < (b.toNat : Int) := by omega
          go_wp2_with fail
          go_ret
          exact ⟨ret_int hf.out.symm, Below.refl _ _⟩
        · have hn := Lib.hid (show ∃ acc, Lib.decFrom 0 (l.take (k + 1)) = some acc by
            obtain ⟨acc, h⟩ := ha.out
            have h2 := hstep.out acc h
            rw [show Lib.digitVal b = some (b.toNat - 48) by unfold Lib.digitVal; rw [if_pos (by omega)]] at h2
            exact ⟨_, h2⟩)
          have f1 : ¬ ((b.toNat : Int) < 48) := by omega
          have f2 : ¬ (57 < (b.toNat : Int)) := by omega
          go_wp2_with fail
          refine ⟨⟨trivial, k + 1, by omega, by go_num, hn⟩, by simp [intOf]; omega⟩
      · obtain rfl : k = l.length := by omega
        have ik : ¬ ((l.length : Int) < ((tx l).size : Int)) := by omega
        by_cases h0 : l.length = 0
        · have A := Lib.hid (A2.out h0)
          have hf := Lib.hid (show dig l = -1 by rw [List.eq_nil_of_length_eq_zero h0]; rfl)
          clear A1 A2 D1 D2
          go_wp2_with (go_at_call 101; refine A.out.mono ?_; rintro e w' ⟨⟨x, N, rfl⟩, b2⟩)
          go_ret
          exact ⟨ret_int hf.out.symm, b2⟩
        · have A := Lib.hid (show ∃ u : Nat, dig l = (u : Int) ∧ ∀ W : World, _ from by
            obtain ⟨acc, h⟩ := ha.out
            rw [List.take_of_length_le (Nat.le_refl _)] at h
            exact ⟨acc, D2.out (by omega) acc h, A1.out (by omega) acc h⟩)
          clear A1 A2 D1 D2
          obtain ⟨u, hu, A3⟩ := A.out
          have HU := Lib.hid hu
          clear hu
          go_wp2_with (go_at_call 101; refine (A3 _).mono ?_; rintro e w' ⟨rfl, t, rfl⟩)
          go_ret
          exact ⟨ret_int HU.out.symm, Go.Joins.below_bytesWorld _ _ _ _ (Nat.le_refl _)⟩
  · have f0 : 6 < ((tx l).size : Int) := by omega
    have hf := Lib.hid (dig_long (l := l) (by omega))
    go_enter Tryz.func76, Tryz.ntmps76
    go_wp2_with fail
    go_ret
    exact ⟨ret_int hf.out.symm, Below.refl _ _⟩
/-- A contract at a later world, seen from an earlier one. -/
theorem calls_later {P : Program} {f : FuncId} {a : Array Value} {w0 W : World} {R : Ending} (hW : Below w0.heap.size w0 W) (K : Calls P f a W fun e w' => e = R ∧ Below W.heap.size W w') : Calls P f a W fun e w' => e = R ∧ Below w0.heap.size w0 w' :=
  K.mono fun _ _ ⟨he, h2⟩ => ⟨he, hW.trans (h2.mono hW.size)⟩
theorem calls_later_same {P : Program} {f : FuncId} {a : Array Value} {w0 W : World} {R : Ending} (hW : Below w0.heap.size w0 W) (K : Calls P f a W fun e w' => e = R ∧ W = w') : Calls P f a W fun e w' => e = R ∧ Below w0.heap.size w0 w' :=
  K.mono fun _ _ ⟨he, h2⟩ => ⟨he, h2 ▸ hW⟩
end Go.Proofs.YtefadlbfkhndfaaGreatDoor

/-
  Contract: LayersText of the program.
-/
namespace Go.Proofs.YtefadlbfkhndfaaGreatDoor
open Go.RowKit
set_option linter.unusedSimpArgs false
set_option linter.unusedVariables false

theorem byte_at (b : Nat) (l : List UInt8) (w : World) (h : Bd w b l) (hlen : l.length ≤ 1000000) (c : UInt8) (v : Int) (hv : (c.toNat : Int) = v) :
    Calls Tryz.prog 86 #[.pointer (some ⟨b, 0, none⟩), .int .u8 v] w fun e w' => e = .returned .nilIface ∧ Bd w' b (l ++ [c]) ∧ Below b w w' := by
  subst hv; exact wbyte_any b l c w h hlen

set_option maxRecDepth 100000 in
set_option maxHeartbeats 4000000 in
theorem implLayersText_any (A : Option Addr) (n c : Nat) (l : List Ly) (w : World) (h : Arr LL 2 w w.heap.size A n l) (hn : n ≤ 1099511627776) (hT : Tab w) :
    Calls Tryz.prog 58 #[.slice A n c] w fun e w' => e = .returned (.string (tx (layersT l))) ∧ Below w.heap.size w w' := by
  have KV := implLayersValid_any A n c l w h hn
  have hln := Lib.hid h.1
  have HT := Lib.hid hT
  clear hT
  cases hB : layB l with
  | false =>
    rw [hB] at KV
    have C' := Lib.hid KV
    have hL := Lib.hid (show layersT l = [] by unfold layersT; rw [hB]; rfl)
    clear KV hB
    go_enter Tryz.func58, Tryz.ntmps58
    go_wp2_with fail
    refine C'.out.mono ?_
    rintro e w1 ⟨rfl, b1⟩
    go_wp2
    go_ret
    exact ⟨ret_str (by rw [hL.out]; rfl), b1⟩
  | true =>
    rw [hB] at KV
    have C' := Lib.hid KV
    have hL := Lib.hid (show layersT l = laysT l by unfold layersT; rw [if_pos hB])
    obtain ⟨hF, h40⟩ := (layB_iff l).1 hB
    rw [hln.out] at h40
    have hF' := Lib.hid hF
    clear KV hB hF
    go_enter Tryz.func58, Tryz.ntmps58
    go_wp2_with fail
    refine C'.out.mono ?_
    rintro e w1 ⟨rfl, b1⟩
    clear C'
    go_wp2_with fail
    have hBd := Bd.fresh w1
    have b2 := b1.alloc b1.size (.cells #[.pointer none, .slice none 0 0] 56)
    have hG := b1.size
    generalize w1.alloc (.cells #[.pointer none, .slice none 0 0] 56) = w2 at hBd b2 ⊢
    generalize w1.heap.size = G at hBd hG ⊢
    clear b1
    go_loopw [11] (fun i wr => ∃ (k : Nat), k ≤ n ∧ i = .int .i64 k ∧ Bd wr G (laysT (l.take k)) ∧ Below w.heap.size w wr) (fun i _ => n - (intOf i).toNat)
    case atStart => exact ⟨0, Nat.zero_le _, rfl, hBd, b2⟩
    case round =>
      obtain ⟨k, hk, rfl, hw, hb⟩ := hrel
      by_cases hlt : k < n
      · obtain ⟨b, off, x, s, rfl, hbB, hx, c1, c2⟩ := h.layer hlt
        have hm := layFrom_mem hF'.out _ (List.mem_of_getElem? hx)
        have hm1 : -1 < x ∧ x ≤ 30000 := hm
        have hlen := laysT_len hF'.out (by omega) k (by rw [hln.out]; omega)
        obtain ⟨u, rfl⟩ : ∃ u : Nat, x = u := ⟨x.toNat, by omega⟩
        have hu : u ≤ 100000 := by omega
        have q1 := dec_short hu
        have HF := Lib.hid (laysT_snoc hx)
        obtain ⟨Lk, hLk⟩ : ∃ L, L = laysT (l.take k) := ⟨_, rfl⟩
        rw [← hLk] at hw hlen
        have HLk := Lib.hid hLk
        obtain ⟨D, hD⟩ : ∃ D, D = Lib.decDigits u := ⟨_, rfl⟩
        rw [← hD] at q1
        have KI := fun W hW => itoa_any u hu W hW
        rw [← hD] at KI
        have HK := Lib.hid KI
        have HD := Lib.hid hD
        have c1' := (hb.cell (by exact hbB)).trans c1
        have c2' := (hb.cell (by exact hbB)).trans c2
        have ik : (k : Int) < (n : Int) := by omega
        have ik0 : (0 : Int) ≤ (k : Int) := by omega
        have hsz := hb.size
        have hGl := hw.lt
        have HTr := Lib.hid (HT.out.below hb (Nat.le_refl _))
        have HW := Lib.hid hw
        clear hx hm hm1 c1 c2 hw hD hLk KI
        go_wp2_with fail
        obtain ⟨d1, d2⟩ := (new_two wr (.int .i64 (u : Int)) (.bool s) 73)
        have hnew := heap_alloc_new wr (.cells #[.int .i64 (u : Int), .bool s] 73)
        have HTp := HTr.out.alloc (.cells #[.int .i64 (u : Int), .bool s] 73)
        have Bp := hb.alloc hsz (.cells #[.int .i64 (u : Int), .bool s] 73)
        have HBp := HW.out.below ((Below.refl wr.heap.size wr).alloc (Nat.le_refl _) (.cells #[.int .i64 (u : Int), .bool s] 73)) (Nat.le_refl _)
        have hPl : wr.heap.size < (wr.alloc (.cells #[.int .i64 (u : Int), .bool s] 73)).heap.size := by simp
        generalize wr.alloc (.cells #[.int .i64 (u : Int), .bool s] 73) = wp at d1 d2 hnew HTp Bp HBp hPl ⊢
        generalize wr.heap.size = P at d1 d2 hnew hPl hGl ⊢
        have hszp := Bp.size
        refine (HK.out wp HTp).mono ?_
        rintro e w3 ⟨rfl, b3⟩
        have hPG : P ≠ G := by omega
        have hnew3 := (b3.block P (by exact hPl)).trans hnew
        have HB3 := HBp.below b3 (Nat.le_refl _)
        have B3 := Bp.trans (b3.mono hszp)
        clear HTp HBp HTr HW c1' c2' d1 d2 b3 hnew HK
        go_wp2_with fail
        refine (wstr_keep G Lk D w3 HB3 (by omega)).mono ?_
        rintro e w4 ⟨rfl, HB4, b4, k4⟩
        have hnew4 := (k4 P _ _ _ hPG hnew3 (by decide)).trans hnew3
        have d2 : w4.cell? ⟨P, 1, none⟩ = some (.bool s) := by rw [Lib.cell_of_heap hnew4]; rfl
        have B4 := B3.trans (b4.mono hG)
        have hz4 : (Lk ++ D).length ≤ 8 * k + 6 := by rw [List.length_append]; omega
        clear HB3 B3 b4 k4 hnew3 hnew4
        cases s with
        | true =>
          go_wp2_with fail
          refine (byte_at G _ w4 HB4 (by omega) 10 10 rfl).mono ?_
          rintro e w5 ⟨rfl, HB5, b5⟩
          have HB6 : Bd w5 G (laysT (l.take (k + 1))) := by
            rw [HF.out, ← HLk.out]
            have e1 : lyT ((u : Int), true) = D ++ [10] := by rw [HD.out]; simp [lyT]
            rw [e1, ← List.append_assoc]; exact HB5
          have B6 := B4.trans (b5.mono hG)
          clear HB4 HB5 B4 b5 d2
          go_wp2
          go_roundw
          case rel => exact ⟨k + 1, by omega, by go_num, HB6, B6⟩
          case measure => simp [intOf]; omega
        | false =>
          go_wp2_with fail
          refine (byte_at G _ w4 HB4 (by omega) 63 63 rfl).mono ?_
          rintro e w5 ⟨rfl, HB5, b5⟩
          have B5 := B4.trans (b5.mono hG)
          have hz5 : (Lk ++ D ++ [63]).length ≤ 8 * k + 7 := by simp only [List.length_append, List.length_cons, List.length_nil] at hz4 ⊢; omega
          clear HB4 B4 b5 d2
          go_wp2_with fail
          refine (byte_at G _ w5 HB5 (by omega) 10 10 rfl).mono ?_
          rintro e w6 ⟨rfl, HB6, b6⟩
          have HB7 : Bd w6 G (laysT (l.take (k + 1))) := by
            rw [HF.out, ← HLk.out]
            have e1 : lyT ((u : Int), false) = D ++ ([63] ++ [10]) := by rw [HD.out]; simp [lyT]
            rw [e1, ← List.append_assoc, ← List.append_assoc]; exact HB6
          have B6 := B5.trans (b6.mono hG)
          clear HB5 HB6 B5 b6
          go_wp2
          go_roundw
          case rel => exact ⟨k + 1, by omega, by go_num, HB7, B6⟩
          case measure => simp [intOf]; omega
      · obtain rfl : k = n := by omega
        have hxs : laysT (l.take k) = laysT l := by rw [List.take_of_length_le (by rw [hln.out]; exact Nat.le_refl _)]
        rw [hxs, ← hL.out] at hw
        have J' := Lib.hid (bstr_any G _ wr hw)
        have hlg := hw.lt
        clear hxs hw
        go_wp2_with fail
        refine J'.out.mono ?_
        rintro e w5 ⟨rfl, b5⟩
        go_wp2
        go_ret
        exact ⟨rfl, hb.trans (b5.mono hG)⟩
end Go.Proofs.YtefadlbfkhndfaaGreatDoor

/-
  Contract: CoreText of the program.
-/
namespace Go.Proofs.YtefadlbfkhndfaaGreatDoor
open Go.RowKit
set_option linter.unusedSimpArgs false
set_option linter.unusedVariables false

def pieceTexts (l : List Pc) : List ByteArray := l.map fun p => tx (pcT p)
theorem pieceTexts_len (l : List Pc) : (pieceTexts l).length = l.length := by simp [pieceTexts]
theorem pieceTexts_snoc {l : List Pc} {k : Nat} {p : Pc} (h : l[k]? = some p) : pieceTexts (l.take (k + 1)) = pieceTexts (l.take k) ++ [tx (pcT p)] := by
  unfold pieceTexts; rw [take_snoc h, List.map_append]; rfl
theorem pieceTexts_join (l : List Pc) : Lib.join ((pieceTexts l).map (·.data.toList)) (tx [32]).data.toList = rowsT l := by
  unfold pieceTexts rowsT
  rw [List.map_map]
  congr 1
theorem rowsT_len {l : List Pc} (h : coreFrom 0 l = true) : (rowsT l).length ≤ 14 * l.length := by
  have key : ∀ k, k ≤ l.length → (rowsT (l.take k)).length ≤ 14 * k := by
    intro k
    induction k with
    | zero => intro _; simp [rowsT, Lib.join_nil]
    | succ k ih =>
      intro hk
      have hx : l[k]? = some l[k] := List.getElem?_eq_getElem (by omega)
      have hm := coreFrom_mem h _ (List.getElem_mem (show k < l.length by omega))
      have hp : (pcT l[k]).length ≤ 13 := by
        unfold pcT
        have a1 := dec_short (u := l[k].1.toNat) (by omega)
        have a2 := dec_short (u := l[k].2.toNat) (by omega)
        simp only [List.length_append, List.length_cons, List.length_nil]
        omega
      have := ih (by omega)
      by_cases hk0 : k = 0
      · subst hk0
        rw [rowsT_one hx]; omega
      · rw [rowsT_snoc hx (by omega)]
        simp only [List.length_append, List.length_cons, List.length_nil]
        omega
  have := key l.length (Nat.le_refl _)
  rwa [List.take_of_length_le (Nat.le_refl _)] at this

set_option maxRecDepth 100000 in
set_option maxHeartbeats 4000000 in
theorem implCoreText_any (A : Option Addr) (n c : Nat) (l : List Pc) (w : World) (h : Arr PP 2 w w.heap.size A n l) (hn : n ≤ 1099511627776) (hT : Tab w) :
    Calls Tryz.prog 37 #[.slice A n c] w fun e w' => e = .returned (.string (tx (coreT l))) ∧ Below w.heap.size w w' := by
  have C := implCoreValid_any A n c l w h hn
  have hln := Lib.hid h.1
  have hl1 := h.1
  have HT := Lib.hid hT
  clear hT
  cases hB : coreB l with
  | false =>
    rw [hB] at C
    have C' := Lib.hid C
    have hL := Lib.hid (show coreT l = [] by unfold coreT; rw [hB]; rfl)
    clear C hB hl1
    go_enter Tryz.func37, Tryz.ntmps37
    go_wp2_with fail
    refine C'.out.mono ?_
    rintro e w1 ⟨rfl, b1⟩
    go_wp2
    go_ret
    exact ⟨ret_str (by rw [hL.out]; rfl), b1⟩
  | true =>
    rw [hB] at C
    have C' := Lib.hid C
    obtain ⟨hF, h20⟩ := (coreB_iff l).1 hB
    have hF' := Lib.hid hF
    rw [hl1] at h20
    by_cases h0 : n = 0
    · have hL := Lib.hid (show coreT l = [45] by unfold coreT; rw [if_pos hB, if_pos (by rw [hl1]; exact h0)])
      have f0 : ((n : Int) == 0) = true := by simp; omega
      clear C hB hl1 hF h0
      go_enter Tryz.func37, Tryz.ntmps37
      go_wp2_with fail
      refine C'.out.mono ?_
      rintro e w1 ⟨rfl, b1⟩
      go_wp2
      go_ret
      exact ⟨ret_str (by rw [hL.out]; rfl), b1⟩
    · have hL := Lib.hid (show coreT l = rowsT l by unfold coreT; rw [if_pos hB, if_neg (by rw [hl1]; exact h0)])
      have f0 : ((n : Int) == 0) = false := by simp; omega
      have hn0 : 0 < n := by omega
      obtain ⟨i0, hi, hz0, hz1, hz2⟩ := info_parts infoStr
      clear C hB hl1 hF h0
      go_enter Tryz.func37, Tryz.ntmps37
      go_wp2_with fail
      refine C'.out.mono ?_
      rintro e w1 ⟨rfl, b1⟩
      clear C'
      go_wp2_with fail
      clear f0
      go_loopw [3, 14] (fun s i wr => ∃ (k : Nat), k ≤ n ∧ i = .int .i64 k ∧ Own ST 1 wr w.heap.size 9 s k (pieceTexts (l.take k)) ∧ Below w.heap.size w wr) (fun _ i _ => n - (intOf i).toNat)
      case atStart => exact ⟨0, Nat.zero_le _, rfl, Own.nil_ _ _ _ _ _, b1⟩
      case round =>
        obtain ⟨k, hk, rfl, hw, hb⟩ := hrel
        by_cases hlt : k < n
        · obtain ⟨b, off, x, y, rfl, hbB, hx, c1, c2⟩ := h.pair hlt
          have hm := coreFrom_mem hF'.out _ (List.mem_of_getElem? hx)
          have hm1 : (0 : Int) ≤ x ∧ x < y ∧ y ≤ 30000 := hm
          obtain ⟨u, rfl⟩ : ∃ u : Nat, x = u := ⟨x.toNat, by omega⟩
          obtain ⟨v, rfl⟩ : ∃ v : Nat, y = v := ⟨y.toNat, by omega⟩
          have hu : u ≤ 100000 := by omega
          have hv : v ≤ 100000 := by omega
          obtain ⟨T1, hT1⟩ : ∃ T, T = tx (Lib.decDigits u) ++ tx [45] := ⟨_, rfl⟩
          obtain ⟨T2, hT2⟩ : ∃ T, T = T1 ++ tx (Lib.decDigits v) := ⟨_, rfl⟩
          have q1 := dec_tx hu
          have q2 := dec_tx hv
          have z1 : T1.size = (tx (Lib.decDigits u)).size + 1 := by rw [hT1, ByteArray.size_append, tx_size [45]]; rfl
          have HF := Lib.hid (show pieceTexts (l.take k) ++ [T2] = pieceTexts (l.take (k + 1)) by
            rw [pieceTexts_snoc hx, hT2, hT1, ByteArray.append_assoc, tx_add, tx_add]; rfl)
          have A1 : ∀ W : World, (Op.stringOp .add (tx (Lib.decDigits u)) ⟨#[45]⟩).run Tryz.prog W = .ok (.string T1) W := add_at (tx (Lib.decDigits u)) (tx [45]) T1 (by rw [tx_size [45]]; simp; omega) hT1.symm
          have A2 := add_at T1 (tx (Lib.decDigits v)) T2 (by omega) hT2.symm
          have c1' := (hb.cell (by exact hbB)).trans c1
          have c2' := (hb.cell (by exact hbB)).trans c2
          have ik : (k : Int) < (n : Int) := by omega
          have ik0 : (0 : Int) ≤ (k : Int) := by omega
          have hsz := hb.size
          have M1 : k + 1 ≤ maxLen := by unfold maxLen; omega
          have M2 : (k + 1) * 16 ≤ 140737488355328 := by omega
          have HW := Lib.hid hw
          have HTr := Lib.hid (HT.out.below hb (Nat.le_refl _))
          clear hT1 hT2 q1 q2 z1 hx hm hm1 c1 c2 hw
          go_wp2_with fail
          obtain ⟨d1, d2⟩ := (new_two wr (.int .i64 (u : Int)) (.int .i64 (v : Int)) 69)
          have HWp := HW.out.alloc (.cells #[.int .i64 (u : Int), .int .i64 (v : Int)] 69)
          have HTp := HTr.out.alloc (.cells #[.int .i64 (u : Int), .int .i64 (v : Int)] 69)
          have Bp := hb.alloc hsz (.cells #[.int .i64 (u : Int), .int .i64 (v : Int)] 69)
          have hG := fun g hg => HW.out.2.lt g hg
          have hPl : wr.heap.size < (wr.alloc (.cells #[.int .i64 (u : Int), .int .i64 (v : Int)] 69)).heap.size := by simp
          generalize wr.alloc (.cells #[.int .i64 (u : Int), .int .i64 (v : Int)] 69) = wp at d1 d2 HWp HTp Bp hPl ⊢
          generalize wr.heap.size = P at d1 d2 hPl hG ⊢
          have HG := Lib.hid hG
          clear hG
          have hszp := Bp.size
          have HO := Lib.hid HWp
          have HTq := Lib.hid HTp.drew
          clear HWp HTp c1' c2' HW HTr
          go_region_held3 (fun w' => w'.cell? ⟨P, 0, none⟩ = some (.int .i64 (u : Int)) ∧ w'.cell? ⟨P, 1, none⟩ = some (.int .i64 (v : Int))) (first | (go_keep; done) | (refine ⟨(Below.cell (B := wp.heap.size) (p := ⟨P, 0, none⟩) ?_ (by exact hPl)).trans d1, (Below.cell (B := wp.heap.size) (p := ⟨P, 1, none⟩) ?_ (by exact hPl)).trans d2⟩ <;> (go_grown; done)) | (exact K4)) (first
            | (go_at_call 47; refine (itoa_any _ (by first | exact hu | exact hv) wp.drew HTq.out).mono ?_; rintro e w2 ⟨rfl, b2⟩; have S2 : Below wp.heap.size wp w2 := ((Below.refl wp.heap.size wp).drew).trans b2; have T2' := Lib.hid (HTq.out.below b2 (Nat.le_refl _)); have z2 := S2.size)
            | (go_at_call 47; refine (itoa_any _ (by first | exact hu | exact hv) w2 T2'.out).mono ?_; rintro e w3 ⟨rfl, b3⟩; have S3 : Below wp.heap.size wp w3 := S2.trans (b3.mono z2); have z3 := S3.size)
            | (refine step_append_arr _ rfl (.tmp 18) (.tmp 27) 48 rfl w.heap.size 9 i0 (.string ⟨#[]⟩) 1 16 Tryz.underlying48 hi hz0 hz1 hz2 rfl (by decide) ST_length one_ST u3 k (pieceTexts (l.take k)) (by simp [Act.eval, Act.put]) ((HO.out.below S3 (Nat.le_refl _)).alloc _) _ (some ⟨w3.heap.size, 0, none⟩) 1 1 [T2] (by simp [Act.eval, Act.put]) (Own.arr (Own.litST w3 w3.heap.size 9 T2 (Nat.le_refl _)) ST_length) M1 M2 (by simp; omega) ?_; intro v4 w4 hO4 hg4 hat4; have S5 := S3.alloc (by omega) (.cells #[.string T2] 9); have K4 := And.intro (hg4.cell ((S5.cell (p := ⟨P, 0, none⟩) (by exact hPl)).trans d1) (fun e => absurd (HG.out _ e.symm).2 (Nat.lt_irrefl _))) (hg4.cell ((S5.cell (p := ⟨P, 1, none⟩) (by exact hPl)).trans d2) (fun e => absurd (HG.out _ e.symm).2 (Nat.lt_irrefl _))); have S4 : Below w.heap.size w w4 := (Bp.trans (S5.mono hszp)).grown hg4 (by simp; omega) (fun g hg => (HG.out g hg).1)))
          all_goals
            have hO5 : Own ST 1 w4 w.heap.size 9 v4 (k + 1) (pieceTexts (l.take (k + 1))) := by rw [← HF.out]; exact hO4
            clear hO4 K4 hg4 hat4 S5 S3 b3 S2 b2 A1 A2 d1 d2
            go_wp2
            go_roundw
            case rel => exact ⟨k + 1, by omega, by go_num, hO5, S4⟩
            case measure => simp [intOf]; omega
        · obtain rfl : k = n := by omega
          obtain ⟨g, c3, rfl, hg1, hg2, hg3⟩ := hw.head hn0
          have hxs : pieceTexts (l.take k) = pieceTexts l := by rw [List.take_of_length_le (by rw [hln.out]; exact Nat.le_refl _)]
          rw [hxs] at hw
          have J := Tryz.strings_Join g 0 c3 (pieceTexts l) (tx [32]) wr (fun j x hx => by
            have hj : j < k := by have := (List.getElem?_eq_some_iff.1 hx).1; rw [pieceTexts_len, hln.out] at this; exact this
            have q0 := hw.2.cellAt j (by omega)
            have q1 := getElem?_flatMap ST_length (pieceTexts l) j x 0 hx (by omega)
            rw [Nat.zero_add]
            simp only [Nat.mul_one, Nat.add_zero] at q1
            exact q0.trans q1) hg2 (by rw [pieceTexts_len, hln.out]; omega) (by rw [pieceTexts_len, hln.out]; exact hg3) (by rw [pieceTexts_join]; have := rowsT_len hF'.out; rw [hln.out] at this; omega)
          rw [pieceTexts_join, pieceTexts_len, hln.out] at J
          have J' := Lib.hid J
          clear J hw hxs
          go_wp2_with fail
          refine J'.out.mono ?_
          rintro e w2 ⟨rfl, b2⟩
          go_wp2
          go_ret
          exact ⟨ret_str (by rw [hL.out]; rfl), hb.trans (b2.mono hb.size)⟩
end Go.Proofs.YtefadlbfkhndfaaGreatDoor
