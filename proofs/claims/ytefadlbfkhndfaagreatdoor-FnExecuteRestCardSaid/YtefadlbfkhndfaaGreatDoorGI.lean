/-
  What the texts below prove: contracts and plain laws, each with its conditions.
-/
import Derived.Test.YtefadlbfkhndfaaGreatDoorGF
import Derived.Test.YtefadlbfkhndfaaGreatDoorGH
import Derived.Test.YtefadlbfkhndfaaGreatDoorGB
import Derived.Test.YtefadlbfkhndfaaGreatDoorGC
import Derived.Maps.AppendAt
import Derived.Deep.AppendLies

/-
  Contracts: (*script).addLayer at a word of a layer.
-/
namespace Go.Proofs.YtefadlbfkhndfaaGreatDoor
open Go.RowKit
set_option linter.unusedSimpArgs false
set_option linter.unusedVariables false

theorem Own.litLL (w : World) (base : Nat) (T : TypeId) (x : Int) (b : Bool) (hb : base ≤ w.heap.size) : Own LL 2 (w.alloc (.cells #[.int .i64 x, .bool b] T)) base T (.slice (some ⟨w.heap.size, 0, none⟩) 1 1) 1 [(x, b)] :=
  ⟨rfl, World.ownsRow_lit w #[.int .i64 x, .bool b] 1 hb (by unfold maxLen; omega) rfl⟩
theorem addl_cut (u : Nat) (b : Bool) (hu : u ≤ 999999) (w : World) :
    Calls Tryz.prog 102 #[.string (tx (Lib.decDigits u ++ (if b = true then [] else [63]))), .string ⟨#[63]⟩] w fun e w' => e = .returned (.tuple #[.string (tx (Lib.decDigits u)), .bool (!b)]) ∧ w = w' := by
  have hl : (Lib.decDigits u).length ≤ 6 := dec_len 5 u (by omega)
  refine (Tryz.strings_CutSuffix (tx (Lib.decDigits u ++ (if b = true then [] else [63]))) ⟨#[63]⟩ w (by rw [tx_size]; cases b <;> simp <;> omega)).mono ?_
  rintro e w' ⟨rfl, rfl⟩
  refine ⟨ret_sb ?_ ?_, rfl⟩
  · show tx (Lib.trimSuffix _ [63]) = _
    rw [txnl]
    cases b with
    | false => exact congrArg tx (trim_end _ 63)
    | true =>
      simp only [if_true, List.append_nil]
      congr 1
      unfold Lib.trimSuffix
      rw [if_neg]
      rw [suf_last]
      intro h
      exact not_dec (c := 63) (by decide) u (List.mem_of_getLast? (by simpa using h))
  · show Lib.hasSuffix _ [63] = _
    rw [txnl, suf_last]
    cases b with
    | false => simp
    | true =>
      simp only [if_true, List.append_nil, Bool.not_true, decide_eq_false_iff_not]
      intro h
      exact not_dec (c := 63) (by decide) u (List.mem_of_getLast? h)

set_option maxRecDepth 100000 in
set_option maxHeartbeats 4000000 in
theorem addLayer_yes (g u : Nat) (b : Bool) (s : St) (hu : u ≤ 999999) (w : World) (hs : Scr w g s) (hl : s.lays.length ≤ 900) (hC : layB (s.lays ++ [((u : Int), b)]) = true) :
    Calls Tryz.prog 78 #[.pointer (some ⟨g, 0, none⟩), .string (tx (Lib.decDigits u ++ (if b = true then [] else [63])))] w fun e w' => e = .returned (.tuple #[.string (tx okT), .bool true]) ∧ Scr w' g { s with lays := s.lays ++ [((u : Int), b)] } ∧ w.grownBy w' (some g) := by
  have HS := Lib.hid hs
  have hgl := hs.lt
  have HC := Lib.hid hC
  have SN := Lib.hid (scriptNumber_dig u hu)
  have CS := Lib.hid (fun W => addl_cut u b hu W)
  obtain ⟨Al, cl, x0, O0⟩ := hs.laysOwn
  have HO := Lib.hid O0
  obtain ⟨n, hn⟩ : ∃ n, n = s.lays.length := ⟨_, rfl⟩
  rw [← hn] at x0 HO hl
  have hn1 : n ≤ 1000 := by omega
  have M1 : n + 1 ≤ maxLen := by unfold maxLen; omega
  have M2 : (n + 1) * 16 ≤ 140737488355328 := by omega
  obtain ⟨i0, hi, hz0, hz1, hz2⟩ := info_parts infoLayerC
  obtain ⟨T, hT⟩ : ∃ T, T = tx (Lib.decDigits u ++ (if b = true then [] else [63])) := ⟨_, rfl⟩
  rw [← hT] at CS ⊢
  clear hs hC O0 hn hT
  go_enter Tryz.func78, Tryz.ntmps78
  go_wp2_with (first
    | (go_at_call 102; refine (CS.out _).mono ?_; rintro e w' ⟨rfl, rfl⟩)
    | (go_at_call 103; refine (cloneL_any (g + 1) Al n cl s.lays _ HO.out hn1).mono ?_; rintro e w2 ⟨A2, c2, rfl, o2, b2⟩; have z2 := b2.size)
    | (go_at_call 76; refine (SN.out _).mono ?_; rintro e w3 ⟨rfl, b3⟩; have S3 := b2.trans (b3.mono z2); have z3 := S3.size; have o3 := o2.below b3 (Nat.le_refl _))
    | (at_builtin; refine wpList_append_arr _ rfl _ _ 27 rfl w.heap.size 73 i0 (.agg #[.int .i64 0, .bool false]) 2 16 Tryz.underlying27 hi hz0 hz1 hz2 rfl (by decide) LL_length one_LL' _ n s.lays rfl (o3.alloc _) _ (some ⟨w3.heap.size, 0, none⟩) 1 1 [((u : Int), b)] rfl (Own.arr (Own.litLL w3 w3.heap.size 73 (u : Int) b (Nat.le_refl _)) LL_length) M1 M2 (by simp; omega) ?_))
  all_goals
    intro v4 w4 hO4 hg4 _
    have B4 : Below w.heap.size w w4 := (S3.alloc z3 (.cells #[.int .i64 (u : Int), .bool b] 73)).grown hg4 (by simp; omega) (fun k hk => (o3.2.lt k hk).1)
    obtain ⟨A5, c5, rfl, _, _⟩ := hO4.form
    have hO5 := Lib.hid hO4
    have HB4 := Lib.hid B4
    have KV := implLayersValid_any A5 (n + 1) c5 _ w4 (hO4.arr LL_length) (by omega)
    rw [HC.out] at KV
    have KV' := Lib.hid KV
    have hS4 := Lib.hid (HS.out.below B4 (Nat.le_refl _))
    clear hO4 hg4 B4 S3 o2 o3 b2 b3 z2 z3 x0 HO KV
    go_wp2_with (go_at_call 20; refine KV'.out.mono ?_; rintro e w6 ⟨rfl, b6⟩; have S6 := hS4.out.below b6 (Nat.le_refl _); obtain ⟨y0, y1, y2, y3, y4, y5⟩ := S6.cells; have hf := S6.frozen 1)
    go_ret2
    have O6 := (hO5.out.below b6 (Nat.le_refl _)).less (base' := g + 1) (by omega)
    exact ⟨rfl, S6.setLays O6, (grows2 (HB4.out.trans (b6.mono HB4.out.size)) _).trans (setCell_grown w6 g 1 _)⟩

set_option maxRecDepth 100000 in
set_option maxHeartbeats 4000000 in
theorem addLayer_no (g u : Nat) (b : Bool) (s : St) (hu : u ≤ 999999) (w : World) (hs : Scr w g s) (hl : s.lays.length ≤ 900) (hC : layB (s.lays ++ [((u : Int), b)]) = false) :
    Calls Tryz.prog 78 #[.pointer (some ⟨g, 0, none⟩), .string (tx (Lib.decDigits u ++ (if b = true then [] else [63])))] w fun e w' => e = .returned (.tuple #[.string ⟨#[]⟩, .bool false]) ∧ Scr w' g s ∧ w.grownBy w' (some g) := by
  have HS := Lib.hid hs
  have hgl := hs.lt
  have HC := Lib.hid hC
  have SN := Lib.hid (scriptNumber_dig u hu)
  have CS := Lib.hid (fun W => addl_cut u b hu W)
  obtain ⟨Al, cl, x0, O0⟩ := hs.laysOwn
  have HO := Lib.hid O0
  obtain ⟨n, hn⟩ : ∃ n, n = s.lays.length := ⟨_, rfl⟩
  rw [← hn] at x0 HO hl
  have hn1 : n ≤ 1000 := by omega
  have M1 : n + 1 ≤ maxLen := by unfold maxLen; omega
  have M2 : (n + 1) * 16 ≤ 140737488355328 := by omega
  obtain ⟨i0, hi, hz0, hz1, hz2⟩ := info_parts infoLayerC
  obtain ⟨T, hT⟩ : ∃ T, T = tx (Lib.decDigits u ++ (if b = true then [] else [63])) := ⟨_, rfl⟩
  rw [← hT] at CS ⊢
  clear hs hC O0 hn hT
  go_enter Tryz.func78, Tryz.ntmps78
  go_wp2_with (first
    | (go_at_call 102; refine (CS.out _).mono ?_; rintro e w' ⟨rfl, rfl⟩)
    | (go_at_call 103; refine (cloneL_any (g + 1) Al n cl s.lays _ HO.out hn1).mono ?_; rintro e w2 ⟨A2, c2, rfl, o2, b2⟩; have z2 := b2.size)
    | (go_at_call 76; refine (SN.out _).mono ?_; rintro e w3 ⟨rfl, b3⟩; have S3 := b2.trans (b3.mono z2); have z3 := S3.size; have o3 := o2.below b3 (Nat.le_refl _))
    | (at_builtin; refine wpList_append_arr _ rfl _ _ 27 rfl w.heap.size 73 i0 (.agg #[.int .i64 0, .bool false]) 2 16 Tryz.underlying27 hi hz0 hz1 hz2 rfl (by decide) LL_length one_LL' _ n s.lays rfl (o3.alloc _) _ (some ⟨w3.heap.size, 0, none⟩) 1 1 [((u : Int), b)] rfl (Own.arr (Own.litLL w3 w3.heap.size 73 (u : Int) b (Nat.le_refl _)) LL_length) M1 M2 (by simp; omega) ?_))
  all_goals
    intro v4 w4 hO4 hg4 _
    have B4 : Below w.heap.size w w4 := (S3.alloc z3 (.cells #[.int .i64 (u : Int), .bool b] 73)).grown hg4 (by simp; omega) (fun k hk => (o3.2.lt k hk).1)
    obtain ⟨A5, c5, rfl, _, _⟩ := hO4.form
    have hO5 := Lib.hid hO4
    have HB4 := Lib.hid B4
    have KV := implLayersValid_any A5 (n + 1) c5 _ w4 (hO4.arr LL_length) (by omega)
    rw [HC.out] at KV
    have KV' := Lib.hid KV
    have hS4 := Lib.hid (HS.out.below B4 (Nat.le_refl _))
    clear hO4 hg4 B4 S3 o2 o3 b2 b3 z2 z3 x0 HO KV
    go_wp2_with (go_at_call 20; refine KV'.out.mono ?_; rintro e w6 ⟨rfl, b6⟩; have S6 := hS4.out.below b6 (Nat.le_refl _); obtain ⟨y0, y1, y2, y3, y4, y5⟩ := S6.cells; have hf := S6.frozen 1)
    go_ret2
    exact ⟨rfl, S6, grows2 (HB4.out.trans (b6.mono HB4.out.size)) _⟩

end Go.Proofs.YtefadlbfkhndfaaGreatDoor

/-
  Contracts: (*script).addLayer at any word.
-/
namespace Go.Proofs.YtefadlbfkhndfaaGreatDoor
open Go.RowKit
set_option linter.unusedSimpArgs false
set_option linter.unusedVariables false

/-- What the words of a layer are made of. -/
theorem layer_word (a : List UInt8) : ∃ (N : List UInt8) (x : Int) (b : Bool), lyOf a = (x, b) ∧
    (a.length ≤ 1000000 → ∀ w : World, Calls Tryz.prog 102 #[.string (tx a), .string ⟨#[63]⟩] w fun e w' => e = .returned (.tuple #[.string (tx N), .bool (!b)]) ∧ w = w') ∧
    (a.length ≤ 1000000 → ∀ w : World, Errs w → Calls Tryz.prog 76 #[.string (tx N)] w fun e w' => e = .returned (.int .i64 x) ∧ Below w.heap.size w w') := by
  by_cases h : a.getLast? = some 63
  · refine ⟨a.dropLast, dig a.dropLast, false, by unfold lyOf; rw [if_pos h], fun ha w => (cutsuf_any a (by omega) w).mono ?_, fun ha w hE => scriptNumber_any _ (by rw [List.length_dropLast]; omega) w hE⟩
    rintro e w' ⟨rfl, rfl⟩
    unfold cutE
    rw [if_pos h]
    exact ⟨rfl, rfl⟩
  · refine ⟨a, dig a, true, by unfold lyOf; rw [if_neg h], fun ha w => (cutsuf_any a (by omega) w).mono ?_, fun ha w hE => scriptNumber_any _ (by omega) w hE⟩
    rintro e w' ⟨rfl, rfl⟩
    unfold cutE
    rw [if_neg h]
    exact ⟨rfl, rfl⟩

set_option maxRecDepth 100000 in
set_option maxHeartbeats 4000000 in
theorem addLayerA_yes (g : Nat) (a : List UInt8) (s : St) (ha : a.length ≤ 1000000) (w : World) (hs : Scr w g s) (hE : Errs w) (hl : s.lays.length ≤ 900) (hC : layB (s.lays ++ [lyOf a]) = true) :
    Calls Tryz.prog 78 #[.pointer (some ⟨g, 0, none⟩), .string (tx a)] w fun e w' => e = .returned (.tuple #[.string (tx okT), .bool true]) ∧ Scr w' g { s with lays := s.lays ++ [lyOf a] } ∧ w.grownBy w' (some g) := by
  obtain ⟨N, x, b, hly, hcs, hN⟩ := layer_word a
  rw [hly] at hC
  try rw [hly]
  have HE := Lib.hid hE
  have HS := Lib.hid hs
  have hgl := hs.lt
  have HC := Lib.hid hC
  have SN := Lib.hid (fun W hW => hN (by omega) W hW)
  have CS := Lib.hid (fun W => hcs (by omega) W)
  clear hcs hN hly hE
  obtain ⟨Al, cl, x0, O0⟩ := hs.laysOwn
  have HO := Lib.hid O0
  obtain ⟨n, hn⟩ : ∃ n, n = s.lays.length := ⟨_, rfl⟩
  rw [← hn] at x0 HO hl
  have hn1 : n ≤ 1000 := by omega
  have M1 : n + 1 ≤ maxLen := by unfold maxLen; omega
  have M2 : (n + 1) * 16 ≤ 140737488355328 := by omega
  obtain ⟨i0, hi, hz0, hz1, hz2⟩ := info_parts infoLayerC
  obtain ⟨T, hT⟩ : ∃ T, T = tx a := ⟨_, rfl⟩
  rw [← hT] at CS ⊢
  clear hs hC O0 hn hT
  go_enter Tryz.func78, Tryz.ntmps78
  go_wp2_with (first
    | (go_at_call 102; refine (CS.out _).mono ?_; rintro e w' ⟨rfl, rfl⟩)
    | (go_at_call 103; refine (cloneL_any (g + 1) Al n cl s.lays _ HO.out hn1).mono ?_; rintro e w2 ⟨A2, c2, rfl, o2, b2⟩; have z2 := b2.size)
    | (go_at_call 76; refine (SN.out _ (HE.out.below b2 (Nat.le_refl _))).mono ?_; rintro e w3 ⟨rfl, b3⟩; have S3 := b2.trans (b3.mono z2); have z3 := S3.size; have o3 := o2.below b3 (Nat.le_refl _))
    | (at_builtin; refine wpList_append_arr _ rfl _ _ 27 rfl w.heap.size 73 i0 (.agg #[.int .i64 0, .bool false]) 2 16 Tryz.underlying27 hi hz0 hz1 hz2 rfl (by decide) LL_length one_LL' _ n s.lays rfl (o3.alloc _) _ (some ⟨w3.heap.size, 0, none⟩) 1 1 [(x, b)] rfl (Own.arr (Own.litLL w3 w3.heap.size 73 x b (Nat.le_refl _)) LL_length) M1 M2 (by simp; omega) ?_))
  all_goals
    intro v4 w4 hO4 hg4 _
    have B4 : Below w.heap.size w w4 := (S3.alloc z3 (.cells #[.int .i64 x, .bool b] 73)).grown hg4 (by simp; omega) (fun k hk => (o3.2.lt k hk).1)
    obtain ⟨A5, c5, rfl, _, _⟩ := hO4.form
    have hO5 := Lib.hid hO4
    have HB4 := Lib.hid B4
    have KV := implLayersValid_any A5 (n + 1) c5 _ w4 (hO4.arr LL_length) (by omega)
    rw [HC.out] at KV
    have KV' := Lib.hid KV
    have hS4 := Lib.hid (HS.out.below B4 (Nat.le_refl _))
    clear hO4 hg4 B4 S3 o2 o3 b2 b3 z2 z3 x0 HO KV
    go_wp2_with (go_at_call 20; refine KV'.out.mono ?_; rintro e w6 ⟨rfl, b6⟩; have S6 := hS4.out.below b6 (Nat.le_refl _); obtain ⟨y0, y1, y2, y3, y4, y5⟩ := S6.cells; have hf := S6.frozen 1)
    go_ret2
    have O6 := (hO5.out.below b6 (Nat.le_refl _)).less (base' := g + 1) (by omega)
    exact ⟨rfl, S6.setLays O6, (grows2 (HB4.out.trans (b6.mono HB4.out.size)) _).trans (setCell_grown w6 g 1 _)⟩

set_option maxRecDepth 100000 in
set_option maxHeartbeats 4000000 in
theorem addLayerA_no (g : Nat) (a : List UInt8) (s : St) (ha : a.length ≤ 1000000) (w : World) (hs : Scr w g s) (hE : Errs w) (hl : s.lays.length ≤ 900) (hC : layB (s.lays ++ [lyOf a]) = false) :
    Calls Tryz.prog 78 #[.pointer (some ⟨g, 0, none⟩), .string (tx a)] w fun e w' => e = .returned (.tuple #[.string ⟨#[]⟩, .bool false]) ∧ Scr w' g s ∧ w.grownBy w' (some g) := by
  obtain ⟨N, x, b, hly, hcs, hN⟩ := layer_word a
  rw [hly] at hC
  try rw [hly]
  have HE := Lib.hid hE
  have HS := Lib.hid hs
  have hgl := hs.lt
  have HC := Lib.hid hC
  have SN := Lib.hid (fun W hW => hN (by omega) W hW)
  have CS := Lib.hid (fun W => hcs (by omega) W)
  clear hcs hN hly hE
  obtain ⟨Al, cl, x0, O0⟩ := hs.laysOwn
  have HO := Lib.hid O0
  obtain ⟨n, hn⟩ : ∃ n, n = s.lays.length := ⟨_, rfl⟩
  rw [← hn] at x0 HO hl
  have hn1 : n ≤ 1000 := by omega
  have M1 : n + 1 ≤ maxLen := by unfold maxLen; omega
  have M2 : (n + 1) * 16 ≤ 140737488355328 := by omega
  obtain ⟨i0, hi, hz0, hz1, hz2⟩ := info_parts infoLayerC
  obtain ⟨T, hT⟩ : ∃ T, T = tx a := ⟨_, rfl⟩
  rw [← hT] at CS ⊢
  clear hs hC O0 hn hT
  go_enter Tryz.func78, Tryz.ntmps78
  go_wp2_with (first
    | (go_at_call 102; refine (CS.out _).mono ?_; rintro e w' ⟨rfl, rfl⟩)
    | (go_at_call 103; refine (cloneL_any (g + 1) Al n cl s.lays _ HO.out hn1).mono ?_; rintro e w2 ⟨A2, c2, rfl, o2, b2⟩; have z2 := b2.size)
    | (go_at_call 76; refine (SN.out _ (HE.out.below b2 (Nat.le_refl _))).mono ?_; rintro e w3 ⟨rfl, b3⟩; have S3 := b2.trans (b3.mono z2); have z3 := S3.size; have o3 := o2.below b3 (Nat.le_refl _))
    | (at_builtin; refine wpList_append_arr _ rfl _ _ 27 rfl w.heap.size 73 i0 (.agg #[.int .i64 0, .bool false]) 2 16 Tryz.underlying27 hi hz0 hz1 hz2 rfl (by decide) LL_length one_LL' _ n s.lays rfl (o3.alloc _) _ (some ⟨w3.heap.size, 0, none⟩) 1 1 [(x, b)] rfl (Own.arr (Own.litLL w3 w3.heap.size 73 x b (Nat.le_refl _)) LL_length) M1 M2 (by simp; omega) ?_))
  all_goals
    intro v4 w4 hO4 hg4 _
    have B4 : Below w.heap.size w w4 := (S3.alloc z3 (.cells #[.int .i64 x, .bool b] 73)).grown hg4 (by simp; omega) (fun k hk => (o3.2.lt k hk).1)
    obtain ⟨A5, c5, rfl, _, _⟩ := hO4.form
    have hO5 := Lib.hid hO4
    have HB4 := Lib.hid B4
    have KV := implLayersValid_any A5 (n + 1) c5 _ w4 (hO4.arr LL_length) (by omega)
    rw [HC.out] at KV
    have KV' := Lib.hid KV
    have hS4 := Lib.hid (HS.out.below B4 (Nat.le_refl _))
    clear hO4 hg4 B4 S3 o2 o3 b2 b3 z2 z3 x0 HO KV
    go_wp2_with (go_at_call 20; refine KV'.out.mono ?_; rintro e w6 ⟨rfl, b6⟩; have S6 := hS4.out.below b6 (Nat.le_refl _); obtain ⟨y0, y1, y2, y3, y4, y5⟩ := S6.cells; have hf := S6.frozen 1)
    go_ret2
    exact ⟨rfl, S6, grows2 (HB4.out.trans (b6.mono HB4.out.size)) _⟩

end Go.Proofs.YtefadlbfkhndfaaGreatDoor

/-
  Contracts: the program's (*script).execute at a line "layer W" of any word.
-/
namespace Go.Proofs.YtefadlbfkhndfaaGreatDoor
open Go.RowKit Go.Maps Go.WideMaps
set_option linter.unusedSimpArgs false
set_option linter.unusedVariables false

set_option maxRecDepth 100000 in
set_option maxHeartbeats 8000000 in
theorem exec_layerA_yes (g k : Nat) (a : List UInt8) (ha9 : a.length ≤ 1000000) (s : St) (w : World) (hs : Scr w g s) (hl : s.lays.length ≤ 900) (hT : Tab w) (hE : Errs w) (hk : k < w.heap.size)
    (c0 : w.cell? ⟨k, 0, none⟩ = some (.string (tx wLayer))) (c1 : w.cell? ⟨k, 1, none⟩ = some (.string (tx a))) (HC : layB (s.lays ++ [lyOf a]) = true) :
    Calls Tryz.prog 45 #[.pointer (some ⟨g, 0, none⟩), .slice (some ⟨k, 0, none⟩) 2 2] w fun e w' =>
      e = .returned (.tuple #[.string (tx okT), .bool true]) ∧ Scr w' g { s with lays := s.lays ++ [lyOf a] } ∧ w.grownBy w' (some g) := by
  have AL0 := fun W hS hE => addLayerA_yes g a s ha9 W hS hE hl HC
  have SN00 := fun W hW => scriptNumber_any a (by omega) W hW
  have hbd0 := dig_bd a
  obtain ⟨x, hx⟩ : ∃ z, z = dig a := ⟨_, rfl⟩
  rw [← hx] at SN00 hbd0
  obtain ⟨T0, hT0⟩ : ∃ T, T = tx a := ⟨_, rfl⟩
  rw [← hT0] at SN00 c1 AL0
  have AL := Lib.hid AL0
  clear AL0
  have SN0 := Lib.hid SN00
  obtain ⟨hlo0, hhi0⟩ := hbd0
  clear SN00 hT0 hx
  have k0 : keyOf Tryz.prog 9 (.string (tx wPiece)) = some (.string wPiece) := by rw [keyOf_string_mk Tryz.underlying9 (by rw [tx_size]; decide)]; rfl
  have k1 : keyOf Tryz.prog 9 (.string (tx wCut)) = some (.string wCut) := by rw [keyOf_string_mk Tryz.underlying9 (by rw [tx_size]; decide)]; rfl
  have k2 : keyOf Tryz.prog 9 (.string (tx wJoin)) = some (.string wJoin) := by rw [keyOf_string_mk Tryz.underlying9 (by rw [tx_size]; decide)]; rfl
  have k3 : keyOf Tryz.prog 9 (.string (tx wLayer)) = some (.string wLayer) := by rw [keyOf_string_mk Tryz.underlying9 (by rw [tx_size]; decide)]; rfl
  have k4 : keyOf Tryz.prog 9 (.string (tx wCore)) = some (.string wCore) := by rw [keyOf_string_mk Tryz.underlying9 (by rw [tx_size]; decide)]; rfl
  have k5 : keyOf Tryz.prog 9 (.string (tx wLength)) = some (.string wLength) := by rw [keyOf_string_mk Tryz.underlying9 (by rw [tx_size]; decide)]; rfl
  have k6 : keyOf Tryz.prog 9 (.string (tx wCount)) = some (.string wCount) := by rw [keyOf_string_mk Tryz.underlying9 (by rw [tx_size]; decide)]; rfl
  have k7 : keyOf Tryz.prog 9 (.string (tx wAge)) = some (.string wAge) := by rw [keyOf_string_mk Tryz.underlying9 (by rw [tx_size]; decide)]; rfl
  have k8 : keyOf Tryz.prog 9 (.string (tx wYear)) = some (.string wYear) := by rw [keyOf_string_mk Tryz.underlying9 (by rw [tx_size]; decide)]; rfl
  have d0 := wD_step (i := 0) rfl
  have d1 := wD_step (i := 1) rfl
  have d2 := wD_step (i := 2) rfl
  have d3 := wD_step (i := 3) rfl
  have d4 := wD_step (i := 4) rfl
  have d5 := wD_step (i := 5) rfl
  have d6 := wD_step (i := 6) rfl
  have d7 := wD_step (i := 7) rfl
  have d8 := wD_step (i := 8) rfl
  have v0 : RM (.int .i64 0) = some (.lit (.int .i64 0), []) := plainElem_int Tryz.underlying3 rfl
  have v1 : RM (.int .i64 1) = some (.lit (.int .i64 1), []) := plainElem_int Tryz.underlying3 rfl
  have v2 : RM (.int .i64 2) = some (.lit (.int .i64 2), []) := plainElem_int Tryz.underlying3 rfl
  have m0 := World.ownsMap_made w Tryz.prog 9 RM
  have hmm := @run_makeMap Tryz.prog
  have hwh := want_has (x := wLayer) (k := 1) rfl
  have HS := Lib.hid hs
  have HT := Lib.hid hT
  have HE := Lib.hid hE
  have hgl := hs.lt
  clear HC
  clear hs hT hE
  go_enter Tryz.func45, Tryz.ntmps45
  go_wp2_with (first
    | (refine wpList_insert_own _ rfl _ _ _ 95 rfl 9 3 SK Tryz.underlying95 RM w.heap.size 0 (wD 0) (wD 1) rfl m0 (by unfold maxLen; omega) _ _ (.string wPiece) rfl rfl k0 _ _ v2 d0 ?_; intro w1 m1 g1)
    | (refine wpList_insert_own _ rfl _ _ _ 95 rfl 9 3 SK Tryz.underlying95 RM w.heap.size 1 (wD 1) (wD 2) rfl m1 (by unfold maxLen; omega) _ _ (.string wCut) rfl rfl k1 _ _ v1 d1 ?_; intro w2 m2 g2)
    | (refine wpList_insert_own _ rfl _ _ _ 95 rfl 9 3 SK Tryz.underlying95 RM w.heap.size 2 (wD 2) (wD 3) rfl m2 (by unfold maxLen; omega) _ _ (.string wJoin) rfl rfl k2 _ _ v0 d2 ?_; intro w3 m3 g3)
    | (refine wpList_insert_own _ rfl _ _ _ 95 rfl 9 3 SK Tryz.underlying95 RM w.heap.size 3 (wD 3) (wD 4) rfl m3 (by unfold maxLen; omega) _ _ (.string wLayer) rfl rfl k3 _ _ v1 d3 ?_; intro w4 m4 g4)
    | (refine wpList_insert_own _ rfl _ _ _ 95 rfl 9 3 SK Tryz.underlying95 RM w.heap.size 4 (wD 4) (wD 5) rfl m4 (by unfold maxLen; omega) _ _ (.string wCore) rfl rfl k4 _ _ v0 d4 ?_; intro w5 m5 g5)
    | (refine wpList_insert_own _ rfl _ _ _ 95 rfl 9 3 SK Tryz.underlying95 RM w.heap.size 5 (wD 5) (wD 6) rfl m5 (by unfold maxLen; omega) _ _ (.string wLength) rfl rfl k5 _ _ v0 d5 ?_; intro w6 m6 g6)
    | (refine wpList_insert_own _ rfl _ _ _ 95 rfl 9 3 SK Tryz.underlying95 RM w.heap.size 6 (wD 6) (wD 7) rfl m6 (by unfold maxLen; omega) _ _ (.string wCount) rfl rfl k6 _ _ v2 d6 ?_; intro w7 m7 g7)
    | (refine wpList_insert_own _ rfl _ _ _ 95 rfl 9 3 SK Tryz.underlying95 RM w.heap.size 7 (wD 7) (wD 8) rfl m7 (by unfold maxLen; omega) _ _ (.string wAge) rfl rfl k7 _ _ v1 d7 ?_; intro w8 m8 g8)
    | (refine wpList_insert_own _ rfl _ _ _ 95 rfl 9 3 SK Tryz.underlying95 RM w.heap.size 8 (wD 8) (wD 9) rfl m8 (by unfold maxLen; omega) _ _ (.string wYear) rfl rfl k8 _ _ v1 d8 ?_; intro w9 m9 g9
       have B9 : Below w.heap.size w w9 := ((Below.refl w.heap.size w).alloc (Nat.le_refl _) _).grown (((((((((g1.trans g2).trans g3).trans g4).trans g5).trans g6).trans g7).trans g8).trans g9)) (by simp) (fun j hj => by injection hj with hj; omega)
       have e0 := (B9.cell (p := ⟨k, 0, none⟩) hk).trans c0
       have e1 := (B9.cell (p := ⟨k, 1, none⟩) hk).trans c1
       clear g1 g2 g3 g4 g5 g6 g7 g8 g9 m1 m2 m3 m4 m5 m6 m7 m8)
    | (at_lookup; refine wpList_lookup_own_ok_int _ rfl _ _ 95 rfl 9 3 .i64 SK Tryz.underlying95 Tryz.underlying3 (zeroInt _) w.heap.size 9 (wD 9) rfl m9 _ (.string wLayer) rfl k3 ?_
       intro c hat hwc
       obtain rfl : c = 1 := by have h2 := hwh.2; rw [← wD_all, hat] at h2; injection h2 with h2; injection h2
       rw [show has (wD 9) (.string wLayer) = true from hwh.1]
       clear hat hwc m9 m0 hmm k0 k1 k2 k3 k4 k5 k6 k7 k8 d0 d1 d2 d3 d4 d5 d6 d7 d8 hwh v0 v1 v2))
  go_loopw [9, 11, 37] (fun s _ i wr => ∃ j : Nat, j ≤ 1 ∧ i = .int .i64 j ∧ Own II 1 wr w.heap.size 3 s j ([x].take j) ∧ Below w.heap.size w wr) (fun _ _ i _ => 1 - (intOf i).toNat)
  case atStart => exact ⟨0, by omega, rfl, Own.nil_ _ _ _ _ _, B9⟩
  case round =>
    obtain ⟨j, hj, rfl, hw, hb⟩ := hrel
    have e1' := (hb.cell (p := ⟨k, 1, none⟩) hk).trans c1
    have e0' := (hb.cell (p := ⟨k, 0, none⟩) hk).trans c0
    clear e0 e1 c0 c1 B9
    rcases (show j = 0 ∨ j = 1 by omega) with rfl | rfl
    · obtain ⟨A0, c0, rfl, _, _⟩ := hw.form
      have hsz := hb.size
      have hEr := HE.out.below hb (Nat.le_refl _)
      obtain ⟨i0, hi, hz0, hz1, hz2⟩ := info_parts infoInt8
      go_wp2_with (first
        | (go_at_call 76; refine (SN0.out _ hEr).mono ?_; rintro e w2 ⟨rfl, b2⟩
           have hw2 := hw.below b2 (Nat.le_refl _)
           have hb2 := hb.trans (b2.mono hsz)
           have hsz2 := hb2.size
           have K1 := cell_new1 w2 (.int .i64 x) 3
           have K2 := one_II x
           have K3 : 0 + 1 ≤ maxLen := by unfold maxLen; omega
           have K4 : (0 + 1) * 8 ≤ 140737488355328 := by omega
           have K5 : w.heap.size ≤ (w2.alloc (.cells #[.int .i64 x] 3)).heap.size := by simp; omega)
        | (at_builtin; (refine wpList_append_own _ rfl _ _ 81 rfl w.heap.size 3 i0 (.int .i64 0) 1 8 Tryz.underlying81 hi hz0 hz1 hz2 rfl (by decide) _ _ _ rfl (hw2.2.alloc _) ⟨w2.heap.size, 0, none⟩ 1 1 [.int .i64 x] rfl rfl K1 K2 K3 K4 K5 ?_)))
      intro v' w4 hown' hg4 _
      have hw4 : Own II 1 w4 w.heap.size 3 v' (0 + 1) ([x].take (0 + 1)) := Own.snoc (f := II) (l := [x].take 0) (x := x) rfl hown'
      have hb4 : Below w.heap.size w w4 := (hb2.alloc hsz2 (.cells #[.int .i64 x] 3)).grown hg4 (by simp; omega) (fun j hj => (hw2.2.lt j hj).1)
      clear hw hown' hg4 hb hb2 hw2 K1 K2 K3 K4 K5 b2 hEr
      go_wp2
      go_roundw
      case rel => exact ⟨0 + 1, by omega, by go_num, hw4, hb4⟩
      case measure => simp [intOf]
    · obtain ⟨G, cG, rfl, hG1, hG2, hG3⟩ := hw.head (by omega)
      have HSr := Lib.hid (HS.out.below hb (Nat.le_refl _))
      have HEr := Lib.hid (HE.out.below hb (Nat.le_refl _))
      have HB := Lib.hid hb
      have q0 : ((tx wLayer).toList == [112, 105, 101, 99, 101]) = false := tne (a := wLayer) (b := wPiece) (by decide)
      have q1 : ((tx wLayer).toList == [99, 117, 116]) = false := tne (a := wLayer) (b := wCut) (by decide)
      have q2 : ((tx wLayer).toList == [106, 111, 105, 110]) = false := tne (a := wLayer) (b := wJoin) (by decide)
      have q3 : ((tx wLayer).toList == [108, 97, 121, 101, 114]) = true := teq wLayer
      clear hw hb HS SN0 hj HT HE
      go_wp2_with (go_at_call 78; refine (AL.out _ HSr.out HEr.out).mono ?_; rintro e w5 ⟨rfl, s5, g5⟩)
      go_ret2
      exact ⟨rfl, s5, (grows2 HB.out _).trans g5⟩


set_option maxRecDepth 100000 in
set_option maxHeartbeats 8000000 in
theorem exec_layerA_no (g k : Nat) (a : List UInt8) (ha9 : a.length ≤ 1000000) (s : St) (w : World) (hs : Scr w g s) (hl : s.lays.length ≤ 900) (hT : Tab w) (hE : Errs w) (hk : k < w.heap.size)
    (c0 : w.cell? ⟨k, 0, none⟩ = some (.string (tx wLayer))) (c1 : w.cell? ⟨k, 1, none⟩ = some (.string (tx a))) (HC : layB (s.lays ++ [lyOf a]) = false) :
    Calls Tryz.prog 45 #[.pointer (some ⟨g, 0, none⟩), .slice (some ⟨k, 0, none⟩) 2 2] w fun e w' =>
      e = .returned (.tuple #[.string ⟨#[]⟩, .bool false]) ∧ Scr w' g s ∧ w.grownBy w' (some g) := by
  have AL0 := fun W hS hE => addLayerA_no g a s ha9 W hS hE hl HC
  have SN00 := fun W hW => scriptNumber_any a (by omega) W hW
  have hbd0 := dig_bd a
  obtain ⟨x, hx⟩ : ∃ z, z = dig a := ⟨_, rfl⟩
  rw [← hx] at SN00 hbd0
  obtain ⟨T0, hT0⟩ : ∃ T, T = tx a := ⟨_, rfl⟩
  rw [← hT0] at SN00 c1 AL0
  have AL := Lib.hid AL0
  clear AL0
  have SN0 := Lib.hid SN00
  obtain ⟨hlo0, hhi0⟩ := hbd0
  clear SN00 hT0 hx
  have k0 : keyOf Tryz.prog 9 (.string (tx wPiece)) = some (.string wPiece) := by rw [keyOf_string_mk Tryz.underlying9 (by rw [tx_size]; decide)]; rfl
  have k1 : keyOf Tryz.prog 9 (.string (tx wCut)) = some (.string wCut) := by rw [keyOf_string_mk Tryz.underlying9 (by rw [tx_size]; decide)]; rfl
  have k2 : keyOf Tryz.prog 9 (.string (tx wJoin)) = some (.string wJoin) := by rw [keyOf_string_mk Tryz.underlying9 (by rw [tx_size]; decide)]; rfl
  have k3 : keyOf Tryz.prog 9 (.string (tx wLayer)) = some (.string wLayer) := by rw [keyOf_string_mk Tryz.underlying9 (by rw [tx_size]; decide)]; rfl
  have k4 : keyOf Tryz.prog 9 (.string (tx wCore)) = some (.string wCore) := by rw [keyOf_string_mk Tryz.underlying9 (by rw [tx_size]; decide)]; rfl
  have k5 : keyOf Tryz.prog 9 (.string (tx wLength)) = some (.string wLength) := by rw [keyOf_string_mk Tryz.underlying9 (by rw [tx_size]; decide)]; rfl
  have k6 : keyOf Tryz.prog 9 (.string (tx wCount)) = some (.string wCount) := by rw [keyOf_string_mk Tryz.underlying9 (by rw [tx_size]; decide)]; rfl
  have k7 : keyOf Tryz.prog 9 (.string (tx wAge)) = some (.string wAge) := by rw [keyOf_string_mk Tryz.underlying9 (by rw [tx_size]; decide)]; rfl
  have k8 : keyOf Tryz.prog 9 (.string (tx wYear)) = some (.string wYear) := by rw [keyOf_string_mk Tryz.underlying9 (by rw [tx_size]; decide)]; rfl
  have d0 := wD_step (i := 0) rfl
  have d1 := wD_step (i := 1) rfl
  have d2 := wD_step (i := 2) rfl
  have d3 := wD_step (i := 3) rfl
  have d4 := wD_step (i := 4) rfl
  have d5 := wD_step (i := 5) rfl
  have d6 := wD_step (i := 6) rfl
  have d7 := wD_step (i := 7) rfl
  have d8 := wD_step (i := 8) rfl
  have v0 : RM (.int .i64 0) = some (.lit (.int .i64 0), []) := plainElem_int Tryz.underlying3 rfl
  have v1 : RM (.int .i64 1) = some (.lit (.int .i64 1), []) := plainElem_int Tryz.underlying3 rfl
  have v2 : RM (.int .i64 2) = some (.lit (.int .i64 2), []) := plainElem_int Tryz.underlying3 rfl
  have m0 := World.ownsMap_made w Tryz.prog 9 RM
  have hmm := @run_makeMap Tryz.prog
  have hwh := want_has (x := wLayer) (k := 1) rfl
  have HS := Lib.hid hs
  have HT := Lib.hid hT
  have HE := Lib.hid hE
  have hgl := hs.lt
  clear HC
  clear hs hT hE
  go_enter Tryz.func45, Tryz.ntmps45
  go_wp2_with (first
    | (refine wpList_insert_own _ rfl _ _ _ 95 rfl 9 3 SK Tryz.underlying95 RM w.heap.size 0 (wD 0) (wD 1) rfl m0 (by unfold maxLen; omega) _ _ (.string wPiece) rfl rfl k0 _ _ v2 d0 ?_; intro w1 m1 g1)
    | (refine wpList_insert_own _ rfl _ _ _ 95 rfl 9 3 SK Tryz.underlying95 RM w.heap.size 1 (wD 1) (wD 2) rfl m1 (by unfold maxLen; omega) _ _ (.string wCut) rfl rfl k1 _ _ v1 d1 ?_; intro w2 m2 g2)
    | (refine wpList_insert_own _ rfl _ _ _ 95 rfl 9 3 SK Tryz.underlying95 RM w.heap.size 2 (wD 2) (wD 3) rfl m2 (by unfold maxLen; omega) _ _ (.string wJoin) rfl rfl k2 _ _ v0 d2 ?_; intro w3 m3 g3)
    | (refine wpList_insert_own _ rfl _ _ _ 95 rfl 9 3 SK Tryz.underlying95 RM w.heap.size 3 (wD 3) (wD 4) rfl m3 (by unfold maxLen; omega) _ _ (.string wLayer) rfl rfl k3 _ _ v1 d3 ?_; intro w4 m4 g4)
    | (refine wpList_insert_own _ rfl _ _ _ 95 rfl 9 3 SK Tryz.underlying95 RM w.heap.size 4 (wD 4) (wD 5) rfl m4 (by unfold maxLen; omega) _ _ (.string wCore) rfl rfl k4 _ _ v0 d4 ?_; intro w5 m5 g5)
    | (refine wpList_insert_own _ rfl _ _ _ 95 rfl 9 3 SK Tryz.underlying95 RM w.heap.size 5 (wD 5) (wD 6) rfl m5 (by unfold maxLen; omega) _ _ (.string wLength) rfl rfl k5 _ _ v0 d5 ?_; intro w6 m6 g6)
    | (refine wpList_insert_own _ rfl _ _ _ 95 rfl 9 3 SK Tryz.underlying95 RM w.heap.size 6 (wD 6) (wD 7) rfl m6 (by unfold maxLen; omega) _ _ (.string wCount) rfl rfl k6 _ _ v2 d6 ?_; intro w7 m7 g7)
    | (refine wpList_insert_own _ rfl _ _ _ 95 rfl 9 3 SK Tryz.underlying95 RM w.heap.size 7 (wD 7) (wD 8) rfl m7 (by unfold maxLen; omega) _ _ (.string wAge) rfl rfl k7 _ _ v1 d7 ?_; intro w8 m8 g8)
    | (refine wpList_insert_own _ rfl _ _ _ 95 rfl 9 3 SK Tryz.underlying95 RM w.heap.size 8 (wD 8) (wD 9) rfl m8 (by unfold maxLen; omega) _ _ (.string wYear) rfl rfl k8 _ _ v1 d8 ?_; intro w9 m9 g9
       have B9 : Below w.heap.size w w9 := ((Below.refl w.heap.size w).alloc (Nat.le_refl _) _).grown (((((((((g1.trans g2).trans g3).trans g4).trans g5).trans g6).trans g7).trans g8).trans g9)) (by simp) (fun j hj => by injection hj with hj; omega)
       have e0 := (B9.cell (p := ⟨k, 0, none⟩) hk).trans c0
       have e1 := (B9.cell (p := ⟨k, 1, none⟩) hk).trans c1
       clear g1 g2 g3 g4 g5 g6 g7 g8 g9 m1 m2 m3 m4 m5 m6 m7 m8)
    | (at_lookup; refine wpList_lookup_own_ok_int _ rfl _ _ 95 rfl 9 3 .i64 SK Tryz.underlying95 Tryz.underlying3 (zeroInt _) w.heap.size 9 (wD 9) rfl m9 _ (.string wLayer) rfl k3 ?_
       intro c hat hwc
       obtain rfl : c = 1 := by have h2 := hwh.2; rw [← wD_all, hat] at h2; injection h2 with h2; injection h2
       rw [show has (wD 9) (.string wLayer) = true from hwh.1]
       clear hat hwc m9 m0 hmm k0 k1 k2 k3 k4 k5 k6 k7 k8 d0 d1 d2 d3 d4 d5 d6 d7 d8 hwh v0 v1 v2))
  go_loopw [9, 11, 37] (fun s _ i wr => ∃ j : Nat, j ≤ 1 ∧ i = .int .i64 j ∧ Own II 1 wr w.heap.size 3 s j ([x].take j) ∧ Below w.heap.size w wr) (fun _ _ i _ => 1 - (intOf i).toNat)
  case atStart => exact ⟨0, by omega, rfl, Own.nil_ _ _ _ _ _, B9⟩
  case round =>
    obtain ⟨j, hj, rfl, hw, hb⟩ := hrel
    have e1' := (hb.cell (p := ⟨k, 1, none⟩) hk).trans c1
    have e0' := (hb.cell (p := ⟨k, 0, none⟩) hk).trans c0
    clear e0 e1 c0 c1 B9
    rcases (show j = 0 ∨ j = 1 by omega) with rfl | rfl
    · obtain ⟨A0, c0, rfl, _, _⟩ := hw.form
      have hsz := hb.size
      have hEr := HE.out.below hb (Nat.le_refl _)
      obtain ⟨i0, hi, hz0, hz1, hz2⟩ := info_parts infoInt8
      go_wp2_with (first
        | (go_at_call 76; refine (SN0.out _ hEr).mono ?_; rintro e w2 ⟨rfl, b2⟩
           have hw2 := hw.below b2 (Nat.le_refl _)
           have hb2 := hb.trans (b2.mono hsz)
           have hsz2 := hb2.size
           have K1 := cell_new1 w2 (.int .i64 x) 3
           have K2 := one_II x
           have K3 : 0 + 1 ≤ maxLen := by unfold maxLen; omega
           have K4 : (0 + 1) * 8 ≤ 140737488355328 := by omega
           have K5 : w.heap.size ≤ (w2.alloc (.cells #[.int .i64 x] 3)).heap.size := by simp; omega)
        | (at_builtin; (refine wpList_append_own _ rfl _ _ 81 rfl w.heap.size 3 i0 (.int .i64 0) 1 8 Tryz.underlying81 hi hz0 hz1 hz2 rfl (by decide) _ _ _ rfl (hw2.2.alloc _) ⟨w2.heap.size, 0, none⟩ 1 1 [.int .i64 x] rfl rfl K1 K2 K3 K4 K5 ?_)))
      intro v' w4 hown' hg4 _
      have hw4 : Own II 1 w4 w.heap.size 3 v' (0 + 1) ([x].take (0 + 1)) := Own.snoc (f := II) (l := [x].take 0) (x := x) rfl hown'
      have hb4 : Below w.heap.size w w4 := (hb2.alloc hsz2 (.cells #[.int .i64 x] 3)).grown hg4 (by simp; omega) (fun j hj => (hw2.2.lt j hj).1)
      clear hw hown' hg4 hb hb2 hw2 K1 K2 K3 K4 K5 b2 hEr
      go_wp2
      go_roundw
      case rel => exact ⟨0 + 1, by omega, by go_num, hw4, hb4⟩
      case measure => simp [intOf]
    · obtain ⟨G, cG, rfl, hG1, hG2, hG3⟩ := hw.head (by omega)
      have HSr := Lib.hid (HS.out.below hb (Nat.le_refl _))
      have HEr := Lib.hid (HE.out.below hb (Nat.le_refl _))
      have HB := Lib.hid hb
      have q0 : ((tx wLayer).toList == [112, 105, 101, 99, 101]) = false := tne (a := wLayer) (b := wPiece) (by decide)
      have q1 : ((tx wLayer).toList == [99, 117, 116]) = false := tne (a := wLayer) (b := wCut) (by decide)
      have q2 : ((tx wLayer).toList == [106, 111, 105, 110]) = false := tne (a := wLayer) (b := wJoin) (by decide)
      have q3 : ((tx wLayer).toList == [108, 97, 121, 101, 114]) = true := teq wLayer
      clear hw hb HS SN0 hj HT HE
      go_wp2_with (go_at_call 78; refine (AL.out _ HSr.out HEr.out).mono ?_; rintro e w5 ⟨rfl, s5, g5⟩)
      go_ret2
      exact ⟨rfl, s5, (grows2 HB.out _).trans g5⟩

end Go.Proofs.YtefadlbfkhndfaaGreatDoor
