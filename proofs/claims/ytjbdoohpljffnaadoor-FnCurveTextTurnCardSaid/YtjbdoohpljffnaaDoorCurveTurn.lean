/-
  Contract: CurveTurn of the program; plain words on turned curves.
-/
import Derived.Test.YtjbdoohpljffnaaDoorCurveTexts
import Derived.Test.YtjbdoohpljffnaaDoorPairKnot
import Derived.Test.YtjbdoohpljffnaaDoorAppend
namespace Go.Proofs.YtjbdoohpljffnaaDoor
open Go.RowKit
set_option linter.unusedSimpArgs false
set_option linter.unusedVariables false

def turnT (l : List Pc) : List Pc := l.map fun p => (p.2, p.1)
theorem turnT_len (l : List Pc) : (turnT l).length = l.length := by simp [turnT]
theorem turnT_snoc {l : List Pc} {k : Nat} {x y : Int} (h : l[k]? = some (x, y)) : turnT (l.take (k + 1)) = turnT (l.take k) ++ [(y, x)] := by
  unfold turnT; rw [take_snoc h, List.map_append]; rfl
theorem curveFrom_turn : ∀ (l : List Pc) (a b : Int), curveFrom b a (turnT l) = curveFrom a b l := by
  intro l
  induction l with
  | nil => intro a b; rfl
  | cons p t ih =>
    intro a b
    have e : turnT (p :: t) = (p.2, p.1) :: turnT t := rfl
    rw [e, curveFrom, curveFrom, ih p.1 p.2]
    congr 1
    rw [Bool.eq_iff_iff]
    simp
    omega
theorem curveB_turn (l : List Pc) : curveB (turnT l) = curveB l := by
  unfold curveB
  rw [curveFrom_turn, turnT_len]
theorem knotsT_turn (l : List Pc) : (knotsT (turnT l)).length = (knotsT l).length := by
  induction l with
  | nil => rfl
  | cons p t ih =>
    have e1 : knotsT (turnT (p :: t)) = knT (p.2, p.1) ++ knotsT (turnT t) := rfl
    have e2 : knotsT (p :: t) = knT p ++ knotsT t := rfl
    rw [e1, e2, List.length_append, List.length_append, ih]
    unfold knT
    simp only [List.length_append, List.length_cons, List.length_nil]
    omega
theorem curveT_turn (l : List Pc) : (curveT (turnT l)).length = (curveT l).length := by
  unfold curveT
  rw [curveB_turn]
  split
  · exact knotsT_turn l
  · rfl

set_option maxRecDepth 100000 in
set_option maxHeartbeats 2000000 in
theorem implCurveTurn_any (A : Option Addr) (n c : Nat) (l : List Pc) (w : World) (h : Arr PP 2 w w.heap.size A n l) (hn : n ≤ 1099511627776) (hB : curveB l = true) :
    Calls Tryd.prog 22 #[.slice A n c] w fun e w' => ∃ A' c', e = .returned (.tuple #[.slice A' n c', .bool true]) ∧ Own PP 2 w' w.heap.size 64 (.slice A' n c') n (turnT l) ∧ Below w.heap.size w w' := by
  have C := implCurveValid_any A n c l w h hn
  rw [hB] at C
  have C' := Lib.hid C
  have hln := Lib.hid h.1
  have h12 := ((curveB_iff l).1 hB).2.2
  rw [hln.out] at h12
  obtain ⟨i0, hi, hz0, hz1, hz2⟩ := info_parts infoKnot
  clear C hB
  go_enter Tryd.func22, Tryd.ntmps22
  go_wp2_with fail
  refine C'.out.mono ?_
  rintro e w1 ⟨rfl, b1⟩
  clear C'
  go_wp2_with fail
  go_loopw [4, 12] (fun s i wr => ∃ (k : Nat), k ≤ n ∧ i = .int .i64 k ∧ Own PP 2 wr w.heap.size 64 s k (turnT (l.take k)) ∧ Below w.heap.size w wr) (fun _ i _ => n - (intOf i).toNat)
  case atStart => exact ⟨0, Nat.zero_le _, rfl, Own.nil_ _ _ _ _ _, b1⟩
  case round =>
    obtain ⟨k, hk, rfl, hw, hb⟩ := hrel
    by_cases hlt : k < n
    · obtain ⟨b, off, x, y, rfl, hbB, hx, c1, c2⟩ := h.pair hlt
      obtain ⟨A0, c0, rfl, _, _⟩ := hw.form
      have HF := Lib.hid (turnT_snoc hx)
      have c1' := (hb.cell (by exact hbB)).trans c1
      have c2' := (hb.cell (by exact hbB)).trans c2
      have ik : (k : Int) < (n : Int) := by omega
      have ik0 : (0 : Int) ≤ (k : Int) := by omega
      have hsz := hb.size
      have HL := hw.1
      clear c1 c2 hx
      go_wp2_with (at_builtin; (refine wpList_append_own _ rfl _ _ 25 rfl w.heap.size 64 i0 (.agg #[.int .i64 0, .int .i64 0]) 2 16 Tryd.underlying25 hi hz0 hz1 hz2 rfl (by decide) _ _ _ rfl ((hw.2.alloc _).alloc _) ⟨wr.heap.size + 1, 0, none⟩ 1 1 [.int .i64 y, .int .i64 x] rfl rfl ?d1 ?d2 ?d3 ?d4 ?d5 ?_))
      case d1 =>
        have := cell_new2 (wr.alloc (.cells #[.int .i64 x, .int .i64 y] 64)) (.int .i64 y) (.int .i64 x) 64
        simpa using this
      case d2 => exact one_PP _ _
      case d3 => unfold maxLen; omega
      case d4 => omega
      case d5 => simp; omega
      intro v' w4 hown' hg4 _
      have hw4 : Own PP 2 w4 w.heap.size 64 v' (k + 1) (turnT (l.take (k + 1))) := by rw [HF.out]; exact Own.snoc HL hown'
      have hb4 : Below w.heap.size w w4 := ((hb.alloc hsz (.cells #[.int .i64 x, .int .i64 y] 64)).alloc (by simp; omega) (.cells #[.int .i64 y, .int .i64 x] 64)).grown hg4 (by simp; omega) (fun j hj => (hw.2.lt j hj).1)
      clear hw hown' hg4 c1' c2' hb
      go_wp2
      go_roundw
      case rel => exact ⟨k + 1, by omega, by go_num, hw4, hb4⟩
      case measure => simp [intOf]; omega
    · obtain rfl : k = n := by omega
      have hxs : turnT (l.take k) = turnT l := by rw [List.take_of_length_le (by rw [hln.out]; exact Nat.le_refl _)]
      rw [hxs] at hw
      obtain ⟨A0, c0, rfl, _, _⟩ := hw.form
      clear hxs
      go_wp2
      go_ret2
      exact ⟨_, _, rfl, hw, hb⟩
end Go.Proofs.YtjbdoohpljffnaaDoor
