/-
  Drawn texts: one of a list; DrawCurveFrom, DrawLayersFrom.
-/
import Derived.Test.YtjbdoohpljffnaaDoorDrawCv
import Derived.Test.YtjbdoohpljffnaaDoorDrawLy
import Derived.Test.YtjbdoohpljffnaaDoorCurveTexts
import Derived.Test.YtjbdoohpljffnaaDoorLayersText
import Derived.Test.YtjbdoohpljffnaaDoorCurveFromS
namespace Go.Proofs.YtjbdoohpljffnaaDoor
open Go.RowKit
set_option linter.unusedSimpArgs false
set_option linter.unusedVariables false

set_option maxHeartbeats 1000000 in
/-- One of the texts of a list. -/
theorem of_any (g p : Nat) (A : Option Addr) (m c : Nat) (L : List ByteArray) (w : World) (h : Rd w g 109 p) (hp : p ≤ 1000000) (ha : Arr ST 1 w w.heap.size A m L) (hm : 0 < m) (hm1 : m ≤ 1000) (hAg : ∀ b o, A = some ⟨b, o, none⟩ → b ≠ g) :
    Calls Tryd.prog 77 #[.pointer (some ⟨g, 0, none⟩), .slice A m c] w fun e w' => ∃ S, S ∈ L ∧ e = .returned (.string S) ∧ Rd w' g 109 (p + 1) ∧ w.grownBy w' (some g) := by
  have C := Lib.hid (pick_any g p m w h (by omega) (by omega))
  clear h
  go_enter Tryd.func77, Tryd.ntmps77
  go_wp2_with fail
  refine C.out.mono ?_
  rintro e w1 ⟨a, rfl, ham, hr, hg⟩
  have ham' : a < m := by omega
  obtain ⟨b, off, x, rfl, hbB, hx, c1⟩ := ha.str ham'
  have hne := hAg b off rfl
  have c1' := hg.cell c1 (fun e => hne (by injection e))
  have ik : (a : Int) < (m : Int) := by omega
  have ik0 : (0 : Int) ≤ (a : Int) := by omega
  clear c1 C
  go_wp2
  go_ret
  exact ⟨x, List.mem_of_getElem? hx, rfl, hr, hg⟩

/-- Texts of a literal: a row of the call's own. -/
theorem Own.litSTs (w : World) (base : Nat) (T : TypeId) (L : List ByteArray) (hb : base ≤ w.heap.size) (hl : L.length ≤ 1000) : Own ST 1 (w.alloc (.cells (L.map Value.string).toArray T)) base T (.slice (some ⟨w.heap.size, 0, none⟩) L.length L.length) L.length L := by
  have e : L.flatMap ST = L.map Value.string := by
    induction L with
    | nil => rfl
    | cons x L ih => rw [List.flatMap_cons, List.map_cons, ih (by simp at hl; omega)]; rfl
  refine ⟨rfl, ?_⟩
  rw [e]
  have : (w.alloc (.cells (L.map Value.string).toArray T)).ownsRow base T 1 (.slice (some ⟨w.heap.size, 0, none⟩) L.length L.length) L.length (L.map Value.string).toArray.toList := World.ownsRow_lit w (L.map Value.string).toArray L.length hb (by unfold maxLen; omega) (by simp)
  exact this
def DrawnText (w : World) (e : Ending) (w' : World) : Prop := ∃ S : ByteArray, e = .returned (.string S) ∧ S.size ≤ 1000 ∧ Below w.heap.size w w'
theorem curveT_short (l : List Pc) : (curveT l).length ≤ 400 := by
  unfold curveT
  split
  · rename_i h
    obtain ⟨hF, h2, h12⟩ := (curveB_iff l).1 h
    have := knotsT_len hF (by omega) (by omega) l.length (Nat.le_refl _)
    rw [List.take_of_length_le (Nat.le_refl _)] at this
    omega
  · simp
theorem layersT_short (l : List Ly) : (layersT l).length ≤ 400 := by
  unfold layersT
  split
  · rename_i h
    obtain ⟨hF, h40⟩ := (layB_iff l).1 h
    have := laysT_len hF (by omega) l.length (Nat.le_refl _)
    rw [List.take_of_length_le (Nat.le_refl _)] at this
    omega
  · simp

set_option maxRecDepth 100000 in
set_option maxHeartbeats 2000000 in
theorem DrawCurveFrom_any (A : Option Addr) (n c : Nat) (l : List Int) (w : World) (h : Arr BB 1 w w.heap.size A n l) (hby : ∀ x ∈ l, 0 ≤ x ∧ x ≤ 255) (hc : n ≤ c) :
    Calls Tryd.prog 45 #[.slice A n c] w (DrawnText w) := by
  have C := Lib.hid (l6Open_any A n c l w h hby hc)
  clear hby h
  go_enter Tryd.func45, Tryd.ntmps45
  go_wp2_with fail
  refine C.out.mono ?_
  rintro e w1 ⟨rfl, hr, hb, hs⟩
  clear C
  go_wp2_with fail
  refine (l91Curve_any _ 0 w1 hr (by omega)).mono ?_
  rintro e w2 ⟨A2, n2, c2, l2, p2, rfl, ho, hn, hr2, hp2, hg⟩
  have hb2 := hb.grown hg (by omega) (by intro k hk; simp at hk; omega)
  have a2 := ho.arr PP_length
  have K := Lib.hid (specCurveText_any A2 n2 c2 l2 w2 a2 (by omega))
  have hz := curveT_short l2
  obtain ⟨S, hS⟩ : ∃ S, S = tx (curveT l2) := ⟨_, rfl⟩
  rw [← hS] at K
  have hSz : S.size ≤ 400 := by rw [hS, tx_size]; omega
  have hrl := hr2.lt
  clear hr hb hg ho a2 hz hS
  go_wp2_with fail
  refine K.out.mono ?_
  rintro e w3 ⟨rfl, b3⟩
  have hr3 := hr2.below b3 hrl
  have hb3 := hb2.trans (b3.mono hb2.size)
  clear K b3 hr2 hb2
  go_wp2_with fail
  refine (pick_any _ p2 8 w3 hr3 (by omega) (by omega)).mono ?_
  rintro e w4 ⟨a, rfl, ha, hr4, hg4⟩
  have hb4 := hb3.grown hg4 hb3.size (by intro k hk; injection hk with hk; omega)
  have hrl4 := hr4.lt
  have hsz4 := hb4.size
  clear hg4 hr3 hb3
  by_cases h0 : a = 0
  · subst h0
    obtain ⟨W5, hW5⟩ : ∃ W5, W5 = w4.alloc (.cells #[.string ⟨#[]⟩, .string ⟨#[49, 32, 50, 10]⟩, .string ⟨#[49, 32, 50, 10, 51, 32, 52]⟩, .string ⟨#[49, 32, 50, 10, 49, 32, 51, 10]⟩, .string ⟨#[48, 49, 32, 50, 10, 51, 32, 52, 10]⟩, .string ⟨#[49, 32, 50, 32, 51, 10, 52, 32, 53, 32, 54, 10]⟩, .string ⟨#[10]⟩] 9) := ⟨_, rfl⟩
    have o5 := Own.litSTs w4 w4.heap.size 9 [⟨#[]⟩, ⟨#[49, 32, 50, 10]⟩, ⟨#[49, 32, 50, 10, 51, 32, 52]⟩, ⟨#[49, 32, 50, 10, 49, 32, 51, 10]⟩, ⟨#[48, 49, 32, 50, 10, 51, 32, 52, 10]⟩, ⟨#[49, 32, 50, 32, 51, 10, 52, 32, 53, 32, 54, 10]⟩, ⟨#[10]⟩] (Nat.le_refl _) (by decide)
    rw [show (([⟨#[]⟩, ⟨#[49, 32, 50, 10]⟩, ⟨#[49, 32, 50, 10, 51, 32, 52]⟩, ⟨#[49, 32, 50, 10, 49, 32, 51, 10]⟩, ⟨#[48, 49, 32, 50, 10, 51, 32, 52, 10]⟩, ⟨#[49, 32, 50, 32, 51, 10, 52, 32, 53, 32, 54, 10]⟩, ⟨#[10]⟩] : List ByteArray).map Value.string).toArray = #[.string ⟨#[]⟩, .string ⟨#[49, 32, 50, 10]⟩, .string ⟨#[49, 32, 50, 10, 51, 32, 52]⟩, .string ⟨#[49, 32, 50, 10, 49, 32, 51, 10]⟩, .string ⟨#[48, 49, 32, 50, 10, 51, 32, 52, 10]⟩, .string ⟨#[49, 32, 50, 32, 51, 10, 52, 32, 53, 32, 54, 10]⟩, .string ⟨#[10]⟩] from rfl, ← hW5] at o5
    have hr5 := hr4.alloc (.cells #[.string ⟨#[]⟩, .string ⟨#[49, 32, 50, 10]⟩, .string ⟨#[49, 32, 50, 10, 51, 32, 52]⟩, .string ⟨#[49, 32, 50, 10, 49, 32, 51, 10]⟩, .string ⟨#[48, 49, 32, 50, 10, 51, 32, 52, 10]⟩, .string ⟨#[49, 32, 50, 32, 51, 10, 52, 32, 53, 32, 54, 10]⟩, .string ⟨#[10]⟩] 9)
    have hb5 := hb4.alloc hsz4 (.cells #[.string ⟨#[]⟩, .string ⟨#[49, 32, 50, 10]⟩, .string ⟨#[49, 32, 50, 10, 51, 32, 52]⟩, .string ⟨#[49, 32, 50, 10, 49, 32, 51, 10]⟩, .string ⟨#[48, 49, 32, 50, 10, 51, 32, 52, 10]⟩, .string ⟨#[49, 32, 50, 32, 51, 10, 52, 32, 53, 32, 54, 10]⟩, .string ⟨#[10]⟩] 9)
    rw [← hW5] at hr5 hb5
    have K5 := Lib.hid (of_any _ (p2 + 1) _ 7 7 _ W5 hr5 (by omega) (o5.arr ST_length) (by omega) (by omega) (fun b o e => by injection e with e; injection e with e _; omega))
    have hW5' := Lib.hid hW5
    rw [hW5] at K5
    clear o5 hr5 hr4 hb4 ha hW5
    go_wp2_with fail
    refine K5.out.mono ?_
    rintro e w6 ⟨Z, hZ, rfl, hr6, hg6⟩
    rw [← hW5'.out] at hg6
    have hb6 := hb5.grown hg6 hb5.size (by intro k hk; injection hk with hk; omega)
    have hz : Z.size ≤ 100 := by
      have key : ∀ Z ∈ ([⟨#[]⟩, ⟨#[49, 32, 50, 10]⟩, ⟨#[49, 32, 50, 10, 51, 32, 52]⟩, ⟨#[49, 32, 50, 10, 49, 32, 51, 10]⟩, ⟨#[48, 49, 32, 50, 10, 51, 32, 52, 10]⟩, ⟨#[49, 32, 50, 32, 51, 10, 52, 32, 53, 32, 54, 10]⟩, ⟨#[10]⟩] : List ByteArray), Z.size ≤ 100 := by decide
      exact key Z hZ
    clear hg6 hr6 K5 hb5 hZ
    go_wp2
    go_ret
    exact ⟨Z, rfl, by omega, hb6⟩
  · by_cases h1 : a = 1
    · subst h1
      obtain ⟨W5, hW5⟩ : ∃ W5, W5 = w4.alloc (.cells #[.string ⟨#[57]⟩, .string ⟨#[10]⟩, .string ⟨#[51, 48, 48, 48, 49, 32, 51, 48, 48, 48, 49, 10]⟩] 9) := ⟨_, rfl⟩
      have o5 := Own.litSTs w4 w4.heap.size 9 [⟨#[57]⟩, ⟨#[10]⟩, ⟨#[51, 48, 48, 48, 49, 32, 51, 48, 48, 48, 49, 10]⟩] (Nat.le_refl _) (by decide)
      rw [show (([⟨#[57]⟩, ⟨#[10]⟩, ⟨#[51, 48, 48, 48, 49, 32, 51, 48, 48, 48, 49, 10]⟩] : List ByteArray).map Value.string).toArray = #[.string ⟨#[57]⟩, .string ⟨#[10]⟩, .string ⟨#[51, 48, 48, 48, 49, 32, 51, 48, 48, 48, 49, 10]⟩] from rfl, ← hW5] at o5
      have hr5 := hr4.alloc (.cells #[.string ⟨#[57]⟩, .string ⟨#[10]⟩, .string ⟨#[51, 48, 48, 48, 49, 32, 51, 48, 48, 48, 49, 10]⟩] 9)
      have hb5 := hb4.alloc hsz4 (.cells #[.string ⟨#[57]⟩, .string ⟨#[10]⟩, .string ⟨#[51, 48, 48, 48, 49, 32, 51, 48, 48, 48, 49, 10]⟩] 9)
      rw [← hW5] at hr5 hb5
      have K5 := Lib.hid (of_any _ (p2 + 1) _ 3 3 _ W5 hr5 (by omega) (o5.arr ST_length) (by omega) (by omega) (fun b o e => by injection e with e; injection e with e _; omega))
      have hW5' := Lib.hid hW5
      rw [hW5] at K5
      clear o5 hr5 hr4 hb4 ha hW5
      go_wp2_with fail
      refine K5.out.mono ?_
      rintro e w6 ⟨Z, hZ, rfl, hr6, hg6⟩
      rw [← hW5'.out] at hg6
      have hb6 := hb5.grown hg6 hb5.size (by intro k hk; injection hk with hk; omega)
      have hz : Z.size ≤ 100 := by
        have key : ∀ Z ∈ ([⟨#[57]⟩, ⟨#[10]⟩, ⟨#[51, 48, 48, 48, 49, 32, 51, 48, 48, 48, 49, 10]⟩] : List ByteArray), Z.size ≤ 100 := by decide
        exact key Z hZ
      obtain ⟨Y, hY⟩ : ∃ Y, Y = S ++ Z := ⟨_, rfl⟩
      have hYz : Y.size ≤ 1000 := by rw [hY, ByteArray.size_append]; omega
      have AY : ∀ W : World, (Op.stringOp .add S Z).run Tryd.prog W = .ok (.string Y) W := knadd_at S Z Y (by omega) hY.symm
      clear hg6 hr6 K5 hb5 hZ hY
      go_wp2
      go_ret
      exact ⟨Y, rfl, hYz, hb6⟩
    · have f0 : ((a : Int) == 0) = false := by simp; omega
      have f1 : ((a : Int) == 1) = false := by simp; omega
      clear h0 h1 ha hr4
      go_wp2
      go_ret
      exact ⟨S, rfl, by omega, hb4⟩

set_option maxRecDepth 100000 in
set_option maxHeartbeats 2000000 in
theorem DrawLayersFrom_any (A : Option Addr) (n c : Nat) (l : List Int) (w : World) (h : Arr BB 1 w w.heap.size A n l) (hby : ∀ x ∈ l, 0 ≤ x ∧ x ≤ 255) (hc : n ≤ c) :
    Calls Tryd.prog 47 #[.slice A n c] w (DrawnText w) := by
  have C := Lib.hid (l6Open_any A n c l w h hby hc)
  clear hby h
  go_enter Tryd.func47, Tryd.ntmps47
  go_wp2_with fail
  refine C.out.mono ?_
  rintro e w1 ⟨rfl, hr, hb, hs⟩
  clear C
  go_wp2_with fail
  refine (l92Layers_any _ 0 w1 hr (by omega)).mono ?_
  rintro e w2 ⟨A2, n2, c2, l2, p2, rfl, ho, hn, hr2, hp2, hg⟩
  have hb2 := hb.grown hg (by omega) (by intro k hk; simp at hk; omega)
  have a2 := ho.arr LL_length
  have K := Lib.hid (specLayersText_any A2 n2 c2 l2 w2 a2 (by omega))
  have hz := layersT_short l2
  obtain ⟨S, hS⟩ : ∃ S, S = tx (layersT l2) := ⟨_, rfl⟩
  rw [← hS] at K
  have hSz : S.size ≤ 400 := by rw [hS, tx_size]; omega
  have hrl := hr2.lt
  clear hr hb hg ho a2 hz hS
  go_wp2_with fail
  refine K.out.mono ?_
  rintro e w3 ⟨rfl, b3⟩
  have hr3 := hr2.below b3 hrl
  have hb3 := hb2.trans (b3.mono hb2.size)
  clear K b3 hr2 hb2
  go_wp2_with fail
  refine (pick_any _ p2 8 w3 hr3 (by omega) (by omega)).mono ?_
  rintro e w4 ⟨a, rfl, ha, hr4, hg4⟩
  have hb4 := hb3.grown hg4 hb3.size (by intro k hk; injection hk with hk; omega)
  have hrl4 := hr4.lt
  have hsz4 := hb4.size
  clear hg4 hr3 hb3
  by_cases h0 : a = 0
  · subst h0
    obtain ⟨W5, hW5⟩ : ∃ W5, W5 = w4.alloc (.cells #[.string ⟨#[]⟩, .string ⟨#[63, 10]⟩, .string ⟨#[53, 63, 63, 10]⟩, .string ⟨#[53, 10, 53, 10]⟩, .string ⟨#[48, 53, 10]⟩, .string ⟨#[53]⟩, .string ⟨#[10]⟩] 9) := ⟨_, rfl⟩
    have o5 := Own.litSTs w4 w4.heap.size 9 [⟨#[]⟩, ⟨#[63, 10]⟩, ⟨#[53, 63, 63, 10]⟩, ⟨#[53, 10, 53, 10]⟩, ⟨#[48, 53, 10]⟩, ⟨#[53]⟩, ⟨#[10]⟩] (Nat.le_refl _) (by decide)
    rw [show (([⟨#[]⟩, ⟨#[63, 10]⟩, ⟨#[53, 63, 63, 10]⟩, ⟨#[53, 10, 53, 10]⟩, ⟨#[48, 53, 10]⟩, ⟨#[53]⟩, ⟨#[10]⟩] : List ByteArray).map Value.string).toArray = #[.string ⟨#[]⟩, .string ⟨#[63, 10]⟩, .string ⟨#[53, 63, 63, 10]⟩, .string ⟨#[53, 10, 53, 10]⟩, .string ⟨#[48, 53, 10]⟩, .string ⟨#[53]⟩, .string ⟨#[10]⟩] from rfl, ← hW5] at o5
    have hr5 := hr4.alloc (.cells #[.string ⟨#[]⟩, .string ⟨#[63, 10]⟩, .string ⟨#[53, 63, 63, 10]⟩, .string ⟨#[53, 10, 53, 10]⟩, .string ⟨#[48, 53, 10]⟩, .string ⟨#[53]⟩, .string ⟨#[10]⟩] 9)
    have hb5 := hb4.alloc hsz4 (.cells #[.string ⟨#[]⟩, .string ⟨#[63, 10]⟩, .string ⟨#[53, 63, 63, 10]⟩, .string ⟨#[53, 10, 53, 10]⟩, .string ⟨#[48, 53, 10]⟩, .string ⟨#[53]⟩, .string ⟨#[10]⟩] 9)
    rw [← hW5] at hr5 hb5
    have K5 := Lib.hid (of_any _ (p2 + 1) _ 7 7 _ W5 hr5 (by omega) (o5.arr ST_length) (by omega) (by omega) (fun b o e => by injection e with e; injection e with e _; omega))
    have hW5' := Lib.hid hW5
    rw [hW5] at K5
    clear o5 hr5 hr4 hb4 ha hW5
    go_wp2_with fail
    refine K5.out.mono ?_
    rintro e w6 ⟨Z, hZ, rfl, hr6, hg6⟩
    rw [← hW5'.out] at hg6
    have hb6 := hb5.grown hg6 hb5.size (by intro k hk; injection hk with hk; omega)
    have hz : Z.size ≤ 100 := by
      have key : ∀ Z ∈ ([⟨#[]⟩, ⟨#[63, 10]⟩, ⟨#[53, 63, 63, 10]⟩, ⟨#[53, 10, 53, 10]⟩, ⟨#[48, 53, 10]⟩, ⟨#[53]⟩, ⟨#[10]⟩] : List ByteArray), Z.size ≤ 100 := by decide
      exact key Z hZ
    clear hg6 hr6 K5 hb5 hZ
    go_wp2
    go_ret
    exact ⟨Z, rfl, by omega, hb6⟩
  · by_cases h1 : a = 1
    · subst h1
      obtain ⟨W5, hW5⟩ : ∃ W5, W5 = w4.alloc (.cells #[.string ⟨#[57]⟩, .string ⟨#[10]⟩, .string ⟨#[51, 48, 48, 48, 49, 10]⟩, .string ⟨#[51, 48, 48, 48, 48, 63, 10]⟩] 9) := ⟨_, rfl⟩
      have o5 := Own.litSTs w4 w4.heap.size 9 [⟨#[57]⟩, ⟨#[10]⟩, ⟨#[51, 48, 48, 48, 49, 10]⟩, ⟨#[51, 48, 48, 48, 48, 63, 10]⟩] (Nat.le_refl _) (by decide)
      rw [show (([⟨#[57]⟩, ⟨#[10]⟩, ⟨#[51, 48, 48, 48, 49, 10]⟩, ⟨#[51, 48, 48, 48, 48, 63, 10]⟩] : List ByteArray).map Value.string).toArray = #[.string ⟨#[57]⟩, .string ⟨#[10]⟩, .string ⟨#[51, 48, 48, 48, 49, 10]⟩, .string ⟨#[51, 48, 48, 48, 48, 63, 10]⟩] from rfl, ← hW5] at o5
      have hr5 := hr4.alloc (.cells #[.string ⟨#[57]⟩, .string ⟨#[10]⟩, .string ⟨#[51, 48, 48, 48, 49, 10]⟩, .string ⟨#[51, 48, 48, 48, 48, 63, 10]⟩] 9)
      have hb5 := hb4.alloc hsz4 (.cells #[.string ⟨#[57]⟩, .string ⟨#[10]⟩, .string ⟨#[51, 48, 48, 48, 49, 10]⟩, .string ⟨#[51, 48, 48, 48, 48, 63, 10]⟩] 9)
      rw [← hW5] at hr5 hb5
      have K5 := Lib.hid (of_any _ (p2 + 1) _ 4 4 _ W5 hr5 (by omega) (o5.arr ST_length) (by omega) (by omega) (fun b o e => by injection e with e; injection e with e _; omega))
      have hW5' := Lib.hid hW5
      rw [hW5] at K5
      clear o5 hr5 hr4 hb4 ha hW5
      go_wp2_with fail
      refine K5.out.mono ?_
      rintro e w6 ⟨Z, hZ, rfl, hr6, hg6⟩
      rw [← hW5'.out] at hg6
      have hb6 := hb5.grown hg6 hb5.size (by intro k hk; injection hk with hk; omega)
      have hz : Z.size ≤ 100 := by
        have key : ∀ Z ∈ ([⟨#[57]⟩, ⟨#[10]⟩, ⟨#[51, 48, 48, 48, 49, 10]⟩, ⟨#[51, 48, 48, 48, 48, 63, 10]⟩] : List ByteArray), Z.size ≤ 100 := by decide
        exact key Z hZ
      obtain ⟨Y, hY⟩ : ∃ Y, Y = S ++ Z := ⟨_, rfl⟩
      have hYz : Y.size ≤ 1000 := by rw [hY, ByteArray.size_append]; omega
      have AY : ∀ W : World, (Op.stringOp .add S Z).run Tryd.prog W = .ok (.string Y) W := knadd_at S Z Y (by omega) hY.symm
      clear hg6 hr6 K5 hb5 hZ hY
      go_wp2
      go_ret
      exact ⟨Y, rfl, hYz, hb6⟩
    · have f0 : ((a : Int) == 0) = false := by simp; omega
      have f1 : ((a : Int) == 1) = false := by simp; omega
      clear h0 h1 ha hr4
      go_wp2
      go_ret
      exact ⟨S, rfl, by omega, hb4⟩
end Go.Proofs.YtjbdoohpljffnaaDoor
