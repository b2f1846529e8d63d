/-
  What the texts below prove: contracts and plain laws, each with its conditions.
-/
import Derived.Test.YtefadlbfkhndfaaGreatDoorGA
import Derived.Deep.RegionHeld3
import Derived.Lib.ItoaNum
import Derived.Laws.IdiomStrings
import Derived.Lib.AtoiTie
import Derived.Lib.Bytealg
import Derived.Lib.Strings

/-
  Contracts: the reference's l6Dec; words for texts.
-/
namespace Go.Proofs.YtefadlbfkhndfaaGreatDoor
open Go.RowKit
set_option linter.unusedSimpArgs false
set_option linter.unusedVariables false

/-- A text as the model holds it. -/
def tx (l : List UInt8) : ByteArray := ⟨l.toArray⟩
theorem tx_size (l : List UInt8) : (tx l).size = l.length := by simp [tx, ByteArray.size]
theorem tx_add (a b : List UInt8) : tx a ++ tx b = tx (a ++ b) := by
  apply ByteArray.ext
  simp [tx]
theorem ret_str {a b : ByteArray} (h : a = b) : Ending.returned (.string a) = .returned (.string b) := by rw [h]
theorem dec_len : ∀ (k u : Nat), u < 10 ^ (k + 1) → (Lib.decDigits u).length ≤ k + 1 := by
  intro k
  induction k with
  | zero => intro u h; rw [Lib.decDigits, dif_pos (by omega)]; simp
  | succ k ih =>
    intro u h
    rw [Lib.decDigits]
    split
    · simp
    · have := ih (u / 10) (by rw [Nat.div_lt_iff_lt_mul (by omega), ← Nat.pow_succ]; exact h)
      simp; omega
theorem dec_short {u : Nat} (h : u ≤ 100000) : (Lib.decDigits u).length ≤ 6 := dec_len 5 u (by omega)

theorem new_one (w : World) (a : Value) (T : TypeId) : (w.alloc (.cells #[a] T)).cell? ⟨w.heap.size, 0, none⟩ = some a := cell_new1 w a T 0 a rfl
theorem new_two (w : World) (a b : Value) (T : TypeId) : (w.alloc (.cells #[a, b] T)).cell? ⟨w.heap.size, 0, none⟩ = some a ∧ (w.alloc (.cells #[a, b] T)).cell? ⟨w.heap.size, 1, none⟩ = some b :=
  ⟨cell_new2 w a b T 0 a rfl, cell_new2 w a b T 1 b rfl⟩
theorem new_oneD (w : World) (a : Value) (T : TypeId) : (w.drew.alloc (.cells #[a] T)).cell? ⟨w.heap.size, 0, none⟩ = some a := new_one w.drew a T
/-- A slice of one byte becomes a text. -/
theorem conv_one {d : Nat} (h : d < 256) (W : World) (g : Nat) (hc : W.cell? ⟨g, 0, none⟩ = some (.int .u8 (d : Int))) :
    (convert 24 9 (.slice (some ⟨g, 0, none⟩) 1 1)).run Tryz.prog W = .ok (.string (tx [UInt8.ofNat d])) W :=
  run_convert_bytes_back (P := Tryz.prog) W 24 9 5 ⟨g, 0, none⟩ 1 [UInt8.ofNat d] Tryz.underlying24 Tryz.underlying5 Tryz.underlying9 (fun j hj => by
    obtain rfl : j = 0 := by simpa using hj
    simp only [Addr.add_lit]
    rw [show (0 : Nat) + 0 = 0 from rfl, hc]
    simp
    omega)

set_option maxRecDepth 100000 in
set_option maxHeartbeats 1000000 in
theorem l6Dec_small (u : Nat) (w : World) (h : u < 10) :
    Calls Tryz.prog 43 #[.int .i64 u] w fun e w' => e = .returned (.string (tx (Lib.decDigits u))) ∧ Below w.heap.size w w' := by
  have hD := Lib.hid (show Lib.decDigits u = [UInt8.ofNat (48 + u)] by rw [Lib.decDigits, dif_pos h])
  have f1 : decide ((u : Int) < -9223372036854775807) = false := decide_eq_false (by omega)
  have f2 : decide ((u : Int) < 0) = false := decide_eq_false (by omega)
  have f3 : decide ((u : Int) < 10) = true := decide_eq_true (by omega)
  have kc := conv_one (d := 48 + u) (by omega) (w.alloc (.cells #[.int .u8 ((48 + u : Nat) : Int)] 5)) w.heap.size (cell_new1 w _ _ 0 _ rfl)
  rw [show (((48 + u : Nat)) : Int) = 48 + (u : Int) by omega] at kc
  obtain ⟨T, hTT⟩ : ∃ T, T = tx [UInt8.ofNat (48 + u)] := ⟨_, rfl⟩
  rw [← hTT] at kc
  have hT := Lib.hid (show T = tx (Lib.decDigits u) by rw [hTT, hD.out])
  clear hTT hD
  go_enter Tryz.func43, Tryz.ntmps43
  go_wp2
  go_ret
  refine ⟨ret_str hT.out, ?_⟩
  go_grown

set_option maxRecDepth 100000 in
set_option maxHeartbeats 2000000 in
theorem l6Dec_step (u q r : Nat) (w : World) (h : 10 ≤ u) (hu : u ≤ 100000) (hq : u / 10 = q) (hr : u % 10 = r)
    (IH : ∀ W, Calls Tryz.prog 43 #[.int .i64 q] W fun e w' => e = .returned (.string (tx (Lib.decDigits q))) ∧ Below W.heap.size W w') :
    Calls Tryz.prog 43 #[.int .i64 u] w fun e w' => e = .returned (.string (tx (Lib.decDigits u))) ∧ Below w.heap.size w w' := by
  have hD := Lib.hid (show Lib.decDigits u = Lib.decDigits q ++ [UInt8.ofNat (48 + r)] by rw [Lib.decDigits, dif_neg (by omega), hq, hr])
  have hl := dec_short (u := q) (by omega)
  have hr9 : r < 10 := by omega
  have IH' := Lib.hid IH
  have f1 : decide ((u : Int) < -9223372036854775807) = false := decide_eq_false (by omega)
  have f2 : decide ((u : Int) < 0) = false := decide_eq_false (by omega)
  have f3 : decide ((u : Int) < 10) = false := decide_eq_false (by omega)
  obtain ⟨S, hS⟩ : ∃ S, S = tx (Lib.decDigits q) := ⟨_, rfl⟩
  have hSz : S.size ≤ 6 := by rw [hS, tx_size]; exact hl
  have hT := Lib.hid (show S ++ tx [UInt8.ofNat (48 + r)] = tx (Lib.decDigits u) by rw [hS, tx_add, hD.out])
  rw [← hS] at IH'
  have hTz : (tx [UInt8.ofNat (48 + r)]).size = 1 := tx_size _
  obtain ⟨T, hTT⟩ : ∃ T, T = tx [UInt8.ofNat (48 + r)] := ⟨_, rfl⟩
  have kc := fun W g hc => conv_one (d := 48 + r) (by omega) W g hc
  rw [← hTT] at kc hT hTz
  rw [show (((48 + r : Nat)) : Int) = 48 + (r : Int) by omega] at kc
  have hsum : S.size + T.size ≤ 9223372036854775807 := by omega
  have hadd := fun W => run_string_add_sum (P := Tryz.prog) (w := W) S T hsum
  have e1 : Int.tdiv (u : Int) 10 = (q : Int) := by rw [Int.tdiv_eq_ediv_of_nonneg (by omega)]; omega
  have e2 : Int.tmod (u : Int) 10 = (r : Int) := by rw [Int.tmod_eq_emod_of_nonneg (by omega)]; omega
  have B1 : 0 ≤ 48 + (r : Int) ∧ 48 + (r : Int) ≤ 4611686018427387904 := by omega
  have B2 : 0 ≤ (q : Int) ∧ (q : Int) ≤ 4611686018427387904 := by omega
  have B3 : 0 ≤ 48 + (r : Int) ∧ 48 + (r : Int) ≤ 255 := by omega
  have B4 : -9223372036854775808 ≤ 48 + (r : Int) ∧ 48 + (r : Int) ≤ 9223372036854775807 := by omega
  have B5 : -9223372036854775808 ≤ (q : Int) ∧ (q : Int) ≤ 9223372036854775807 := by omega
  have e5 : IntKind.u8.wrap (48 + (r : Int)) = 48 + (r : Int) := IntWalk.u8_in _ B3
  have e6 : wrap64 (48 + (r : Int)) = 48 + (r : Int) := w64 B1
  have e7 : wrap64 (q : Int) = (q : Int) := w64 B2
  have e3 : IntKind.i64.wrap (48 + (r : Int)) = 48 + (r : Int) := IntWalk.i64_in _ B4
  have e4 : IntKind.i64.wrap (q : Int) = (q : Int) := IntWalk.i64_in _ B5
  have k1 := kc (w.drew.alloc (.cells #[.int .u8 (48 + (r : Int))] 5)) w.heap.size (new_oneD w _ _)
  have k1' : (convert 24 9 (.slice (some ⟨w.heap.size, 0, none⟩) 1 1)).run Tryz.prog (w.alloc (.cells #[.int .u8 (48 + (r : Int))] 5)).drew = .ok (.string T) (w.alloc (.cells #[.int .u8 (48 + (r : Int))] 5)).drew := k1
  have KC := Lib.hid kc
  clear hD hl hq hr IH hS hTT hSz hTz hsum B1 B2 B3 B4 B5 kc
  go_enter Tryz.func43, Tryz.ntmps43
  go_wp2_with fail
  go_region_with (first
    | (go_at_call 43; refine (IH'.out w.drew).mono ?_; rintro e w2 ⟨rfl, b2⟩; have k2 := KC.out (w2.alloc (.cells #[.int .u8 (48 + (r : Int))] 5)) w2.heap.size (new_one w2 _ _))
    | (go_at_call 43; refine (IH'.out (w.drew.alloc (.cells #[.int .u8 (48 + (r : Int))] 5))).mono ?_; rintro e w2 ⟨rfl, b2⟩; have k2 := KC.out w2 w.heap.size ((b2.cell (by simp)).trans (new_oneD w _ _))))
  all_goals
    have HB := Lib.hid b2
    clear k1 k1' k2 b2
    go_wp2
    go_ret
    refine ⟨ret_str hT.out, ?_⟩
    have hb := HB.out
    first
      | exact ((((Below.refl w.heap.size w).drew).alloc (by simp) _).trans (hb.mono (by simp)))
      | exact (((Below.refl w.heap.size w).drew).trans (hb.mono (by simp))).alloc (by have := hb.size; simp at this; omega) _
      | exact ((Below.refl w.heap.size w).drew).trans (hb.mono (by simp))

theorem l6Dec_any (u : Nat) (w : World) (hu : u ≤ 100000) :
    Calls Tryz.prog 43 #[.int .i64 u] w fun e w' => e = .returned (.string (tx (Lib.decDigits u))) ∧ Below w.heap.size w w' := by
  have key : ∀ (k u : Nat) (w : World), u ≤ k → u ≤ 100000 → Calls Tryz.prog 43 #[.int .i64 u] w fun e w' => e = .returned (.string (tx (Lib.decDigits u))) ∧ Below w.heap.size w w' := by
    intro k
    induction k with
    | zero => intro u w h h2; exact l6Dec_small u w (by omega)
    | succ k ih =>
      intro u w h h2
      by_cases h3 : u < 10
      · exact l6Dec_small u w h3
      · exact l6Dec_step u (u / 10) (u % 10) w (by omega) h2 rfl rfl (fun W => ih (u / 10) W (by omega) (by omega))
  exact key u u w (Nat.le_refl _) hu
end Go.Proofs.YtefadlbfkhndfaaGreatDoor

/-
  Plain words on curves; contracts: isDepth, l11Depth, l6In.
-/
namespace Go.Proofs.YtefadlbfkhndfaaGreatDoor
open Go.RowKit
set_option linter.unusedSimpArgs false
set_option linter.unusedVariables false

/-! ### Plain words -/
def curveFrom : Int → Int → List Pc → Bool
  | _, _, [] => true
  | a, b, p :: t => decide (a < p.1 ∧ p.1 ≤ 30000 ∧ b < p.2 ∧ p.2 ≤ 30000) && curveFrom p.1 p.2 t
def curveB (l : List Pc) : Bool := curveFrom (-1) (-1) l && decide (2 ≤ l.length ∧ l.length ≤ 12)
theorem curveFrom_cons (a b : Int) (p : Pc) (t : List Pc) : curveFrom a b (p :: t) = true ↔ (a < p.1 ∧ p.1 ≤ 30000 ∧ b < p.2 ∧ p.2 ≤ 30000) ∧ curveFrom p.1 p.2 t = true := by simp [curveFrom]
theorem curveB_iff (l : List Pc) : curveB l = true ↔ curveFrom (-1) (-1) l = true ∧ 2 ≤ l.length ∧ l.length ≤ 12 := by simp [curveB]
theorem curveFrom_mem : ∀ {l : List Pc} {a b : Int}, curveFrom a b l = true → ∀ p ∈ l, a < p.1 ∧ p.1 ≤ 30000 ∧ b < p.2 ∧ p.2 ≤ 30000 := by
  intro l
  induction l with
  | nil => intro a b h p hp; cases hp
  | cons q t ih =>
    intro a b h p hp
    rw [curveFrom_cons] at h
    rcases List.mem_cons.1 hp with rfl | hp
    · exact h.1
    · have := ih h.2 p hp; omega

/-! ### Numbers in range -/
def isD (x : Int) : Bool := decide (0 ≤ x ∧ x ≤ 30000)
theorem isDepth_any (x : Int) (r : Bool) (hr : isD x = r) (w : World) : Calls Tryz.prog 56 #[.int .i64 x] w fun e w' => e = .returned (.bool r) ∧ w = w' := by
  unfold isD at hr
  rcases (show x < 0 ∨ (0 ≤ x ∧ 30000 < x) ∨ (0 ≤ x ∧ x ≤ 30000) by omega) with h | ⟨h, h2⟩ | ⟨h, h2⟩
  · rw [decide_eq_false (by omega)] at hr
    subst hr
    go_enter Tryz.func56, Tryz.ntmps56
    go_wp2
    go_ret
    exact ⟨rfl, rfl⟩
  · rw [decide_eq_false (by omega)] at hr
    subst hr
    go_enter Tryz.func56, Tryz.ntmps56
    go_wp2
    go_ret
    exact ⟨ret_bool (by simp; omega), rfl⟩
  · rw [decide_eq_true (by omega)] at hr
    subst hr
    go_enter Tryz.func56, Tryz.ntmps56
    go_wp2
    go_ret
    exact ⟨ret_bool (by simp; try omega), rfl⟩
theorem l6In_any (x a b : Int) (r : Bool) (hr : decide (a ≤ x ∧ x ≤ b) = r) (w : World) : Calls Tryz.prog 61 #[.int .i64 x, .int .i64 a, .int .i64 b] w fun e w' => e = .returned (.bool r) ∧ w = w' := by
  rcases (show x < a ∨ (a ≤ x ∧ b < x) ∨ (a ≤ x ∧ x ≤ b) by omega) with h | ⟨h, h2⟩ | ⟨h, h2⟩
  · rw [decide_eq_false (by omega)] at hr
    subst hr
    go_enter Tryz.func61, Tryz.ntmps61
    go_wp2
    go_ret
    exact ⟨rfl, rfl⟩
  · rw [decide_eq_false (by omega)] at hr
    subst hr
    go_enter Tryz.func61, Tryz.ntmps61
    go_wp2
    go_ret
    exact ⟨ret_bool (by simp; omega), rfl⟩
  · rw [decide_eq_true (by omega)] at hr
    subst hr
    go_enter Tryz.func61, Tryz.ntmps61
    go_wp2
    go_ret
    exact ⟨rfl, rfl⟩
theorem l11Depth_any (x : Int) (r : Bool) (hr : isD x = r) (w : World) : Calls Tryz.prog 57 #[.int .i64 x] w fun e w' => e = .returned (.bool r) ∧ w = w' := by
  have C := Lib.hid (l6In_any x 0 30000 r hr)
  clear hr
  go_enter Tryz.func57, Tryz.ntmps57
  go_wp2_with fail
  refine (C.out _).mono ?_
  rintro e w' ⟨rfl, rfl⟩
  go_wp2
  go_ret
  exact ⟨rfl, rfl⟩
theorem isD_iff (x : Int) : isD x = true ↔ 0 ≤ x ∧ x ≤ 30000 := by simp [isD]
theorem isD_no {x : Int} (h : isD x = false) : ¬ (0 ≤ x ∧ x ≤ 30000) := by simpa [isD] using h

/-- How a knot stands to the one ahead of it: the loop's own words. -/
theorem curve_bad {l : List Pc} {k : Nat} {a b x y : Int} (hs : curveFrom a b (l.drop k) = curveFrom (-1) (-1) l) (hx : l[k]? = some (x, y)) (h : ¬ (a < x ∧ x ≤ 30000 ∧ b < y ∧ y ≤ 30000)) : curveB l = false := by
  unfold curveB
  rw [← hs, drop_cons hx, curveFrom, decide_eq_false (show ¬ (a < (x, y).1 ∧ (x, y).1 ≤ 30000 ∧ b < (x, y).2 ∧ (x, y).2 ≤ 30000) from h)]
  rfl
theorem curve_good {l : List Pc} {k : Nat} {a b x y : Int} (hs : curveFrom a b (l.drop k) = curveFrom (-1) (-1) l) (hx : l[k]? = some (x, y)) (h : a < x ∧ x ≤ 30000 ∧ b < y ∧ y ≤ 30000) : curveFrom x y (l.drop (k + 1)) = curveFrom (-1) (-1) l := by
  rw [← hs, drop_cons hx, curveFrom, decide_eq_true (show a < (x, y).1 ∧ (x, y).1 ≤ 30000 ∧ b < (x, y).2 ∧ (x, y).2 ≤ 30000 from h), Bool.true_and]
theorem curve_end {l : List Pc} {k n : Nat} {a b : Int} (hs : curveFrom a b (l.drop k) = curveFrom (-1) (-1) l) (hl : l.length = n) (hk : n ≤ k) : curveB l = decide (2 ≤ n ∧ n ≤ 12) := by
  unfold curveB
  rw [← hs, drop_end (by omega), hl]
  rfl


end Go.Proofs.YtefadlbfkhndfaaGreatDoor

/-
  Contract: CurveText of the reference, from the contract of its CurveValid.
-/
namespace Go.Proofs.YtefadlbfkhndfaaGreatDoor
open Go.RowKit
set_option linter.unusedSimpArgs false
set_option linter.unusedVariables false

def knT (p : Pc) : List UInt8 := Lib.decDigits p.1.toNat ++ ([32] ++ (Lib.decDigits p.2.toNat ++ [10]))
def knotsT (l : List Pc) : List UInt8 := l.flatMap knT
def curveT (l : List Pc) : List UInt8 := if curveB l = true then knotsT l else []
theorem knotsT_snoc {l : List Pc} {k : Nat} {p : Pc} (h : l[k]? = some p) : knotsT (l.take (k + 1)) = knotsT (l.take k) ++ knT p := by
  unfold knotsT; rw [take_snoc h, List.flatMap_append]; simp
theorem knadd_at (a b c : ByteArray) (h : a.size + b.size ≤ 1000000) (hc : a ++ b = c) : ∀ W : World, (Op.stringOp .add a b).run Tryz.prog W = .ok (.string c) W := fun W => by
  rw [← hc]; exact run_string_add_sum (P := Tryz.prog) (w := W) a b (by omega)
theorem kndec_tx {u : Nat} (h : u ≤ 100000) : (tx (Lib.decDigits u)).size ≤ 6 := by rw [tx_size]; exact dec_short h

end Go.Proofs.YtefadlbfkhndfaaGreatDoor

/-
  Plain words on layers.
-/
namespace Go.Proofs.YtefadlbfkhndfaaGreatDoor
open Go.RowKit
set_option linter.unusedSimpArgs false
set_option linter.unusedVariables false

abbrev Ly := Int × Bool
def layFrom : Int → List Ly → Bool
  | _, [] => true
  | a, p :: t => decide (a < p.1 ∧ p.1 ≤ 30000) && layFrom p.1 t
def layB (l : List Ly) : Bool := layFrom (-1) l && decide (l.length ≤ 40)
theorem layFrom_cons (a : Int) (p : Ly) (t : List Ly) : layFrom a (p :: t) = true ↔ (a < p.1 ∧ p.1 ≤ 30000) ∧ layFrom p.1 t = true := by simp [layFrom]
theorem layB_iff (l : List Ly) : layB l = true ↔ layFrom (-1) l = true ∧ l.length ≤ 40 := by simp [layB]
theorem layFrom_mem : ∀ {l : List Ly} {a : Int}, layFrom a l = true → ∀ p ∈ l, a < p.1 ∧ p.1 ≤ 30000 := by
  intro l
  induction l with
  | nil => intro a h p hp; cases hp
  | cons q t ih =>
    intro a h p hp
    rw [layFrom_cons] at h
    rcases List.mem_cons.1 hp with rfl | hp
    · exact h.1
    · have := ih h.2 p hp; omega
theorem layFrom_mono : ∀ {l : List Ly} {a a' : Int}, layFrom a l = true → a' ≤ a → layFrom a' l = true := by
  intro l
  cases l with
  | nil => intro _ _ _ _; rfl
  | cons p t => intro a a' h ha; rw [layFrom_cons] at h ⊢; exact ⟨⟨by omega, h.1.2⟩, h.2⟩
theorem layFrom_drop : ∀ {l : List Ly} {a : Int} (k : Nat), layFrom a l = true → layFrom a (l.drop k) = true := by
  intro l
  induction l with
  | nil => intro a k h; simp; exact h
  | cons p t ih =>
    intro a k h
    cases k with
    | zero => exact h
    | succ k => rw [layFrom_cons] at h; exact ih k (layFrom_mono h.2 (by omega))
theorem layFrom_take : ∀ {l : List Ly} {a : Int} (k : Nat), layFrom a l = true → layFrom a (l.take k) = true := by
  intro l
  induction l with
  | nil => intro a k h; simp; exact h
  | cons p t ih =>
    intro a k h
    cases k with
    | zero => rfl
    | succ k => rw [List.take_succ_cons, layFrom_cons]; rw [layFrom_cons] at h; exact ⟨h.1, ih k h.2⟩
theorem lay_bad {l : List Ly} {k : Nat} {a x : Int} {s : Bool} (hs : layFrom a (l.drop k) = layFrom (-1) l) (hx : l[k]? = some (x, s)) (h : ¬ (a < x ∧ x ≤ 30000)) : layB l = false := by
  unfold layB
  rw [← hs, drop_cons hx, layFrom, decide_eq_false (show ¬ (a < (x, s).1 ∧ (x, s).1 ≤ 30000) from h)]
  rfl
theorem lay_good {l : List Ly} {k : Nat} {a x : Int} {s : Bool} (hs : layFrom a (l.drop k) = layFrom (-1) l) (hx : l[k]? = some (x, s)) (h : a < x ∧ x ≤ 30000) : layFrom x (l.drop (k + 1)) = layFrom (-1) l := by
  rw [← hs, drop_cons hx, layFrom, decide_eq_true (show a < (x, s).1 ∧ (x, s).1 ≤ 30000 from h), Bool.true_and]
theorem lay_end {l : List Ly} {k n : Nat} {a : Int} (hs : layFrom a (l.drop k) = layFrom (-1) l) (hl : l.length = n) (hk : n ≤ k) : layB l = decide (n ≤ 40) := by
  unfold layB
  rw [← hs, drop_end (by omega), hl]
  rfl
/-! ### The text -/
def lyT (p : Ly) : List UInt8 := Lib.decDigits p.1.toNat ++ ((if p.2 then [] else [63]) ++ [10])
def laysT (l : List Ly) : List UInt8 := l.flatMap lyT
def layersT (l : List Ly) : List UInt8 := if layB l = true then laysT l else []
theorem laysT_snoc {l : List Ly} {k : Nat} {p : Ly} (h : l[k]? = some p) : laysT (l.take (k + 1)) = laysT (l.take k) ++ lyT p := by
  unfold laysT; rw [take_snoc h, List.flatMap_append]; simp
theorem laysT_len {l : List Ly} {a : Int} (h : layFrom a l = true) (ha : -1 ≤ a) : ∀ k, k ≤ l.length → (laysT (l.take k)).length ≤ 8 * k := by
  intro k
  induction k with
  | zero => intro _; simp [laysT]
  | succ k ih =>
    intro hk
    have hx : l[k]? = some l[k] := List.getElem?_eq_getElem (by omega)
    have hm := layFrom_mem h _ (List.getElem_mem (show k < l.length by omega))
    have a1 := dec_short (u := l[k].1.toNat) (by omega)
    have := ih (by omega)
    rw [laysT_snoc hx]
    unfold lyT
    split <;> simp only [List.length_append, List.length_cons, List.length_nil] <;> omega
end Go.Proofs.YtefadlbfkhndfaaGreatDoor

/-
  Plain words on texts that are read: lines, words, the number that digits spell; a curve and layers out of their texts.
-/
namespace Go.Proofs.YtefadlbfkhndfaaGreatDoor
open Go.RowKit
set_option linter.unusedSimpArgs false
set_option linter.unusedVariables false

/-! ### Splitting at a byte -/
def preS (a : List UInt8) : List (List UInt8) → List (List UInt8)
  | [] => [a]
  | h :: t => (a ++ h) :: t
def splitB (c : UInt8) : List UInt8 → List (List UInt8)
  | [] => [[]]
  | b :: r => if b = c then [] :: splitB c r else preS [b] (splitB c r)
theorem preS_ne (a : List UInt8) (x : List (List UInt8)) : preS a x ≠ [] := by cases x <;> simp [preS]
theorem splitB_ne (c : UInt8) (s : List UInt8) : splitB c s ≠ [] := by
  cases s with
  | nil => simp [splitB]
  | cons b r => unfold splitB; split
                · simp
                · exact preS_ne _ _
theorem preS_pre (a b : List UInt8) {x : List (List UInt8)} (h : x ≠ []) : preS a (preS b x) = preS (a ++ b) x := by
  cases x with
  | nil => exact absurd rfl h
  | cons y t => simp [preS]
theorem preS_nil {x : List (List UInt8)} (h : x ≠ []) : preS [] x = x := by
  cases x with
  | nil => exact absurd rfl h
  | cons y t => simp [preS]
theorem preS_append (a : List UInt8) {x : List (List UInt8)} (h : x ≠ []) (y : List (List UInt8)) : preS a (x ++ y) = preS a x ++ y := by
  cases x with
  | nil => exact absurd rfl h
  | cons z t => simp [preS]
theorem splitB_app {c : UInt8} : ∀ (a b : List UInt8), c ∉ a → splitB c (a ++ b) = preS a (splitB c b) := by
  intro a
  induction a with
  | nil => intro b _; exact (preS_nil (splitB_ne c b)).symm
  | cons x a ih =>
    intro b h
    have hx : x ≠ c := fun e => h (by rw [e]; exact List.mem_cons_self)
    rw [List.cons_append, splitB, if_neg hx, ih b (fun h2 => h (List.mem_cons_of_mem _ h2)), preS_pre _ _ (splitB_ne c b)]
    rfl
theorem splitB_cut {c : UInt8} (a b : List UInt8) (h : c ∉ a) : splitB c (a ++ c :: b) = a :: splitB c b := by
  rw [splitB_app a _ h, splitB, if_pos rfl, preS, List.append_nil]
theorem splitB_one {c : UInt8} (a : List UInt8) (h : c ∉ a) : splitB c a = [a] := by
  have := splitB_app a [] h
  rw [List.append_nil] at this
  rw [this, splitB, preS, List.append_nil]
theorem splitB_end {c : UInt8} : ∀ x : List UInt8, splitB c (x ++ [c]) = splitB c x ++ [[]] := by
  intro x
  induction x with
  | nil => simp [splitB]
  | cons b x ih =>
    rw [List.cons_append, splitB, splitB, ih]
    split
    · rfl
    · rw [preS_append _ (splitB_ne c x)]
/-- The loop that looks at each byte. -/
theorem splitB_step {c b : UInt8} {s : List UInt8} {i : Nat} (h : s[i]? = some b) : splitB c (s.drop i) = if b = c then [] :: splitB c (s.drop (i + 1)) else preS [b] (splitB c (s.drop (i + 1))) := by
  rw [drop_cons h, splitB]
/-- The loop that looks for the next byte c. -/
theorem split_idx (c : UInt8) : ∀ l : List UInt8, (Lib.indexByte l c = -1 ∧ splitB c l = [l]) ∨ ∃ k : Nat, Lib.indexByte l c = k ∧ k < l.length ∧ splitB c l = l.take k :: splitB c (l.drop (k + 1)) := by
  intro l
  induction l with
  | nil => exact .inl ⟨rfl, rfl⟩
  | cons b l ih =>
    by_cases hb : b = c
    · refine .inr ⟨0, ?_, by simp, ?_⟩
      · rw [Lib.indexByte, if_pos (by simpa using hb)]; rfl
      · rw [splitB, if_pos hb]; rfl
    · have hb' : ¬ ((b == c) = true) := by simpa using hb
      rcases ih with ⟨h1, h2⟩ | ⟨k, h1, hk, h2⟩
      · refine .inl ⟨?_, ?_⟩
        · rw [Lib.indexByte, if_neg hb', h1]; rfl
        · rw [splitB, if_neg hb, h2]; rfl
      · refine .inr ⟨k + 1, ?_, by simp; omega, ?_⟩
        · rw [Lib.indexByte, if_neg hb', h1, if_neg (by simp)]; simp
        · rw [splitB, if_neg hb, h2]; rfl
theorem indexByte_at {c : UInt8} : ∀ (a b : List UInt8), c ∉ a → Lib.indexByte (a ++ c :: b) c = (a.length : Int) := by
  intro a
  induction a with
  | nil => intro b _; rw [List.nil_append, Lib.indexByte, if_pos (by simp)]; rfl
  | cons x a ih =>
    intro b h
    have hx : ¬ ((x == c) = true) := fun e => h (by rw [show x = c by simpa using e]; exact List.mem_cons_self)
    rw [List.cons_append, Lib.indexByte, if_neg hx, ih b (fun h2 => h (List.mem_cons_of_mem _ h2)), if_neg (by simp)]
    simp

/-! ### Digits -/
def dig (l : List UInt8) : Int := if 1 ≤ l.length ∧ l.length ≤ 6 then (match Lib.decFrom 0 l with | some n => (n : Int) | none => -1) else -1
theorem decFrom_append : ∀ (a b : List UInt8) (acc : Nat), Lib.decFrom acc (a ++ b) = (Lib.decFrom acc a).bind fun n => Lib.decFrom n b := by
  intro a
  induction a with
  | nil => intro b acc; rfl
  | cons x a ih =>
    intro b acc
    rw [List.cons_append, Lib.decFrom, Lib.decFrom]
    cases Lib.digitVal x with
    | none => rfl
    | some d => exact ih b _
theorem digitVal_of {u : Nat} (h : u < 10) : Lib.digitVal (UInt8.ofNat (48 + u)) = some u := by
  have e : (UInt8.ofNat (48 + u)).toNat = 48 + u := by rw [UInt8.toNat_ofNat']; omega
  unfold Lib.digitVal
  rw [e, if_pos (by omega)]
  congr 1
  omega
theorem decFrom_dec (u : Nat) : Lib.decFrom 0 (Lib.decDigits u) = some u := by
  induction u using Nat.strongRecOn with
  | _ u ih =>
    rw [Lib.decDigits]
    split
    · rename_i h
      rw [Lib.decFrom, digitVal_of h]
      simp [Lib.decFrom]
    · rename_i h
      rw [decFrom_append, ih (u / 10) (by omega)]
      simp only [Option.bind]
      rw [Lib.decFrom, digitVal_of (by omega)]
      simp only [Lib.decFrom]
      congr 1
      omega
theorem dec_mem (u : Nat) : ∀ b ∈ Lib.decDigits u, 48 ≤ b.toNat ∧ b.toNat ≤ 57 := by
  intro b hb
  obtain ⟨k, hk⟩ := List.mem_iff_getElem?.1 hb
  obtain ⟨d, hd⟩ := Lib.digit_of_decFrom _ 0 u (decFrom_dec u) k b hk
  unfold Lib.digitVal at hd
  split at hd
  · assumption
  · cases hd
theorem dec_ne (u : Nat) : Lib.decDigits u ≠ [] := by
  intro h
  have := decFrom_dec u
  rw [Lib.decDigits] at h
  split at h <;> simp at h
theorem dec_pos (u : Nat) : 1 ≤ (Lib.decDigits u).length := List.length_pos_iff.2 (dec_ne u)
theorem not_dec {c : UInt8} (h : c.toNat < 48 ∨ 57 < c.toNat) (u : Nat) : c ∉ Lib.decDigits u := fun hm => by
  have := dec_mem u c hm
  omega
theorem dig_dec {u : Nat} (h : u ≤ 100000) : dig (Lib.decDigits u) = u := by
  unfold dig
  rw [if_pos ⟨dec_pos u, dec_short h⟩, decFrom_dec]
theorem atoi_dec {u : Nat} (h : u ≤ 100000) : Lib.atoiAll (Lib.decDigits u) = .ok (u : Int) := by
  rw [Lib.atoiAll_short _ (by have := dec_short h; omega)]
  have hm := dec_mem u
  have hd := decFrom_dec u
  cases hl : Lib.decDigits u with
  | nil => exact absurd hl (dec_ne u)
  | cons b r =>
    rw [hl] at hm hd
    have hb := hm b List.mem_cons_self
    have n1 : ¬ ((b == 45) = true) := fun e => by rw [show b = 45 by simpa using e] at hb; revert hb; decide
    have n2 : ¬ ((b == 43) = true) := fun e => by rw [show b = 43 by simpa using e] at hb; revert hb; decide
    rw [Lib.atoi, if_neg n1, if_neg n2, Lib.decNat, if_neg (by simp), hd]
    rfl
theorem dig_bd (l : List UInt8) : -1 ≤ dig l ∧ dig l ≤ 999999 := by
  unfold dig
  split
  · rename_i h
    cases hd : Lib.decFrom 0 l with
    | none => simp
    | some n =>
      have h1 := Lib.decFrom_lt l 0 n hd
      have hp : 10 ^ l.length ≤ 10 ^ 6 := Nat.pow_le_pow_right (by decide) h.2
      have e6 : (10 : Nat) ^ 6 = 1000000 := by decide
      simp only
      omega
  · omega

/-! ### A curve out of its text -/
def lineK (p : Pc) : List UInt8 := Lib.decDigits p.1.toNat ++ 32 :: Lib.decDigits p.2.toNat
theorem knT_line (p : Pc) : knT p = lineK p ++ [10] := by unfold knT lineK; simp
theorem lineK_no (p : Pc) : (10 : UInt8) ∉ lineK p := by
  unfold lineK
  simp only [List.mem_append, List.mem_cons, not_or]
  exact ⟨not_dec (by decide) _, by decide, not_dec (by decide) _⟩
theorem split_knots : ∀ (l : List Pc) (t : List UInt8), splitB 10 (knotsT l ++ t) = l.map lineK ++ splitB 10 t := by
  intro l
  induction l with
  | nil => intro t; rfl
  | cons p l ih =>
    intro t
    have e : knotsT (p :: l) ++ t = lineK p ++ 10 :: (knotsT l ++ t) := by
      show (knT p ++ knotsT l) ++ t = _
      rw [knT_line]; simp
    rw [e, splitB_cut _ _ (lineK_no p), ih]
    rfl
theorem knotsT_end {l : List Pc} (h : l ≠ []) : ∃ x, knotsT l = x ++ [10] := by
  obtain ⟨l', p, rfl⟩ : ∃ l' p, l = l' ++ [p] := ⟨_, _, (List.dropLast_concat_getLast h).symm⟩
  refine ⟨knotsT l' ++ lineK p, ?_⟩
  unfold knotsT
  rw [List.flatMap_append]
  simp [knT_line]
theorem trim_end (x : List UInt8) (c : UInt8) : Lib.trimSuffix (x ++ [c]) [c] = x := by
  unfold Lib.trimSuffix
  rw [if_pos (by unfold Lib.hasSuffix; rw [List.isSuffixOf_iff_suffix]; exact ⟨x, rfl⟩)]
  simp
def IsC (s : List UInt8) (l : List Pc) : Prop := curveB l = true ∧ knotsT l = s
theorem IsC.ne {s : List UInt8} {l : List Pc} (h : IsC s l) : l ≠ [] := fun e => by
  have := ((curveB_iff l).1 h.1).2.1
  rw [e] at this
  simp at this
theorem IsC.range {s : List UInt8} {l : List Pc} (h : IsC s l) {p : Pc} (hp : p ∈ l) : 0 ≤ p.1 ∧ p.1 ≤ 30000 ∧ 0 ≤ p.2 ∧ p.2 ≤ 30000 := by
  have := curveFrom_mem ((curveB_iff l).1 h.1).1 p hp
  omega
theorem IsC.lines {s : List UInt8} {l : List Pc} (h : IsC s l) : splitB 10 s = l.map lineK ++ [[]] := by
  have := split_knots l []
  rw [List.append_nil] at this
  rw [← h.2, this]
  rfl
theorem IsC.trim {s : List UInt8} {l : List Pc} (h : IsC s l) : splitB 10 (Lib.trimSuffix s [10]) = l.map lineK := by
  obtain ⟨x, hx⟩ := knotsT_end h.ne
  have h1 := h.lines
  rw [← h.2, hx, splitB_end] at h1
  rw [← h.2, hx, trim_end]
  exact List.append_cancel_right h1
theorem lineK_words (p : Pc) : splitB 32 (lineK p) = [Lib.decDigits p.1.toNat, Lib.decDigits p.2.toNat] := by
  unfold lineK
  rw [splitB_cut _ _ (not_dec (by decide) _), splitB_one _ (not_dec (by decide) _)]
def knOf (w : List UInt8) : Pc := (dig ((splitB 32 w)[0]?.getD []), dig ((splitB 32 w)[1]?.getD []))
theorem knOf_line {p : Pc} (h : 0 ≤ p.1 ∧ p.1 ≤ 30000 ∧ 0 ≤ p.2 ∧ p.2 ≤ 30000) : knOf (lineK p) = p := by
  unfold knOf
  rw [lineK_words]
  simp only [List.getElem?_cons_zero, List.getElem?_cons_succ, Option.getD_some]
  rw [dig_dec (by omega), dig_dec (by omega)]
  exact Prod.ext (by simp; omega) (by simp; omega)
theorem IsC.read {s : List UInt8} {l : List Pc} (h : IsC s l) : (splitB 10 s).dropLast.map knOf = l := by
  rw [h.lines, List.dropLast_concat, List.map_map]
  conv => rhs; rw [← List.map_id l]
  exact List.map_congr_left fun p hp => knOf_line (h.range hp)
theorem IsC.inj {s : List UInt8} {l l' : List Pc} (h : IsC s l) (h' : IsC s l') : l = l' := h.read.symm.trans h'.read
open Classical in
noncomputable def fromC (s : List UInt8) : Option (List Pc) := if h : ∃ l, IsC s l then some h.choose else none
theorem fromC_some {s : List UInt8} {l : List Pc} (h : IsC s l) : fromC s = some l := by
  unfold fromC
  have hx : ∃ l, IsC s l := ⟨l, h⟩
  rw [dif_pos hx]
  exact congrArg some (hx.choose_spec.inj h)
theorem fromC_none {s : List UInt8} (h : ∀ l, ¬ IsC s l) : fromC s = none := by
  unfold fromC
  rw [dif_neg (fun ⟨l, hl⟩ => h l hl)]
theorem fromC_is {s : List UInt8} {l : List Pc} (h : fromC s = some l) : IsC s l := by
  unfold fromC at h
  split at h
  · rename_i hx
    injection h with h
    rw [← h]
    exact hx.choose_spec
  · cases h
/-- What the check at the end says: the text of what has been read is the text. -/
theorem fromC_check {s : List UInt8} {l : List Pc} (h : curveT l = s) (hs : s ≠ []) : fromC s = some l := by
  unfold curveT at h
  split at h
  · exact fromC_some ⟨by assumption, h⟩
  · exact absurd h.symm hs
theorem fromC_fail {s : List UInt8} {l : List Pc} (hl : ∀ l', IsC s l' → l = l') (h : curveT l ≠ s) : fromC s = none := fromC_none fun l' h' => by
  have e := hl l' h'
  subst e
  apply h
  unfold curveT
  rw [if_pos h'.1, h'.2]
theorem fromC_empty : fromC [] = none := fromC_none fun l h => by
  obtain ⟨x, hx⟩ := knotsT_end h.ne
  have := h.2
  rw [hx] at this
  simp at this

/-! ### Layers out of their text -/
def lineL (p : Ly) : List UInt8 := Lib.decDigits p.1.toNat ++ (if p.2 = true then [] else [63])
theorem lyT_line (p : Ly) : lyT p = lineL p ++ [10] := by unfold lyT lineL; simp
theorem lineL_no (p : Ly) : (10 : UInt8) ∉ lineL p := by
  unfold lineL
  rw [List.mem_append, not_or]
  refine ⟨not_dec (by decide) _, ?_⟩
  split <;> simp
theorem split_lays : ∀ (l : List Ly) (t : List UInt8), splitB 10 (laysT l ++ t) = l.map lineL ++ splitB 10 t := by
  intro l
  induction l with
  | nil => intro t; rfl
  | cons p l ih =>
    intro t
    have e : laysT (p :: l) ++ t = lineL p ++ 10 :: (laysT l ++ t) := by
      show (lyT p ++ laysT l) ++ t = _
      rw [lyT_line]; simp
    rw [e, splitB_cut _ _ (lineL_no p), ih]
    rfl
theorem laysT_end {l : List Ly} (h : l ≠ []) : ∃ x, laysT l = x ++ [10] := by
  obtain ⟨l', p, rfl⟩ : ∃ l' p, l = l' ++ [p] := ⟨_, _, (List.dropLast_concat_getLast h).symm⟩
  refine ⟨laysT l' ++ lineL p, ?_⟩
  unfold laysT
  rw [List.flatMap_append]
  simp [lyT_line]
def IsL (s : List UInt8) (l : List Ly) : Prop := layB l = true ∧ laysT l = s
theorem IsL.range {s : List UInt8} {l : List Ly} (h : IsL s l) {p : Ly} (hp : p ∈ l) : 0 ≤ p.1 ∧ p.1 ≤ 30000 := by
  have := layFrom_mem ((layB_iff l).1 h.1).1 p hp
  omega
theorem IsL.lines {s : List UInt8} {l : List Ly} (h : IsL s l) : splitB 10 s = l.map lineL ++ [[]] := by
  have := split_lays l []
  rw [List.append_nil] at this
  rw [← h.2, this]
  rfl
theorem IsL.ne {s : List UInt8} {l : List Ly} (h : IsL s l) (hs : s ≠ []) : l ≠ [] := fun e => hs (by rw [← h.2, e]; rfl)
theorem IsL.trim {s : List UInt8} {l : List Ly} (h : IsL s l) (hs : s ≠ []) : splitB 10 (Lib.trimSuffix s [10]) = l.map lineL := by
  obtain ⟨x, hx⟩ := laysT_end (h.ne hs)
  have h1 := h.lines
  rw [← h.2, hx, splitB_end] at h1
  rw [← h.2, hx, trim_end]
  exact List.append_cancel_right h1
def lyOf (w : List UInt8) : Ly := if w.getLast? = some 63 then (dig w.dropLast, false) else (dig w, true)
theorem lyOf_line {p : Ly} (h : 0 ≤ p.1 ∧ p.1 ≤ 30000) : lyOf (lineL p) = p := by
  obtain ⟨d, b⟩ := p
  unfold lyOf lineL
  cases b with
  | true =>
    have hn : (Lib.decDigits d.toNat).getLast? ≠ some 63 := fun e => not_dec (c := 63) (by decide) d.toNat (List.mem_of_getLast? e)
    simp only [if_pos, List.append_nil]
    rw [if_neg hn, dig_dec (by simp at h; omega)]
    exact Prod.ext (by simp at h ⊢; omega) rfl
  | false =>
    simp only [Bool.false_eq_true, if_false]
    rw [if_pos (by simp), List.dropLast_concat, dig_dec (by simp at h; omega)]
    exact Prod.ext (by simp at h ⊢; omega) rfl
theorem IsL.read {s : List UInt8} {l : List Ly} (h : IsL s l) : (splitB 10 s).dropLast.map lyOf = l := by
  rw [h.lines, List.dropLast_concat, List.map_map]
  conv => rhs; rw [← List.map_id l]
  exact List.map_congr_left fun p hp => lyOf_line (h.range hp)
theorem IsL.inj {s : List UInt8} {l l' : List Ly} (h : IsL s l) (h' : IsL s l') : l = l' := h.read.symm.trans h'.read
open Classical in
noncomputable def fromL (s : List UInt8) : Option (List Ly) := if h : ∃ l, IsL s l then some h.choose else none
theorem fromL_some {s : List UInt8} {l : List Ly} (h : IsL s l) : fromL s = some l := by
  unfold fromL
  have hx : ∃ l, IsL s l := ⟨l, h⟩
  rw [dif_pos hx]
  exact congrArg some (hx.choose_spec.inj h)
theorem fromL_none {s : List UInt8} (h : ∀ l, ¬ IsL s l) : fromL s = none := by
  unfold fromL
  rw [dif_neg (fun ⟨l, hl⟩ => h l hl)]
theorem fromL_is {s : List UInt8} {l : List Ly} (h : fromL s = some l) : IsL s l := by
  unfold fromL at h
  split at h
  · rename_i hx
    injection h with h
    rw [← h]
    exact hx.choose_spec
  · cases h
theorem fromL_empty : fromL [] = some [] := fromL_some ⟨rfl, rfl⟩
theorem fromL_check {s : List UInt8} {l : List Ly} (h : layersT l = s) (hs : s = [] → l = []) : fromL s = some l := by
  unfold layersT at h
  split at h
  · exact fromL_some ⟨by assumption, h⟩
  · have := hs h.symm
    subst this
    exact absurd rfl (by assumption)
theorem fromL_fail {s : List UInt8} {l : List Ly} (hl : ∀ l', IsL s l' → l = l') (h : layersT l ≠ s) : fromL s = none := fromL_none fun l' h' => by
  have e := hl l' h'
  subst e
  apply h
  unfold layersT
  rw [if_pos h'.1, h'.2]
end Go.Proofs.YtefadlbfkhndfaaGreatDoor

/-
  Contract: the laws' own word digits.
-/
namespace Go.Proofs.YtefadlbfkhndfaaGreatDoor
open Go.RowKit
set_option linter.unusedSimpArgs false
set_option linter.unusedVariables false

set_option maxRecDepth 100000 in
set_option maxHeartbeats 1000000 in
theorem digits_small (u : Nat) (w : World) (h : u < 10) :
    Calls Tryz.prog 28 #[.int .i64 u] w fun e w' => e = .returned (.string (tx (Lib.decDigits u))) ∧ Below w.heap.size w w' := by
  have hD := Lib.hid (show Lib.decDigits u = [UInt8.ofNat (48 + u)] by rw [Lib.decDigits, dif_pos h])
  have f3 : decide ((u : Int) < 10) = true := decide_eq_true (by omega)
  have kc := conv_one (d := 48 + u) (by omega) (w.alloc (.cells #[.int .u8 ((48 + u : Nat) : Int)] 5)) w.heap.size (cell_new1 w _ _ 0 _ rfl)
  rw [show (((48 + u : Nat)) : Int) = 48 + (u : Int) by omega] at kc
  obtain ⟨T, hTT⟩ : ∃ T, T = tx [UInt8.ofNat (48 + u)] := ⟨_, rfl⟩
  rw [← hTT] at kc
  have hT := Lib.hid (show T = tx (Lib.decDigits u) by rw [hTT, hD.out])
  clear hTT hD
  go_enter Tryz.func28, Tryz.ntmps28
  go_wp2
  go_ret
  refine ⟨ret_str hT.out, ?_⟩
  go_grown

set_option maxRecDepth 100000 in
set_option maxHeartbeats 2000000 in
theorem digits_step (u q r : Nat) (w : World) (h : 10 ≤ u) (hu : u ≤ 10000000) (hq : u / 10 = q) (hr : u % 10 = r)
    (IH : ∀ W, Calls Tryz.prog 28 #[.int .i64 q] W fun e w' => e = .returned (.string (tx (Lib.decDigits q))) ∧ Below W.heap.size W w') :
    Calls Tryz.prog 28 #[.int .i64 u] w fun e w' => e = .returned (.string (tx (Lib.decDigits u))) ∧ Below w.heap.size w w' := by
  have hD := Lib.hid (show Lib.decDigits u = Lib.decDigits q ++ [UInt8.ofNat (48 + r)] by rw [Lib.decDigits, dif_neg (by omega), hq, hr])
  have hl := dec_len 7 q (by omega)
  have hr9 : r < 10 := by omega
  have IH' := Lib.hid IH
  have f3 : decide ((u : Int) < 10) = false := decide_eq_false (by omega)
  obtain ⟨S, hS⟩ : ∃ S, S = tx (Lib.decDigits q) := ⟨_, rfl⟩
  have hSz : S.size ≤ 8 := by rw [hS, tx_size]; exact hl
  have hT := Lib.hid (show S ++ tx [UInt8.ofNat (48 + r)] = tx (Lib.decDigits u) by rw [hS, tx_add, hD.out])
  rw [← hS] at IH'
  have hTz : (tx [UInt8.ofNat (48 + r)]).size = 1 := tx_size _
  obtain ⟨T, hTT⟩ : ∃ T, T = tx [UInt8.ofNat (48 + r)] := ⟨_, rfl⟩
  have kc := fun W g hc => conv_one (d := 48 + r) (by omega) W g hc
  rw [← hTT] at kc hT hTz
  rw [show (((48 + r : Nat)) : Int) = 48 + (r : Int) by omega] at kc
  have hsum : S.size + T.size ≤ 9223372036854775807 := by omega
  have hadd := fun W => run_string_add_sum (P := Tryz.prog) (w := W) S T hsum
  have e1 : Int.tdiv (u : Int) 10 = (q : Int) := by rw [Int.tdiv_eq_ediv_of_nonneg (by omega)]; omega
  have e2 : Int.tmod (u : Int) 10 = (r : Int) := by rw [Int.tmod_eq_emod_of_nonneg (by omega)]; omega
  have B1 : 0 ≤ 48 + (r : Int) ∧ 48 + (r : Int) ≤ 4611686018427387904 := by omega
  have B2 : 0 ≤ (q : Int) ∧ (q : Int) ≤ 4611686018427387904 := by omega
  have B3 : 0 ≤ 48 + (r : Int) ∧ 48 + (r : Int) ≤ 255 := by omega
  have B4 : -9223372036854775808 ≤ 48 + (r : Int) ∧ 48 + (r : Int) ≤ 9223372036854775807 := by omega
  have B5 : -9223372036854775808 ≤ (q : Int) ∧ (q : Int) ≤ 9223372036854775807 := by omega
  have e5 : IntKind.u8.wrap (48 + (r : Int)) = 48 + (r : Int) := IntWalk.u8_in _ B3
  have e6 : wrap64 (48 + (r : Int)) = 48 + (r : Int) := w64 B1
  have e7 : wrap64 (q : Int) = (q : Int) := w64 B2
  have e3 : IntKind.i64.wrap (48 + (r : Int)) = 48 + (r : Int) := IntWalk.i64_in _ B4
  have e4 : IntKind.i64.wrap (q : Int) = (q : Int) := IntWalk.i64_in _ B5
  have k1 := kc (w.drew.alloc (.cells #[.int .u8 (48 + (r : Int))] 5)) w.heap.size (new_oneD w _ _)
  have k1' : (convert 24 9 (.slice (some ⟨w.heap.size, 0, none⟩) 1 1)).run Tryz.prog (w.alloc (.cells #[.int .u8 (48 + (r : Int))] 5)).drew = .ok (.string T) (w.alloc (.cells #[.int .u8 (48 + (r : Int))] 5)).drew := k1
  have KC := Lib.hid kc
  clear hD hl hq hr IH hS hTT hSz hTz hsum B1 B2 B3 B4 B5 kc
  go_enter Tryz.func28, Tryz.ntmps28
  go_wp2_with fail
  go_region_with (first
    | (go_at_call 28; refine (IH'.out w.drew).mono ?_; rintro e w2 ⟨rfl, b2⟩; have k2 := KC.out (w2.alloc (.cells #[.int .u8 (48 + (r : Int))] 5)) w2.heap.size (new_one w2 _ _))
    | (go_at_call 28; refine (IH'.out (w.drew.alloc (.cells #[.int .u8 (48 + (r : Int))] 5))).mono ?_; rintro e w2 ⟨rfl, b2⟩; have k2 := KC.out w2 w.heap.size ((b2.cell (by simp)).trans (new_oneD w _ _))))
  all_goals
    have HB := Lib.hid b2
    clear k1 k1' k2 b2
    go_wp2
    go_ret
    refine ⟨ret_str hT.out, ?_⟩
    have hb := HB.out
    first
      | exact ((((Below.refl w.heap.size w).drew).alloc (by simp) _).trans (hb.mono (by simp)))
      | exact (((Below.refl w.heap.size w).drew).trans (hb.mono (by simp))).alloc (by have := hb.size; simp at this; omega) _
      | exact ((Below.refl w.heap.size w).drew).trans (hb.mono (by simp))

theorem digits_any (u : Nat) (w : World) (hu : u ≤ 10000000) :
    Calls Tryz.prog 28 #[.int .i64 u] w fun e w' => e = .returned (.string (tx (Lib.decDigits u))) ∧ Below w.heap.size w w' := by
  have key : ∀ (k u : Nat) (w : World), u ≤ k → u ≤ 10000000 → Calls Tryz.prog 28 #[.int .i64 u] w fun e w' => e = .returned (.string (tx (Lib.decDigits u))) ∧ Below w.heap.size w w' := by
    intro k
    induction k with
    | zero => intro u w h h2; exact digits_small u w (by omega)
    | succ k ih =>
      intro u w h h2
      by_cases h3 : u < 10
      · exact digits_small u w h3
      · exact digits_step u (u / 10) (u % 10) w (by omega) h2 rfl rfl (fun W => ih (u / 10) W (by omega) (by omega))
  exact key u u w (Nat.le_refl _) hu
end Go.Proofs.YtefadlbfkhndfaaGreatDoor

/-
  Contract: LayersValid of the program.
-/
namespace Go.Proofs.YtefadlbfkhndfaaGreatDoor
open Go.RowKit
set_option linter.unusedSimpArgs false
set_option linter.unusedVariables false

set_option maxRecDepth 100000 in
set_option maxHeartbeats 2000000 in
theorem implLayersValid_any (A : Option Addr) (n c : Nat) (l : List Ly) (w : World) (h : Arr LL 2 w w.heap.size A n l) (hn : n ≤ 1099511627776) :
    Calls Tryz.prog 20 #[.slice A n c] w fun e w' => e = .returned (.bool (layB l)) ∧ Below w.heap.size w w' := by
  have hln := Lib.hid h.1
  go_enter Tryz.func20, Tryz.ntmps20
  go_wp2
  go_loopw [7] (fun i wr => ∃ (k : Nat) (a : Int), k ≤ n ∧ i = .int .i64 k ∧ -1 ≤ a ∧ (k = 0 → a = -1) ∧ (∀ j q, k = j + 1 → l[j]? = some q → a = q.1) ∧ Hid (layFrom a (l.drop k) = layFrom (-1) l) ∧ Below w.heap.size w wr) (fun i _ => n - (intOf i).toNat)
  case atStart => exact ⟨0, -1, Nat.zero_le _, rfl, Int.le_refl _, fun _ => rfl, fun j q e => by omega, Lib.hid rfl, Below.refl _ _⟩
  case round =>
    obtain ⟨k, a, hk, rfl, ha, hz, hp, hs, hb⟩ := hrel
    have hp' := Lib.hid hp
    have hz' := Lib.hid hz
    clear hp hz
    by_cases hlt : k < n
    · obtain ⟨b, off, x, s, rfl, hbB, hx, c1, c2⟩ := h.layer hlt
      have hx' := Lib.hid hx
      clear hx
      have c1' := (hb.cell (by exact hbB)).trans c1
      have c2' := (hb.cell (by exact hbB)).trans c2
      have ik : (k : Int) < (n : Int) := by omega
      have hsz := hb.size
      go_wp2_with fail
      obtain ⟨d1, d2⟩ := (new_two wr (.int .i64 x) (.bool s) 73)
      have Bp := hb.alloc hsz (.cells #[.int .i64 x, .bool s] 73)
      have hPl : wr.heap.size < (wr.alloc (.cells #[.int .i64 x, .bool s] 73)).heap.size := by simp
      generalize wr.alloc (.cells #[.int .i64 x, .bool s] 73) = wp at d1 d2 Bp hPl ⊢
      generalize wr.heap.size = P at d1 d2 hPl ⊢
      have D1 := Later.cell (w0 := wp) (B := wp.heap.size) (by exact hPl) d1
      have hsp := Bp.size
      clear c1 c2 c1' c2' d1 d2
      cases hX : isD x with
      | false =>
        have hf := Lib.hid (lay_bad hs.out hx'.out (by have := isD_no hX; omega))
        have HX := Lib.hid (isDepth_any x false hX)
        clear hX
        refine wp_region_under (B := wp.heap.size) (w0 := wp) (by kernel_rfl) (by kernel_rfl) (Below.refl _ _) ?_
        repeat (go_big_quiet_step ((first
          | (go_at_call 56; with_reducible exact Calls.underSame (HX.out _)))))
        refine wpQuiet_nil ?_
        rintro w2 ⟨u, hu⟩
        have hb2 := u.2
        rw [← hu] at hb2
        clear hu D1 
        go_wp2
        go_ret
        exact ⟨ret_bool hf.out.symm, Bp.trans (hb2.mono Bp.size)⟩
      | true =>
        have HX := Lib.hid (isDepth_any x true hX)
        have qx := (isD_iff x).1 hX
        clear hX
        rcases k with _ | j
        · obtain rfl := hz'.out rfl
          refine wp_region_under (B := wp.heap.size) (w0 := wp) (by kernel_rfl) (by kernel_rfl) (Below.refl _ _) ?_
          repeat (go_big_quiet_step ((first
            | (go_at_call 56; with_reducible exact Calls.underSame (HX.out _)))))
          refine wpQuiet_nil ?_
          rintro w2 ⟨u, hu⟩
          have hb2 := u.2
          rw [← hu] at hb2
          clear hu D1 
          go_wp2
          go_roundw
          case rel => exact ⟨1, x, by omega, by go_num, by omega, fun e => absurd e (by omega), fun j q e hj => (by
            obtain rfl : j = 0 := by omega
            rw [hx'.out] at hj
            cases hj
            rfl), Lib.hid (lay_good hs.out hx'.out (by omega)), Bp.trans (hb2.mono Bp.size)⟩
          case measure => simp [intOf]; omega
        · obtain ⟨b', off', x', s', e, hbB', hx1, c3, c4⟩ := h.layer (k := j) (by omega)
          injection e with e; injection e with e1 e2; subst e1; subst e2
          obtain rfl : a = x' := hp'.out j _ rfl hx1
          have D3 := Later.cell (w0 := wp) (B := wp.heap.size) (by exact Nat.lt_of_lt_of_le hbB hsp) ((Bp.cell (by exact hbB)).trans c3)
          clear c3 c4 hx1
          have ik' : (j : Int) + 1 < (n : Int) := by omega
          have ij : (j : Int) < (n : Int) := by omega
          have Bj : 0 ≤ (j : Int) ∧ (j : Int) ≤ 4611686018427387904 := by omega
          have wj : wrap64 (j : Int) = (j : Int) := w64 Bj
          clear Bj
          by_cases hlo : x ≤ a
          · have g1 : decide (x ≤ a) = true := decide_eq_true hlo
            have hf := Lib.hid (lay_bad hs.out hx'.out (by omega))
            refine wp_region_under (B := wp.heap.size) (w0 := wp) (by kernel_rfl) (by kernel_rfl) (Below.refl _ _) ?_
            repeat (go_big_quiet_step ((first
              | (go_at_call 56; with_reducible exact Calls.underSame (HX.out _)))))
            refine wpQuiet_nil ?_
            rintro w2 ⟨u, hu⟩
            have hb2 := u.2
            rw [← hu] at hb2
            clear hu D1 D3 wj
            go_wp2
            go_ret
            exact ⟨ret_bool hf.out.symm, Bp.trans (hb2.mono Bp.size)⟩
          · have g1 : decide (x ≤ a) = false := decide_eq_false hlo
            have hlo1 : a < x := by omega
            refine wp_region_under (B := wp.heap.size) (w0 := wp) (by kernel_rfl) (by kernel_rfl) (Below.refl _ _) ?_
            repeat (go_big_quiet_step ((first
              | (go_at_call 56; with_reducible exact Calls.underSame (HX.out _)))))
            refine wpQuiet_nil ?_
            rintro w2 ⟨u, hu⟩
            have hb2 := u.2
            rw [← hu] at hb2
            clear hu D1 D3 wj
            go_wp2
            go_roundw
            case rel => exact ⟨j + 1 + 1, x, by omega, by go_num, by omega, fun e => absurd e (by omega), fun i q e hi => (by
              obtain rfl : i = j + 1 := by omega
              rw [hx'.out] at hi
              cases hi
              rfl), Lib.hid (lay_good hs.out hx'.out (by omega)), Bp.trans (hb2.mono Bp.size)⟩
            case measure => simp [intOf]; omega
    · have hg := Lib.hid (lay_end hs.out hln.out (by omega))
      by_cases h40 : n ≤ 40
      all_goals
        go_wp2
        go_ret
        exact ⟨ret_bool (by rw [hg.out]; simp; try omega), hb⟩
end Go.Proofs.YtefadlbfkhndfaaGreatDoor

/-
  Contract: LayersValid of the reference.
-/
namespace Go.Proofs.YtefadlbfkhndfaaGreatDoor
open Go.RowKit
set_option linter.unusedSimpArgs false
set_option linter.unusedVariables false

set_option maxRecDepth 100000 in
set_option maxHeartbeats 2000000 in
theorem specLayersValid_any (A : Option Addr) (n c : Nat) (l : List Ly) (w : World) (h : Arr LL 2 w w.heap.size A n l) (hn : n ≤ 1099511627776) :
    Calls Tryz.prog 21 #[.slice A n c] w fun e w' => e = .returned (.bool (layB l)) ∧ Below w.heap.size w w' := by
  have hln := Lib.hid h.1
  go_enter Tryz.func21, Tryz.ntmps21
  go_wp2
  go_loopw [3] (fun i wr => ∃ (k : Nat) (a : Int), k ≤ n ∧ i = .int .i64 k ∧ -1 ≤ a ∧ (k = 0 → a = -1) ∧ (∀ j q, k = j + 1 → l[j]? = some q → a = q.1) ∧ Hid (layFrom a (l.drop k) = layFrom (-1) l) ∧ Below w.heap.size w wr) (fun i _ => n - (intOf i).toNat)
  case atStart => exact ⟨0, -1, Nat.zero_le _, rfl, Int.le_refl _, fun _ => rfl, fun j q e => by omega, Lib.hid rfl, Below.refl _ _⟩
  case round =>
    obtain ⟨k, a, hk, rfl, ha, hz, hp, hs, hb⟩ := hrel
    have hp' := Lib.hid hp
    have hz' := Lib.hid hz
    clear hp hz
    by_cases hlt : k < n
    · obtain ⟨b, off, x, s, rfl, hbB, hx, c1, c2⟩ := h.layer hlt
      have hx' := Lib.hid hx
      clear hx
      have c1' := (hb.cell (by exact hbB)).trans c1
      have c2' := (hb.cell (by exact hbB)).trans c2
      have ik : (k : Int) < (n : Int) := by omega
      have hsz := hb.size
      have D1 := Later.cell (w0 := wr) (B := w.heap.size) (by exact hbB) c1'
      clear c1 c2 c1' c2'
      cases hX : isD x with
      | false =>
        have hf := Lib.hid (lay_bad hs.out hx'.out (by have := isD_no hX; omega))
        have HX := Lib.hid (l11Depth_any x false hX)
        clear hX
        go_wp2_with fail
        refine wp_region_under (B := w.heap.size) (w0 := wr) (by kernel_rfl) (by kernel_rfl) (Below.refl _ _) ?_
        repeat (go_big_quiet_step ((first
          | (go_at_call 57; with_reducible exact Calls.underSame (HX.out _)))))
        refine wpQuiet_nil ?_
        rintro w2 ⟨u, hu⟩
        have hb2 := u.2
        rw [← hu] at hb2
        clear hu D1 
        go_wp2
        go_ret
        exact ⟨ret_bool hf.out.symm, hb.trans hb2⟩
      | true =>
        have HX := Lib.hid (l11Depth_any x true hX)
        have qx := (isD_iff x).1 hX
        clear hX
        rcases k with _ | j
        · obtain rfl := hz'.out rfl
          simp only [Nat.zero_mul, Nat.add_zero] at D1
          go_wp2_with fail
          refine wp_region_under (B := w.heap.size) (w0 := wr) (by kernel_rfl) (by kernel_rfl) (Below.refl _ _) ?_
          repeat (go_big_quiet_step ((first
            | (go_at_call 57; with_reducible exact Calls.underSame (HX.out _)))))
          refine wpQuiet_nil ?_
          rintro w2 ⟨u, hu⟩
          have hb2 := u.2
          rw [← hu] at hb2
          clear hu D1 
          go_wp2
          go_roundw
          case rel => exact ⟨1, x, by omega, by go_num, by omega, fun e => absurd e (by omega), fun j q e hj => (by
            obtain rfl : j = 0 := by omega
            rw [hx'.out] at hj
            cases hj
            rfl), Lib.hid (lay_good hs.out hx'.out (by omega)), hb.trans hb2⟩
          case measure => simp [intOf]; omega
        · obtain ⟨b', off', x', s', e, hbB', hx1, c3, c4⟩ := h.layer (k := j) (by omega)
          injection e with e; injection e with e1 e2; subst e1; subst e2
          obtain rfl : a = x' := hp'.out j _ rfl hx1
          have D3 := Later.cell (w0 := wr) (B := w.heap.size) (by exact hbB) ((hb.cell (by exact hbB)).trans c3)
          clear c3 c4 hx1
          have ik' : (j : Int) + 1 < (n : Int) := by omega
          have ij : (j : Int) < (n : Int) := by omega
          have Bj : 0 ≤ (j : Int) ∧ (j : Int) ≤ 4611686018427387904 := by omega
          have wj : wrap64 (j : Int) = (j : Int) := w64 Bj
          clear Bj
          by_cases hlo : x ≤ a
          · have g1 : decide (x ≤ a) = true := decide_eq_true hlo
            have hf := Lib.hid (lay_bad hs.out hx'.out (by omega))
            go_wp2_with fail
            refine wp_region_under (B := w.heap.size) (w0 := wr) (by kernel_rfl) (by kernel_rfl) (Below.refl _ _) ?_
            repeat (go_big_quiet_step ((first
              | (go_at_call 57; with_reducible exact Calls.underSame (HX.out _)))))
            refine wpQuiet_nil ?_
            rintro w2 ⟨u, hu⟩
            have hb2 := u.2
            rw [← hu] at hb2
            clear hu D1 D3 wj
            go_wp2
            go_ret
            exact ⟨ret_bool hf.out.symm, hb.trans hb2⟩
          · have g1 : decide (x ≤ a) = false := decide_eq_false hlo
            have hlo1 : a < x := by omega
            go_wp2_with fail
            refine wp_region_under (B := w.heap.size) (w0 := wr) (by kernel_rfl) (by kernel_rfl) (Below.refl _ _) ?_
            repeat (go_big_quiet_step ((first
              | (go_at_call 57; with_reducible exact Calls.underSame (HX.out _)))))
            refine wpQuiet_nil ?_
            rintro w2 ⟨u, hu⟩
            have hb2 := u.2
            rw [← hu] at hb2
            clear hu D1 D3 wj
            go_wp2
            go_roundw
            case rel => exact ⟨j + 1 + 1, x, by omega, by go_num, by omega, fun e => absurd e (by omega), fun i q e hi => (by
              obtain rfl : i = j + 1 := by omega
              rw [hx'.out] at hi
              cases hi
              rfl), Lib.hid (lay_good hs.out hx'.out (by omega)), hb.trans hb2⟩
            case measure => simp [intOf]; omega
    · have hg := Lib.hid (lay_end hs.out hln.out (by omega))
      by_cases h40 : n ≤ 40
      all_goals
        go_wp2
        go_ret
        exact ⟨ret_bool (by rw [hg.out]; simp; try omega), hb⟩
end Go.Proofs.YtefadlbfkhndfaaGreatDoor

/-
  Contracts: CoreValid (program and reference), CoreLength (program).
-/
namespace Go.Proofs.YtefadlbfkhndfaaGreatDoor
open Go.RowKit
set_option linter.unusedSimpArgs false
set_option linter.unusedVariables false

set_option maxHeartbeats 400000 in
theorem implCoreValid_any (A : Option Addr) (n c : Nat) (l : List Pc) (w : World) (h : Arr PP 2 w w.heap.size A n l) (hn : n ≤ 1099511627776) :
    Calls Tryz.prog 67 #[.slice A n c] w fun e w' => e = .returned (.bool (coreB l)) ∧ Below w.heap.size w w' := by
  have hln := Lib.hid h.1
  go_enter Tryz.func67, Tryz.ntmps67
  go_wp2
  go_loopw [3, 8] (fun s i wr => ∃ (k : Nat) (d : Int), k ≤ n ∧ i = .int .i64 k ∧ s = .int .i64 d ∧ coreFrom d (l.drop k) = coreFrom 0 l ∧ Below w.heap.size w wr) (fun _ i _ => n - (intOf i).toNat)
  case atStart => exact ⟨0, 0, Nat.zero_le _, rfl, rfl, rfl, Below.refl _ _⟩
  case round =>
    obtain ⟨k, d, hk, rfl, rfl, hs, hb⟩ := hrel
    have hs' := Lib.hid hs
    clear hs
    by_cases hlt : k < n
    · obtain ⟨b, off, x, y, rfl, hbB, hx, c1, c2⟩ := h.pair hlt
      have hE := Lib.hid (drop_cons hx); clear hx
      have c1' := (hb.cell (by exact hbB)).trans c1
      have c2' := (hb.cell (by exact hbB)).trans c2
      clear c1 c2
      by_cases hok : d ≤ x ∧ x < y ∧ y ≤ 30000
      · obtain ⟨h1, h2, h3⟩ := hok
        go_wp2
        go_roundw
        case rel =>
          refine ⟨k + 1, y, by omega, by go_num, rfl, ?_, hb.alloc (by have := hb.size; omega) _⟩
          rw [← hs'.out, hE.out, coreFrom, decide_eq_true (show d ≤ (x, y).1 ∧ (x, y).1 < (x, y).2 ∧ (x, y).2 ≤ 30000 from ⟨h1, h2, h3⟩), Bool.true_and]
        case measure => simp [intOf]; omega
      · have hf : coreB l = false := by
          unfold coreB
          rw [← hs'.out, hE.out, coreFrom, decide_eq_false (show ¬ (d ≤ (x, y).1 ∧ (x, y).1 < (x, y).2 ∧ (x, y).2 ≤ 30000) from hok)]
          rfl
        have hf' := Lib.hid hf
        clear hf
        rcases (show x < d ∨ (d ≤ x ∧ y ≤ x) ∨ (d ≤ x ∧ x < y ∧ 30000 < y) by omega) with h1 | ⟨h1, h2⟩ | ⟨h1, h2, h3⟩
        all_goals
          clear hok
          go_wp2
          all_goals first | (go_ret; exact ⟨ret_bool hf'.out.symm, hb.alloc (by have := hb.size; omega) _⟩) | (rename_i hno; simp at hno; omega)
    · have hE := drop_end (l := l) (k := k) (by rw [hln.out]; omega)
      have hg : coreB l = decide (n ≤ 20) := by
        unfold coreB
        rw [← hs'.out, hE, hln.out]
        rfl
      have hg' := Lib.hid hg
      clear hE hg
      by_cases h20 : n ≤ 20
      all_goals
        go_wp2
        go_ret
        exact ⟨ret_bool (by rw [hg'.out]; simp; try omega), hb⟩

def pieceB (x y : Int) : Bool := decide (0 ≤ x ∧ x ≤ 30000 ∧ 0 ≤ y ∧ y ≤ 30000 ∧ x < y)
theorem l3Piece_any (x y : Int) (w : World) (b : Bool) (hb : pieceB x y = b) :
    Calls Tryz.prog 92 #[.agg #[.int .i64 x, .int .i64 y]] w fun e w' => e = .returned (.bool b) ∧ Below w.heap.size w w' := by
  have hb' := Lib.hid hb
  clear hb
  have fin : ∀ b' : Bool, pieceB x y = b' → b = b' := fun b' e => hb'.out.symm.trans e
  rcases (show x < 0 ∨ (0 ≤ x ∧ 30000 < x) ∨ (0 ≤ x ∧ x ≤ 30000 ∧ y < 0) ∨ (0 ≤ x ∧ x ≤ 30000 ∧ 0 ≤ y ∧ 30000 < y) ∨ (0 ≤ x ∧ x ≤ 30000 ∧ 0 ≤ y ∧ y ≤ 30000 ∧ y ≤ x) ∨ (0 ≤ x ∧ x ≤ 30000 ∧ 0 ≤ y ∧ y ≤ 30000 ∧ x < y) by omega) with h1 | ⟨h1, h2⟩ | ⟨h1, h2, h3⟩ | ⟨h1, h2, h3, h4⟩ | ⟨h1, h2, h3, h4, h5⟩ | ⟨h1, h2, h3, h4, h5⟩
  · have e := fin false (by unfold pieceB; rw [decide_eq_false]; omega)
    subst e
    clear fin
    go_enter Tryz.func92, Tryz.ntmps92
    go_wp2
    go_ret
    exact ⟨rfl, by go_grown⟩
  · have e := fin false (by unfold pieceB; rw [decide_eq_false]; omega)
    subst e
    clear fin
    go_enter Tryz.func92, Tryz.ntmps92
    go_wp2
    go_ret
    exact ⟨rfl, by go_grown⟩
  · have e := fin false (by unfold pieceB; rw [decide_eq_false]; omega)
    subst e
    clear fin
    go_enter Tryz.func92, Tryz.ntmps92
    go_wp2
    go_ret
    exact ⟨rfl, by go_grown⟩
  · have e := fin false (by unfold pieceB; rw [decide_eq_false]; omega)
    subst e
    clear fin
    go_enter Tryz.func92, Tryz.ntmps92
    go_wp2
    go_ret
    exact ⟨rfl, by go_grown⟩
  · have e := fin false (by unfold pieceB; rw [decide_eq_false]; omega)
    subst e
    clear fin
    go_enter Tryz.func92, Tryz.ntmps92
    go_wp2
    go_ret
    exact ⟨ret_bool (decide_eq_false (by omega)), by go_grown⟩
  · have e := fin true (by unfold pieceB; rw [decide_eq_true]; omega)
    subst e
    clear fin
    go_enter Tryz.func92, Tryz.ntmps92
    go_wp2
    go_ret
    exact ⟨rfl, by go_grown⟩

set_option maxHeartbeats 1000000 in
theorem specCoreValid_any (A : Option Addr) (n c : Nat) (l : List Pc) (w : World) (h : Arr PP 2 w w.heap.size A n l) (hn : n ≤ 1099511627776) :
    Calls Tryz.prog 69 #[.slice A n c] w fun e w' => e = .returned (.bool (coreB l)) ∧ Below w.heap.size w w' := by
  have hln := Lib.hid h.1
  go_enter Tryz.func69, Tryz.ntmps69
  go_wp2
  go_loopw [3] (fun i wr => ∃ (k : Nat) (d : Int), k ≤ n ∧ i = .int .i64 k ∧ 0 ≤ d ∧ (k = 0 → d = 0) ∧ (∀ j q, k = j + 1 → l[j]? = some q → d = q.2) ∧ coreFrom d (l.drop k) = coreFrom 0 l ∧ Below w.heap.size w wr) (fun i _ => n - (intOf i).toNat)
  case atStart => exact ⟨0, 0, Nat.zero_le _, rfl, Int.le_refl _, fun _ => rfl, fun j q e => by omega, rfl, Below.refl _ _⟩
  case round =>
    obtain ⟨k, d, hk, rfl, hd0, hdz, hdp, hs, hb⟩ := hrel
    have hs' := Lib.hid hs
    have hdp' := Lib.hid hdp
    have hdz' := Lib.hid hdz
    clear hs hdp hdz
    by_cases hlt : k < n
    · obtain ⟨b, off, x, y, rfl, hbB, hx, c1, c2⟩ := h.pair hlt
      have hE := Lib.hid (drop_cons hx)
      have hx' := Lib.hid hx
      clear hx
      have c1' := (hb.cell (by exact hbB)).trans c1
      have c2' := (hb.cell (by exact hbB)).trans c2
      have bad : ¬ (d ≤ x ∧ x < y ∧ y ≤ 30000) → coreB l = false := fun hok => by
        unfold coreB
        rw [← hs'.out, hE.out, coreFrom, decide_eq_false (show ¬ (d ≤ (x, y).1 ∧ (x, y).1 < (x, y).2 ∧ (x, y).2 ≤ 30000) from hok)]
        rfl
      have good : (d ≤ x ∧ x < y ∧ y ≤ 30000) → coreFrom y (l.drop (k + 1)) = coreFrom 0 l := fun hok => by
        rw [← hs'.out, hE.out, coreFrom, decide_eq_true (show d ≤ (x, y).1 ∧ (x, y).1 < (x, y).2 ∧ (x, y).2 ≤ 30000 from hok), Bool.true_and]
      have ik : (k : Int) < (n : Int) := by omega
      have bad' := Lib.hid bad
      have good' := Lib.hid good
      clear bad good
      cases hp : pieceB x y with
      | false =>
        have hf : coreB l = false := bad'.out (fun hok => by unfold pieceB at hp; rw [decide_eq_true (by omega)] at hp; cases hp)
        have hf' := Lib.hid hf
        clear hf
        have D1 := Later.cell (w0 := wr) (B := w.heap.size) (by exact hbB) c1'
        have D2 := Later.cell (w0 := wr) (B := w.heap.size) (by exact hbB) c2'
        go_wp2_with fail
        refine wp_region_under (B := w.heap.size) (w0 := wr) (by kernel_rfl) (by kernel_rfl) (Below.refl _ _) ?_
        repeat (go_big_quiet_step ((go_at_call 92; exact Calls.under hb.size (l3Piece_any _ _ _ _ hp))))
        refine wpQuiet_nil ?_
        rintro w2 ⟨u, hu⟩
        have hb2 := u.2
        rw [← hu] at hb2
        clear hu D1 D2
        go_wp2
        go_ret
        exact ⟨ret_bool hf'.out.symm, hb.trans hb2⟩
      | true =>
        have hq : 0 ≤ x ∧ x ≤ 30000 ∧ 0 ≤ y ∧ y ≤ 30000 ∧ x < y := by unfold pieceB at hp; exact of_decide_eq_true hp
        have D1 := Later.cell (w0 := wr) (B := w.heap.size) (by exact hbB) c1'
        have D2 := Later.cell (w0 := wr) (B := w.heap.size) (by exact hbB) c2'
        rcases k with _ | j
        · have hd := hdz'.out rfl
          subst hd
          simp only [Nat.zero_mul, Nat.add_zero] at D1 D2
          go_wp2_with fail
          refine wp_region_under (B := w.heap.size) (w0 := wr) (by kernel_rfl) (by kernel_rfl) (Below.refl _ _) ?_
          repeat (go_big_quiet_step ((go_at_call 92; exact Calls.under hb.size (l3Piece_any _ _ _ _ hp))))
          refine wpQuiet_nil ?_
          rintro w2 ⟨u, hu⟩
          have hb2 := u.2
          rw [← hu] at hb2
          clear hu D1 D2
          go_wp2
          go_roundw
          case rel =>
            refine ⟨1, y, by omega, by go_num, by omega, fun e => absurd e (by omega), fun j q e hj => ?_, good'.out (by omega), hb.trans hb2⟩
            obtain rfl : j = 0 := by omega
            rw [hx'.out] at hj
            cases hj
            rfl
          case measure => simp [intOf]; omega
        · obtain ⟨b', off', x', y', e, _, hx1, c3, c4⟩ := h.pair (k := j) (by omega)
          injection e with e; injection e with e1 e2; subst e1; subst e2
          have hd := hdp'.out j _ rfl hx1
          obtain rfl : d = y' := hd
          have c4' := (hb.cell (by exact hbB)).trans c4
          have D4 := Later.cell (w0 := wr) (B := w.heap.size) (by exact hbB) c4'
          clear c3 c4 hx1
          have ik' : (j : Int) + 1 < (n : Int) := by omega
          have ij : (j : Int) < (n : Int) := by omega
          have Bj : 0 ≤ (j : Int) ∧ (j : Int) ≤ 4611686018427387904 := by omega
          have wj : wrap64 (j : Int) = (j : Int) := w64 Bj
          clear Bj
          by_cases hlo : x < d
          · have hf : coreB l = false := bad'.out (by omega)
            have hf' := Lib.hid hf
            clear hf
            go_wp2_with fail
            refine wp_region_under (B := w.heap.size) (w0 := wr) (by kernel_rfl) (by kernel_rfl) (Below.refl _ _) ?_
            repeat (go_big_quiet_step ((go_at_call 92; exact Calls.under hb.size (l3Piece_any _ _ _ _ hp))))
            refine wpQuiet_nil ?_
            rintro w2 ⟨u, hu⟩
            have hb2 := u.2
            rw [← hu] at hb2
            clear hu D1 D2 D4 wj
            go_wp2
            go_ret
            exact ⟨ret_bool hf'.out.symm, hb.trans hb2⟩
          · go_wp2_with fail
            refine wp_region_under (B := w.heap.size) (w0 := wr) (by kernel_rfl) (by kernel_rfl) (Below.refl _ _) ?_
            repeat (go_big_quiet_step ((go_at_call 92; exact Calls.under hb.size (l3Piece_any _ _ _ _ hp))))
            refine wpQuiet_nil ?_
            rintro w2 ⟨u, hu⟩
            have hb2 := u.2
            rw [← hu] at hb2
            clear hu D1 D2 D4 wj
            go_wp2
            go_roundw
            case rel =>
              refine ⟨j + 1 + 1, y, by omega, by go_num, by omega, fun e => absurd e (by omega), fun i q e hi => ?_, good'.out (by omega), hb.trans hb2⟩
              obtain rfl : i = j + 1 := by omega
              rw [hx'.out] at hi
              cases hi
              rfl
            case measure => simp [intOf]; omega
    · have hE := drop_end (l := l) (k := k) (by rw [hln.out]; omega)
      have hg : coreB l = decide (n ≤ 20) := by
        unfold coreB
        rw [← hs'.out, hE, hln.out]
        rfl
      have hg' := Lib.hid hg
      clear hE hg
      by_cases h20 : n ≤ 20
      all_goals
        go_wp2
        go_ret
        exact ⟨ret_bool (by rw [hg'.out]; simp; try omega), hb⟩
end Go.Proofs.YtefadlbfkhndfaaGreatDoor
