/-
  The walk of the law FnCurveText.
-/
import Derived.Test.YtjbdoohpljffnaaDoorCurveFromI
import Derived.Test.YtjbdoohpljffnaaDoorDrawCv
import Derived.Test.YtjbdoohpljffnaaDoorSameKn
import Derived.Test.YtjbdoohpljffnaaDoorDrawFrom
import Derived.Test.YtjbdoohpljffnaaDoorUnder
namespace Go.Proofs.YtjbdoohpljffnaaDoor
open Go.RowKit
set_option linter.unusedSimpArgs false
set_option linter.unusedVariables false

theorem curveFrom_mono : ∀ {l : List Pc} {a b a' b' : Int}, curveFrom a b l = true → a' ≤ a → b' ≤ b → curveFrom a' b' l = true := by
  intro l
  cases l with
  | nil => intro _ _ _ _ _ _ _; rfl
  | cons p t => intro a b a' b' h h1 h2; rw [curveFrom_cons] at h ⊢; exact ⟨⟨by omega, h.1.2.1, by omega, h.1.2.2.2⟩, h.2⟩
theorem curveFrom_take : ∀ {l : List Pc} {a b : Int} (k : Nat), curveFrom a b l = true → curveFrom a b (l.take k) = true := by
  intro l
  induction l with
  | nil => intro a b k h; simp; exact h
  | cons p t ih =>
    intro a b k h
    cases k with
    | zero => rfl
    | succ k => rw [List.take_succ_cons, curveFrom_cons]; rw [curveFrom_cons] at h; exact ⟨h.1, ih k h.2⟩
theorem curveFrom_drop : ∀ {l : List Pc} {a b : Int} (k : Nat), curveFrom a b l = true → curveFrom a b (l.drop k) = true := by
  intro l
  induction l with
  | nil => intro a b k h; simp; exact h
  | cons p t ih =>
    intro a b k h
    cases k with
    | zero => exact h
    | succ k => rw [curveFrom_cons] at h; exact ih k (curveFrom_mono h.2 (by omega) (by omega))
theorem curveT_parts {l : List Pc} (h : curveB l = true) {k : Nat} (h2 : 2 ≤ k) (h3 : k + 2 ≤ l.length) : curveT (l.take k) ++ curveT (l.drop k) = curveT l := by
  obtain ⟨hF, _, h12⟩ := (curveB_iff l).1 h
  have ht : curveB (l.take k) = true := (curveB_iff _).2 ⟨curveFrom_take k hF, by rw [List.length_take]; omega, by rw [List.length_take]; omega⟩
  have hd : curveB (l.drop k) = true := (curveB_iff _).2 ⟨curveFrom_drop k hF, by rw [List.length_drop]; omega, by rw [List.length_drop]; omega⟩
  unfold curveT
  rw [if_pos h, if_pos ht, if_pos hd]
  unfold knotsT
  rw [← List.flatMap_append, List.take_append_drop]
theorem Calls.underK {P : Program} {B : Nat} {w0 : World} {f : FuncId} {args : Array Value} {v : Value} {u : Later B w0} (K : ∀ W, Below B w0 W → Calls P f args W fun e w' => e = .returned v ∧ Below B w0 w') :
    Calls P f args u.1 fun e w'' => e = .returned v ∧ ∃ u' : Later B w0, w'' = u'.1 :=
  (K u.1 u.2).mono fun _ w' ⟨he, hb⟩ => ⟨he, ⟨w', hb⟩, rfl⟩
theorem cvxToList (l : List UInt8) : (tx l).toList = l := by unfold tx; exact ByteArray.toList_mk l

set_option maxRecDepth 100000 in
set_option maxHeartbeats 4000000 in
theorem walk_FnCurveText (w : World) (A : Option Addr) (n c : Nat) (l : List Int) (h : Arr BB 1 w w.heap.size A n l) (hby : ∀ x ∈ l, 0 ≤ x ∧ x ≤ 255) (hc : n ≤ c) (A' : Option Addr) (n' c' : Nat) (l' : List Int) (h' : Arr BB 1 w w.heap.size A' n' l') (hby' : ∀ x ∈ l', 0 ≤ x ∧ x ≤ 255) (hc' : n' ≤ c') (hT : Tab w) (hE : Errs w) :
    Calls Tryd.prog 10 #[.slice A n c, .slice A' n' c'] w fun e w' => e = .returned (.bool true) ∧ Below w.heap.size w w' := by
  clear h' hby'
  have C := Lib.hid (DrawCurveText_any A n c l w h hby hc)
  have HT := Lib.hid hT
  have HE := Lib.hid hE
  clear hby h hT hE
  by_cases hb : 1048576 < n
  · go_enter Tryd.func10, Tryd.ntmps10
    go_wp2_with fail
    go_ret
    exact ⟨rfl, Below.refl _ _⟩
  by_cases hb' : 1048576 < n'
  · go_enter Tryd.func10, Tryd.ntmps10
    go_wp2_with fail
    go_ret
    exact ⟨rfl, Below.refl _ _⟩
  go_enter Tryd.func10, Tryd.ntmps10
  go_wp2_with fail
  refine C.out.mono ?_
  rintro e w1 ⟨A1, n1, c1, L, rfl, o1, hn1, BB⟩
  clear C
  have hn1c : n1 ≤ c1 := by obtain ⟨_, _, e, h1, _⟩ := o1.form; injection e with _ _ e2; omega
  have a1 := o1.arr PP_length
  have hl1 := o1.1
  have KI0 := Lib.hid (fun W h hT => implCurveText_any A1 n1 c1 L W h (by omega) hT)
  have KS0 := Lib.hid (fun W h => specCurveText_any A1 n1 c1 L W h (by omega))
  have hTl := curveT_short L
  clear o1
  cases hB : curveB L with
  | false =>
    have hTx : curveT L = [] := by unfold curveT; rw [hB]; rfl
    rw [hTx] at KI0 KS0
    have f0 : (tx []).toList.isEmpty = true := by rw [cvxToList]; rfl
    clear hTl hTx hB
    go_wp2_with fail
    refine (KI0.out w1 a1 (HT.out.below BB (Nat.le_refl _))).mono ?_
    rintro e w2 ⟨rfl, b2⟩
    have a2 := (a1.below' b2).more b2.size
    have BB2 := BB.trans (b2.mono BB.size)
    clear a1 b2 BB KI0
    go_wp2_with fail
    refine (KS0.out w2 a2).mono ?_
    rintro e w3 ⟨rfl, b3⟩
    have BB3 := BB2.trans (b3.mono BB2.size)
    clear b3 BB2 KS0
    go_wp2
    go_ret
    exact ⟨ret_bool (by simp), BB3⟩
  | true =>
    obtain ⟨hF, h2, h12⟩ := (curveB_iff L).1 hB
    rw [hl1] at h2 h12
    have hne0 : curveT L ≠ [] := by
      have : L ≠ [] := fun e => by rw [e] at hl1; simp at hl1; omega
      obtain ⟨x, hx⟩ := knotsT_end this
      unfold curveT
      rw [if_pos hB, hx]
      simp
    have hFr : fromC (curveT L) = some L := fromC_some ⟨hB, by unfold curveT; rw [if_pos hB]⟩
    obtain ⟨r, hr⟩ : ∃ r, r = n' % n1 := ⟨_, rfl⟩
    have hrn : r < n1 := by rw [hr]; exact Nat.mod_lt n' (by omega)
    have HR := Lib.hid (show ((n' : Int) % (n1 : Int)) = (r : Int) by rw [hr]; simp)
    have HP := Lib.hid (fun (h3 : 2 + r + 2 ≤ n1) => curveT_parts hB (k := 2 + r) (by omega) (by rw [hl1]; exact h3))
    have K1 := fun W h hT => implCurveText_any A1 (2 + r) c1 (L.take (2 + r)) W h (by omega) hT
    have K2 := fun W h hT => implCurveText_any (if c1 = 2 + r then A1 else A1.map (·.add ((2 + r) * 2))) (n1 - (2 + r)) (c1 - (2 + r)) (L.drop (2 + r)) W h (by omega) hT
    generalize curveT L = T at *
    generalize curveT (L.take (2 + r)) = P at *
    generalize curveT (L.drop (2 + r)) = Q at *
    have KF := fun W hT hE => implCurveFrom_any T (by omega) W hT hE
    rw [hFr] at KF
    simp only [Option.getD_some, Option.isSome_some] at KF
    obtain ⟨S, hS⟩ : ∃ S, S = tx T := ⟨_, rfl⟩
    obtain ⟨SP, hSP⟩ : ∃ S, S = tx P := ⟨_, rfl⟩
    obtain ⟨SQ, hSQ⟩ : ∃ S, S = tx Q := ⟨_, rfl⟩
    rw [← hS] at KI0 KS0 KF
    rw [← hSP] at K1
    rw [← hSQ] at K2
    have HK1 := Lib.hid K1
    have HK2 := Lib.hid K2
    have KF' := Lib.hid KF
    have hne' : S.toList.isEmpty = false := by rw [hS, cvxToList]; simpa using hne0
    have zS : S.size ≤ 400 := by rw [hS, tx_size]; exact hTl
    have E2 := Lib.hid (fun (h3 : 2 + r + 2 ≤ n1) => knadd_at SP SQ S (by rw [hSP, hSQ, tx_size, tx_size, ← List.length_append, HP.out h3]; omega) (by rw [hSP, hSQ, hS, tx_add, HP.out h3]))
    clear hF hFr hr KF K1 K2 hS hSP hSQ hne0 hTl HP hB hl1
    go_wp2_with fail
    refine (KI0.out w1 a1 (HT.out.below BB (Nat.le_refl _))).mono ?_
    rintro e w2 ⟨rfl, b2⟩
    have a2 := (a1.below' b2).more b2.size
    have BB2 := BB.trans (b2.mono BB.size)
    clear a1 b2 BB KI0
    go_wp2_with fail
    refine (KS0.out w2 a2).mono ?_
    rintro e w3 ⟨rfl, b3⟩
    have a3 := (a2.below' b3).more b3.size
    have BB3 := BB2.trans (b3.mono BB2.size)
    clear b3 a2 BB2 KS0
    go_wp2_with fail
    refine (KF'.out w3 (HT.out.below BB3 (Nat.le_refl _)) (HE.out.below BB3 (Nat.le_refl _))).mono ?_
    rintro e w4 ⟨A4, n4, c4, rfl, o4, b4⟩
    have a4 := (a3.below' b4).more b4.size
    have B4 := BB3.trans (b4.mono BB3.size)
    have x4 := o4.arr PP_length
    have T4 := Lib.hid (HT.out.below B4 (Nat.le_refl _))
    have KK0 : Hid (∀ W, Below w4.heap.size w4 W → Calls Tryd.prog 36 #[.slice A4 n4 c4, .slice A1 n1 c1] W fun e w' => e = .returned (.bool true) ∧ Below w4.heap.size w4 w') := fun W hW => by
      refine (sameKnots_yes ((x4.below' hW).more hW.size) ((a4.below' hW).more hW.size) (by have := x4.1; have := a4.1; omega)).mono ?_
      rintro e w' ⟨rfl, hb⟩
      exact ⟨rfl, hW.trans (hb.mono hW.size)⟩
    have hBR := Below.refl w4.heap.size w4
    have i0 : (0 : Int) < (n1 : Int) := by omega
    have i1 : (0 : Int) ≤ (n' : Int) := by omega
    have e1 : IntKind.i64.wrap (2 + (r : Int)) = 2 + (r : Int) := IntWalk.i64_in _ ⟨by omega, by omega⟩
    have e2 : IntKind.i64.wrap ((n1 : Int) - 2) = (n1 : Int) - 2 := IntWalk.i64_in _ ⟨by omega, by omega⟩
    have HR' := HR.out
    by_cases h3 : 2 + r + 2 ≤ n1
    · have E3 := E2.out h3
      have KK1 : Hid (∀ W, Below w4.heap.size w4 W → Calls Tryd.prog 19 #[.slice A1 (2 + r) c1] W fun e w' => e = .returned (.string SP) ∧ Below w4.heap.size w4 w') := fun W hW => by
        refine (HK1.out W (((a4.take (show 2 + r ≤ n1 by omega)).below' hW).more hW.size) (T4.out.below hW (Nat.le_refl _))).mono ?_
        rintro e w' ⟨rfl, hb⟩
        exact ⟨rfl, hW.trans (hb.mono hW.size)⟩
      have KK2 : Hid (∀ W, Below w4.heap.size w4 W → Calls Tryd.prog 19 #[.slice (if c1 = 2 + r then A1 else A1.map (·.add ((2 + r) * 2))) (n1 - (2 + r)) (c1 - (2 + r))] W fun e w' => e = .returned (.string SQ) ∧ Below w4.heap.size w4 w') := fun W hW => by
        refine (HK2.out W (((a4.cutAt (show 2 + r ≤ n1 by omega) hn1c).below' hW).more hW.size) (T4.out.below hW (Nat.le_refl _))).mono ?_
        rintro e w' ⟨rfl, hb⟩
        exact ⟨rfl, hW.trans (hb.mono hW.size)⟩
      obtain ⟨k, hk⟩ : ∃ k, k = 2 + r := ⟨_, rfl⟩
      have e3 : 2 + (r : Int) = (k : Int) := by omega
      rw [e3] at e1
      rw [← hk] at KK1 KK2
      obtain ⟨Ak, hAk⟩ : ∃ X, (if c1 = k then A1 else Option.map (fun x => x.add (k * 2)) A1) = X := ⟨_, rfl⟩
      rw [hAk] at KK2
      have hkc : k ≤ c1 := by omega
      have j1 : (k : Int) ≤ (c1 : Int) := by omega
      have j2 : (k : Int) ≤ (n1 : Int) := by omega
      have j3 : (0 : Int) ≤ (k : Int) := by omega
      have j4 : ¬ ((n1 : Int) - 2 < (k : Int)) := by omega
      clear HK1 HK2 a3 a4 x4 o4 BB3 b4 zS hrn h2 h12 hk E2 h3 hn1
      go_wp2_with fail
      clear HT HE hc' hc hb hb' hn1c HR T4
      refine wp_region_under (B := w4.heap.size) (w0 := w4) (by kernel_rfl) (by kernel_rfl) (Below.refl _ _) ?_
      repeat (go_big_quiet_step ((first
        | (go_at_call 36; with_reducible exact Calls.underK KK0.out)
        | (go_at_call 19; with_reducible exact Calls.underK KK1.out)
        | (go_at_call 19; with_reducible exact Calls.underK KK2.out))))
      refine wpQuiet_nil ?_
      rintro w5 ⟨q, hq⟩
      have hb5 : Below w4.heap.size w4 w5 := by rw [hq]; exact q.2
      clear hq q
      go_wp2
      go_ret
      exact ⟨ret_bool (by simp), B4.trans (hb5.mono B4.size)⟩
    · have j4 : (n1 : Int) - 2 < 2 + (r : Int) := by omega
      clear HK1 HK2 a3 a4 x4 o4 BB3 b4 zS hrn h2 h12 E2 h3 hn1
      go_wp2_with (go_at_call 36; refine (KK0.out _ hBR).mono ?_; rintro e w9 ⟨rfl, hb9⟩)
      go_ret
      exact ⟨rfl, B4.trans (hb9.mono B4.size)⟩
end Go.Proofs.YtjbdoohpljffnaaDoor
