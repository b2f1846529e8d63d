/-
  Plain words on texts that are read: lines, words, the number that digits spell; a curve and layers out of their texts.
-/
import Derived.Test.YtefadlbfkhndfaaDoorCurveText
import Derived.Test.YtefadlbfkhndfaaDoorLayersP
import Derived.Lib.AtoiTie
import Derived.Lib.Bytealg
import Derived.Lib.Strings
namespace Go.Proofs.YtefadlbfkhndfaaDoor
open Go.RowKit
set_option linter.unusedSimpArgs false
set_option linter.unusedVariables false

/-! ### Splitting at a byte -/
def preS (a : List UInt8) : List (List UInt8) → List (List UInt8)
  | [] => [a]
  | h :: t => (a ++ h) :: t
def splitB (c : UInt8) : List UInt8 → List (List UInt8)
  | [] => [[]]
  | b :: r => if b = c then [] :: splitB c r else preS [b] (splitB c r)
theorem preS_ne (a : List UInt8) (x : List (List UInt8)) : preS a x ≠ [] := by cases x <;> simp [preS]
theorem splitB_ne (c : UInt8) (s : List UInt8) : splitB c s ≠ [] := by
  cases s with
  | nil => simp [splitB]
  | cons b r => unfold splitB; split
                · simp
                · exact preS_ne _ _
theorem preS_pre (a b : List UInt8) {x : List (List UInt8)} (h : x ≠ []) : preS a (preS b x) = preS (a ++ b) x := by
  cases x with
  | nil => exact absurd rfl h
  | cons y t => simp [preS]
theorem preS_nil {x : List (List UInt8)} (h : x ≠ []) : preS [] x = x := by
  cases x with
  | nil => exact absurd rfl h
  | cons y t => simp [preS]
theorem preS_append (a : List UInt8) {x : List (List UInt8)} (h : x ≠ []) (y : List (List UInt8)) : preS a (x ++ y) = preS a x ++ y := by
  cases x with
  | nil => exact absurd rfl h
  | cons z t => simp [preS]
theorem splitB_app {c : UInt8} : ∀ (a b : List UInt8), c ∉ a → splitB c (a ++ b) = preS a (splitB c b) := by
  intro a
  induction a with
  | nil => intro b _; exact (preS_nil (splitB_ne c b)).symm
  | cons x a ih =>
    intro b h
    have hx : x ≠ c := fun e => h (by rw [e]; exact List.mem_cons_self)
    rw [List.cons_append, splitB, if_neg hx, ih b (fun h2 => h (List.mem_cons_of_mem _ h2)), preS_pre _ _ (splitB_ne c b)]
    rfl
theorem splitB_cut {c : UInt8} (a b : List UInt8) (h : c ∉ a) : splitB c (a ++ c :: b) = a :: splitB c b := by
  rw [splitB_app a _ h, splitB, if_pos rfl, preS, List.append_nil]
theorem splitB_one {c : UInt8} (a : List UInt8) (h : c ∉ a) : splitB c a = [a] := by
  have := splitB_app a [] h
  rw [List.append_nil] at this
  rw [this, splitB, preS, List.append_nil]
theorem splitB_end {c : UInt8} : ∀ x : List UInt8, splitB c (x ++ [c]) = splitB c x ++ [[]] := by
  intro x
  induction x with
  | nil => simp [splitB]
  | cons b x ih =>
    rw [List.cons_append, splitB, splitB, ih]
    split
    · rfl
    · rw [preS_append _ (splitB_ne c x)]
/-- The loop that looks at each byte. -/
theorem splitB_step {c b : UInt8} {s : List UInt8} {i : Nat} (h : s[i]? = some b) : splitB c (s.drop i) = if b = c then [] :: splitB c (s.drop (i + 1)) else preS [b] (splitB c (s.drop (i + 1))) := by
  rw [drop_cons h, splitB]
/-- The loop that looks for the next byte c. -/
theorem split_idx (c : UInt8) : ∀ l : List UInt8, (Lib.indexByte l c = -1 ∧ splitB c l = [l]) ∨ ∃ k : Nat, Lib.indexByte l c = k ∧ k < l.length ∧ splitB c l = l.take k :: splitB c (l.drop (k + 1)) := by
  intro l
  induction l with
  | nil => exact .inl ⟨rfl, rfl⟩
  | cons b l ih =>
    by_cases hb : b = c
    · refine .inr ⟨0, ?_, by simp, ?_⟩
      · rw [Lib.indexByte, if_pos (by simpa using hb)]; rfl
      · rw [splitB, if_pos hb]; rfl
    · have hb' : ¬ ((b == c) = true) := by simpa using hb
      rcases ih with ⟨h1, h2⟩ | ⟨k, h1, hk, h2⟩
      · refine .inl ⟨?_, ?_⟩
        · rw [Lib.indexByte, if_neg hb', h1]; rfl
        · rw [splitB, if_neg hb, h2]; rfl
      · refine .inr ⟨k + 1, ?_, by simp; omega, ?_⟩
        · rw [Lib.indexByte, if_neg hb', h1, if_neg (by simp)]; simp
        · rw [splitB, if_neg hb, h2]; rfl
theorem indexByte_at {c : UInt8} : ∀ (a b : List UInt8), c ∉ a → Lib.indexByte (a ++ c :: b) c = (a.length : Int) := by
  intro a
  induction a with
  | nil => intro b _; rw [List.nil_append, Lib.indexByte, if_pos (by simp)]; rfl
  | cons x a ih =>
    intro b h
    have hx : ¬ ((x == c) = true) := fun e => h (by rw [show x = c by simpa using e]; exact List.mem_cons_self)
    rw [List.cons_append, Lib.indexByte, if_neg hx, ih b (fun h2 => h (List.mem_cons_of_mem _ h2)), if_neg (by simp)]
    simp

/-! ### Digits -/
def dig (l : List UInt8) : Int := if 1 ≤ l.length ∧ l.length ≤ 6 then (match Lib.decFrom 0 l with | some n => (n : Int) | none => -1) else -1
theorem decFrom_append : ∀ (a b : List UInt8) (acc : Nat), Lib.decFrom acc (a ++ b) = (Lib.decFrom acc a).bind fun n => Lib.decFrom n b := by
  intro a
  induction a with
  | nil => intro b acc; rfl
  | cons x a ih =>
    intro b acc
    rw [List.cons_append, Lib.decFrom, Lib.decFrom]
    cases Lib.digitVal x with
    | none => rfl
    | some d => exact ih b _
theorem digitVal_of {u : Nat} (h : u < 10) : Lib.digitVal (UInt8.ofNat (48 + u)) = some u := by
  have e : (UInt8.ofNat (48 + u)).toNat = 48 + u := by rw [UInt8.toNat_ofNat']; omega
  unfold Lib.digitVal
  rw [e, if_pos (by omega)]
  congr 1
  omega
theorem decFrom_dec (u : Nat) : Lib.decFrom 0 (Lib.decDigits u) = some u := by
  induction u using Nat.strongRecOn with
  | _ u ih =>
    rw [Lib.decDigits]
    split
    · rename_i h
      rw [Lib.decFrom, digitVal_of h]
      simp [Lib.decFrom]
    · rename_i h
      rw [decFrom_append, ih (u / 10) (by omega)]
      simp only [Option.bind]
      rw [Lib.decFrom, digitVal_of (by omega)]
      simp only [Lib.decFrom]
      congr 1
      omega
theorem dec_mem (u : Nat) : ∀ b ∈ Lib.decDigits u, 48 ≤ b.toNat ∧ b.toNat ≤ 57 := by
  intro b hb
  obtain ⟨k, hk⟩ := List.mem_iff_getElem?.1 hb
  obtain ⟨d, hd⟩ := Lib.digit_of_decFrom _ 0 u (decFrom_dec u) k b hk
  unfold Lib.digitVal at hd
  split at hd
  · assumption
  · cases hd
theorem dec_ne (u : Nat) : Lib.decDigits u ≠ [] := by
  intro h
  have := decFrom_dec u
  rw [Lib.decDigits] at h
  split at h <;> simp at h
theorem dec_pos (u : Nat) : 1 ≤ (Lib.decDigits u).length := List.length_pos_iff.2 (dec_ne u)
theorem not_dec {c : UInt8} (h : c.toNat < 48 ∨ 57 < c.toNat) (u : Nat) : c ∉ Lib.decDigits u := fun hm => by
  have := dec_mem u c hm
  omega
theorem dig_dec {u : Nat} (h : u ≤ 100000) : dig (Lib.decDigits u) = u := by
  unfold dig
  rw [if_pos ⟨dec_pos u, dec_short h⟩, decFrom_dec]
theorem atoi_dec {u : Nat} (h : u ≤ 100000) : Lib.atoiAll (Lib.decDigits u) = .ok (u : Int) := by
  rw [Lib.atoiAll_short _ (by have := dec_short h; omega)]
  have hm := dec_mem u
  have hd := decFrom_dec u
  cases hl : Lib.decDigits u with
  | nil => exact absurd hl (dec_ne u)
  | cons b r =>
    rw [hl] at hm hd
    have hb := hm b List.mem_cons_self
    have n1 : ¬ ((b == 45) = true) := fun e => by rw [show b = 45 by simpa using e] at hb; revert hb; decide
    have n2 : ¬ ((b == 43) = true) := fun e => by rw [show b = 43 by simpa using e] at hb; revert hb; decide
    rw [Lib.atoi, if_neg n1, if_neg n2, Lib.decNat, if_neg (by simp), hd]
    rfl
theorem dig_bd (l : List UInt8) : -1 ≤ dig l ∧ dig l ≤ 999999 := by
  unfold dig
  split
  · rename_i h
    cases hd : Lib.decFrom 0 l with
    | none => simp
    | some n =>
      have h1 := Lib.decFrom_lt l 0 n hd
      have hp : 10 ^ l.length ≤ 10 ^ 6 := Nat.pow_le_pow_right (by decide) h.2
      have e6 : (10 : Nat) ^ 6 = 1000000 := by decide
      simp only
      omega
  · omega

/-! ### A curve out of its text -/
def lineK (p : Pc) : List UInt8 := Lib.decDigits p.1.toNat ++ 32 :: Lib.decDigits p.2.toNat
theorem knT_line (p : Pc) : knT p = lineK p ++ [10] := by unfold knT lineK; simp
theorem lineK_no (p : Pc) : (10 : UInt8) ∉ lineK p := by
  unfold lineK
  simp only [List.mem_append, List.mem_cons, not_or]
  exact ⟨not_dec (by decide) _, by decide, not_dec (by decide) _⟩
theorem split_knots : ∀ (l : List Pc) (t : List UInt8), splitB 10 (knotsT l ++ t) = l.map lineK ++ splitB 10 t := by
  intro l
  induction l with
  | nil => intro t; rfl
  | cons p l ih =>
    intro t
    have e : knotsT (p :: l) ++ t = lineK p ++ 10 :: (knotsT l ++ t) := by
      show (knT p ++ knotsT l) ++ t = _
      rw [knT_line]; simp
    rw [e, splitB_cut _ _ (lineK_no p), ih]
    rfl
theorem knotsT_end {l : List Pc} (h : l ≠ []) : ∃ x, knotsT l = x ++ [10] := by
  obtain ⟨l', p, rfl⟩ : ∃ l' p, l = l' ++ [p] := ⟨_, _, (List.dropLast_concat_getLast h).symm⟩
  refine ⟨knotsT l' ++ lineK p, ?_⟩
  unfold knotsT
  rw [List.flatMap_append]
  simp [knT_line]
theorem trim_end (x : List UInt8) (c : UInt8) : Lib.trimSuffix (x ++ [c]) [c] = x := by
  unfold Lib.trimSuffix
  rw [if_pos (by unfold Lib.hasSuffix; rw [List.isSuffixOf_iff_suffix]; exact ⟨x, rfl⟩)]
  simp
def IsC (s : List UInt8) (l : List Pc) : Prop := curveB l = true ∧ knotsT l = s
theorem IsC.ne {s : List UInt8} {l : List Pc} (h : IsC s l) : l ≠ [] := fun e => by
  have := ((curveB_iff l).1 h.1).2.1
  rw [e] at this
  simp at this
theorem IsC.range {s : List UInt8} {l : List Pc} (h : IsC s l) {p : Pc} (hp : p ∈ l) : 0 ≤ p.1 ∧ p.1 ≤ 30000 ∧ 0 ≤ p.2 ∧ p.2 ≤ 30000 := by
  have := curveFrom_mem ((curveB_iff l).1 h.1).1 p hp
  omega
theorem IsC.lines {s : List UInt8} {l : List Pc} (h : IsC s l) : splitB 10 s = l.map lineK ++ [[]] := by
  have := split_knots l []
  rw [List.append_nil] at this
  rw [← h.2, this]
  rfl
theorem IsC.trim {s : List UInt8} {l : List Pc} (h : IsC s l) : splitB 10 (Lib.trimSuffix s [10]) = l.map lineK := by
  obtain ⟨x, hx⟩ := knotsT_end h.ne
  have h1 := h.lines
  rw [← h.2, hx, splitB_end] at h1
  rw [← h.2, hx, trim_end]
  exact List.append_cancel_right h1
theorem lineK_words (p : Pc) : splitB 32 (lineK p) = [Lib.decDigits p.1.toNat, Lib.decDigits p.2.toNat] := by
  unfold lineK
  rw [splitB_cut _ _ (not_dec (by decide) _), splitB_one _ (not_dec (by decide) _)]
def knOf (w : List UInt8) : Pc := (dig ((splitB 32 w)[0]?.getD []), dig ((splitB 32 w)[1]?.getD []))
theorem knOf_line {p : Pc} (h : 0 ≤ p.1 ∧ p.1 ≤ 30000 ∧ 0 ≤ p.2 ∧ p.2 ≤ 30000) : knOf (lineK p) = p := by
  unfold knOf
  rw [lineK_words]
  simp only [List.getElem?_cons_zero, List.getElem?_cons_succ, Option.getD_some]
  rw [dig_dec (by omega), dig_dec (by omega)]
  exact Prod.ext (by simp; omega) (by simp; omega)
theorem IsC.read {s : List UInt8} {l : List Pc} (h : IsC s l) : (splitB 10 s).dropLast.map knOf = l := by
  rw [h.lines, List.dropLast_concat, List.map_map]
  conv => rhs; rw [← List.map_id l]
  exact List.map_congr_left fun p hp => knOf_line (h.range hp)
theorem IsC.inj {s : List UInt8} {l l' : List Pc} (h : IsC s l) (h' : IsC s l') : l = l' := h.read.symm.trans h'.read
open Classical in
noncomputable def fromC (s : List UInt8) : Option (List Pc) := if h : ∃ l, IsC s l then some h.choose else none
theorem fromC_some {s : List UInt8} {l : List Pc} (h : IsC s l) : fromC s = some l := by
  unfold fromC
  have hx : ∃ l, IsC s l := ⟨l, h⟩
  rw [dif_pos hx]
  exact congrArg some (hx.choose_spec.inj h)
theorem fromC_none {s : List UInt8} (h : ∀ l, ¬ IsC s l) : fromC s = none := by
  unfold fromC
  rw [dif_neg (fun ⟨l, hl⟩ => h l hl)]
theorem fromC_is {s : List UInt8} {l : List Pc} (h : fromC s = some l) : IsC s l := by
  unfold fromC at h
  split at h
  · rename_i hx
    injection h with h
    rw [← h]
    exact hx.choose_spec
  · cases h
/-- What the check at the end says: the text of what has been read is the text. -/
theorem fromC_check {s : List UInt8} {l : List Pc} (h : curveT l = s) (hs : s ≠ []) : fromC s = some l := by
  unfold curveT at h
  split at h
  · exact fromC_some ⟨by assumption, h⟩
  · exact absurd h.symm hs
theorem fromC_fail {s : List UInt8} {l : List Pc} (hl : ∀ l', IsC s l' → l = l') (h : curveT l ≠ s) : fromC s = none := fromC_none fun l' h' => by
  have e := hl l' h'
  subst e
  apply h
  unfold curveT
  rw [if_pos h'.1, h'.2]
theorem fromC_empty : fromC [] = none := fromC_none fun l h => by
  obtain ⟨x, hx⟩ := knotsT_end h.ne
  have := h.2
  rw [hx] at this
  simp at this

/-! ### Layers out of their text -/
def lineL (p : Ly) : List UInt8 := Lib.decDigits p.1.toNat ++ (if p.2 = true then [] else [63])
theorem lyT_line (p : Ly) : lyT p = lineL p ++ [10] := by unfold lyT lineL; simp
theorem lineL_no (p : Ly) : (10 : UInt8) ∉ lineL p := by
  unfold lineL
  rw [List.mem_append, not_or]
  refine ⟨not_dec (by decide) _, ?_⟩
  split <;> simp
theorem split_lays : ∀ (l : List Ly) (t : List UInt8), splitB 10 (laysT l ++ t) = l.map lineL ++ splitB 10 t := by
  intro l
  induction l with
  | nil => intro t; rfl
  | cons p l ih =>
    intro t
    have e : laysT (p :: l) ++ t = lineL p ++ 10 :: (laysT l ++ t) := by
      show (lyT p ++ laysT l) ++ t = _
      rw [lyT_line]; simp
    rw [e, splitB_cut _ _ (lineL_no p), ih]
    rfl
theorem laysT_end {l : List Ly} (h : l ≠ []) : ∃ x, laysT l = x ++ [10] := by
  obtain ⟨l', p, rfl⟩ : ∃ l' p, l = l' ++ [p] := ⟨_, _, (List.dropLast_concat_getLast h).symm⟩
  refine ⟨laysT l' ++ lineL p, ?_⟩
  unfold laysT
  rw [List.flatMap_append]
  simp [lyT_line]
def IsL (s : List UInt8) (l : List Ly) : Prop := layB l = true ∧ laysT l = s
theorem IsL.range {s : List UInt8} {l : List Ly} (h : IsL s l) {p : Ly} (hp : p ∈ l) : 0 ≤ p.1 ∧ p.1 ≤ 30000 := by
  have := layFrom_mem ((layB_iff l).1 h.1).1 p hp
  omega
theorem IsL.lines {s : List UInt8} {l : List Ly} (h : IsL s l) : splitB 10 s = l.map lineL ++ [[]] := by
  have := split_lays l []
  rw [List.append_nil] at this
  rw [← h.2, this]
  rfl
theorem IsL.ne {s : List UInt8} {l : List Ly} (h : IsL s l) (hs : s ≠ []) : l ≠ [] := fun e => hs (by rw [← h.2, e]; rfl)
theorem IsL.trim {s : List UInt8} {l : List Ly} (h : IsL s l) (hs : s ≠ []) : splitB 10 (Lib.trimSuffix s [10]) = l.map lineL := by
  obtain ⟨x, hx⟩ := laysT_end (h.ne hs)
  have h1 := h.lines
  rw [← h.2, hx, splitB_end] at h1
  rw [← h.2, hx, trim_end]
  exact List.append_cancel_right h1
def lyOf (w : List UInt8) : Ly := if w.getLast? = some 63 then (dig w.dropLast, false) else (dig w, true)
theorem lyOf_line {p : Ly} (h : 0 ≤ p.1 ∧ p.1 ≤ 30000) : lyOf (lineL p) = p := by
  obtain ⟨d, b⟩ := p
  unfold lyOf lineL
  cases b with
  | true =>
    have hn : (Lib.decDigits d.toNat).getLast? ≠ some 63 := fun e => not_dec (c := 63) (by decide) d.toNat (List.mem_of_getLast? e)
    simp only [if_pos, List.append_nil]
    rw [if_neg hn, dig_dec (by simp at h; omega)]
    exact Prod.ext (by simp at h ⊢; omega) rfl
  | false =>
    simp only [Bool.false_eq_true, if_false]
    rw [if_pos (by simp), List.dropLast_concat, dig_dec (by simp at h; omega)]
    exact Prod.ext (by simp at h ⊢; omega) rfl
theorem IsL.read {s : List UInt8} {l : List Ly} (h : IsL s l) : (splitB 10 s).dropLast.map lyOf = l := by
  rw [h.lines, List.dropLast_concat, List.map_map]
  conv => rhs; rw [← List.map_id l]
  exact List.map_congr_left fun p hp => lyOf_line (h.range hp)
theorem IsL.inj {s : List UInt8} {l l' : List Ly} (h : IsL s l) (h' : IsL s l') : l = l' := h.read.symm.trans h'.read
open Classical in
noncomputable def fromL (s : List UInt8) : Option (List Ly) := if h : ∃ l, IsL s l then some h.choose else none
theorem fromL_some {s : List UInt8} {l : List Ly} (h : IsL s l) : fromL s = some l := by
  unfold fromL
  have hx : ∃ l, IsL s l := ⟨l, h⟩
  rw [dif_pos hx]
  exact congrArg some (hx.choose_spec.inj h)
theorem fromL_none {s : List UInt8} (h : ∀ l, ¬ IsL s l) : fromL s = none := by
  unfold fromL
  rw [dif_neg (fun ⟨l, hl⟩ => h l hl)]
theorem fromL_is {s : List UInt8} {l : List Ly} (h : fromL s = some l) : IsL s l := by
  unfold fromL at h
  split at h
  · rename_i hx
    injection h with h
    rw [← h]
    exact hx.choose_spec
  · cases h
theorem fromL_empty : fromL [] = some [] := fromL_some ⟨rfl, rfl⟩
theorem fromL_check {s : List UInt8} {l : List Ly} (h : layersT l = s) (hs : s = [] → l = []) : fromL s = some l := by
  unfold layersT at h
  split at h
  · exact fromL_some ⟨by assumption, h⟩
  · have := hs h.symm
    subst this
    exact absurd rfl (by assumption)
theorem fromL_fail {s : List UInt8} {l : List Ly} (hl : ∀ l', IsL s l' → l = l') (h : layersT l ≠ s) : fromL s = none := fromL_none fun l' h' => by
  have e := hl l' h'
  subst e
  apply h
  unfold layersT
  rw [if_pos h'.1, h'.2]
end Go.Proofs.YtefadlbfkhndfaaDoor
