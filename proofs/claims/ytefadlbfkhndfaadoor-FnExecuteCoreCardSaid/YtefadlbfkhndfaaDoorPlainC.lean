/-
  Plain words on cores: valid cores, lengths, the saw. No program in sight.
-/
import Derived.Test.YtefadlbfkhndfaaDoorKit
namespace Go.Proofs.YtefadlbfkhndfaaDoor
open Go.RowKit
set_option linter.unusedSimpArgs false
set_option linter.unusedVariables false

abbrev Pc := Int × Int
def coreFrom : Int → List Pc → Bool
  | _, [] => true
  | d, p :: t => decide (d ≤ p.1 ∧ p.1 < p.2 ∧ p.2 ≤ 30000) && coreFrom p.2 t
def coreB (l : List Pc) : Bool := coreFrom 0 l && decide (l.length ≤ 20)
def lenOf : List Pc → Int
  | [] => 0
  | p :: t => (p.2 - p.1) + lenOf t
def coreLen (l : List Pc) : Int := if coreB l = true then lenOf l else -1

theorem coreFrom_cons (d : Int) (p : Pc) (t : List Pc) : coreFrom d (p :: t) = true ↔ (d ≤ p.1 ∧ p.1 < p.2 ∧ p.2 ≤ 30000) ∧ coreFrom p.2 t = true := by simp [coreFrom]
theorem coreFrom_mono : ∀ {l : List Pc} {d d' : Int}, coreFrom d l = true → d' ≤ d → coreFrom d' l = true := by
  intro l
  cases l with
  | nil => intro _ _ _ _; rfl
  | cons p t => intro d d' h hd; rw [coreFrom_cons] at h ⊢; exact ⟨⟨by omega, h.1.2⟩, h.2⟩
theorem coreFrom_drop : ∀ {l : List Pc} {d : Int} (k : Nat), coreFrom d l = true → coreFrom d (l.drop k) = true := by
  intro l
  induction l with
  | nil => intro d k h; simp; exact h
  | cons p t ih =>
    intro d k h
    cases k with
    | zero => exact h
    | succ k => rw [coreFrom_cons] at h; exact ih k (coreFrom_mono h.2 (by omega))
theorem coreFrom_mem : ∀ {l : List Pc} {d : Int}, coreFrom d l = true → ∀ p ∈ l, d ≤ p.1 ∧ p.1 < p.2 ∧ p.2 ≤ 30000 := by
  intro l
  induction l with
  | nil => intro d h p hp; cases hp
  | cons q t ih =>
    intro d h p hp
    rw [coreFrom_cons] at h
    rcases List.mem_cons.1 hp with rfl | hp
    · exact h.1
    · have := ih h.2 p hp; omega
theorem coreB_iff (l : List Pc) : coreB l = true ↔ coreFrom 0 l = true ∧ l.length ≤ 20 := by simp [coreB]
theorem coreLen_good {l : List Pc} (h : coreB l = true) : coreLen l = lenOf l := by unfold coreLen; rw [if_pos h]
theorem coreLen_bad {l : List Pc} (h : coreB l = false) : coreLen l = -1 := by unfold coreLen; rw [if_neg (by rw [h]; simp)]
theorem lenOf_bd : ∀ {l : List Pc} {d : Int}, coreFrom d l = true → 0 ≤ lenOf l ∧ (lenOf l = 0 ∨ lenOf l ≤ 30000 - d) := by
  intro l
  induction l with
  | nil => intro d h; simp [lenOf]
  | cons p t ih =>
    intro d h
    rw [coreFrom_cons] at h
    have := ih h.2
    simp only [lenOf]
    omega
theorem lenOf_bd' {l : List Pc} (h : coreFrom 0 l = true) : 0 ≤ lenOf l ∧ lenOf l ≤ 30000 := by have := lenOf_bd h; omega
theorem lenOf_append (a b : List Pc) : lenOf (a ++ b) = lenOf a + lenOf b := by
  induction a with
  | nil => simp [lenOf]
  | cons p a ih => simp only [List.cons_append, lenOf, ih]; omega
theorem lenOf_snoc (a : List Pc) (x y : Int) : lenOf (a ++ [(x, y)]) = lenOf a + (y - x) := by rw [lenOf_append]; simp [lenOf]
theorem coreFrom_take : ∀ {l : List Pc} {d : Int} (k : Nat), coreFrom d l = true → coreFrom d (l.take k) = true := by
  intro l
  induction l with
  | nil => intro d k h; simp; exact h
  | cons p t ih =>
    intro d k h
    cases k with
    | zero => rfl
    | succ k => rw [coreFrom_cons] at h; rw [List.take_succ_cons, coreFrom_cons]; exact ⟨h.1, ih k h.2⟩
theorem drop_cons {α : Type} {l : List α} {k : Nat} {x : α} (h : l[k]? = some x) : l.drop k = x :: l.drop (k + 1) := by
  obtain ⟨hk, e⟩ := List.getElem?_eq_some_iff.1 h
  rw [List.drop_eq_getElem_cons hk, e]
theorem drop_end {α : Type} {l : List α} {k : Nat} (h : l.length ≤ k) : l.drop k = [] := List.drop_eq_nil_of_le h

/-! ### The saw -/
def restL (a : Int) (p : Pc) (t : List Pc) : List Pc := if min a p.2 < p.2 then (min a p.2, p.2) :: t else t
def cutL (w kf : Int) : List Pc → Option (Int × List Pc)
  | [] => none
  | p :: t => if p.2 - p.1 < w then cutL w kf t else some (p.1, restL (p.1 + w + kf) p t)
def cnt (w kf : Int) : List Pc → Int
  | [] => 0
  | p :: t => (p.2 - p.1 + kf) / (w + kf) + cnt w kf t

theorem cnt_nonneg {w kf : Int} (hw : 1 ≤ w) (hk : 0 ≤ kf) : ∀ {l : List Pc} {d : Int}, coreFrom d l = true → 0 ≤ cnt w kf l := by
  intro l
  induction l with
  | nil => intro d h; simp [cnt]
  | cons p t ih =>
    intro d h
    rw [coreFrom_cons] at h
    have h1 := ih h.2
    have h2 : 0 ≤ (p.2 - p.1 + kf) / (w + kf) := Int.ediv_nonneg (by omega) (by omega)
    simp only [cnt]
    omega
theorem cnt_le {w kf : Int} (hw : 1 ≤ w) (hk : 0 ≤ kf) : ∀ {l : List Pc} {d : Int}, coreFrom d l = true → cnt w kf l * w ≤ lenOf l := by
  intro l
  induction l with
  | nil => intro d h; simp [cnt, lenOf]
  | cons p t ih =>
    intro d h
    rw [coreFrom_cons] at h
    have h1 := ih h.2
    simp only [cnt, lenOf, Int.add_mul]
    have hq : 0 ≤ (p.2 - p.1 + kf) / (w + kf) := Int.ediv_nonneg (by omega) (by omega)
    have hm : (p.2 - p.1 + kf) / (w + kf) * (w + kf) ≤ p.2 - p.1 + kf := Int.ediv_mul_le _ (by omega)
    obtain ⟨q, hq'⟩ : ∃ q, q = (p.2 - p.1 + kf) / (w + kf) := ⟨_, rfl⟩
    rw [← hq'] at hq hm ⊢
    have : q * w ≤ p.2 - p.1 := by
      by_cases h0 : q = 0
      · subst h0; omega
      · have h3 : kf ≤ q * kf := by have := Int.mul_le_mul_of_nonneg_right (show 1 ≤ q by omega) hk; omega
        rw [Int.mul_add] at hm
        omega
    omega
theorem cnt_le_len {w kf : Int} (hw : 1 ≤ w) (hk : 0 ≤ kf) {l : List Pc} {d : Int} (h : coreFrom d l = true) : cnt w kf l ≤ lenOf l := by
  have h1 := cnt_le hw hk h
  have h2 := cnt_nonneg hw hk h
  have := Int.mul_le_mul_of_nonneg_left hw h2
  omega

theorem restL_good {a d : Int} {p : Pc} {t : List Pc} (h : coreFrom d (p :: t) = true) (ha : p.1 ≤ a) : coreFrom d (restL a p t) = true ∧ (restL a p t).length ≤ t.length + 1 := by
  rw [coreFrom_cons] at h
  unfold restL
  split
  · rename_i hlt
    rw [coreFrom_cons]
    refine ⟨⟨⟨?_, ?_, ?_⟩, h.2⟩, by simp⟩
    · show d ≤ min a p.2; omega
    · exact hlt
    · exact h.1.2.2
  · exact ⟨coreFrom_mono h.2 (by omega), by omega⟩

theorem cutL_good {w kf : Int} (hw : 1 ≤ w) (hk : 0 ≤ kf) : ∀ {l : List Pc} {d : Int}, coreFrom d l = true → ∀ {x : Int} {l' : List Pc}, cutL w kf l = some (x, l') →
    coreFrom d l' = true ∧ l'.length ≤ l.length ∧ d ≤ x ∧ x + w ≤ 30000 := by
  intro l
  induction l with
  | nil => intro d h x l' e; simp [cutL] at e
  | cons p t ih =>
    intro d h x l' e
    have h' := (coreFrom_cons d p t).1 h
    unfold cutL at e
    split at e
    · have := ih (coreFrom_mono h'.2 (show d ≤ p.2 by omega)) e
      simp only [List.length_cons]
      exact ⟨this.1, by omega, this.2.2⟩
    · injection e with e
      injection e with e1 e2
      subst e1; subst e2
      have := restL_good (a := p.1 + w + kf) h (by omega)
      simp only [List.length_cons]
      exact ⟨this.1, this.2, by omega, by omega⟩

theorem cut_cnt {w kf : Int} (hw : 1 ≤ w) (hk : 0 ≤ kf) : ∀ {l : List Pc} {d : Int}, coreFrom d l = true →
    (cutL w kf l = none → cnt w kf l = 0) ∧ (∀ {x : Int} {l' : List Pc}, cutL w kf l = some (x, l') → cnt w kf l = 1 + cnt w kf l') := by
  intro l
  induction l with
  | nil => intro d h; exact ⟨fun _ => rfl, fun e => by simp [cutL] at e⟩
  | cons p t ih =>
    intro d h
    have h' := (coreFrom_cons d p t).1 h
    have ih' := ih (coreFrom_mono h'.2 (show d ≤ p.2 by omega))
    by_cases hlt : p.2 - p.1 < w
    · have h0 : (p.2 - p.1 + kf) / (w + kf) = 0 := Int.ediv_eq_zero_of_lt (by omega) (by omega)
      have e0 : cutL w kf (p :: t) = cutL w kf t := by rw [cutL, if_pos hlt]
      rw [e0]
      simp only [cnt, h0, Int.zero_add]
      exact ih'
    · have e0 : cutL w kf (p :: t) = some (p.1, restL (p.1 + w + kf) p t) := by rw [cutL, if_neg hlt]
      rw [e0]
      refine ⟨fun e => (by cases e), fun {x l'} e => ?_⟩
      injection e with e
      injection e with e1 e2
      subst e1; subst e2
      have hd : (p.2 - p.1 + kf) / (w + kf) = 1 + (p.2 - p.1 - w) / (w + kf) := by
        have : p.2 - p.1 + kf = (p.2 - p.1 - w) + 1 * (w + kf) := by omega
        rw [this, Int.add_mul_ediv_right _ _ (by omega)]
        omega
      simp only [cnt]
      rw [hd]
      unfold restL
      by_cases hm : p.1 + w + kf < p.2
      · have e1 : min (p.1 + w + kf) p.2 = p.1 + w + kf := by omega
        rw [e1, if_pos hm]
        simp only [cnt]
        rw [show p.2 - (p.1 + w + kf) + kf = p.2 - p.1 - w by omega]
        omega
      · have e1 : min (p.1 + w + kf) p.2 = p.2 := by omega
        rw [e1, if_neg (by omega)]
        have : (p.2 - p.1 - w) / (w + kf) = 0 := Int.ediv_eq_zero_of_lt (by omega) (by omega)
        omega

/-- All samples of a list of widths, one after the other. -/
def cutW (kf : Int) : List Int → List Pc → Option (List Int × List Pc)
  | [], l => some ([], l)
  | w :: ws, l => match cutL w kf l with
    | none => none
    | some (x, l') => match cutW kf ws l' with
      | none => none
      | some (xs, l'') => some (x :: xs, l'')
theorem cutW_append (kf : Int) : ∀ (a b : List Int) (l : List Pc), cutW kf (a ++ b) l = match cutW kf a l with
    | none => none
    | some (xs, l') => match cutW kf b l' with
      | none => none
      | some (ys, l'') => some (xs ++ ys, l'') := by
  intro a
  induction a with
  | nil => intro b l; simp only [List.nil_append, cutW]; cases cutW kf b l with
    | none => rfl
    | some q => rfl
  | cons w a ih =>
    intro b l
    simp only [List.cons_append, cutW]
    cases cutL w kf l with
    | none => rfl
    | some q =>
      obtain ⟨x, l'⟩ := q
      simp only [ih b l']
      cases cutW kf a l' with
      | none => rfl
      | some r =>
        obtain ⟨xs, l2⟩ := r
        simp only
        cases cutW kf b l2 with
        | none => rfl
        | some z => rfl
theorem cutW_snoc {kf : Int} {a : List Int} {l l' : List Pc} {xs : List Int} (w : Int) (h : cutW kf a l = some (xs, l')) : cutW kf (a ++ [w]) l = match cutL w kf l' with
    | none => none
    | some (x, l'') => some (xs ++ [x], l'') := by
  rw [cutW_append, h]
  simp only [cutW]
  cases cutL w kf l' with
  | none => rfl
  | some q => rfl
theorem cutW_none {kf : Int} {a b : List Int} {l : List Pc} (h : cutW kf a l = none) : cutW kf (a ++ b) l = none := by rw [cutW_append, h]
theorem cutW_good {kf : Int} (hk : 0 ≤ kf) : ∀ {ws : List Int}, (∀ w ∈ ws, 1 ≤ w) → ∀ {l : List Pc} {d : Int}, coreFrom d l = true → ∀ {xs : List Int} {l' : List Pc}, cutW kf ws l = some (xs, l') →
    coreFrom d l' = true ∧ l'.length ≤ l.length ∧ xs.length = ws.length := by
  intro ws
  induction ws with
  | nil => intro hw l d h xs l' e; simp only [cutW, Option.some.injEq, Prod.mk.injEq] at e; obtain ⟨rfl, rfl⟩ := e; exact ⟨h, Nat.le_refl _, rfl⟩
  | cons w ws ih =>
    intro hw l d h xs l' e
    unfold cutW at e
    cases hc : cutL w kf l with
    | none => rw [hc] at e; cases e
    | some q =>
      obtain ⟨x, l1⟩ := q
      rw [hc] at e
      simp only at e
      have g := cutL_good (hw w (List.mem_cons_self ..)) hk h hc
      cases hc2 : cutW kf ws l1 with
      | none => rw [hc2] at e; cases e
      | some r =>
        obtain ⟨ys, l2⟩ := r
        rw [hc2] at e
        simp only [Option.some.injEq, Prod.mk.injEq] at e
        obtain ⟨rfl, rfl⟩ := e
        have g2 := ih (fun w hw' => hw w (List.mem_cons_of_mem _ hw')) g.1 hc2
        exact ⟨g2.1, by omega, by simp [g2.2.2]⟩

/-! ### The reference's saw: a place and a depth -/
def absL : List Pc → Int → List Pc
  | [], _ => []
  | p :: t, d => if max d p.1 < p.2 then (max d p.1, p.2) :: t else t
def placeL (w : Int) : List Pc → Int → Nat → Option (Nat × Int)
  | [], _, _ => none
  | p :: t, d, i => if max d p.1 + w ≤ p.2 then some (i, max d p.1) else placeL w t d (i + 1)
theorem absL_cons (p : Pc) (t : List Pc) (d : Int) : absL (p :: t) d = if max d p.1 < p.2 then (max d p.1, p.2) :: t else t := rfl
theorem absL_self {t : List Pc} {d d0 : Int} (h : coreFrom d0 t = true) (hd : d ≤ d0) : absL t d = t := by
  cases t with
  | nil => rfl
  | cons q t =>
    rw [coreFrom_cons] at h
    rw [absL_cons]
    have : max d q.1 = q.1 := by omega
    rw [this, if_pos h.1.2.1]
theorem place_cut {w kf : Int} (hw : 1 ≤ w) (hk : 0 ≤ kf) : ∀ {t : List Pc} {d d0 : Int} {i : Nat}, coreFrom d0 t = true → (∀ p tl, t = p :: tl → d ≤ p.2) →
    (placeL w t d i = none → cutL w kf (absL t d) = none) ∧
    (∀ {j : Nat} {fr : Int}, placeL w t d i = some (j, fr) → ∃ q tl, i ≤ j ∧ t.drop (j - i) = q :: tl ∧ q.1 ≤ fr ∧ d ≤ fr ∧ fr + w ≤ q.2 ∧ (∀ p ∈ t.take (j - i), p.2 ≤ fr) ∧ cutL w kf (absL t d) = some (fr, absL (q :: tl) (min q.2 (fr + w + kf)))) := by
  intro t
  induction t with
  | nil => intro d d0 i h hd; exact ⟨fun _ => rfl, fun e => by simp [placeL] at e⟩
  | cons p t ih =>
    intro d d0 i h hd
    have h' := (coreFrom_cons d0 p t).1 h
    have hdp := hd p t rfl
    by_cases hp : max d p.1 + w ≤ p.2
    · have e0 : placeL w (p :: t) d i = some (i, max d p.1) := by rw [placeL, if_pos hp]
      rw [e0]
      refine ⟨fun e => (by cases e), fun {j fr} e => ?_⟩
      injection e with e
      injection e with e1 e2
      subst e1; subst e2
      refine ⟨p, t, Nat.le_refl _, by simp, by omega, by omega, hp, by simp, ?_⟩
      have a1 : absL (p :: t) d = (max d p.1, p.2) :: t := by rw [absL, if_pos (by omega)]
      rw [a1, cutL, if_neg (by show ¬ p.2 - max d p.1 < w; omega)]
      have m1 : max (min p.2 (max d p.1 + w + kf)) p.1 = min (max d p.1 + w + kf) p.2 := by omega
      simp only [restL, absL, m1]
    · have e0 : placeL w (p :: t) d i = placeL w t d (i + 1) := by rw [placeL, if_neg hp]
      have c0 : cutL w kf (absL (p :: t) d) = cutL w kf t := by
        rw [absL_cons]
        split
        · rw [cutL, if_pos (by show p.2 - max d p.1 < w; omega)]
        · rfl
      have hd' : ∀ q tl, t = q :: tl → d ≤ q.2 := by
        intro q tl e
        subst e
        have := (coreFrom_cons _ _ _).1 h'.2
        omega
      have ih' := ih (d := d) (i := i + 1) h'.2 hd'
      rw [absL_self h'.2 hdp] at ih'
      rw [e0, c0]
      refine ⟨ih'.1, fun {j fr} e => ?_⟩
      obtain ⟨q, tl, hij, hdr, hq, hdf, hfr, hpre, hcut⟩ := ih'.2 e
      refine ⟨q, tl, by omega, ?_, hq, hdf, hfr, ?_, hcut⟩
      · rw [show j - i = (j - (i + 1)) + 1 by omega]; exact hdr
      · intro r hr
        rw [show j - i = (j - (i + 1)) + 1 by omega, List.take_succ_cons] at hr
        rcases List.mem_cons.1 hr with rfl | hr
        · have hqm : q ∈ t := by have : q ∈ t.drop (j - (i + 1)) := by rw [hdr]; exact List.mem_cons_self ..
                                 exact List.mem_of_mem_drop this
          have := coreFrom_mem h'.2 q hqm
          omega
        · exact hpre r hr
def behind (d : Int) : List Pc → Int
  | [] => 0
  | p :: t => max 0 (p.2 - max d p.1) + behind d t
theorem behind_cons (p : Pc) (t : List Pc) (d : Int) : behind d (p :: t) = max 0 (p.2 - max d p.1) + behind d t := rfl
theorem behind_append (d : Int) (a b : List Pc) : behind d (a ++ b) = behind d a + behind d b := by
  induction a with
  | nil => simp [behind]
  | cons p a ih => simp only [List.cons_append, behind, ih]; omega
theorem behind_pre {d : Int} : ∀ {a : List Pc}, (∀ p ∈ a, p.2 ≤ d) → behind d a = 0 := by
  intro a
  induction a with
  | nil => intro _; rfl
  | cons p a ih =>
    intro h
    have := h p (List.mem_cons_self ..)
    simp only [behind, ih fun q hq => h q (List.mem_cons_of_mem _ hq)]
    omega
theorem behind_self : ∀ {t : List Pc} {d d0 : Int}, coreFrom d0 t = true → d ≤ d0 → behind d t = lenOf t := by
  intro t
  induction t with
  | nil => intro _ _ _ _; rfl
  | cons p t ih =>
    intro d d0 h hd
    rw [coreFrom_cons] at h
    simp only [behind, lenOf, ih h.2 (show d ≤ p.2 by omega)]
    omega
theorem behind_abs {t : List Pc} {d d0 : Int} (h : coreFrom d0 t = true) (hd : ∀ p tl, t = p :: tl → d ≤ p.2) : behind d t = lenOf (absL t d) := by
  cases t with
  | nil => rfl
  | cons p t =>
    have h' := (coreFrom_cons d0 p t).1 h
    have hp := hd p t rfl
    rw [absL_cons, behind_cons, behind_self h'.2 hp]
    split
    · simp only [lenOf]; omega
    · omega
theorem absL_good {t : List Pc} {d d0 : Int} (h : coreFrom d0 t = true) : coreFrom d0 (absL t d) = true ∧ (absL t d).length ≤ t.length := by
  cases t with
  | nil => exact ⟨h, Nat.le_refl _⟩
  | cons p t =>
    have h' := (coreFrom_cons d0 p t).1 h
    rw [absL_cons]
    split
    · rw [coreFrom_cons]
      exact ⟨⟨⟨by show d0 ≤ max d p.1; omega, by assumption, h'.1.2.2⟩, h'.2⟩, by simp⟩
    · exact ⟨coreFrom_mono h'.2 (by omega), by simp⟩
end Go.Proofs.YtefadlbfkhndfaaDoor
