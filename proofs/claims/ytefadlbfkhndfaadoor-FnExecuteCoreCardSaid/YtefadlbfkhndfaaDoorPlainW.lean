/-
  Plain laws on samples: counts, lengths, parts, joined cores, places. No program in sight.
-/
import Derived.Test.YtefadlbfkhndfaaDoorPlainC
import Derived.Test.YtefadlbfkhndfaaDoorPlainS
namespace Go.Proofs.YtefadlbfkhndfaaDoor
open Go.RowKit
set_option linter.unusedSimpArgs false
set_option linter.unusedVariables false

theorem cnt_mono {w kf w' kf' : Int} (hw : 1 ≤ w) (hk : 0 ≤ kf) (hw' : 1 ≤ w') (hk' : 0 ≤ kf') (step : ∀ x : Int, 0 ≤ x → (x + kf') / (w' + kf') ≤ (x + kf) / (w + kf)) : ∀ {l : List Pc} {d : Int}, coreFrom d l = true → cnt w' kf' l ≤ cnt w kf l := by
  intro l
  induction l with
  | nil => intro d h; simp [cnt]
  | cons p t ih =>
    intro d h
    rw [coreFrom_cons] at h
    have h1 := ih h.2
    have h2 := step (p.2 - p.1) (by omega)
    simp only [cnt]
    omega
theorem cnt_wider {w kf : Int} (hw : 1 ≤ w) (hk : 0 ≤ kf) {l : List Pc} {d : Int} (h : coreFrom d l = true) : cnt (w + 1) kf l ≤ cnt w kf l :=
  cnt_mono hw hk (by omega) hk (fun x hx => by
    have h1 : (x + kf) / (w + 1 + kf) * (w + 1 + kf) ≤ x + kf := Int.ediv_mul_le _ (by omega)
    have h0 : 0 ≤ (x + kf) / (w + 1 + kf) := Int.ediv_nonneg (by omega) (by omega)
    rw [Int.le_ediv_iff_mul_le (by omega)]
    generalize (x + kf) / (w + 1 + kf) = q at h0 h1
    rw [show w + 1 + kf = (w + kf) + 1 by omega, Int.mul_add] at h1
    omega) h
theorem cnt_thicker {w kf : Int} (hw : 1 ≤ w) (hk : 0 ≤ kf) {l : List Pc} {d : Int} (h : coreFrom d l = true) : cnt w (kf + 1) l ≤ cnt w kf l :=
  cnt_mono hw hk hw (by omega) (fun x hx => by
    have h1 : (x + (kf + 1)) / (w + (kf + 1)) * (w + (kf + 1)) ≤ x + (kf + 1) := Int.ediv_mul_le _ (by omega)
    have h0 : 0 ≤ (x + (kf + 1)) / (w + (kf + 1)) := Int.ediv_nonneg (by omega) (by omega)
    rw [Int.le_ediv_iff_mul_le (by omega)]
    generalize (x + (kf + 1)) / (w + (kf + 1)) = q at h0 h1
    by_cases hq : q = 0
    · subst hq; omega
    · rw [show w + (kf + 1) = (w + kf) + 1 by omega, Int.mul_add] at h1
      omega) h
theorem cnt_one : ∀ {l : List Pc}, cnt 1 0 l = lenOf l := by
  intro l
  induction l with
  | nil => rfl
  | cons p t ih => simp only [cnt, lenOf, ih, Int.add_zero, Int.ediv_one]

theorem cutL_len {w kf : Int} (hw : 1 ≤ w) (hk : 0 ≤ kf) : ∀ {l : List Pc} {d x : Int} {l' : List Pc}, coreFrom d l = true → cutL w kf l = some (x, l') → lenOf l' + w ≤ lenOf l := by
  intro l
  induction l with
  | nil => intro d x l' h e; simp [cutL] at e
  | cons p t ih =>
    intro d x l' h e
    have h' := (coreFrom_cons d p t).1 h
    unfold cutL at e
    split at e
    · have := ih h'.2 e
      simp only [lenOf]; omega
    · injection e with e; injection e with e1 e2
      subst e2
      unfold restL
      split <;> simp only [lenOf] <;> omega
theorem cutW_cons {kf w : Int} {ws : List Int} {l l'' : List Pc} {xs : List Int} (e : cutW kf (w :: ws) l = some (xs, l'')) : ∃ x l' ys, cutL w kf l = some (x, l') ∧ cutW kf ws l' = some (ys, l'') ∧ xs = x :: ys := by
  unfold cutW at e
  cases hc : cutL w kf l with
  | none => rw [hc] at e; cases e
  | some q =>
    obtain ⟨x, l1⟩ := q
    rw [hc] at e
    simp only at e
    cases hc2 : cutW kf ws l1 with
    | none => rw [hc2] at e; cases e
    | some r =>
      obtain ⟨ys, l2⟩ := r
      rw [hc2] at e
      simp only [Option.some.injEq, Prod.mk.injEq] at e
      obtain ⟨rfl, rfl⟩ := e
      exact ⟨x, l1, ys, rfl, hc2, rfl⟩
theorem cutW_len {kf : Int} (hk : 0 ≤ kf) : ∀ {ws : List Int}, (∀ w ∈ ws, 1 ≤ w) → ∀ {l : List Pc} {d : Int}, coreFrom d l = true → ∀ {xs : List Int} {l' : List Pc}, cutW kf ws l = some (xs, l') → lenOf l' + sumI ws ≤ lenOf l := by
  intro ws
  induction ws with
  | nil => intro hw l d h xs l' e; simp only [cutW, Option.some.injEq, Prod.mk.injEq] at e; obtain ⟨rfl, rfl⟩ := e; simp [sumI]
  | cons w ws ih =>
    intro hw l d h xs l' e
    obtain ⟨x, l1, ys, e1, e2, rfl⟩ := cutW_cons e
    have g := cutL_good (hw w (List.mem_cons_self ..)) hk h e1
    have h1 := cutL_len (hw w (List.mem_cons_self ..)) hk h e1
    have h2 := ih (fun w hw' => hw w (List.mem_cons_of_mem _ hw')) g.1 e2
    simp only [sumI]
    omega

def oneP (a s : Int) : List Pc := if 0 < s then [(a, a + s)] else []
theorem sumI_nonneg : ∀ {ws : List Int}, (∀ w ∈ ws, 1 ≤ w) → 0 ≤ sumI ws := by
  intro ws
  induction ws with
  | nil => intro _; simp [sumI]
  | cons w ws ih =>
    intro h
    have h1 := ih fun x hx => h x (List.mem_cons_of_mem _ hx)
    have h2 := h w (List.mem_cons_self ..)
    simp only [sumI]
    omega
/-- A piece as long as all samples is used up by a saw without a kerf. -/
theorem cutW_full : ∀ {ws : List Int}, (∀ w ∈ ws, 1 ≤ w) → ∀ a : Int, ∃ xs, cutW 0 ws (oneP a (sumI ws)) = some (xs, []) ∧ xs.length = ws.length := by
  intro ws
  induction ws with
  | nil => intro _ a; exact ⟨[], rfl, rfl⟩
  | cons w ws ih =>
    intro h a
    have h2 := h w (List.mem_cons_self ..)
    have h1 := sumI_nonneg fun x hx => h x (List.mem_cons_of_mem _ hx)
    obtain ⟨xs, e, hl⟩ := ih (fun x hx => h x (List.mem_cons_of_mem _ hx)) (a + w)
    refine ⟨a :: xs, ?_, by simp [hl]⟩
    simp only [sumI]
    have hc : cutL w 0 (oneP a (w + sumI ws)) = some (a, oneP (a + w) (sumI ws)) := by
      rw [oneP, if_pos (by omega), cutL, if_neg (by show ¬ a + (w + sumI ws) - a < w; omega)]
      simp only [restL, oneP, Int.add_zero]
      by_cases h0 : 0 < sumI ws
      · rw [if_pos (by omega), if_pos h0]
        have : min (a + w) (a + (w + sumI ws)) = a + w := by omega
        rw [this, Int.add_assoc]
      · rw [if_neg (by omega), if_neg h0]
    simp only [cutW, hc, e]

theorem cutW_rep {w kf : Int} (hw : 1 ≤ w) (hk : 0 ≤ kf) : ∀ (m : Nat) {l : List Pc} {d : Int}, coreFrom d l = true → ((cutW kf (List.replicate m w) l).isSome = true ↔ (m : Int) ≤ cnt w kf l) := by
  intro m
  induction m with
  | zero => intro l d h; have := cnt_nonneg hw hk h; simp [cutW]; omega
  | succ m ih =>
    intro l d h
    have hc := cut_cnt hw hk h
    rw [List.replicate_succ]
    cases hq : cutL w kf l with
    | none =>
      have h0 := hc.1 hq
      simp only [cutW, hq]
      simp
      omega
    | some q =>
      obtain ⟨x, l'⟩ := q
      have h0 := hc.2 hq
      have g := cutL_good hw hk h hq
      have h1 := ih g.1
      simp only [cutW, hq]
      cases hz : cutW kf (List.replicate m w) l' with
      | none => rw [hz] at h1; simp at h1 ⊢; omega
      | some r => rw [hz] at h1; simp at h1 ⊢; omega
theorem cutW_thin {kf : Int} (hk : 1 ≤ kf) {ws : List Int} {w : Int} (hall : ∀ x ∈ ws, x = w) (hw : 1 ≤ w) {l : List Pc} {d : Int} (h : coreFrom d l = true) (hs : (cutW kf ws l).isSome = true) : (cutW (kf - 1) ws l).isSome = true := by
  have e : ws = List.replicate ws.length w := List.eq_replicate_iff.2 ⟨rfl, hall⟩
  rw [e] at hs ⊢
  rw [cutW_rep hw (by omega) _ h] at hs ⊢
  have := cnt_thicker (kf := kf - 1) hw (by omega) h
  rw [show kf - 1 + 1 = kf by omega] at this
  omega

theorem cutL_single {w kf : Int} (hk : 0 ≤ kf) (hw : 1 ≤ w) : ∀ {l : List Pc} {x : Int} {l' : List Pc}, l.length ≤ 1 → cutL w kf l = some (x, l') → l'.length ≤ 1 ∧ lenOf l ≤ lenOf l' + w + kf := by
  intro l x l' hl e
  match l, hl with
  | [], _ => simp [cutL] at e
  | [p], _ =>
    unfold cutL at e
    split at e
    · simp [cutL] at e
    · injection e with e; injection e with e1 e2
      subst e2
      unfold restL
      split <;> simp [lenOf] <;> omega
theorem cutW_single {kf : Int} (hk : 0 ≤ kf) : ∀ {ws : List Int}, (∀ w ∈ ws, 1 ≤ w) → ∀ {l : List Pc} {xs : List Int} {l' : List Pc}, l.length ≤ 1 → cutW kf ws l = some (xs, l') → lenOf l ≤ lenOf l' + sumI ws + kf * ws.length := by
  intro ws
  induction ws with
  | nil => intro hw l xs l' hl e; simp only [cutW, Option.some.injEq, Prod.mk.injEq] at e; obtain ⟨rfl, rfl⟩ := e; simp [sumI]
  | cons w ws ih =>
    intro hw l xs l' hl e
    obtain ⟨x, l1, ys, e1, e2, rfl⟩ := cutW_cons e
    have g := cutL_single hk (hw w (List.mem_cons_self ..)) hl e1
    have h2 := ih (fun w hw' => hw w (List.mem_cons_of_mem _ hw')) g.1 e2
    simp only [sumI, List.length_cons]
    rw [show ((ws.length + 1 : Nat) : Int) = (ws.length : Int) + 1 by omega, Int.mul_add]
    omega

theorem cutW_part {kf : Int} (hk : 0 ≤ kf) {a b : List Int} (hb : ∀ w ∈ b, 1 ≤ w) (ha : ∀ w ∈ a, 1 ≤ w) {l l'' : List Pc} {d : Int} {xs : List Int} (h : coreFrom d l = true) (e : cutW kf (a ++ b) l = some (xs, l'')) :
    ∃ ys l', cutW kf a l = some (ys, l') ∧ ys.length ≤ xs.length ∧ xs.take ys.length = ys ∧ lenOf l'' ≤ lenOf l' := by
  rw [cutW_append] at e
  cases hc : cutW kf a l with
  | none => rw [hc] at e; cases e
  | some q =>
    obtain ⟨ys, l'⟩ := q
    rw [hc] at e
    simp only at e
    have g := cutW_good hk ha h hc
    cases hc2 : cutW kf b l' with
    | none => rw [hc2] at e; cases e
    | some r =>
      obtain ⟨zs, l2⟩ := r
      rw [hc2] at e
      simp only [Option.some.injEq, Prod.mk.injEq] at e
      obtain ⟨rfl, rfl⟩ := e
      have h1 := cutW_len hk hb g.1 hc2
      have h2 := sumI_nonneg hb
      exact ⟨ys, l', rfl, by simp, by simp, by omega⟩

/-- One step of the reference's saw, told of all samples so far. -/
theorem cut_step {kf x : Int} (hx : 1 ≤ x) (hk : 0 ≤ kf) {l : List Pc} (hF : coreFrom 0 l = true) {ws xs : List Int} {k : Nat} {d : Int} (hcut : cutW kf ws l = some (xs, absL (l.drop k) d)) (hdp : ∀ p tl, l.drop k = p :: tl → d ≤ p.2) (hpre : ∀ p ∈ l.take k, p.2 ≤ d) :
    (placeL x (l.drop k) d k = none → cutW kf (ws ++ [x]) l = none) ∧
    (∀ j fr, placeL x (l.drop k) d k = some (j, fr) → ∃ q : Pc, k ≤ j ∧ l[j]? = some q ∧ q.1 ≤ fr ∧ d ≤ fr ∧ fr + x ≤ q.2 ∧ cutW kf (ws ++ [x]) l = some (xs ++ [fr], absL (l.drop j) (min q.2 (fr + x + kf))) ∧
      (∀ p tl, l.drop j = p :: tl → min q.2 (fr + x + kf) ≤ p.2) ∧ (∀ p ∈ l.take j, p.2 ≤ min q.2 (fr + x + kf))) := by
  have PC := place_cut (w := x) (kf := kf) hx hk (t := l.drop k) (d := d) (i := k) (coreFrom_drop k hF) hdp
  have SN := cutW_snoc x hcut
  refine ⟨fun h => by rw [SN, PC.1 h], fun j fr h => ?_⟩
  obtain ⟨q, tl, hkj, hdr, hq, hdf, hfr, hp, hc⟩ := PC.2 h
  rw [List.drop_drop, show k + (j - k) = j by omega] at hdr
  have hl : l[j]? = some q := by have := congrArg (fun t => t[0]?) hdr; simpa using this
  refine ⟨q, hkj, hl, hq, hdf, hfr, by rw [SN, hc, hdr], fun p tl' e => ?_, fun p hp' => ?_⟩
  · rw [hdr] at e
    injection e with e _
    rw [← e]
    omega
  · have e : l.take j = l.take k ++ (l.drop k).take (j - k) := by
      rw [← List.take_append_drop k (l.take j), List.take_take, List.drop_take]
      congr 2
      omega
    rw [e] at hp'
    rcases List.mem_append.1 hp' with h1 | h1
    · have := hpre p h1
      omega
    · have := hp p h1
      omega

/-! ### Joined cores -/
def joinAcc (cur : Pc) : List Pc → List Pc
  | [] => [cur]
  | p :: t => if cur.2 = p.1 then joinAcc (cur.1, p.2) t else cur :: joinAcc p t
def joinL : List Pc → List Pc
  | [] => []
  | p :: t => joinAcc p t
theorem joinAcc_good : ∀ {t : List Pc} {cur : Pc} {d : Int}, coreFrom d (cur :: t) = true → coreFrom d (joinAcc cur t) = true ∧ (joinAcc cur t).length ≤ t.length + 1 := by
  intro t
  induction t with
  | nil => intro cur d h; exact ⟨h, by simp [joinAcc]⟩
  | cons p t ih =>
    intro cur d h
    have h1 := (coreFrom_cons _ _ _).1 h
    have h2 := (coreFrom_cons _ _ _).1 h1.2
    rw [joinAcc]
    split
    · rename_i e
      have := ih (cur := (cur.1, p.2)) (d := d) ((coreFrom_cons _ _ _).2 ⟨⟨h1.1.1, by show cur.1 < p.2; omega, h2.1.2.2⟩, h2.2⟩)
      exact ⟨this.1, by simp only [List.length_cons]; omega⟩
    · have := ih (cur := p) h1.2
      exact ⟨(coreFrom_cons _ _ _).2 ⟨h1.1, this.1⟩, by simp only [List.length_cons]; omega⟩
theorem joinL_good {l : List Pc} (h : coreB l = true) : coreB (joinL l) = true := by
  rw [coreB_iff] at h ⊢
  cases l with
  | nil => exact ⟨rfl, by simp [joinL]⟩
  | cons p t =>
    have := joinAcc_good h.1
    simp only [List.length_cons] at h
    exact ⟨this.1, by show (joinAcc p t).length ≤ 20; omega⟩
theorem joinAcc_long {w kf : Int} : ∀ {t : List Pc} {cur : Pc} {d : Int}, coreFrom d (cur :: t) = true → w ≤ cur.2 - cur.1 → ∃ l', cutL w kf (joinAcc cur t) = some (cur.1, l') := by
  intro t
  induction t with
  | nil => intro cur d h hw; exact ⟨_, by rw [joinAcc, cutL, if_neg (by omega)]⟩
  | cons p t ih =>
    intro cur d h hw
    have h1 := (coreFrom_cons _ _ _).1 h
    have h2 := (coreFrom_cons _ _ _).1 h1.2
    rw [joinAcc]
    split
    · exact ih (cur := (cur.1, p.2)) (d := d) ((coreFrom_cons _ _ _).2 ⟨⟨h1.1.1, by show cur.1 < p.2; omega, h2.1.2.2⟩, h2.2⟩) (by show w ≤ p.2 - cur.1; omega)
    · exact ⟨_, by rw [cutL, if_neg (by omega)]⟩
theorem cutL_ge {w kf : Int} (hw : 1 ≤ w) (hk : 0 ≤ kf) {l l' : List Pc} {d x : Int} (h : coreFrom d l = true) (e : cutL w kf l = some (x, l')) : d ≤ x := (cutL_good hw hk h e).2.2.1
theorem joinAcc_cut {w kf : Int} (hw : 1 ≤ w) (hk : 0 ≤ kf) : ∀ {t : List Pc} {cur : Pc} {d x : Int} {l' : List Pc}, coreFrom d (cur :: t) = true → cutL w kf (cur :: t) = some (x, l') → ∃ y l2, y ≤ x ∧ cutL w kf (joinAcc cur t) = some (y, l2) := by
  intro t
  induction t with
  | nil => intro cur d x l' h e; exact ⟨x, l', Int.le_refl _, e⟩
  | cons p t ih =>
    intro cur d x l' h e
    have h1 := (coreFrom_cons _ _ _).1 h
    have h2 := (coreFrom_cons _ _ _).1 h1.2
    by_cases hc : cur.2 - cur.1 < w
    · rw [cutL, if_pos hc] at e
      have hx := cutL_ge hw hk h1.2 e
      rw [joinAcc]
      split
      · rename_i ej
        have hF : coreFrom d ((cur.1, p.2) :: t) = true := (coreFrom_cons _ _ _).2 ⟨⟨h1.1.1, by show cur.1 < p.2; omega, h2.1.2.2⟩, h2.2⟩
        by_cases hl : w ≤ p.2 - cur.1
        · obtain ⟨l2, e2⟩ := joinAcc_long (w := w) (kf := kf) hF hl
          exact ⟨_, _, by show cur.1 ≤ x; omega, e2⟩
        · have e' : cutL w kf ((cur.1, p.2) :: t) = some (x, l') := by
            rw [cutL, if_pos (by show p.2 - cur.1 < w; omega)]
            rw [cutL, if_pos (by omega)] at e
            exact e
          exact ih hF e'
      · obtain ⟨y, l2, hy, e2⟩ := ih h1.2 e
        exact ⟨y, l2, hy, by rw [cutL, if_pos hc]; exact e2⟩
    · rw [cutL, if_neg hc] at e
      injection e with e; injection e with e1 e2
      subst e1
      obtain ⟨l2, e2⟩ := joinAcc_long (w := w) (kf := kf) h (by omega)
      exact ⟨_, _, Int.le_refl _, e2⟩
theorem joinL_cut {w kf : Int} (hw : 1 ≤ w) (hk : 0 ≤ kf) {l l' : List Pc} {d x : Int} (h : coreFrom d l = true) (e : cutL w kf l = some (x, l')) : ∃ y l2, y ≤ x ∧ cutL w kf (joinL l) = some (y, l2) := by
  cases l with
  | nil => simp [cutL] at e
  | cons p t => exact joinAcc_cut hw hk h e

/-! ### Places of samples -/
def SubC (l0 l : List Pc) : Prop := ∀ q ∈ l, ∃ p ∈ l0, p.1 ≤ q.1 ∧ q.2 = p.2
theorem subC_refl (l : List Pc) : SubC l l := fun q hq => ⟨q, hq, Int.le_refl _, rfl⟩
theorem cutL_sub {w kf : Int} (hw : 1 ≤ w) (hk : 0 ≤ kf) {l0 : List Pc} : ∀ {l : List Pc} {d x : Int} {l' : List Pc}, SubC l0 l → coreFrom d l = true → cutL w kf l = some (x, l') →
    SubC l0 l' ∧ ∃ p ∈ l0, p.1 ≤ x ∧ x + w ≤ p.2 ∧ coreFrom (min p.2 (x + w + kf)) l' = true := by
  intro l
  induction l with
  | nil => intro d x l' hs h e; simp [cutL] at e
  | cons q t ih =>
    intro d x l' hs h e
    have h1 := (coreFrom_cons _ _ _).1 h
    unfold cutL at e
    split at e
    · exact ih (fun q hq => hs q (List.mem_cons_of_mem _ hq)) h1.2 e
    · injection e with e; injection e with e1 e2
      subst e1; subst e2
      obtain ⟨p, hp, hp1, hp2⟩ := hs q (List.mem_cons_self ..)
      refine ⟨fun r hr => ?_, p, hp, hp1, by omega, ?_⟩
      · unfold restL at hr
        split at hr
        · rcases List.mem_cons.1 hr with rfl | hr
          · exact ⟨p, hp, by show p.1 ≤ min _ _; omega, hp2⟩
          · exact hs r (List.mem_cons_of_mem _ hr)
        · exact hs r (List.mem_cons_of_mem _ hr)
      · unfold restL
        split
        · rw [coreFrom_cons]; exact ⟨⟨by show min p.2 _ ≤ min _ _; omega, by assumption, h1.1.2.2⟩, h1.2⟩
        · exact coreFrom_mono h1.2 (by omega)
def TopsOk (kf : Int) (l0 : List Pc) (ws xs : List Int) : Prop :=
  ∀ i x w, xs[i]? = some x → ws[i]? = some w → ∃ p ∈ l0, p.1 ≤ x ∧ x + w ≤ p.2 ∧ ∀ y, xs[i + 1]? = some y → min p.2 (x + w + kf) ≤ y
theorem cutW_tops {kf : Int} (hk : 0 ≤ kf) {l0 : List Pc} : ∀ {ws : List Int}, (∀ w ∈ ws, 1 ≤ w) → ∀ {l : List Pc} {d : Int}, SubC l0 l → coreFrom d l = true → ∀ {xs : List Int} {l' : List Pc}, cutW kf ws l = some (xs, l') → TopsOk kf l0 ws xs ∧ ∀ y, xs[0]? = some y → d ≤ y := by
  intro ws
  induction ws with
  | nil =>
    intro hw l d hs h xs l' e
    simp only [cutW, Option.some.injEq, Prod.mk.injEq] at e
    obtain ⟨rfl, rfl⟩ := e
    exact ⟨fun i x w hx _ => by simp at hx, fun y hy => by simp at hy⟩
  | cons w ws ih =>
    intro hw l d hs h xs l' e
    obtain ⟨x, l1, ys, e1, e2, rfl⟩ := cutW_cons e
    have hw1 := hw w (List.mem_cons_self ..)
    obtain ⟨hs1, p, hp, hp1, hp2, hF⟩ := cutL_sub hw1 hk hs h e1
    obtain ⟨i1, i2⟩ := ih (fun w hw' => hw w (List.mem_cons_of_mem _ hw')) hs1 hF e2
    refine ⟨fun i x' w' hx hw' => ?_, fun y hy => ?_⟩
    · cases i with
      | zero =>
        simp only [List.getElem?_cons_zero, Option.some.injEq] at hx hw'
        subst hx; subst hw'
        exact ⟨p, hp, hp1, hp2, fun y hy => i2 y (by simpa using hy)⟩
      | succ i =>
        obtain ⟨p', r⟩ := i1 i x' w' (by simpa using hx) (by simpa using hw')
        exact ⟨p', r⟩
    · simp only [List.getElem?_cons_zero, Option.some.injEq] at hy
      subst hy
      exact cutL_ge hw1 hk h e1
end Go.Proofs.YtefadlbfkhndfaaDoor
