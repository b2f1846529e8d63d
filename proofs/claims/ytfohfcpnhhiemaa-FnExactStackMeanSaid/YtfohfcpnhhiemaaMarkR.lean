/-
  The exact laws' own words on rows of numbers: marks, and marks that are held.
-/
import Derived.Test.YtfohfcpnhhiemaaRowsX
namespace Go.Proofs.Ytfohfcpnhhiemaa
open Go.RowKit
set_option linter.unusedSimpArgs false
set_option linter.unusedVariables false

/-- Only blocks from B on, and below C, have turned. -/
structure TurnedIn (B C : Nat) (w w' : World) : Prop where
  os : w'.os = w.os
  tape : w'.tape = w.tape
  output : w'.output = w.output
  size : w.heap.size ≤ w'.heap.size
  block : ∀ k, k < w.heap.size → k < B ∨ C ≤ k → w'.heap[k]? = w.heap[k]?
section
variable {w w' w'' : World} {B C base : Nat} {A : Option Addr} {n : Nat} {R : List (List Int)} {T T' : TypeId} {v : Value} {vs : List Value}
theorem TurnedIn.refl (B C : Nat) (w : World) : TurnedIn B C w w := ⟨rfl, rfl, rfl, Nat.le_refl _, fun _ _ _ => rfl⟩
theorem TurnedIn.trans (h : TurnedIn B C w w') (k : TurnedIn B C w' w'') : TurnedIn B C w w'' :=
  ⟨k.os.trans h.os, k.tape.trans h.tape, k.output.trans h.output, Nat.le_trans h.size k.size, fun i hi ho => (k.block i (Nat.lt_of_lt_of_le hi h.size) ho).trans (h.block i hi ho)⟩
theorem TurnedIn.below (h : TurnedIn B C w w') (hB : B ≤ w.heap.size) : Below B w w' := ⟨h.os, h.tape, h.output, h.size, fun k hk => h.block k (Nat.lt_of_lt_of_le hk hB) (.inl hk)⟩
theorem TurnedIn.ofGrown {row : Option Nat} (h : w.grownBy w' row) (hr : ∀ g, row = some g → B ≤ g ∧ g < C) : TurnedIn B C w w' :=
  ⟨h.os, h.tape, h.output, h.size, fun k hk ho => h.block k hk fun e => by have := hr k e.symm; omega⟩
theorem Own.turned {α : Type} {f : α → List Value} {sz : Nat} {l : List α} (h : Own f sz w base T v n l) (ht : TurnedIn B C w w') (hC : C ≤ base) : Own f sz w' base T v n l := by
  refine ⟨h.1, h.2.1, ?_⟩
  rcases h.2.2 with h0 | ⟨g, cap, cur, hv, hbg, hg, r⟩
  · exact .inl h0
  · exact .inr ⟨g, cap, cur, hv, hbg, (ht.block g (Array.getElem?_eq_some_iff.1 hg).1 (.inr (by omega))).trans hg, r⟩
theorem OwnRR.turned (h : OwnRR w base T T' v n vs R) (ht : TurnedIn B C w w') (hC : C ≤ base) : OwnRR w' base T T' v n vs R :=
  ⟨h.own.turned ht hC, h.len, fun k u r hu hk => (h.row k u r hu hk).turned ht hC, h.out, h.apart⟩
/-- One of the rows is turned in its own block. -/
theorem OwnRR.inner {k : Nat} {u : Value} {r' : List Int} (h : OwnRR w base T T' v n vs R) (hk : vs[k]? = some u) (hu : Own II 1 w' base T' u r'.length r') (hg : w.grownBy w' u.ownBlock) : OwnRR w' base T T' v n vs (R.set k r') := by
  have hkl : k < vs.length := (List.getElem?_eq_some_iff.1 hk).1
  have hvo : ∀ g, v.ownBlock = some g → u.ownBlock ≠ some g := fun g h1 h2 => h.out k u hk g h2 h1
  refine ⟨⟨h.own.1, h.own.2.kept hg ?_⟩, by rw [List.length_set]; exact h.len, fun j x l hx hl => ?_, h.out, h.apart⟩
  · cases hv : v.ownBlock with
    | none => exact .inl rfl
    | some g => exact .inr fun e => hvo g hv e.symm
  · rw [List.getElem?_set] at hl
    split at hl
    · rename_i e
      subst e
      rw [if_pos (by rw [← h.len]; exact hkl)] at hl
      injection hl with hl
      subst hl
      rw [hk] at hx
      injection hx with hx
      subst hx
      exact hu
    · rename_i e
      have h0 := h.row j x l hx hl
      refine ⟨h0.1, h0.2.kept hg ?_⟩
      cases hxb : x.ownBlock with
      | none => exact .inl rfl
      | some b => exact .inr fun e2 => h.apart j k x u (fun e3 => e e3.symm) hx hk b hxb e2.symm
end

/-- How many numbers the rows ahead of j have. -/
def ahead : List (List Int) → Nat
  | [] => 0
  | r :: t => r.length + ahead t
theorem ahead_append (a b : List (List Int)) : ahead (a ++ b) = ahead a + ahead b := by
  induction a with
  | nil => simp [ahead]
  | cons r a ih => simp only [List.cons_append, ahead, ih]; omega
theorem ahead_bd {N : Nat} : ∀ {R : List (List Int)}, (∀ r ∈ R, r.length ≤ N) → ahead R ≤ N * R.length := by
  intro R
  induction R with
  | nil => intro _; simp [ahead]
  | cons r R ih =>
    intro h
    have h1 := ih (fun x hx => h x (List.mem_cons_of_mem _ hx))
    have h2 := h r (List.mem_cons_self ..)
    simp only [ahead, List.length_cons, Nat.mul_add, Nat.mul_one]
    omega
def rampAt (k : Int) (R : List (List Int)) (j : Nat) : List Int := ramp (k + ahead (R.take j)) (R.getD j []).length
def rampR (k : Int) (R : List (List Int)) : List (List Int) := (List.range R.length).map (rampAt k R)
theorem rampAt_of {k : Int} {R : List (List Int)} {j : Nat} {r : List Int} (h : R[j]? = some r) : rampAt k R j = ramp (k + ahead (R.take j)) r.length := by simp [rampAt, List.getD_eq_getElem?_getD, h]
theorem rampR_get (k : Int) {R : List (List Int)} {j : Nat} (h : j < R.length) : (rampR k R)[j]? = some (rampAt k R j) := by simp [rampR, h]
theorem ahead_snoc {R : List (List Int)} {j : Nat} {r : List Int} (h : R[j]? = some r) : ahead (R.take (j + 1)) = ahead (R.take j) + r.length := by rw [take_snoc h, ahead_append]; simp [ahead]
theorem map_setG {α : Type} (f : Nat → α) (P : List α) {k : Nat} (h : k < P.length) : ((List.range k).map f ++ P.drop k).set k (f k) = (List.range (k + 1)).map f ++ P.drop (k + 1) := by
  rw [List.set_append_right _ _ (by simp)]
  simp only [List.length_map, List.length_range, Nat.sub_self]
  rw [List.drop_eq_getElem_cons h, List.set_cons_zero, List.range_succ, List.map_append, List.append_assoc]
  rfl
theorem map_getG {α : Type} (f : Nat → α) (P : List α) {k : Nat} {x : α} (h : P[k]? = some x) : ((List.range k).map f ++ P.drop k)[k]? = some x := by
  rw [List.getElem?_append_right (by simp)]
  simp [h]

def MarkPost (A : Option Addr) (n c base C : Nat) (T T' : TypeId) (vs : List Value) (R : List (List Int)) (k0 : Int) (w : World) (e : Ending) (w' : World) : Prop :=
  e = .returned (.int .i64 (k0 + ahead R)) ∧ OwnRR w' base T T' (.slice A n c) n vs (rampR k0 R) ∧ TurnedIn base C w w'

set_option maxHeartbeats 1000000 in
theorem markIntSS_any (A : Option Addr) (n c base C : Nat) (T T' : TypeId) (vs : List Value) (R : List (List Int)) (k0 : Int) (w : World) (h : OwnRR w base T T' (.slice A n c) n vs R) (hC : ∀ (j : Nat) u, vs[j]? = some u → ∀ g, u.ownBlock = some g → g < C)
    (hk0 : 0 ≤ k0 ∧ k0 ≤ 1048576) (hn : n ≤ 1048576) (hr : ∀ r ∈ R, r.length ≤ 1048576) :
    Calls Try.prog 25 #[.slice A n c, .int .i64 k0] w (MarkPost A n c base C T T' vs R k0 w) := by
  obtain ⟨k00, k01⟩ := hk0
  have hr' := Lib.hid hr
  have hC' := Lib.hid hC
  have hlr := Lib.hid h.lenR
  clear hr hC
  by_cases hn0 : n = 0
  · subst hn0
    obtain rfl : R = [] := List.eq_nil_of_length_eq_zero h.lenR
    have H := Lib.hid h
    clear h
    go_enter Try.func25, Try.ntmps25
    go_wp2
    go_loopw [1, 5] (fun k i wr => k = .int .i64 k0 ∧ i = .int .i64 0 ∧ wr = w) (fun _ _ _ => 0)
    case atStart => exact ⟨rfl, rfl, rfl⟩
    case round =>
      obtain ⟨rfl, rfl, rfl⟩ := hrel
      go_wp2
      go_ret
      exact ⟨ret_int (by simp [ahead]), H.out, TurnedIn.refl _ _ _⟩
  · obtain ⟨g, c', e, hbg, hgl, hnc⟩ := h.own.head (by omega)
    injection e with e1 e2 e3
    subst e1
    have H := Lib.hid h
    clear h
    go_enter Try.func25, Try.ntmps25
    go_wp2
    go_loopw [1, 5] (fun k i wr => ∃ (j N : Nat), j ≤ n ∧ i = .int .i64 j ∧ k = .int .i64 (k0 + (N : Int)) ∧ Hid (N = ahead (R.take j)) ∧ N ≤ 1048576 * j ∧ OwnRR wr base T T' (.slice (some ⟨g, 0, none⟩) n c) n vs ((List.range j).map (rampAt k0 R) ++ R.drop j) ∧ TurnedIn base C w wr) (fun _ i _ => n - (intOf i).toNat)
    case atStart => exact ⟨0, 0, Nat.zero_le _, rfl, by simp, Lib.hid (by simp [ahead]), by omega, by simpa using H.out, TurnedIn.refl _ _ _⟩
    case round =>
      obtain ⟨j, N, hj, rfl, rfl, hN, hN1, hO, hG⟩ := hrel
      by_cases hlt : j < n
      · have hjR : j < R.length := by rw [hlr.out]; exact hlt
        have hjv : j < vs.length := by rw [hO.own.1]; exact hlt
        obtain ⟨r, hx⟩ : ∃ r, R[j]? = some r := ⟨_, List.getElem?_eq_getElem hjR⟩
        obtain ⟨u, hu⟩ : ∃ u, vs[j]? = some u := ⟨_, List.getElem?_eq_getElem hjv⟩
        have hrl := hr'.out r (List.mem_of_getElem? hx)
        have q0 := hO.cellAt hu
        have hrow := hO.row j u r hu (map_getG (rampAt k0 R) R hx)
        obtain ⟨Au, cu, rfl, hcu, _⟩ := hrow.form
        have K := Lib.hid (markIntS_any Au r.length cu base T' r (k0 + N) wr hrow (by omega) (by omega))
        have HO := Lib.hid hO
        have HX := Lib.hid hx
        have HU := Lib.hid hu
        clear hO hx hu hrow hjR hjv
        go_wp2_with fail
        refine K.out.mono ?_
        rintro e w2 ⟨rfl, o2, g2⟩
        have HN := Lib.hid (show N + r.length = ahead (R.take (j + 1)) by rw [ahead_snoc HX.out, hN.out])
        have h2 := HO.out.inner (r' := ramp (k0 + N) r.length) HU.out (by rw [ramp_length]; exact o2) g2
        have e2 : ramp (k0 + N) r.length = rampAt k0 R j := by rw [rampAt_of HX.out, hN.out]
        rw [e2, map_setG (rampAt k0 R) R (by rw [hlr.out]; exact hlt)] at h2
        have H2 := Lib.hid h2
        have HG := Lib.hid (hG.trans (TurnedIn.ofGrown g2 fun b hb => ⟨(HO.out.lt HU.out b hb).1, hC'.out j _ HU.out b hb⟩))
        clear h2 e2 o2 g2 hG HO K q0
        go_wp2
        go_roundw
        case rel => exact ⟨j + 1, N + r.length, by omega, by go_num, by first | go_num | (congr 1; omega), HN, by omega, H2.out, HG.out⟩
        case measure => simp [intOf]; omega
      · obtain rfl : j = n := by omega
        have hE := Lib.hid (show (List.range j).map (rampAt k0 R) ++ R.drop j = rampR k0 R by
          unfold rampR; rw [hlr.out, List.drop_of_length_le (by rw [hlr.out]; exact Nat.le_refl _), List.append_nil])
        have hF := Lib.hid (show N = ahead R by rw [hN.out, List.take_of_length_le (by rw [hlr.out]; exact Nat.le_refl _)])
        go_wp2
        go_ret
        exact ⟨ret_int (by rw [← hF.out]), by rw [← hE.out]; exact hO, hG⟩

set_option maxHeartbeats 1000000 in
theorem heldIntSS_any (A : Option Addr) (n c : Nat) (R : List (List Int)) (k0 : Int) (w : World) (h : Rows2 w w.heap.size A n (rampR k0 R)) (hk0 : 0 ≤ k0 ∧ k0 ≤ 1048576) (hn : n ≤ 1048576) (hr : ∀ r ∈ R, r.length ≤ 1048576) :
    Calls Try.prog 26 #[.slice A n c, .int .i64 k0] w fun e w' => e = .returned (.int .i64 (k0 + ahead R)) ∧ Below w.heap.size w w' := by
  obtain ⟨k00, k01⟩ := hk0
  have hr' := Lib.hid hr
  have hlr := Lib.hid (show R.length = n by have := h.len; simpa [rampR] using this)
  clear hr
  go_enter Try.func26, Try.ntmps26
  go_wp2
  go_loopw [1, 5] (fun k i wr => ∃ (j N : Nat), j ≤ n ∧ i = .int .i64 j ∧ k = .int .i64 (k0 + (N : Int)) ∧ Hid (N = ahead (R.take j)) ∧ N ≤ 1048576 * j ∧ Below w.heap.size w wr) (fun _ i _ => n - (intOf i).toNat)
  case atStart => exact ⟨0, 0, Nat.zero_le _, rfl, by simp, Lib.hid (by simp [ahead]), by omega, Below.refl _ _⟩
  case round =>
    obtain ⟨j, N, hj, rfl, rfl, hN, hN1, hb⟩ := hrel
    by_cases hlt : j < n
    · have hjR : j < R.length := by rw [hlr.out]; exact hlt
      obtain ⟨r, hx⟩ : ∃ r, R[j]? = some r := ⟨_, List.getElem?_eq_getElem hjR⟩
      have hrl := hr'.out r (List.mem_of_getElem? hx)
      obtain ⟨b, off, r2, A', c', rfl, hbB, hx2, d1, hc1, ha⟩ := h.row hlt
      rw [rampR_get k0 hjR, rampAt_of hx, ← hN.out] at hx2
      injection hx2 with hx2
      subst hx2
      rw [ramp_length] at d1 ha
      have K := Lib.hid (heldIntS_any A' r.length c' (k0 + N) wr ((ha.below' hb).more hb.size) (by omega) (by omega))
      have d1' := (hb.cell (by exact hbB)).trans d1
      have HN := Lib.hid (show N + r.length = ahead (R.take (j + 1)) by rw [ahead_snoc hx, hN.out])
      clear hx ha d1 hc1 hjR
      go_wp2_with fail
      refine K.out.mono ?_
      rintro e w2 ⟨rfl, b2⟩
      have HB := hb.trans (b2.mono hb.size)
      have f1 : ¬ (k0 + (N : Int) + (r.length : Int) < 0) := by omega
      clear hb b2 K d1'
      go_wp2
      go_roundw
      case rel => exact ⟨j + 1, N + r.length, by omega, by go_num, by first | go_num | (congr 1; omega), HN, by omega, HB⟩
      case measure => simp [intOf]; omega
    · obtain rfl : j = n := by omega
      have hF := Lib.hid (show N = ahead R by rw [hN.out, List.take_of_length_le (by rw [hlr.out]; exact Nat.le_refl _)])
      go_wp2
      go_ret
      exact ⟨ret_int (by rw [← hF.out]), hb⟩
end Go.Proofs.Ytfohfcpnhhiemaa
