/-
  Contract: the program's CoreHas.
-/
import Derived.Test.YtjhbpilgejbmjaaCore
namespace Go.Proofs.Ytjhbpilgejbmjaa
open Go.RowKit
set_option linter.unusedSimpArgs false
set_option linter.unusedVariables false

def hasAt (d : Int) : List Pc → Nat → Int
  | [], _ => -1
  | p :: t, i => if p.1 ≤ d ∧ d < p.2 then (i : Int) else hasAt d t (i + 1)
theorem hasClo_any (x y d : Int) (bd : Nat) (w : World) (hd : w.cell? ⟨bd, 0, none⟩ = some (.int .i64 d)) (hb : bd < w.heap.size) :
    Calls Try.prog 50 #[.agg #[.int .i64 x, .int .i64 y], .pointer (some ⟨bd, 0, none⟩)] w fun e w' => e = .returned (.bool (decide (x ≤ d ∧ d < y))) ∧ Below w.heap.size w w' := by
  have hne : ¬ bd = w.heap.size := by omega
  by_cases h1 : x ≤ d
  · by_cases h2 : d < y
    · go_enter Try.func50, Try.ntmps50
      go_wp2
      go_ret
      exact ⟨ret_bool (by simp; try omega), by go_grown⟩
    · go_enter Try.func50, Try.ntmps50
      go_wp2
      go_ret
      exact ⟨ret_bool (by simp; try omega), by go_grown⟩
  · go_enter Try.func50, Try.ntmps50
    go_wp2
    go_ret
    exact ⟨ret_bool (by simp; try omega), by go_grown⟩

set_option maxHeartbeats 1000000 in
theorem indexHas_any (A : Option Addr) (n c : Nat) (l : List Pc) (d : Int) (bd : Nat) (w : World) (h : Arr PP 2 w w.heap.size A n l) (hn : n ≤ 1099511627776) (hd : w.cell? ⟨bd, 0, none⟩ = some (.int .i64 d)) (hb : bd < w.heap.size) :
    Calls Try.prog 49 #[.slice A n c, .func (.func 50) #[] #[.pointer (some ⟨bd, 0, none⟩)]] w fun e w' => e = .returned (.int .i64 (hasAt d l 0)) ∧ Below w.heap.size w w' := by
  have hln := Lib.hid h.1
  go_enter Try.func49, Try.ntmps49
  go_wp2
  go_loopw [8] (fun i wr => ∃ k : Nat, k ≤ n ∧ i = .int .i64 k ∧ hasAt d (l.drop k) k = hasAt d l 0 ∧ Below w.heap.size w wr) (fun i _ => n - (intOf i).toNat)
  case atStart => exact ⟨0, Nat.zero_le _, rfl, rfl, Below.refl _ _⟩
  case round =>
    obtain ⟨k, hk, rfl, hs, hbw⟩ := hrel
    have HS := Lib.hid hs
    clear hs
    by_cases hlt : k < n
    · obtain ⟨b, off, x, y, rfl, hbB, hx, c1, c2⟩ := h.pair hlt
      have hE := Lib.hid (drop_cons hx)
      have c1' := (hbw.cell (by exact hbB)).trans c1
      have c2' := (hbw.cell (by exact hbB)).trans c2
      have hd' := (hbw.cell (by exact hb)).trans hd
      have hb' : bd < wr.heap.size := by have := hbw.size; omega
      have C := hasClo_any x y d bd wr hd' hb'
      have bB := hbw.size
      by_cases hin : x ≤ d ∧ d < y
      · rw [decide_eq_true hin] at C
        have C' := Lib.hid C
        have hg := Lib.hid (show hasAt d l 0 = k by rw [← HS.out, hE.out, hasAt, if_pos hin])
        clear C hd' hin hE
        go_wp2_with fail
        refine C'.out.mono ?_
        rintro e w2 ⟨rfl, hb2⟩
        go_wp2
        go_ret
        exact ⟨ret_int hg.out.symm, hbw.trans (hb2.mono bB)⟩
      · rw [decide_eq_false hin] at C
        have C' := Lib.hid C
        have hg := Lib.hid (show hasAt d (l.drop (k + 1)) (k + 1) = hasAt d l 0 by rw [← HS.out, hE.out, hasAt, if_neg hin])
        clear C hd' hin hE
        go_wp2_with fail
        refine C'.out.mono ?_
        rintro e w2 ⟨rfl, hb2⟩
        go_wp2
        go_roundw
        case rel => exact ⟨k + 1, by omega, by go_num, hg.out, hbw.trans (hb2.mono bB)⟩
        case measure => simp [intOf]; omega
    · have hE := drop_end (l := l) (k := k) (by rw [hln.out]; omega)
      have hg := Lib.hid (show hasAt d l 0 = -1 by rw [← HS.out, hE]; rfl)
      clear hE
      go_wp2
      go_ret
      exact ⟨ret_int hg.out.symm, hbw⟩

def hasR (l : List Pc) (d : Int) : Int := if coreB l = true then hasAt d l 0 else -1
theorem hasAt_some {l : List Pc} {d : Int} : ∀ {i : Nat} {p : Pc} {k : Nat}, coreFrom 0 l = true → l[k]? = some p → p.1 ≤ d ∧ d < p.2 → hasAt d l i = ((i + k : Nat) : Int) := by
  have gen : ∀ (l : List Pc) (d0 : Int) (i : Nat) (p : Pc) (k : Nat), coreFrom d0 l = true → l[k]? = some p → p.1 ≤ d ∧ d < p.2 → hasAt d l i = ((i + k : Nat) : Int) := by
    intro l
    induction l with
    | nil => intro d0 i p k _ h; simp at h
    | cons q t ih =>
      intro d0 i p k hF h hp
      have h' := (coreFrom_cons _ _ _).1 hF
      rw [hasAt]
      cases k with
      | zero => simp at h; subst h; rw [if_pos hp]; rfl
      | succ k =>
        have hk : t[k]? = some p := by simpa using h
        have := coreFrom_mem h'.2 p (List.mem_of_getElem? hk)
        rw [if_neg (by omega), ih _ (i + 1) p k h'.2 hk hp]
        congr 1
        omega
  intro i p k hF h hp
  exact gen l 0 i p k hF h hp

set_option maxHeartbeats 1000000 in
theorem implHas_any (A : Option Addr) (n c : Nat) (l : List Pc) (d : Int) (w : World) (h : Arr PP 2 w w.heap.size A n l) (hn : n ≤ 1099511627776) :
    Calls Try.prog 21 #[.slice A n c, .int .i64 d] w fun e w' => e = .returned (.int .i64 (hasR l d)) ∧ Below w.heap.size w w' := by
  have hmf : ∀ (fn : Fn) (first cap : Array Value) (w : World), (Instr.makeFunc fn first cap).run Try.prog w = .ok (.func fn first cap) w := fun _ _ _ _ => rfl
  have h1 := (h.alloc (Nat.le_refl _) (.cells #[.int .i64 d] 3)).more (show w.heap.size ≤ (w.alloc (.cells #[.int .i64 d] 3)).heap.size by simp)
  have b1 : Below w.heap.size w (w.alloc (.cells #[.int .i64 d] 3)) := (Below.refl w.heap.size w).alloc (Nat.le_refl _) _
  have d1 : (w.alloc (.cells #[.int .i64 d] 3)).cell? ⟨w.heap.size, 0, none⟩ = some (.int .i64 d) := (cell_of_row _ _ 0 _ _ _ (heap_alloc_new _ _)).trans rfl
  have z1 : w.heap.size < (w.alloc (.cells #[.int .i64 d] 3)).heap.size := by simp
  have C := implCoreValid_any A n c l _ h1 hn
  have H1 := Lib.hid h1
  have D1 := Lib.hid d1
  have Z1 := Lib.hid z1
  clear h1 d1 z1
  cases hB : coreB l with
  | false =>
    rw [hB] at C
    have C' := Lib.hid C
    have hL := Lib.hid (show hasR l d = -1 by unfold hasR; rw [hB]; rfl)
    clear C hB
    go_enter Try.func21, Try.ntmps21
    go_wp2_with fail
    refine C'.out.mono ?_
    rintro e w1 ⟨rfl, hb⟩
    go_wp2
    go_ret
    exact ⟨ret_int hL.out.symm, b1.trans (hb.mono b1.size)⟩
  | true =>
    rw [hB] at C
    have C' := Lib.hid C
    have hL := Lib.hid (show hasR l d = hasAt d l 0 by unfold hasR; rw [hB]; rfl)
    clear C hB
    go_enter Try.func21, Try.ntmps21
    go_wp2_with fail
    refine C'.out.mono ?_
    rintro e w1 ⟨rfl, hb⟩
    have K := Lib.hid (indexHas_any A n c l d w.heap.size w1 ((H1.out.below' hb).more hb.size) hn ((hb.cell (by exact Z1.out)).trans D1.out) (Nat.lt_of_lt_of_le Z1.out hb.size))
    go_wp2_with fail
    refine K.out.mono ?_
    rintro e w2 ⟨rfl, hb2⟩
    go_wp2
    go_ret
    exact ⟨ret_int hL.out.symm, b1.trans ((hb.trans (hb2.mono hb.size)).mono b1.size)⟩
end Go.Proofs.Ytjhbpilgejbmjaa
