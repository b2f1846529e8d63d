/-
  Contract: l51Line of the reference, at every line.
-/
import Derived.Test.YtefadlbfkhndfaaGreatDoorSpecLine2
import Derived.Test.YtefadlbfkhndfaaGreatDoorSpecLine3
import Derived.Test.YtefadlbfkhndfaaGreatDoorGD
namespace Go.Proofs.YtefadlbfkhndfaaGreatDoor
open Go.RowKit
set_option linter.unusedSimpArgs false
set_option linter.unusedVariables false

theorem l51Line_any (k c : Nat) (ws : List (List UInt8)) (s : St) (w : World) (v : Value) (h : SV w v s) (hs : s.ok) (hne : ws ≠ []) (hw : ∀ x ∈ ws, x.length ≤ 1000000) (hk : k < w.heap.size)
    (hc : ∀ j x, ws[j]? = some x → w.cell? ⟨k, j, none⟩ = some (.string (tx x))) :
    Calls Tryz.prog 42 #[v, .slice (some ⟨k, 0, none⟩) ws.length c] w (RetS w (lineX s ws).1 ((lineX s ws).2 ++ [10])) := by
  obtain ⟨hC, hL⟩ := hs
  have c20 := ((coreB_iff _).1 hC).2
  have l40 := ((layB_iff _).1 hL).2
  have hl1 : s.core.length ≤ 900 := by omega
  have hl2 : s.lays.length ≤ 900 := by omega
  cases ws with
  | nil => exact absurd rfl hne
  | cons C r =>
    have c0 := hc 0 C rfl
    by_cases hx : ∀ k, wantOf C = some k → k ≠ (r.length : Int)
    · rw [lineX_what hx]
      have key : ∀ (x : List UInt8) (m : Nat), wantOf x = some (m : Int) → C = x → r.length ≠ m := fun x m h1 h2 h3 => hx m (by rw [h2]; exact h1) (by omega)
      refine l51Line_ask k (C :: r).length c C (whatT ++ [10]) s w v h (by simp) hk c0 ⟨fun e => ?_, fun e => ?_, fun e => ?_, fun e => ?_⟩ (fun W V hV hB => ?_)
      · have := key wPiece 2 rfl e; rw [List.length_cons]; omega
      · have := key wCut 1 rfl e; rw [List.length_cons]; omega
      · have := key wJoin 0 rfl e; rw [List.length_cons]; omega
      · have := key wLayer 1 rfl e; rw [List.length_cons]; omega
      · refine l51Ask_what k (C :: r).length c C s W V hV (by simp) (Nat.lt_of_lt_of_le hk hB.size) ((hB.cell (p := ⟨k, 0, none⟩) hk).trans c0) ⟨fun e => ?_, fun e => ?_, fun e => ?_, fun e => ?_, fun e => ?_⟩
        · have := key wCore 0 rfl e; rw [List.length_cons]; omega
        · have := key wLength 0 rfl e; rw [List.length_cons]; omega
        · have := key wCount 2 rfl e; rw [List.length_cons]; omega
        · have := key wAge 1 rfl e; rw [List.length_cons]; omega
        · have := key wYear 1 rfl e; rw [List.length_cons]; omega
    · obtain ⟨m, hm, hmr⟩ : ∃ m, wantOf C = some m ∧ m = (r.length : Int) := by
        apply Classical.byContradiction
        intro hn
        exact hx (fun k h1 h2 => hn ⟨k, h1, h2⟩)
      rcases wantOf_some hm with ⟨rfl, rfl⟩ | ⟨rfl, rfl⟩ | ⟨rfl, rfl⟩ | ⟨rfl, rfl⟩ | ⟨rfl, rfl⟩ | ⟨rfl, rfl⟩ | ⟨rfl, rfl⟩ | ⟨rfl, rfl⟩ | ⟨rfl, rfl⟩
      · match r, hmr, hw, hc with
        | [a, b], _, hw, hc => exact l51Line_piece k c a (hw a (by simp)) b (hw b (by simp)) s w v h hl1 hl2 hk c0 (hc 1 a rfl) (hc 2 b rfl)
        | [], h, _, _ => simp at h
        | [_], h, _, _ => simp at h
        | _ :: _ :: _ :: t, h, _, _ => simp at h; omega
      · match r, hmr, hw, hc with
        | [a], _, hw, hc =>
          cases hcut : coreCutL s.core (dig a) with
          | some L' => exact l51Line_cut_yes k c a (hw a (by simp)) s w v h hl1 hl2 L' hcut hk c0 (hc 1 a rfl)
          | none => exact l51Line_cut_no k c a (hw a (by simp)) s w v h hl1 hl2 hcut hk c0 (hc 1 a rfl)
        | [], h, _, _ => simp at h
        | _ :: _ :: t, h, _, _ => simp at h; omega
      · match r, hmr with
        | [], _ => exact l51Line_join k c s w v h hl1 hl2 hC hk c0
        | _ :: t, h => simp at h; omega
      · match r, hmr, hw, hc with
        | [a], _, hw, hc => exact l51Line_layer k c a (hw a (by simp)) s w v h hl1 hl2 hk c0 (hc 1 a rfl)
        | [], h, _, _ => simp at h
        | _ :: _ :: t, h, _, _ => simp at h; omega
      · match r, hmr with
        | [], _ =>
          rw [line_core]
          exact l51Line_ask k 1 c wCore _ s w v h (by omega) hk c0 ⟨fun e => absurd e (by decide), fun e => absurd e (by decide), fun e => absurd e (by decide), fun e => absurd e (by decide)⟩ (fun W V hV hB => l51Ask_core k c s W V hV hl1 hl2 (Nat.lt_of_lt_of_le hk hB.size) ((hB.cell (p := ⟨k, 0, none⟩) hk).trans c0))
        | _ :: t, h => simp at h; omega
      · match r, hmr with
        | [], _ =>
          obtain ⟨hF, h20⟩ := (coreB_iff _).1 hC
          have hbd := lenOf_bd' hF
          obtain ⟨u, hu⟩ : ∃ u : Nat, coreLen s.core = (u : Int) := ⟨(lenOf s.core).toNat, by rw [coreLen_good hC]; omega⟩
          have hu3 : u ≤ 30000 := by rw [coreLen_good hC] at hu; omega
          rw [line_length, hu]
          exact l51Line_ask k 1 c wLength _ s w v h (by omega) hk c0 ⟨fun e => absurd e (by decide), fun e => absurd e (by decide), fun e => absurd e (by decide), fun e => absurd e (by decide)⟩ (fun W V hV hB => l51Ask_length k c s W V hV hl1 hl2 u hu (by omega) (Nat.lt_of_lt_of_le hk hB.size) ((hB.cell (p := ⟨k, 0, none⟩) hk).trans c0))
        | _ :: t, h => simp at h; omega
      · match r, hmr, hw, hc with
        | [a, b], _, hw, hc =>
          rw [line_count]
          exact l51Line_ask k 3 c wCount _ s w v h (by omega) hk c0 ⟨fun e => absurd e (by decide), fun e => absurd e (by decide), fun e => absurd e (by decide), fun e => absurd e (by decide)⟩ (fun W V hV hB => l51Ask_count k c a (hw a (by simp)) b (hw b (by simp)) s W V hV hl1 hl2 (Nat.lt_of_lt_of_le hk hB.size) ((hB.cell (p := ⟨k, 0, none⟩) hk).trans c0) ((hB.cell (p := ⟨k, 1, none⟩) hk).trans (hc 1 a rfl)) ((hB.cell (p := ⟨k, 2, none⟩) hk).trans (hc 2 b rfl)))
        | [], h, _, _ => simp at h
        | [_], h, _, _ => simp at h
        | _ :: _ :: _ :: t, h, _, _ => simp at h; omega
      · match r, hmr, hw, hc with
        | [a], _, hw, hc =>
          rw [line_age]
          exact l51Line_ask k 2 c wAge _ s w v h (by omega) hk c0 ⟨fun e => absurd e (by decide), fun e => absurd e (by decide), fun e => absurd e (by decide), fun e => absurd e (by decide)⟩ (fun W V hV hB => l51Ask_age k c a (hw a (by simp)) s W V hV hl1 hl2 (Nat.lt_of_lt_of_le hk hB.size) ((hB.cell (p := ⟨k, 0, none⟩) hk).trans c0) ((hB.cell (p := ⟨k, 1, none⟩) hk).trans (hc 1 a rfl)))
        | [], h, _, _ => simp at h
        | _ :: _ :: t, h, _, _ => simp at h; omega
      · match r, hmr, hw, hc with
        | [a], _, hw, hc =>
          rw [line_year]
          exact l51Line_ask k 2 c wYear _ s w v h (by omega) hk c0 ⟨fun e => absurd e (by decide), fun e => absurd e (by decide), fun e => absurd e (by decide), fun e => absurd e (by decide)⟩ (fun W V hV hB => l51Ask_year k c a (hw a (by simp)) s W V hV hl1 hl2 (Nat.lt_of_lt_of_le hk hB.size) ((hB.cell (p := ⟨k, 0, none⟩) hk).trans c0) ((hB.cell (p := ⟨k, 1, none⟩) hk).trans (hc 1 a rfl)))
        | [], h, _, _ => simp at h
        | _ :: _ :: t, h, _, _ => simp at h; omega
end Go.Proofs.YtefadlbfkhndfaaGreatDoor
