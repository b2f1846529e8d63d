/-
  Execute is known at every line, so the program's Execute is known at every text.
-/
import Derived.Test.YtefadlbfkhndfaaGreatDoorLinesA
import Derived.Test.YtefadlbfkhndfaaGreatDoorLinesLA
import Derived.Test.YtefadlbfkhndfaaGreatDoorLinesCut
namespace Go.Proofs.YtefadlbfkhndfaaGreatDoor
open Go.RowKit
set_option linter.unusedSimpArgs false
set_option linter.unusedVariables false

theorem lineOk_all {s : St} (hs : s.ok) (ws : List (List UInt8)) (hne : ws ≠ []) (hw : ∀ x ∈ ws, x.length ≤ 1000000) (hl : ws.length ≤ 900000) : LineOk s ws := by
  obtain ⟨hC, hL⟩ := hs
  have c20 := ((coreB_iff _).1 hC).2
  have l40 := ((layB_iff _).1 hL).2
  cases ws with
  | nil => exact absurd rfl hne
  | cons c r =>
    have hc := hw c List.mem_cons_self
    have hr : r.length ≤ 900000 := by simp at hl; omega
    by_cases h : ∀ k, wantOf c = some k → k ≠ (r.length : Int)
    · exact lineOk_what hc hr h
    · obtain ⟨k, hk, hkr⟩ : ∃ k, wantOf c = some k ∧ k = (r.length : Int) := by
        apply Classical.byContradiction
        intro hn
        exact h (fun k h1 h2 => hn ⟨k, h1, h2⟩)
      rcases wantOf_some hk with ⟨rfl, rfl⟩ | ⟨rfl, rfl⟩ | ⟨rfl, rfl⟩ | ⟨rfl, rfl⟩ | ⟨rfl, rfl⟩ | ⟨rfl, rfl⟩ | ⟨rfl, rfl⟩ | ⟨rfl, rfl⟩ | ⟨rfl, rfl⟩
      · match r, hkr, hw with
        | [a, b], _, hw => exact lineOk_pieceA (hw a (by simp)) (hw b (by simp)) (by omega)
        | [], h, _ => simp at h
        | [_], h, _ => simp at h
        | _ :: _ :: _ :: t, h, _ => simp at h; omega
      · match r, hkr, hw with
        | [a], _, hw => exact lineOk_cutA (hw a (by simp)) hC
        | [], h, _ => simp at h
        | _ :: _ :: t, h, _ => simp at h; omega
      · match r, hkr, hw with
        | [], _, hw => exact lineOk_joinA hC
        | _ :: t, h, _ => simp at h; omega
      · match r, hkr, hw with
        | [a], _, hw => exact lineOk_layerA (hw a (by simp)) (by omega)
        | [], h, _ => simp at h
        | _ :: _ :: t, h, _ => simp at h; omega
      · match r, hkr, hw with
        | [], _, hw => exact lineOk_coreA (by omega)
        | _ :: t, h, _ => simp at h; omega
      · match r, hkr, hw with
        | [], _, hw => exact lineOk_lengthA hC
        | _ :: t, h, _ => simp at h; omega
      · match r, hkr, hw with
        | [a, b], _, hw => exact lineOk_countA (hw a (by simp)) (hw b (by simp)) (by omega)
        | [], h, _ => simp at h
        | [_], h, _ => simp at h
        | _ :: _ :: _ :: t, h, _ => simp at h; omega
      · match r, hkr, hw with
        | [a], _, hw => exact lineOk_ageA (hw a (by simp)) (by omega)
        | [], h, _ => simp at h
        | _ :: _ :: t, h, _ => simp at h; omega
      · match r, hkr, hw with
        | [a], _, hw => exact lineOk_yearA (hw a (by simp))
        | [], h, _ => simp at h
        | _ :: _ :: t, h, _ => simp at h; omega

set_option maxHeartbeats 1000000 in
theorem implExecute_all (t : List UInt8) (ht : t.length ≤ 1000000000) (w : World) (hT : Tab w) (hE : Errs w) :
    Calls Tryz.prog 15 #[.string (tx t)] w fun e w' => e = .returned (.string (tx (execT t))) ∧ Below w.heap.size w w' := by
  by_cases hl : t.length ≤ 500
  · refine implExecute_any t hl w hT hE (fun j x hx => ?_) (run_small _)
    have hm : x ∈ splitB 10 t := List.dropLast_subset _ (List.mem_of_getElem? hx)
    have hx5 := (splitB_bd 10 t).2 x hm
    obtain ⟨h1, h2⟩ := splitB_bd 32 x
    exact lineOk_all (runX_ok st0_ok) _ (splitB_ne 32 x) (fun y hy => by have := h2 y hy; omega) (by omega)
  · have hE2 := Lib.hid (show execT t = tooLong by unfold execT; rw [if_pos (by omega)])
    have hz : (tx t).size = t.length := tx_size t
    have f0 : 500 < ((tx t).size : Int) := by omega
    go_enter Tryz.func15, Tryz.ntmps15
    go_wp2_with fail
    go_ret
    exact ⟨ret_str (by rw [hE2.out]; rfl), Below.refl _ _⟩
end Go.Proofs.YtefadlbfkhndfaaGreatDoor
