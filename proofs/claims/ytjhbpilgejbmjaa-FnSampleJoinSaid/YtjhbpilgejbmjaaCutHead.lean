/-
  What all laws on SampleCut share.
-/
import Derived.Test.YtjhbpilgejbmjaaSpecCut
import Derived.Test.YtjhbpilgejbmjaaDrawCut
import Derived.Test.YtjhbpilgejbmjaaInts
namespace Go.Proofs.Ytjhbpilgejbmjaa
open Go.RowKit
set_option linter.unusedSimpArgs false
set_option linter.unusedVariables false

theorem Own.cap {α : Type} {f : α → List Value} {sz : Nat} {w : World} {base : Nat} {T : TypeId} {A : Option Addr} {n c : Nat} {l : List α} (h : Own f sz w base T (.slice A n c) n l) : n ≤ c := by
  obtain ⟨_, _, e, h1, _⟩ := h.form; injection e with _ _ e2; omega
/-- Two rows that read alike are the same, at any later world. -/
theorem sameInts_later {A A' : Option Addr} {n c n' c' : Nat} {xs : List Int} {w : World} (h : Arr II 1 w w.heap.size A n xs) (h' : Arr II 1 w w.heap.size A' n' xs) (hn : xs.length ≤ 1099511627776 := by first | omega | simp) :
    ∀ W, Below w.heap.size w W → Calls Try.prog 16 #[.slice A n c, .slice A' n' c'] W fun e w' => e = .returned (.bool true) ∧ Below w.heap.size w w' := by
  intro W hW
  have S := sameInts_any A n c xs A' n' c' xs W ((h.below' hW).more hW.size) ((h'.below' hW).more hW.size) (by rw [← h.1]; exact hn) (by rw [← h'.1]; exact hn)
  rw [decide_eq_true rfl] at S
  exact S.mono fun e w' ⟨he, hb⟩ => ⟨he, hW.trans (hb.mono hW.size)⟩
theorem cut_count (l : List Pc) (os : List (Int × Int)) (kf : Int) : (cutX (cutAll l os kf)).length ≤ 160 := by
  cases hr : cutAll l os kf with
  | none => simp [cutX]
  | some q =>
    obtain ⟨xs, M⟩ := q
    obtain ⟨hB, hO, hk, hc⟩ := cutAll_some hr
    have hall := ((ordersB_iff os).1 hO).1
    have h1 := (cutW_good hk.1 (fun x hx => (widths_all hall x hx).1) ((coreB_iff l).1 hB).1 hc).2.2
    have h2 := widths_bd hall
    have h3 := ((ordersB_iff os).1 hO).2
    show xs.length ≤ 160
    omega
end Go.Proofs.Ytjhbpilgejbmjaa
