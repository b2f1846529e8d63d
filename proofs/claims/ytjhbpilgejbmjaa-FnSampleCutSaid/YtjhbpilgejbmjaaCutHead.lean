/-
  What all laws on SampleCut share.
-/
import Derived.Test.YtjhbpilgejbmjaaSpecCut
import Derived.Test.YtjhbpilgejbmjaaDrawCut
import Derived.Test.YtjhbpilgejbmjaaInts
namespace Go.Proofs.Ytjhbpilgejbmjaa
open Go.RowKit
set_option linter.unusedSimpArgs false
set_option linter.unusedVariables false

theorem Own.cap {α : Type} {f : α → List Value} {sz : Nat} {w : World} {base : Nat} {T : TypeId} {A : Option Addr} {n c : Nat} {l : List α} (h : Own f sz w base T (.slice A n c) n l) : n ≤ c := by
  obtain ⟨_, _, e, h1, _⟩ := h.form; injection e with _ _ e2; omega
theorem cut_count (l : List Pc) (os : List (Int × Int)) (kf : Int) : (cutX (cutAll l os kf)).length ≤ 160 := by
  cases hr : cutAll l os kf with
  | none => simp [cutX]
  | some q =>
    obtain ⟨xs, M⟩ := q
    obtain ⟨hB, hO, hk, hc⟩ := cutAll_some hr
    have hall := ((ordersB_iff os).1 hO).1
    have h1 := (cutW_good hk.1 (fun x hx => (widths_all hall x hx).1) ((coreB_iff l).1 hB).1 hc).2.2
    have h2 := widths_bd hall
    have h3 := ((ordersB_iff os).1 hO).2
    show xs.length ≤ 160
    omega
end Go.Proofs.Ytjhbpilgejbmjaa
