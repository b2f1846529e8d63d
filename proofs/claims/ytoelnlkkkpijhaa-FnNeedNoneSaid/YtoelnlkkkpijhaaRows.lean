/-
  No cell of these rows narrows 'for every input' (looked for: loops, veiled, ifaces, maps, wideKeys, modest, calm, conditions, laid).
  DERIVED. THE GIVEN ROWS OF THIS SEAT. 10 by the template 'for every input the law returns true; each argument reads behind the call as it read before'; 0 by the template 'total and deterministic' (their statements: YtoelnlkkkpijhaaTotals.lean).
  GIVEN WITH THE SEED: the statements are not yours to turn. If you find one false, say at which input.
  Laid BY PROGRAM, IN A SANDBOX (cutbox-rows.mjs): the forced cells as the released guide's own fill.sh prints them over the translation b2532bc8ec373219… (all of the seat's roots in one cut). By AI agents, Wed Nov 11 2026. No macro, syntax, notation, axiom, sorry.
-/
import Derived.Test.YtoelnlkkkpijhaaChecked
import GoSem.Claim
import GoSem.ClaimJoined
import GoSem.ClaimMapViews
import Derived.JoinedTies
import Derived.KernelRfl
namespace Go.Proofs.Ytoelnlkkkpijhaa
/- THE CELL 'sum', in the pinned program and in every row, IS THE sha256 OF THE DUMP (.gsa) THAT YtoelnlkkkpijhaaProg.lean LOADS. Nothing in Lean hashes anything: it is a label: what it is worth is what the hold of that sum in a sandbox is worth. -/
noncomputable def Try.pinned : Pinned := { name := "ytoelnlkkkpijhaa", sum := "b2532bc8ec3732190ec60e878a1df83e39bd3a3cd975b171435d2c629af9c43f", checked := Try.checked }
namespace Rows
def none {H : Type} : Left H := { results := [], args := [] }

/-- 'laws.FnExactSampleNeed': WHATEVER THE INPUT: true; the input reads as it did. -/
def fnExactSampleNeedSpec : ChangeSpec := { name := "fnExactSampleNeed", fn := fun _ => fun
  | [d] => { results := [.lit (.bool true)], args := [d] }
  | _ => none }
def fnExactSampleNeedRow : OpenClaim := { program := "ytoelnlkkkpijhaa", sum := "b2532bc8ec3732190ec60e878a1df83e39bd3a3cd975b171435d2c629af9c43f", func := "loop.example/icecores/laws.FnExactSampleNeed", spec := "fnExactSampleNeed", apart := false }
def FnExactSampleNeedSaid : Prop := fnExactSampleNeedRow.holds Try.pinned (OpenSpec.ofChange fnExactSampleNeedSpec)

/-- ITS FALSE NEIGHBOUR: 'it returns false'. Refute it at one input. -/
def fnExactSampleNeedWrong : ChangeSpec := { name := "fnExactSampleNeed", fn := fun _ => fun
  | [d] => { results := [.lit (.bool false)], args := [d] }
  | _ => none }
def FnExactSampleNeedWrongFalsely : Prop := fnExactSampleNeedRow.holds Try.pinned (OpenSpec.ofChange fnExactSampleNeedWrong)

/-- 'laws.FnNeed': WHATEVER THE INPUT: true; the input reads as it did. -/
def fnNeedSpec : ChangeSpec := { name := "fnNeed", fn := fun _ => fun
  | [d1, d2] => { results := [.lit (.bool true)], args := [d1, d2] }
  | _ => none }
def fnNeedRow : OpenClaim := { program := "ytoelnlkkkpijhaa", sum := "b2532bc8ec3732190ec60e878a1df83e39bd3a3cd975b171435d2c629af9c43f", func := "loop.example/icecores/laws.FnNeed", spec := "fnNeed", apart := false }
def FnNeedSaid : Prop := fnNeedRow.holds Try.pinned (OpenSpec.ofChange fnNeedSpec)

/-- ITS FALSE NEIGHBOUR: 'it returns false'. Refute it at one input. -/
def fnNeedWrong : ChangeSpec := { name := "fnNeed", fn := fun _ => fun
  | [d1, d2] => { results := [.lit (.bool false)], args := [d1, d2] }
  | _ => none }
def FnNeedWrongFalsely : Prop := fnNeedRow.holds Try.pinned (OpenSpec.ofChange fnNeedWrong)

/-- 'laws.FnNeedOrder': WHATEVER THE INPUT: true; the input reads as it did. -/
def fnNeedOrderSpec : ChangeSpec := { name := "fnNeedOrder", fn := fun _ => fun
  | [d1, d2] => { results := [.lit (.bool true)], args := [d1, d2] }
  | _ => none }
def fnNeedOrderRow : OpenClaim := { program := "ytoelnlkkkpijhaa", sum := "b2532bc8ec3732190ec60e878a1df83e39bd3a3cd975b171435d2c629af9c43f", func := "loop.example/icecores/laws.FnNeedOrder", spec := "fnNeedOrder", apart := false }
def FnNeedOrderSaid : Prop := fnNeedOrderRow.holds Try.pinned (OpenSpec.ofChange fnNeedOrderSpec)

/-- ITS FALSE NEIGHBOUR: 'it returns false'. Refute it at one input. -/
def fnNeedOrderWrong : ChangeSpec := { name := "fnNeedOrder", fn := fun _ => fun
  | [d1, d2] => { results := [.lit (.bool false)], args := [d1, d2] }
  | _ => none }
def FnNeedOrderWrongFalsely : Prop := fnNeedOrderRow.holds Try.pinned (OpenSpec.ofChange fnNeedOrderWrong)

/-- 'laws.FnExactSampleMost': WHATEVER THE INPUT: true; the input reads as it did. -/
def fnExactSampleMostSpec : ChangeSpec := { name := "fnExactSampleMost", fn := fun _ => fun
  | [d1, d2, d3] => { results := [.lit (.bool true)], args := [d1, d2, d3] }
  | _ => none }
def fnExactSampleMostRow : OpenClaim := { program := "ytoelnlkkkpijhaa", sum := "b2532bc8ec3732190ec60e878a1df83e39bd3a3cd975b171435d2c629af9c43f", func := "loop.example/icecores/laws.FnExactSampleMost", spec := "fnExactSampleMost", apart := false }
def FnExactSampleMostSaid : Prop := fnExactSampleMostRow.holds Try.pinned (OpenSpec.ofChange fnExactSampleMostSpec)

/-- ITS FALSE NEIGHBOUR: 'it returns false'. Refute it at one input. -/
def fnExactSampleMostWrong : ChangeSpec := { name := "fnExactSampleMost", fn := fun _ => fun
  | [d1, d2, d3] => { results := [.lit (.bool false)], args := [d1, d2, d3] }
  | _ => none }
def FnExactSampleMostWrongFalsely : Prop := fnExactSampleMostRow.holds Try.pinned (OpenSpec.ofChange fnExactSampleMostWrong)

/-- 'laws.FnMostKerf': WHATEVER THE INPUT: true; the input reads as it did. -/
def fnMostKerfSpec : ChangeSpec := { name := "fnMostKerf", fn := fun _ => fun
  | [d] => { results := [.lit (.bool true)], args := [d] }
  | _ => none }
def fnMostKerfRow : OpenClaim := { program := "ytoelnlkkkpijhaa", sum := "b2532bc8ec3732190ec60e878a1df83e39bd3a3cd975b171435d2c629af9c43f", func := "loop.example/icecores/laws.FnMostKerf", spec := "fnMostKerf", apart := false }
def FnMostKerfSaid : Prop := fnMostKerfRow.holds Try.pinned (OpenSpec.ofChange fnMostKerfSpec)

/-- ITS FALSE NEIGHBOUR: 'it returns false'. Refute it at one input. -/
def fnMostKerfWrong : ChangeSpec := { name := "fnMostKerf", fn := fun _ => fun
  | [d] => { results := [.lit (.bool false)], args := [d] }
  | _ => none }
def FnMostKerfWrongFalsely : Prop := fnMostKerfRow.holds Try.pinned (OpenSpec.ofChange fnMostKerfWrong)

/-- 'laws.FnMostPieces': WHATEVER THE INPUT: true; the input reads as it did. -/
def fnMostPiecesSpec : ChangeSpec := { name := "fnMostPieces", fn := fun _ => fun
  | [d] => { results := [.lit (.bool true)], args := [d] }
  | _ => none }
def fnMostPiecesRow : OpenClaim := { program := "ytoelnlkkkpijhaa", sum := "b2532bc8ec3732190ec60e878a1df83e39bd3a3cd975b171435d2c629af9c43f", func := "loop.example/icecores/laws.FnMostPieces", spec := "fnMostPieces", apart := false }
def FnMostPiecesSaid : Prop := fnMostPiecesRow.holds Try.pinned (OpenSpec.ofChange fnMostPiecesSpec)

/-- ITS FALSE NEIGHBOUR: 'it returns false'. Refute it at one input. -/
def fnMostPiecesWrong : ChangeSpec := { name := "fnMostPieces", fn := fun _ => fun
  | [d] => { results := [.lit (.bool false)], args := [d] }
  | _ => none }
def FnMostPiecesWrongFalsely : Prop := fnMostPiecesRow.holds Try.pinned (OpenSpec.ofChange fnMostPiecesWrong)

/-- 'laws.FnNeedNone': WHATEVER THE INPUT: true; the input reads as it did. -/
def fnNeedNoneSpec : ChangeSpec := { name := "fnNeedNone", fn := fun _ => fun
  | [d] => { results := [.lit (.bool true)], args := [d] }
  | _ => none }
def fnNeedNoneRow : OpenClaim := { program := "ytoelnlkkkpijhaa", sum := "b2532bc8ec3732190ec60e878a1df83e39bd3a3cd975b171435d2c629af9c43f", func := "loop.example/icecores/laws.FnNeedNone", spec := "fnNeedNone", apart := false }
def FnNeedNoneSaid : Prop := fnNeedNoneRow.holds Try.pinned (OpenSpec.ofChange fnNeedNoneSpec)

/-- ITS FALSE NEIGHBOUR: 'it returns false'. Refute it at one input. -/
def fnNeedNoneWrong : ChangeSpec := { name := "fnNeedNone", fn := fun _ => fun
  | [d] => { results := [.lit (.bool false)], args := [d] }
  | _ => none }
def FnNeedNoneWrongFalsely : Prop := fnNeedNoneRow.holds Try.pinned (OpenSpec.ofChange fnNeedNoneWrong)

/-- 'laws.FnMostLess': WHATEVER THE INPUT: true; the input reads as it did. -/
def fnMostLessSpec : ChangeSpec := { name := "fnMostLess", fn := fun _ => fun
  | [d] => { results := [.lit (.bool true)], args := [d] }
  | _ => none }
def fnMostLessRow : OpenClaim := { program := "ytoelnlkkkpijhaa", sum := "b2532bc8ec3732190ec60e878a1df83e39bd3a3cd975b171435d2c629af9c43f", func := "loop.example/icecores/laws.FnMostLess", spec := "fnMostLess", apart := false }
def FnMostLessSaid : Prop := fnMostLessRow.holds Try.pinned (OpenSpec.ofChange fnMostLessSpec)

/-- ITS FALSE NEIGHBOUR: 'it returns false'. Refute it at one input. -/
def fnMostLessWrong : ChangeSpec := { name := "fnMostLess", fn := fun _ => fun
  | [d] => { results := [.lit (.bool false)], args := [d] }
  | _ => none }
def FnMostLessWrongFalsely : Prop := fnMostLessRow.holds Try.pinned (OpenSpec.ofChange fnMostLessWrong)

/-- 'laws.FnMostOne': WHATEVER THE INPUT: true; the input reads as it did. -/
def fnMostOneSpec : ChangeSpec := { name := "fnMostOne", fn := fun _ => fun
  | [d] => { results := [.lit (.bool true)], args := [d] }
  | _ => none }
def fnMostOneRow : OpenClaim := { program := "ytoelnlkkkpijhaa", sum := "b2532bc8ec3732190ec60e878a1df83e39bd3a3cd975b171435d2c629af9c43f", func := "loop.example/icecores/laws.FnMostOne", spec := "fnMostOne", apart := false }
def FnMostOneSaid : Prop := fnMostOneRow.holds Try.pinned (OpenSpec.ofChange fnMostOneSpec)

/-- ITS FALSE NEIGHBOUR: 'it returns false'. Refute it at one input. -/
def fnMostOneWrong : ChangeSpec := { name := "fnMostOne", fn := fun _ => fun
  | [d] => { results := [.lit (.bool false)], args := [d] }
  | _ => none }
def FnMostOneWrongFalsely : Prop := fnMostOneRow.holds Try.pinned (OpenSpec.ofChange fnMostOneWrong)

/-- 'laws.FnMostSamples': WHATEVER THE INPUT: true; the input reads as it did. -/
def fnMostSamplesSpec : ChangeSpec := { name := "fnMostSamples", fn := fun _ => fun
  | [d] => { results := [.lit (.bool true)], args := [d] }
  | _ => none }
def fnMostSamplesRow : OpenClaim := { program := "ytoelnlkkkpijhaa", sum := "b2532bc8ec3732190ec60e878a1df83e39bd3a3cd975b171435d2c629af9c43f", func := "loop.example/icecores/laws.FnMostSamples", spec := "fnMostSamples", apart := false }
def FnMostSamplesSaid : Prop := fnMostSamplesRow.holds Try.pinned (OpenSpec.ofChange fnMostSamplesSpec)

/-- ITS FALSE NEIGHBOUR: 'it returns false'. Refute it at one input. -/
def fnMostSamplesWrong : ChangeSpec := { name := "fnMostSamples", fn := fun _ => fun
  | [d] => { results := [.lit (.bool false)], args := [d] }
  | _ => none }
def FnMostSamplesWrongFalsely : Prop := fnMostSamplesRow.holds Try.pinned (OpenSpec.ofChange fnMostSamplesWrong)

/- THE SECOND FORM. 'bulk': how many values and letters a reading holds, each counted each time it is reached (what is shared counts as often as it is met; a slice's spare places count too). A statement '..UptoSaid' is the law's where the arguments, and the package variables that the reading takes, are together of bulk at most 1048576: NARROWER than '..Said'. Prove '..Said' where nothing that the law and all that it calls make is longer than what came in: it says more and counts as full. Else prove '..UptoSaid'. A law counts once. -/
mutual
def uptoBulk {H : Type} : DataW H → Nat
  | .lit (.string bytes) => bytes.length + 1
  | .lit _ => 1
  | .nil => 1
  | .ptr d => uptoBulk d + 1
  | .slice elems spare => uptoBulkAll elems + uptoBulkAll spare + 1
  | .agg parts => uptoBulkAll parts + 1
  | .iface _ d => uptoBulk d + 1
  | .map entries => uptoBulkEntries entries + 1
  | .held _ => 1
def uptoBulkAll {H : Type} : List (DataW H) → Nat
  | [] => 0
  | d :: r => uptoBulk d + uptoBulkAll r
def uptoBulkEntries {H : Type} : List (Lit × DataW H) → Nat
  | [] => 0
  | x :: r => uptoBulkEntry x + uptoBulkEntries r
def uptoBulkEntry {H : Type} : Lit × DataW H → Nat
  | (.string bytes, d) => bytes.length + uptoBulk d + 1
  | (_, d) => uptoBulk d + 1
 end
def uptoSmall : (H : Type) → List (DataW H) → Bool := fun _ ds => decide (uptoBulkAll ds ≤ 1048576)
def OpenSpec.upto (s : _root_.Go.ChangeSpec) : _root_.Go.OpenSpec := { _root_.Go.OpenSpec.ofChange s with cond := some uptoSmall }

/-- 'laws.FnExactSampleNeed', WHERE WHAT IT READS IS OF BULK AT MOST 1048576: true; the input reads as it did. -/
def fnExactSampleNeedUptoRow : OpenClaim := { program := "ytoelnlkkkpijhaa", sum := "b2532bc8ec3732190ec60e878a1df83e39bd3a3cd975b171435d2c629af9c43f", func := "loop.example/icecores/laws.FnExactSampleNeed", spec := "fnExactSampleNeed", apart := false, narrowed := true }
def FnExactSampleNeedUptoSaid : Prop := fnExactSampleNeedUptoRow.holds Try.pinned (OpenSpec.upto fnExactSampleNeedSpec)

/-- 'laws.FnNeed', WHERE WHAT IT READS IS OF BULK AT MOST 1048576: true; the input reads as it did. -/
def fnNeedUptoRow : OpenClaim := { program := "ytoelnlkkkpijhaa", sum := "b2532bc8ec3732190ec60e878a1df83e39bd3a3cd975b171435d2c629af9c43f", func := "loop.example/icecores/laws.FnNeed", spec := "fnNeed", apart := false, narrowed := true }
def FnNeedUptoSaid : Prop := fnNeedUptoRow.holds Try.pinned (OpenSpec.upto fnNeedSpec)

/-- 'laws.FnNeedOrder', WHERE WHAT IT READS IS OF BULK AT MOST 1048576: true; the input reads as it did. -/
def fnNeedOrderUptoRow : OpenClaim := { program := "ytoelnlkkkpijhaa", sum := "b2532bc8ec3732190ec60e878a1df83e39bd3a3cd975b171435d2c629af9c43f", func := "loop.example/icecores/laws.FnNeedOrder", spec := "fnNeedOrder", apart := false, narrowed := true }
def FnNeedOrderUptoSaid : Prop := fnNeedOrderUptoRow.holds Try.pinned (OpenSpec.upto fnNeedOrderSpec)

/-- 'laws.FnExactSampleMost', WHERE WHAT IT READS IS OF BULK AT MOST 1048576: true; the input reads as it did. -/
def fnExactSampleMostUptoRow : OpenClaim := { program := "ytoelnlkkkpijhaa", sum := "b2532bc8ec3732190ec60e878a1df83e39bd3a3cd975b171435d2c629af9c43f", func := "loop.example/icecores/laws.FnExactSampleMost", spec := "fnExactSampleMost", apart := false, narrowed := true }
def FnExactSampleMostUptoSaid : Prop := fnExactSampleMostUptoRow.holds Try.pinned (OpenSpec.upto fnExactSampleMostSpec)

/-- 'laws.FnMostKerf', WHERE WHAT IT READS IS OF BULK AT MOST 1048576: true; the input reads as it did. -/
def fnMostKerfUptoRow : OpenClaim := { program := "ytoelnlkkkpijhaa", sum := "b2532bc8ec3732190ec60e878a1df83e39bd3a3cd975b171435d2c629af9c43f", func := "loop.example/icecores/laws.FnMostKerf", spec := "fnMostKerf", apart := false, narrowed := true }
def FnMostKerfUptoSaid : Prop := fnMostKerfUptoRow.holds Try.pinned (OpenSpec.upto fnMostKerfSpec)

/-- 'laws.FnMostPieces', WHERE WHAT IT READS IS OF BULK AT MOST 1048576: true; the input reads as it did. -/
def fnMostPiecesUptoRow : OpenClaim := { program := "ytoelnlkkkpijhaa", sum := "b2532bc8ec3732190ec60e878a1df83e39bd3a3cd975b171435d2c629af9c43f", func := "loop.example/icecores/laws.FnMostPieces", spec := "fnMostPieces", apart := false, narrowed := true }
def FnMostPiecesUptoSaid : Prop := fnMostPiecesUptoRow.holds Try.pinned (OpenSpec.upto fnMostPiecesSpec)

/-- 'laws.FnNeedNone', WHERE WHAT IT READS IS OF BULK AT MOST 1048576: true; the input reads as it did. -/
def fnNeedNoneUptoRow : OpenClaim := { program := "ytoelnlkkkpijhaa", sum := "b2532bc8ec3732190ec60e878a1df83e39bd3a3cd975b171435d2c629af9c43f", func := "loop.example/icecores/laws.FnNeedNone", spec := "fnNeedNone", apart := false, narrowed := true }
def FnNeedNoneUptoSaid : Prop := fnNeedNoneUptoRow.holds Try.pinned (OpenSpec.upto fnNeedNoneSpec)

/-- 'laws.FnMostLess', WHERE WHAT IT READS IS OF BULK AT MOST 1048576: true; the input reads as it did. -/
def fnMostLessUptoRow : OpenClaim := { program := "ytoelnlkkkpijhaa", sum := "b2532bc8ec3732190ec60e878a1df83e39bd3a3cd975b171435d2c629af9c43f", func := "loop.example/icecores/laws.FnMostLess", spec := "fnMostLess", apart := false, narrowed := true }
def FnMostLessUptoSaid : Prop := fnMostLessUptoRow.holds Try.pinned (OpenSpec.upto fnMostLessSpec)

/-- 'laws.FnMostOne', WHERE WHAT IT READS IS OF BULK AT MOST 1048576: true; the input reads as it did. -/
def fnMostOneUptoRow : OpenClaim := { program := "ytoelnlkkkpijhaa", sum := "b2532bc8ec3732190ec60e878a1df83e39bd3a3cd975b171435d2c629af9c43f", func := "loop.example/icecores/laws.FnMostOne", spec := "fnMostOne", apart := false, narrowed := true }
def FnMostOneUptoSaid : Prop := fnMostOneUptoRow.holds Try.pinned (OpenSpec.upto fnMostOneSpec)

/-- 'laws.FnMostSamples', WHERE WHAT IT READS IS OF BULK AT MOST 1048576: true; the input reads as it did. -/
def fnMostSamplesUptoRow : OpenClaim := { program := "ytoelnlkkkpijhaa", sum := "b2532bc8ec3732190ec60e878a1df83e39bd3a3cd975b171435d2c629af9c43f", func := "loop.example/icecores/laws.FnMostSamples", spec := "fnMostSamples", apart := false, narrowed := true }
def FnMostSamplesUptoSaid : Prop := fnMostSamplesUptoRow.holds Try.pinned (OpenSpec.upto fnMostSamplesSpec)

end Rows
end Go.Proofs.Ytoelnlkkkpijhaa
