/-
  No cell of these rows narrows 'for every input' (looked for: loops, veiled, ifaces, maps, wideKeys, modest, calm, conditions, laid).
  DERIVED. THE GIVEN ROWS OF THIS SEAT. 10 by the template 'for every input the law returns true; each argument reads behind the call as it read before'; 0 by the template 'total and deterministic' (their statements: YtjhbpilgejbmjaaTotals.lean).
  GIVEN WITH THE SEED: the statements are not yours to turn. If you find one false, say at which input.
  Laid BY PROGRAM, IN A SANDBOX (cutbox-rows.mjs): the forced cells as the released guide's own fill.sh prints them over the translation 417f5e5118603f3b… (all of the seat's roots in one cut). By AI agents, Wed Nov 11 2026. No macro, syntax, notation, axiom, sorry.
-/
import Derived.Test.YtjhbpilgejbmjaaChecked
import GoSem.Claim
import GoSem.ClaimJoined
import GoSem.ClaimMapViews
import Derived.JoinedTies
import Derived.KernelRfl
namespace Go.Proofs.Ytjhbpilgejbmjaa
/- THE CELL 'sum', in the pinned program and in every row, IS THE sha256 OF THE DUMP (.gsa) THAT YtjhbpilgejbmjaaProg.lean LOADS. Nothing in Lean hashes anything: it is a label: what it is worth is what the hold of that sum in a sandbox is worth. -/
noncomputable def Try.pinned : Pinned := { name := "ytjhbpilgejbmjaa", sum := "417f5e5118603f3b2ec20552960492f768896b8d1eff7e26fe290808a0c44516", checked := Try.checked }
namespace Rows
def none {H : Type} : Left H := { results := [], args := [] }

/-- 'laws.FnCutSplit': WHATEVER THE INPUT: true; the input reads as it did. -/
def fnCutSplitSpec : ChangeSpec := { name := "fnCutSplit", fn := fun _ => fun
  | [d] => { results := [.lit (.bool true)], args := [d] }
  | _ => none }
def fnCutSplitRow : OpenClaim := { program := "ytjhbpilgejbmjaa", sum := "417f5e5118603f3b2ec20552960492f768896b8d1eff7e26fe290808a0c44516", func := "loop.example/icecores/laws.FnCutSplit", spec := "fnCutSplit", apart := false }
def FnCutSplitSaid : Prop := fnCutSplitRow.holds Try.pinned (OpenSpec.ofChange fnCutSplitSpec)

/-- ITS FALSE NEIGHBOUR: 'it returns false'. Refute it at one input. -/
def fnCutSplitWrong : ChangeSpec := { name := "fnCutSplit", fn := fun _ => fun
  | [d] => { results := [.lit (.bool false)], args := [d] }
  | _ => none }
def FnCutSplitWrongFalsely : Prop := fnCutSplitRow.holds Try.pinned (OpenSpec.ofChange fnCutSplitWrong)

/-- 'laws.FnSampleFirst': WHATEVER THE INPUT: true; the input reads as it did. -/
def fnSampleFirstSpec : ChangeSpec := { name := "fnSampleFirst", fn := fun _ => fun
  | [d1, d2] => { results := [.lit (.bool true)], args := [d1, d2] }
  | _ => none }
def fnSampleFirstRow : OpenClaim := { program := "ytjhbpilgejbmjaa", sum := "417f5e5118603f3b2ec20552960492f768896b8d1eff7e26fe290808a0c44516", func := "loop.example/icecores/laws.FnSampleFirst", spec := "fnSampleFirst", apart := false }
def FnSampleFirstSaid : Prop := fnSampleFirstRow.holds Try.pinned (OpenSpec.ofChange fnSampleFirstSpec)

/-- ITS FALSE NEIGHBOUR: 'it returns false'. Refute it at one input. -/
def fnSampleFirstWrong : ChangeSpec := { name := "fnSampleFirst", fn := fun _ => fun
  | [d1, d2] => { results := [.lit (.bool false)], args := [d1, d2] }
  | _ => none }
def FnSampleFirstWrongFalsely : Prop := fnSampleFirstRow.holds Try.pinned (OpenSpec.ofChange fnSampleFirstWrong)

/-- 'laws.FnSampleLeft': WHATEVER THE INPUT: true; the input reads as it did. -/
def fnSampleLeftSpec : ChangeSpec := { name := "fnSampleLeft", fn := fun _ => fun
  | [d] => { results := [.lit (.bool true)], args := [d] }
  | _ => none }
def fnSampleLeftRow : OpenClaim := { program := "ytjhbpilgejbmjaa", sum := "417f5e5118603f3b2ec20552960492f768896b8d1eff7e26fe290808a0c44516", func := "loop.example/icecores/laws.FnSampleLeft", spec := "fnSampleLeft", apart := false }
def FnSampleLeftSaid : Prop := fnSampleLeftRow.holds Try.pinned (OpenSpec.ofChange fnSampleLeftSpec)

/-- ITS FALSE NEIGHBOUR: 'it returns false'. Refute it at one input. -/
def fnSampleLeftWrong : ChangeSpec := { name := "fnSampleLeft", fn := fun _ => fun
  | [d] => { results := [.lit (.bool false)], args := [d] }
  | _ => none }
def FnSampleLeftWrongFalsely : Prop := fnSampleLeftRow.holds Try.pinned (OpenSpec.ofChange fnSampleLeftWrong)

/-- 'laws.FnSampleThin': WHATEVER THE INPUT: true; the input reads as it did. -/
def fnSampleThinSpec : ChangeSpec := { name := "fnSampleThin", fn := fun _ => fun
  | [d] => { results := [.lit (.bool true)], args := [d] }
  | _ => none }
def fnSampleThinRow : OpenClaim := { program := "ytjhbpilgejbmjaa", sum := "417f5e5118603f3b2ec20552960492f768896b8d1eff7e26fe290808a0c44516", func := "loop.example/icecores/laws.FnSampleThin", spec := "fnSampleThin", apart := false }
def FnSampleThinSaid : Prop := fnSampleThinRow.holds Try.pinned (OpenSpec.ofChange fnSampleThinSpec)

/-- ITS FALSE NEIGHBOUR: 'it returns false'. Refute it at one input. -/
def fnSampleThinWrong : ChangeSpec := { name := "fnSampleThin", fn := fun _ => fun
  | [d] => { results := [.lit (.bool false)], args := [d] }
  | _ => none }
def FnSampleThinWrongFalsely : Prop := fnSampleThinRow.holds Try.pinned (OpenSpec.ofChange fnSampleThinWrong)

/-- 'laws.FnSampleJoin': WHATEVER THE INPUT: true; the input reads as it did. -/
def fnSampleJoinSpec : ChangeSpec := { name := "fnSampleJoin", fn := fun _ => fun
  | [d] => { results := [.lit (.bool true)], args := [d] }
  | _ => none }
def fnSampleJoinRow : OpenClaim := { program := "ytjhbpilgejbmjaa", sum := "417f5e5118603f3b2ec20552960492f768896b8d1eff7e26fe290808a0c44516", func := "loop.example/icecores/laws.FnSampleJoin", spec := "fnSampleJoin", apart := false }
def FnSampleJoinSaid : Prop := fnSampleJoinRow.holds Try.pinned (OpenSpec.ofChange fnSampleJoinSpec)

/-- ITS FALSE NEIGHBOUR: 'it returns false'. Refute it at one input. -/
def fnSampleJoinWrong : ChangeSpec := { name := "fnSampleJoin", fn := fun _ => fun
  | [d] => { results := [.lit (.bool false)], args := [d] }
  | _ => none }
def FnSampleJoinWrongFalsely : Prop := fnSampleJoinRow.holds Try.pinned (OpenSpec.ofChange fnSampleJoinWrong)

/-- 'laws.FnSampleCut': WHATEVER THE INPUT: true; the input reads as it did. -/
def fnSampleCutSpec : ChangeSpec := { name := "fnSampleCut", fn := fun _ => fun
  | [d] => { results := [.lit (.bool true)], args := [d] }
  | _ => none }
def fnSampleCutRow : OpenClaim := { program := "ytjhbpilgejbmjaa", sum := "417f5e5118603f3b2ec20552960492f768896b8d1eff7e26fe290808a0c44516", func := "loop.example/icecores/laws.FnSampleCut", spec := "fnSampleCut", unfollowed := true, recurses := true, apart := false }
def FnSampleCutSaid : Prop := fnSampleCutRow.holds Try.pinned (OpenSpec.ofChange fnSampleCutSpec)

/-- ITS FALSE NEIGHBOUR: 'it returns false'. Refute it at one input. -/
def fnSampleCutWrong : ChangeSpec := { name := "fnSampleCut", fn := fun _ => fun
  | [d] => { results := [.lit (.bool false)], args := [d] }
  | _ => none }
def FnSampleCutWrongFalsely : Prop := fnSampleCutRow.holds Try.pinned (OpenSpec.ofChange fnSampleCutWrong)

/-- 'laws.FnWaste': WHATEVER THE INPUT: true; the input reads as it did. -/
def fnWasteSpec : ChangeSpec := { name := "fnWaste", fn := fun _ => fun
  | [d] => { results := [.lit (.bool true)], args := [d] }
  | _ => none }
def fnWasteRow : OpenClaim := { program := "ytjhbpilgejbmjaa", sum := "417f5e5118603f3b2ec20552960492f768896b8d1eff7e26fe290808a0c44516", func := "loop.example/icecores/laws.FnWaste", spec := "fnWaste", apart := false }
def FnWasteSaid : Prop := fnWasteRow.holds Try.pinned (OpenSpec.ofChange fnWasteSpec)

/-- ITS FALSE NEIGHBOUR: 'it returns false'. Refute it at one input. -/
def fnWasteWrong : ChangeSpec := { name := "fnWaste", fn := fun _ => fun
  | [d] => { results := [.lit (.bool false)], args := [d] }
  | _ => none }
def FnWasteWrongFalsely : Prop := fnWasteRow.holds Try.pinned (OpenSpec.ofChange fnWasteWrong)

/-- 'laws.FnWasteLess': WHATEVER THE INPUT: true; the input reads as it did. -/
def fnWasteLessSpec : ChangeSpec := { name := "fnWasteLess", fn := fun _ => fun
  | [d] => { results := [.lit (.bool true)], args := [d] }
  | _ => none }
def fnWasteLessRow : OpenClaim := { program := "ytjhbpilgejbmjaa", sum := "417f5e5118603f3b2ec20552960492f768896b8d1eff7e26fe290808a0c44516", func := "loop.example/icecores/laws.FnWasteLess", spec := "fnWasteLess", apart := false }
def FnWasteLessSaid : Prop := fnWasteLessRow.holds Try.pinned (OpenSpec.ofChange fnWasteLessSpec)

/-- ITS FALSE NEIGHBOUR: 'it returns false'. Refute it at one input. -/
def fnWasteLessWrong : ChangeSpec := { name := "fnWasteLess", fn := fun _ => fun
  | [d] => { results := [.lit (.bool false)], args := [d] }
  | _ => none }
def FnWasteLessWrongFalsely : Prop := fnWasteLessRow.holds Try.pinned (OpenSpec.ofChange fnWasteLessWrong)

/-- 'laws.FnExactSampleWaste': WHATEVER THE INPUT: true; the input reads as it did. -/
def fnExactSampleWasteSpec : ChangeSpec := { name := "fnExactSampleWaste", fn := fun _ => fun
  | [d1, d2, d3] => { results := [.lit (.bool true)], args := [d1, d2, d3] }
  | _ => none }
def fnExactSampleWasteRow : OpenClaim := { program := "ytjhbpilgejbmjaa", sum := "417f5e5118603f3b2ec20552960492f768896b8d1eff7e26fe290808a0c44516", func := "loop.example/icecores/laws.FnExactSampleWaste", spec := "fnExactSampleWaste", apart := false }
def FnExactSampleWasteSaid : Prop := fnExactSampleWasteRow.holds Try.pinned (OpenSpec.ofChange fnExactSampleWasteSpec)

/-- ITS FALSE NEIGHBOUR: 'it returns false'. Refute it at one input. -/
def fnExactSampleWasteWrong : ChangeSpec := { name := "fnExactSampleWaste", fn := fun _ => fun
  | [d1, d2, d3] => { results := [.lit (.bool false)], args := [d1, d2, d3] }
  | _ => none }
def FnExactSampleWasteWrongFalsely : Prop := fnExactSampleWasteRow.holds Try.pinned (OpenSpec.ofChange fnExactSampleWasteWrong)

/-- 'laws.FnExactSampleCut': WHATEVER THE INPUT: true; the input reads as it did. -/
def fnExactSampleCutSpec : ChangeSpec := { name := "fnExactSampleCut", fn := fun _ => fun
  | [d1, d2, d3] => { results := [.lit (.bool true)], args := [d1, d2, d3] }
  | _ => none }
def fnExactSampleCutRow : OpenClaim := { program := "ytjhbpilgejbmjaa", sum := "417f5e5118603f3b2ec20552960492f768896b8d1eff7e26fe290808a0c44516", func := "loop.example/icecores/laws.FnExactSampleCut", spec := "fnExactSampleCut", apart := false }
def FnExactSampleCutSaid : Prop := fnExactSampleCutRow.holds Try.pinned (OpenSpec.ofChange fnExactSampleCutSpec)

/-- ITS FALSE NEIGHBOUR: 'it returns false'. Refute it at one input. -/
def fnExactSampleCutWrong : ChangeSpec := { name := "fnExactSampleCut", fn := fun _ => fun
  | [d1, d2, d3] => { results := [.lit (.bool false)], args := [d1, d2, d3] }
  | _ => none }
def FnExactSampleCutWrongFalsely : Prop := fnExactSampleCutRow.holds Try.pinned (OpenSpec.ofChange fnExactSampleCutWrong)

/- THE SECOND FORM. 'bulk': how many values and letters a reading holds, each counted each time it is reached (what is shared counts as often as it is met; a slice's spare places count too). A statement '..UptoSaid' is the law's where the arguments, and the package variables that the reading takes, are together of bulk at most 1048576: NARROWER than '..Said'. Prove '..Said' where nothing that the law and all that it calls make is longer than what came in: it says more and counts as full. Else prove '..UptoSaid'. A law counts once. -/
mutual
def uptoBulk {H : Type} : DataW H → Nat
  | .lit (.string bytes) => bytes.length + 1
  | .lit _ => 1
  | .nil => 1
  | .ptr d => uptoBulk d + 1
  | .slice elems spare => uptoBulkAll elems + uptoBulkAll spare + 1
  | .agg parts => uptoBulkAll parts + 1
  | .iface _ d => uptoBulk d + 1
  | .map entries => uptoBulkEntries entries + 1
  | .held _ => 1
def uptoBulkAll {H : Type} : List (DataW H) → Nat
  | [] => 0
  | d :: r => uptoBulk d + uptoBulkAll r
def uptoBulkEntries {H : Type} : List (Lit × DataW H) → Nat
  | [] => 0
  | x :: r => uptoBulkEntry x + uptoBulkEntries r
def uptoBulkEntry {H : Type} : Lit × DataW H → Nat
  | (.string bytes, d) => bytes.length + uptoBulk d + 1
  | (_, d) => uptoBulk d + 1
 end
def uptoSmall : (H : Type) → List (DataW H) → Bool := fun _ ds => decide (uptoBulkAll ds ≤ 1048576)
def OpenSpec.upto (s : _root_.Go.ChangeSpec) : _root_.Go.OpenSpec := { _root_.Go.OpenSpec.ofChange s with cond := some uptoSmall }

/-- 'laws.FnCutSplit', WHERE WHAT IT READS IS OF BULK AT MOST 1048576: true; the input reads as it did. -/
def fnCutSplitUptoRow : OpenClaim := { program := "ytjhbpilgejbmjaa", sum := "417f5e5118603f3b2ec20552960492f768896b8d1eff7e26fe290808a0c44516", func := "loop.example/icecores/laws.FnCutSplit", spec := "fnCutSplit", apart := false, narrowed := true }
def FnCutSplitUptoSaid : Prop := fnCutSplitUptoRow.holds Try.pinned (OpenSpec.upto fnCutSplitSpec)

/-- 'laws.FnSampleFirst', WHERE WHAT IT READS IS OF BULK AT MOST 1048576: true; the input reads as it did. -/
def fnSampleFirstUptoRow : OpenClaim := { program := "ytjhbpilgejbmjaa", sum := "417f5e5118603f3b2ec20552960492f768896b8d1eff7e26fe290808a0c44516", func := "loop.example/icecores/laws.FnSampleFirst", spec := "fnSampleFirst", apart := false, narrowed := true }
def FnSampleFirstUptoSaid : Prop := fnSampleFirstUptoRow.holds Try.pinned (OpenSpec.upto fnSampleFirstSpec)

/-- 'laws.FnSampleLeft', WHERE WHAT IT READS IS OF BULK AT MOST 1048576: true; the input reads as it did. -/
def fnSampleLeftUptoRow : OpenClaim := { program := "ytjhbpilgejbmjaa", sum := "417f5e5118603f3b2ec20552960492f768896b8d1eff7e26fe290808a0c44516", func := "loop.example/icecores/laws.FnSampleLeft", spec := "fnSampleLeft", apart := false, narrowed := true }
def FnSampleLeftUptoSaid : Prop := fnSampleLeftUptoRow.holds Try.pinned (OpenSpec.upto fnSampleLeftSpec)

/-- 'laws.FnSampleThin', WHERE WHAT IT READS IS OF BULK AT MOST 1048576: true; the input reads as it did. -/
def fnSampleThinUptoRow : OpenClaim := { program := "ytjhbpilgejbmjaa", sum := "417f5e5118603f3b2ec20552960492f768896b8d1eff7e26fe290808a0c44516", func := "loop.example/icecores/laws.FnSampleThin", spec := "fnSampleThin", apart := false, narrowed := true }
def FnSampleThinUptoSaid : Prop := fnSampleThinUptoRow.holds Try.pinned (OpenSpec.upto fnSampleThinSpec)

/-- 'laws.FnSampleJoin', WHERE WHAT IT READS IS OF BULK AT MOST 1048576: true; the input reads as it did. -/
def fnSampleJoinUptoRow : OpenClaim := { program := "ytjhbpilgejbmjaa", sum := "417f5e5118603f3b2ec20552960492f768896b8d1eff7e26fe290808a0c44516", func := "loop.example/icecores/laws.FnSampleJoin", spec := "fnSampleJoin", apart := false, narrowed := true }
def FnSampleJoinUptoSaid : Prop := fnSampleJoinUptoRow.holds Try.pinned (OpenSpec.upto fnSampleJoinSpec)

/-- 'laws.FnSampleCut', WHERE WHAT IT READS IS OF BULK AT MOST 1048576: true; the input reads as it did. -/
def fnSampleCutUptoRow : OpenClaim := { program := "ytjhbpilgejbmjaa", sum := "417f5e5118603f3b2ec20552960492f768896b8d1eff7e26fe290808a0c44516", func := "loop.example/icecores/laws.FnSampleCut", spec := "fnSampleCut", unfollowed := true, recurses := true, apart := false, narrowed := true }
def FnSampleCutUptoSaid : Prop := fnSampleCutUptoRow.holds Try.pinned (OpenSpec.upto fnSampleCutSpec)

/-- 'laws.FnWaste', WHERE WHAT IT READS IS OF BULK AT MOST 1048576: true; the input reads as it did. -/
def fnWasteUptoRow : OpenClaim := { program := "ytjhbpilgejbmjaa", sum := "417f5e5118603f3b2ec20552960492f768896b8d1eff7e26fe290808a0c44516", func := "loop.example/icecores/laws.FnWaste", spec := "fnWaste", apart := false, narrowed := true }
def FnWasteUptoSaid : Prop := fnWasteUptoRow.holds Try.pinned (OpenSpec.upto fnWasteSpec)

/-- 'laws.FnWasteLess', WHERE WHAT IT READS IS OF BULK AT MOST 1048576: true; the input reads as it did. -/
def fnWasteLessUptoRow : OpenClaim := { program := "ytjhbpilgejbmjaa", sum := "417f5e5118603f3b2ec20552960492f768896b8d1eff7e26fe290808a0c44516", func := "loop.example/icecores/laws.FnWasteLess", spec := "fnWasteLess", apart := false, narrowed := true }
def FnWasteLessUptoSaid : Prop := fnWasteLessUptoRow.holds Try.pinned (OpenSpec.upto fnWasteLessSpec)

/-- 'laws.FnExactSampleWaste', WHERE WHAT IT READS IS OF BULK AT MOST 1048576: true; the input reads as it did. -/
def fnExactSampleWasteUptoRow : OpenClaim := { program := "ytjhbpilgejbmjaa", sum := "417f5e5118603f3b2ec20552960492f768896b8d1eff7e26fe290808a0c44516", func := "loop.example/icecores/laws.FnExactSampleWaste", spec := "fnExactSampleWaste", apart := false, narrowed := true }
def FnExactSampleWasteUptoSaid : Prop := fnExactSampleWasteUptoRow.holds Try.pinned (OpenSpec.upto fnExactSampleWasteSpec)

/-- 'laws.FnExactSampleCut', WHERE WHAT IT READS IS OF BULK AT MOST 1048576: true; the input reads as it did. -/
def fnExactSampleCutUptoRow : OpenClaim := { program := "ytjhbpilgejbmjaa", sum := "417f5e5118603f3b2ec20552960492f768896b8d1eff7e26fe290808a0c44516", func := "loop.example/icecores/laws.FnExactSampleCut", spec := "fnExactSampleCut", apart := false, narrowed := true }
def FnExactSampleCutUptoSaid : Prop := fnExactSampleCutUptoRow.holds Try.pinned (OpenSpec.upto fnExactSampleCutSpec)

end Rows
end Go.Proofs.Ytjhbpilgejbmjaa
