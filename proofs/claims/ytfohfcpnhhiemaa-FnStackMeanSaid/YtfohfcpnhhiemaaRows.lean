/-
  No cell of these rows narrows 'for every input' (looked for: loops, veiled, ifaces, maps, wideKeys, modest, calm, conditions, laid).
  DERIVED. THE GIVEN ROWS OF THIS SEAT. 13 by the template 'for every input the law returns true; each argument reads behind the call as it read before'; 0 by the template 'total and deterministic' (their statements: YtfohfcpnhhiemaaTotals.lean).
  GIVEN WITH THE SEED: the statements are not yours to turn. If you find one false, say at which input.
  Laid BY PROGRAM, IN A SANDBOX (cutbox-rows.mjs): the forced cells as the released guide's own fill.sh prints them over the translation 2bf1797e3772034b… (all of the seat's roots in one cut). By AI agents, Wed Nov 11 2026. No macro, syntax, notation, axiom, sorry.
-/
import Derived.Test.YtfohfcpnhhiemaaChecked
import GoSem.Claim
import GoSem.ClaimJoined
import GoSem.ClaimMapViews
import Derived.JoinedTies
import Derived.KernelRfl
namespace Go.Proofs.Ytfohfcpnhhiemaa
/- THE CELL 'sum', in the pinned program and in every row, IS THE sha256 OF THE DUMP (.gsa) THAT YtfohfcpnhhiemaaProg.lean LOADS. Nothing in Lean hashes anything: it is a label: what it is worth is what the hold of that sum in a sandbox is worth. -/
noncomputable def Try.pinned : Pinned := { name := "ytfohfcpnhhiemaa", sum := "2bf1797e3772034b8bf4e1262ca8dbfc2d96b137895055c3aa6b2700764b5921", checked := Try.checked }
namespace Rows
def none {H : Type} : Left H := { results := [], args := [] }

/-- 'laws.FnFarRows': WHATEVER THE INPUT: true; the input reads as it did. -/
def fnFarRowsSpec : ChangeSpec := { name := "fnFarRows", fn := fun _ => fun
  | [d] => { results := [.lit (.bool true)], args := [d] }
  | _ => none }
def fnFarRowsRow : OpenClaim := { program := "ytfohfcpnhhiemaa", sum := "2bf1797e3772034b8bf4e1262ca8dbfc2d96b137895055c3aa6b2700764b5921", func := "loop.example/icecores/laws.FnFarRows", spec := "fnFarRows", apart := false }
def FnFarRowsSaid : Prop := fnFarRowsRow.holds Try.pinned (OpenSpec.ofChange fnFarRowsSpec)

/-- ITS FALSE NEIGHBOUR: 'it returns false'. Refute it at one input. -/
def fnFarRowsWrong : ChangeSpec := { name := "fnFarRows", fn := fun _ => fun
  | [d] => { results := [.lit (.bool false)], args := [d] }
  | _ => none }
def FnFarRowsWrongFalsely : Prop := fnFarRowsRow.holds Try.pinned (OpenSpec.ofChange fnFarRowsWrong)

/-- 'laws.FnExactStackWithout': WHATEVER THE INPUT: true; the input reads as it did. -/
def fnExactStackWithoutSpec : ChangeSpec := { name := "fnExactStackWithout", fn := fun _ => fun
  | [d1, d2] => { results := [.lit (.bool true)], args := [d1, d2] }
  | _ => none }
def fnExactStackWithoutRow : OpenClaim := { program := "ytfohfcpnhhiemaa", sum := "2bf1797e3772034b8bf4e1262ca8dbfc2d96b137895055c3aa6b2700764b5921", func := "loop.example/icecores/laws.FnExactStackWithout", spec := "fnExactStackWithout", apart := false }
def FnExactStackWithoutSaid : Prop := fnExactStackWithoutRow.holds Try.pinned (OpenSpec.ofChange fnExactStackWithoutSpec)

/-- ITS FALSE NEIGHBOUR: 'it returns false'. Refute it at one input. -/
def fnExactStackWithoutWrong : ChangeSpec := { name := "fnExactStackWithout", fn := fun _ => fun
  | [d1, d2] => { results := [.lit (.bool false)], args := [d1, d2] }
  | _ => none }
def FnExactStackWithoutWrongFalsely : Prop := fnExactStackWithoutRow.holds Try.pinned (OpenSpec.ofChange fnExactStackWithoutWrong)

/-- 'laws.FnWithout': WHATEVER THE INPUT: true; the input reads as it did. -/
def fnWithoutSpec : ChangeSpec := { name := "fnWithout", fn := fun _ => fun
  | [d] => { results := [.lit (.bool true)], args := [d] }
  | _ => none }
def fnWithoutRow : OpenClaim := { program := "ytfohfcpnhhiemaa", sum := "2bf1797e3772034b8bf4e1262ca8dbfc2d96b137895055c3aa6b2700764b5921", func := "loop.example/icecores/laws.FnWithout", spec := "fnWithout", apart := false }
def FnWithoutSaid : Prop := fnWithoutRow.holds Try.pinned (OpenSpec.ofChange fnWithoutSpec)

/-- ITS FALSE NEIGHBOUR: 'it returns false'. Refute it at one input. -/
def fnWithoutWrong : ChangeSpec := { name := "fnWithout", fn := fun _ => fun
  | [d] => { results := [.lit (.bool false)], args := [d] }
  | _ => none }
def FnWithoutWrongFalsely : Prop := fnWithoutRow.holds Try.pinned (OpenSpec.ofChange fnWithoutWrong)

/-- 'laws.FnMeanOrder': WHATEVER THE INPUT: true; the input reads as it did. -/
def fnMeanOrderSpec : ChangeSpec := { name := "fnMeanOrder", fn := fun _ => fun
  | [d] => { results := [.lit (.bool true)], args := [d] }
  | _ => none }
def fnMeanOrderRow : OpenClaim := { program := "ytfohfcpnhhiemaa", sum := "2bf1797e3772034b8bf4e1262ca8dbfc2d96b137895055c3aa6b2700764b5921", func := "loop.example/icecores/laws.FnMeanOrder", spec := "fnMeanOrder", apart := false }
def FnMeanOrderSaid : Prop := fnMeanOrderRow.holds Try.pinned (OpenSpec.ofChange fnMeanOrderSpec)

/-- ITS FALSE NEIGHBOUR: 'it returns false'. Refute it at one input. -/
def fnMeanOrderWrong : ChangeSpec := { name := "fnMeanOrder", fn := fun _ => fun
  | [d] => { results := [.lit (.bool false)], args := [d] }
  | _ => none }
def FnMeanOrderWrongFalsely : Prop := fnMeanOrderRow.holds Try.pinned (OpenSpec.ofChange fnMeanOrderWrong)

/-- 'laws.FnStackMeanRange': WHATEVER THE INPUT: true; the input reads as it did. -/
def fnStackMeanRangeSpec : ChangeSpec := { name := "fnStackMeanRange", fn := fun _ => fun
  | [d] => { results := [.lit (.bool true)], args := [d] }
  | _ => none }
def fnStackMeanRangeRow : OpenClaim := { program := "ytfohfcpnhhiemaa", sum := "2bf1797e3772034b8bf4e1262ca8dbfc2d96b137895055c3aa6b2700764b5921", func := "loop.example/icecores/laws.FnStackMeanRange", spec := "fnStackMeanRange", apart := false }
def FnStackMeanRangeSaid : Prop := fnStackMeanRangeRow.holds Try.pinned (OpenSpec.ofChange fnStackMeanRangeSpec)

/-- ITS FALSE NEIGHBOUR: 'it returns false'. Refute it at one input. -/
def fnStackMeanRangeWrong : ChangeSpec := { name := "fnStackMeanRange", fn := fun _ => fun
  | [d] => { results := [.lit (.bool false)], args := [d] }
  | _ => none }
def FnStackMeanRangeWrongFalsely : Prop := fnStackMeanRangeRow.holds Try.pinned (OpenSpec.ofChange fnStackMeanRangeWrong)

/-- 'laws.FnStackMean': WHATEVER THE INPUT: true; the input reads as it did. -/
def fnStackMeanSpec : ChangeSpec := { name := "fnStackMean", fn := fun _ => fun
  | [d] => { results := [.lit (.bool true)], args := [d] }
  | _ => none }
def fnStackMeanRow : OpenClaim := { program := "ytfohfcpnhhiemaa", sum := "2bf1797e3772034b8bf4e1262ca8dbfc2d96b137895055c3aa6b2700764b5921", func := "loop.example/icecores/laws.FnStackMean", spec := "fnStackMean", apart := false }
def FnStackMeanSaid : Prop := fnStackMeanRow.holds Try.pinned (OpenSpec.ofChange fnStackMeanSpec)

/-- ITS FALSE NEIGHBOUR: 'it returns false'. Refute it at one input. -/
def fnStackMeanWrong : ChangeSpec := { name := "fnStackMean", fn := fun _ => fun
  | [d] => { results := [.lit (.bool false)], args := [d] }
  | _ => none }
def FnStackMeanWrongFalsely : Prop := fnStackMeanRow.holds Try.pinned (OpenSpec.ofChange fnStackMeanWrong)

/-- 'laws.FnExactStackMean': WHATEVER THE INPUT: true; the input reads as it did. -/
def fnExactStackMeanSpec : ChangeSpec := { name := "fnExactStackMean", fn := fun _ => fun
  | [d] => { results := [.lit (.bool true)], args := [d] }
  | _ => none }
def fnExactStackMeanRow : OpenClaim := { program := "ytfohfcpnhhiemaa", sum := "2bf1797e3772034b8bf4e1262ca8dbfc2d96b137895055c3aa6b2700764b5921", func := "loop.example/icecores/laws.FnExactStackMean", spec := "fnExactStackMean", apart := false }
def FnExactStackMeanSaid : Prop := fnExactStackMeanRow.holds Try.pinned (OpenSpec.ofChange fnExactStackMeanSpec)

/-- ITS FALSE NEIGHBOUR: 'it returns false'. Refute it at one input. -/
def fnExactStackMeanWrong : ChangeSpec := { name := "fnExactStackMean", fn := fun _ => fun
  | [d] => { results := [.lit (.bool false)], args := [d] }
  | _ => none }
def FnExactStackMeanWrongFalsely : Prop := fnExactStackMeanRow.holds Try.pinned (OpenSpec.ofChange fnExactStackMeanWrong)

/-- 'laws.FnMiddle': WHATEVER THE INPUT: true; the input reads as it did. -/
def fnMiddleSpec : ChangeSpec := { name := "fnMiddle", fn := fun _ => fun
  | [d] => { results := [.lit (.bool true)], args := [d] }
  | _ => none }
def fnMiddleRow : OpenClaim := { program := "ytfohfcpnhhiemaa", sum := "2bf1797e3772034b8bf4e1262ca8dbfc2d96b137895055c3aa6b2700764b5921", func := "loop.example/icecores/laws.FnMiddle", spec := "fnMiddle", recurses := true, apart := false }
def FnMiddleSaid : Prop := fnMiddleRow.holds Try.pinned (OpenSpec.ofChange fnMiddleSpec)

/-- ITS FALSE NEIGHBOUR: 'it returns false'. Refute it at one input. -/
def fnMiddleWrong : ChangeSpec := { name := "fnMiddle", fn := fun _ => fun
  | [d] => { results := [.lit (.bool false)], args := [d] }
  | _ => none }
def FnMiddleWrongFalsely : Prop := fnMiddleRow.holds Try.pinned (OpenSpec.ofChange fnMiddleWrong)

/-- 'laws.FnMiddleFar': WHATEVER THE INPUT: true; the input reads as it did. -/
def fnMiddleFarSpec : ChangeSpec := { name := "fnMiddleFar", fn := fun _ => fun
  | [d] => { results := [.lit (.bool true)], args := [d] }
  | _ => none }
def fnMiddleFarRow : OpenClaim := { program := "ytfohfcpnhhiemaa", sum := "2bf1797e3772034b8bf4e1262ca8dbfc2d96b137895055c3aa6b2700764b5921", func := "loop.example/icecores/laws.FnMiddleFar", spec := "fnMiddleFar", recurses := true, apart := false }
def FnMiddleFarSaid : Prop := fnMiddleFarRow.holds Try.pinned (OpenSpec.ofChange fnMiddleFarSpec)

/-- ITS FALSE NEIGHBOUR: 'it returns false'. Refute it at one input. -/
def fnMiddleFarWrong : ChangeSpec := { name := "fnMiddleFar", fn := fun _ => fun
  | [d] => { results := [.lit (.bool false)], args := [d] }
  | _ => none }
def FnMiddleFarWrongFalsely : Prop := fnMiddleFarRow.holds Try.pinned (OpenSpec.ofChange fnMiddleFarWrong)

/-- 'laws.FnMiddleOrder': WHATEVER THE INPUT: true; the input reads as it did. -/
def fnMiddleOrderSpec : ChangeSpec := { name := "fnMiddleOrder", fn := fun _ => fun
  | [d] => { results := [.lit (.bool true)], args := [d] }
  | _ => none }
def fnMiddleOrderRow : OpenClaim := { program := "ytfohfcpnhhiemaa", sum := "2bf1797e3772034b8bf4e1262ca8dbfc2d96b137895055c3aa6b2700764b5921", func := "loop.example/icecores/laws.FnMiddleOrder", spec := "fnMiddleOrder", recurses := true, apart := false }
def FnMiddleOrderSaid : Prop := fnMiddleOrderRow.holds Try.pinned (OpenSpec.ofChange fnMiddleOrderSpec)

/-- ITS FALSE NEIGHBOUR: 'it returns false'. Refute it at one input. -/
def fnMiddleOrderWrong : ChangeSpec := { name := "fnMiddleOrder", fn := fun _ => fun
  | [d] => { results := [.lit (.bool false)], args := [d] }
  | _ => none }
def FnMiddleOrderWrongFalsely : Prop := fnMiddleOrderRow.holds Try.pinned (OpenSpec.ofChange fnMiddleOrderWrong)

/-- 'laws.FnMiddleShift': WHATEVER THE INPUT: true; the input reads as it did. -/
def fnMiddleShiftSpec : ChangeSpec := { name := "fnMiddleShift", fn := fun _ => fun
  | [d] => { results := [.lit (.bool true)], args := [d] }
  | _ => none }
def fnMiddleShiftRow : OpenClaim := { program := "ytfohfcpnhhiemaa", sum := "2bf1797e3772034b8bf4e1262ca8dbfc2d96b137895055c3aa6b2700764b5921", func := "loop.example/icecores/laws.FnMiddleShift", spec := "fnMiddleShift", recurses := true, apart := false }
def FnMiddleShiftSaid : Prop := fnMiddleShiftRow.holds Try.pinned (OpenSpec.ofChange fnMiddleShiftSpec)

/-- ITS FALSE NEIGHBOUR: 'it returns false'. Refute it at one input. -/
def fnMiddleShiftWrong : ChangeSpec := { name := "fnMiddleShift", fn := fun _ => fun
  | [d] => { results := [.lit (.bool false)], args := [d] }
  | _ => none }
def FnMiddleShiftWrongFalsely : Prop := fnMiddleShiftRow.holds Try.pinned (OpenSpec.ofChange fnMiddleShiftWrong)

/-- 'laws.FnExactStackMiddle': WHATEVER THE INPUT: true; the input reads as it did. -/
def fnExactStackMiddleSpec : ChangeSpec := { name := "fnExactStackMiddle", fn := fun _ => fun
  | [d] => { results := [.lit (.bool true)], args := [d] }
  | _ => none }
def fnExactStackMiddleRow : OpenClaim := { program := "ytfohfcpnhhiemaa", sum := "2bf1797e3772034b8bf4e1262ca8dbfc2d96b137895055c3aa6b2700764b5921", func := "loop.example/icecores/laws.FnExactStackMiddle", spec := "fnExactStackMiddle", recurses := true, apart := false }
def FnExactStackMiddleSaid : Prop := fnExactStackMiddleRow.holds Try.pinned (OpenSpec.ofChange fnExactStackMiddleSpec)

/-- ITS FALSE NEIGHBOUR: 'it returns false'. Refute it at one input. -/
def fnExactStackMiddleWrong : ChangeSpec := { name := "fnExactStackMiddle", fn := fun _ => fun
  | [d] => { results := [.lit (.bool false)], args := [d] }
  | _ => none }
def FnExactStackMiddleWrongFalsely : Prop := fnExactStackMiddleRow.holds Try.pinned (OpenSpec.ofChange fnExactStackMiddleWrong)

/-- 'laws.FnStackTwice': WHATEVER THE INPUT: true; the input reads as it did. -/
def fnStackTwiceSpec : ChangeSpec := { name := "fnStackTwice", fn := fun _ => fun
  | [d] => { results := [.lit (.bool true)], args := [d] }
  | _ => none }
def fnStackTwiceRow : OpenClaim := { program := "ytfohfcpnhhiemaa", sum := "2bf1797e3772034b8bf4e1262ca8dbfc2d96b137895055c3aa6b2700764b5921", func := "loop.example/icecores/laws.FnStackTwice", spec := "fnStackTwice", recurses := true, apart := false }
def FnStackTwiceSaid : Prop := fnStackTwiceRow.holds Try.pinned (OpenSpec.ofChange fnStackTwiceSpec)

/-- ITS FALSE NEIGHBOUR: 'it returns false'. Refute it at one input. -/
def fnStackTwiceWrong : ChangeSpec := { name := "fnStackTwice", fn := fun _ => fun
  | [d] => { results := [.lit (.bool false)], args := [d] }
  | _ => none }
def FnStackTwiceWrongFalsely : Prop := fnStackTwiceRow.holds Try.pinned (OpenSpec.ofChange fnStackTwiceWrong)

/- THE SECOND FORM. 'bulk': how many values and letters a reading holds, each counted each time it is reached (what is shared counts as often as it is met; a slice's spare places count too). A statement '..UptoSaid' is the law's where the arguments, and the package variables that the reading takes, are together of bulk at most 1048576: NARROWER than '..Said'. Prove '..Said' where nothing that the law and all that it calls make is longer than what came in: it says more and counts as full. Else prove '..UptoSaid'. A law counts once. -/
mutual
def uptoBulk {H : Type} : DataW H → Nat
  | .lit (.string bytes) => bytes.length + 1
  | .lit _ => 1
  | .nil => 1
  | .ptr d => uptoBulk d + 1
  | .slice elems spare => uptoBulkAll elems + uptoBulkAll spare + 1
  | .agg parts => uptoBulkAll parts + 1
  | .iface _ d => uptoBulk d + 1
  | .map entries => uptoBulkEntries entries + 1
  | .held _ => 1
def uptoBulkAll {H : Type} : List (DataW H) → Nat
  | [] => 0
  | d :: r => uptoBulk d + uptoBulkAll r
def uptoBulkEntries {H : Type} : List (Lit × DataW H) → Nat
  | [] => 0
  | x :: r => uptoBulkEntry x + uptoBulkEntries r
def uptoBulkEntry {H : Type} : Lit × DataW H → Nat
  | (.string bytes, d) => bytes.length + uptoBulk d + 1
  | (_, d) => uptoBulk d + 1
 end
def uptoSmall : (H : Type) → List (DataW H) → Bool := fun _ ds => decide (uptoBulkAll ds ≤ 1048576)
def OpenSpec.upto (s : _root_.Go.ChangeSpec) : _root_.Go.OpenSpec := { _root_.Go.OpenSpec.ofChange s with cond := some uptoSmall }

/-- 'laws.FnFarRows', WHERE WHAT IT READS IS OF BULK AT MOST 1048576: true; the input reads as it did. -/
def fnFarRowsUptoRow : OpenClaim := { program := "ytfohfcpnhhiemaa", sum := "2bf1797e3772034b8bf4e1262ca8dbfc2d96b137895055c3aa6b2700764b5921", func := "loop.example/icecores/laws.FnFarRows", spec := "fnFarRows", apart := false, narrowed := true }
def FnFarRowsUptoSaid : Prop := fnFarRowsUptoRow.holds Try.pinned (OpenSpec.upto fnFarRowsSpec)

/-- 'laws.FnExactStackWithout', WHERE WHAT IT READS IS OF BULK AT MOST 1048576: true; the input reads as it did. -/
def fnExactStackWithoutUptoRow : OpenClaim := { program := "ytfohfcpnhhiemaa", sum := "2bf1797e3772034b8bf4e1262ca8dbfc2d96b137895055c3aa6b2700764b5921", func := "loop.example/icecores/laws.FnExactStackWithout", spec := "fnExactStackWithout", apart := false, narrowed := true }
def FnExactStackWithoutUptoSaid : Prop := fnExactStackWithoutUptoRow.holds Try.pinned (OpenSpec.upto fnExactStackWithoutSpec)

/-- 'laws.FnWithout', WHERE WHAT IT READS IS OF BULK AT MOST 1048576: true; the input reads as it did. -/
def fnWithoutUptoRow : OpenClaim := { program := "ytfohfcpnhhiemaa", sum := "2bf1797e3772034b8bf4e1262ca8dbfc2d96b137895055c3aa6b2700764b5921", func := "loop.example/icecores/laws.FnWithout", spec := "fnWithout", apart := false, narrowed := true }
def FnWithoutUptoSaid : Prop := fnWithoutUptoRow.holds Try.pinned (OpenSpec.upto fnWithoutSpec)

/-- 'laws.FnMeanOrder', WHERE WHAT IT READS IS OF BULK AT MOST 1048576: true; the input reads as it did. -/
def fnMeanOrderUptoRow : OpenClaim := { program := "ytfohfcpnhhiemaa", sum := "2bf1797e3772034b8bf4e1262ca8dbfc2d96b137895055c3aa6b2700764b5921", func := "loop.example/icecores/laws.FnMeanOrder", spec := "fnMeanOrder", apart := false, narrowed := true }
def FnMeanOrderUptoSaid : Prop := fnMeanOrderUptoRow.holds Try.pinned (OpenSpec.upto fnMeanOrderSpec)

/-- 'laws.FnStackMeanRange', WHERE WHAT IT READS IS OF BULK AT MOST 1048576: true; the input reads as it did. -/
def fnStackMeanRangeUptoRow : OpenClaim := { program := "ytfohfcpnhhiemaa", sum := "2bf1797e3772034b8bf4e1262ca8dbfc2d96b137895055c3aa6b2700764b5921", func := "loop.example/icecores/laws.FnStackMeanRange", spec := "fnStackMeanRange", apart := false, narrowed := true }
def FnStackMeanRangeUptoSaid : Prop := fnStackMeanRangeUptoRow.holds Try.pinned (OpenSpec.upto fnStackMeanRangeSpec)

/-- 'laws.FnStackMean', WHERE WHAT IT READS IS OF BULK AT MOST 1048576: true; the input reads as it did. -/
def fnStackMeanUptoRow : OpenClaim := { program := "ytfohfcpnhhiemaa", sum := "2bf1797e3772034b8bf4e1262ca8dbfc2d96b137895055c3aa6b2700764b5921", func := "loop.example/icecores/laws.FnStackMean", spec := "fnStackMean", apart := false, narrowed := true }
def FnStackMeanUptoSaid : Prop := fnStackMeanUptoRow.holds Try.pinned (OpenSpec.upto fnStackMeanSpec)

/-- 'laws.FnExactStackMean', WHERE WHAT IT READS IS OF BULK AT MOST 1048576: true; the input reads as it did. -/
def fnExactStackMeanUptoRow : OpenClaim := { program := "ytfohfcpnhhiemaa", sum := "2bf1797e3772034b8bf4e1262ca8dbfc2d96b137895055c3aa6b2700764b5921", func := "loop.example/icecores/laws.FnExactStackMean", spec := "fnExactStackMean", apart := false, narrowed := true }
def FnExactStackMeanUptoSaid : Prop := fnExactStackMeanUptoRow.holds Try.pinned (OpenSpec.upto fnExactStackMeanSpec)

/-- 'laws.FnMiddle', WHERE WHAT IT READS IS OF BULK AT MOST 1048576: true; the input reads as it did. -/
def fnMiddleUptoRow : OpenClaim := { program := "ytfohfcpnhhiemaa", sum := "2bf1797e3772034b8bf4e1262ca8dbfc2d96b137895055c3aa6b2700764b5921", func := "loop.example/icecores/laws.FnMiddle", spec := "fnMiddle", recurses := true, apart := false, narrowed := true }
def FnMiddleUptoSaid : Prop := fnMiddleUptoRow.holds Try.pinned (OpenSpec.upto fnMiddleSpec)

/-- 'laws.FnMiddleFar', WHERE WHAT IT READS IS OF BULK AT MOST 1048576: true; the input reads as it did. -/
def fnMiddleFarUptoRow : OpenClaim := { program := "ytfohfcpnhhiemaa", sum := "2bf1797e3772034b8bf4e1262ca8dbfc2d96b137895055c3aa6b2700764b5921", func := "loop.example/icecores/laws.FnMiddleFar", spec := "fnMiddleFar", recurses := true, apart := false, narrowed := true }
def FnMiddleFarUptoSaid : Prop := fnMiddleFarUptoRow.holds Try.pinned (OpenSpec.upto fnMiddleFarSpec)

/-- 'laws.FnMiddleOrder', WHERE WHAT IT READS IS OF BULK AT MOST 1048576: true; the input reads as it did. -/
def fnMiddleOrderUptoRow : OpenClaim := { program := "ytfohfcpnhhiemaa", sum := "2bf1797e3772034b8bf4e1262ca8dbfc2d96b137895055c3aa6b2700764b5921", func := "loop.example/icecores/laws.FnMiddleOrder", spec := "fnMiddleOrder", recurses := true, apart := false, narrowed := true }
def FnMiddleOrderUptoSaid : Prop := fnMiddleOrderUptoRow.holds Try.pinned (OpenSpec.upto fnMiddleOrderSpec)

/-- 'laws.FnMiddleShift', WHERE WHAT IT READS IS OF BULK AT MOST 1048576: true; the input reads as it did. -/
def fnMiddleShiftUptoRow : OpenClaim := { program := "ytfohfcpnhhiemaa", sum := "2bf1797e3772034b8bf4e1262ca8dbfc2d96b137895055c3aa6b2700764b5921", func := "loop.example/icecores/laws.FnMiddleShift", spec := "fnMiddleShift", recurses := true, apart := false, narrowed := true }
def FnMiddleShiftUptoSaid : Prop := fnMiddleShiftUptoRow.holds Try.pinned (OpenSpec.upto fnMiddleShiftSpec)

/-- 'laws.FnExactStackMiddle', WHERE WHAT IT READS IS OF BULK AT MOST 1048576: true; the input reads as it did. -/
def fnExactStackMiddleUptoRow : OpenClaim := { program := "ytfohfcpnhhiemaa", sum := "2bf1797e3772034b8bf4e1262ca8dbfc2d96b137895055c3aa6b2700764b5921", func := "loop.example/icecores/laws.FnExactStackMiddle", spec := "fnExactStackMiddle", recurses := true, apart := false, narrowed := true }
def FnExactStackMiddleUptoSaid : Prop := fnExactStackMiddleUptoRow.holds Try.pinned (OpenSpec.upto fnExactStackMiddleSpec)

/-- 'laws.FnStackTwice', WHERE WHAT IT READS IS OF BULK AT MOST 1048576: true; the input reads as it did. -/
def fnStackTwiceUptoRow : OpenClaim := { program := "ytfohfcpnhhiemaa", sum := "2bf1797e3772034b8bf4e1262ca8dbfc2d96b137895055c3aa6b2700764b5921", func := "loop.example/icecores/laws.FnStackTwice", spec := "fnStackTwice", recurses := true, apart := false, narrowed := true }
def FnStackTwiceUptoSaid : Prop := fnStackTwiceUptoRow.holds Try.pinned (OpenSpec.upto fnStackTwiceSpec)

end Rows
end Go.Proofs.Ytfohfcpnhhiemaa
