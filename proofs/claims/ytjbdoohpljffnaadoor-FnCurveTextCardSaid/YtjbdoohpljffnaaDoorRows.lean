/-
  NARROWER THAN 'FOR EVERY INPUT', by the rows' own cells (each row's printed sentence says how): FnExactCurveText: laid · FnCurveTextTurn: laid · FnLayersTextJoin: laid · FnExactLayersText: laid · FnExactCoreText: laid · FnCoreText: laid · FnCoreTextParts: laid · FnCurveText: laid · FnLayersText: laid · FnExactCurveFrom: laid · FnExactLayersFrom: laid · FnCurveFrom: laid · FnLayersFrom: laid.
  DERIVED. THE GIVEN ROWS OF THIS SEAT. 13 by the template 'for every input the law returns true; each argument reads behind the call as it read before'; 0 by the template 'total and deterministic' (their statements: YtjbdoohpljffnaaDoorTotals.lean).
  GIVEN WITH THE SEED: the statements are not yours to turn. If you find one false, say at which input.
  Laid BY PROGRAM, IN A SANDBOX (cutbox-rows.mjs): the forced cells as the released guide's own fill.sh prints them over the translation 70ae302c3293e5ac… (all of the seat's roots in one cut). By AI agents, Wed Nov 11 2026. No macro, syntax, notation, axiom, sorry.
-/
import Derived.Test.YtjbdoohpljffnaaDoorChecked
import GoSem.PinnedTables
import GoSem.Claim
import GoSem.ClaimJoined
import GoSem.ClaimMapViews
import Derived.JoinedTies
import Derived.KernelRfl
namespace Go.Proofs.YtjbdoohpljffnaaDoor
/- THE CELL 'sum', in the pinned program and in every row, IS THE sha256 OF THE DUMP (.gsa) THAT YtjbdoohpljffnaaDoorProg.lean LOADS. Nothing in Lean hashes anything: it is a label: what it is worth is what the hold of that sum in a sandbox is worth. -/
noncomputable def Tryd.pinned : Pinned := { name := "ytjbdoohpljffnaadoor", sum := "70ae302c3293e5aca692ff6adb4e9bdd72bfd491900dfc3be150d23a874fc304", checked := Tryd.checked }
namespace Rows
def none {H : Type} : Left H := { results := [], args := [] }

/- WHAT THE LISTED PACKAGE-LEVEL VARIABLES READ AS WHEN THE CALL BEGINS. Each datum BY PROGRAM (the guide's laid-datum.mjs) off the statement by which the dump's own 'gosem.cut.vars' lays the variable. In a bare row this is a premise. The card (YtjbdoohpljffnaaDoorCards.lean) ties it to the program's text. -/
def laid_math_bits_deBruijn32tab {H : Type} : DataW H := .agg [.lit (.int .u8 0), .lit (.int .u8 1), .lit (.int .u8 28), .lit (.int .u8 2), .lit (.int .u8 29), .lit (.int .u8 14), .lit (.int .u8 24), .lit (.int .u8 3), .lit (.int .u8 30), .lit (.int .u8 22), .lit (.int .u8 20), .lit (.int .u8 15), .lit (.int .u8 25), .lit (.int .u8 17), .lit (.int .u8 4), .lit (.int .u8 8), .lit (.int .u8 31), .lit (.int .u8 27), .lit (.int .u8 13), .lit (.int .u8 23), .lit (.int .u8 21), .lit (.int .u8 19), .lit (.int .u8 16), .lit (.int .u8 7), .lit (.int .u8 26), .lit (.int .u8 12), .lit (.int .u8 18), .lit (.int .u8 6), .lit (.int .u8 11), .lit (.int .u8 5), .lit (.int .u8 10), .lit (.int .u8 9)]
def laid_math_bits_deBruijn64tab {H : Type} : DataW H := .agg [.lit (.int .u8 0), .lit (.int .u8 1), .lit (.int .u8 56), .lit (.int .u8 2), .lit (.int .u8 57), .lit (.int .u8 49), .lit (.int .u8 28), .lit (.int .u8 3), .lit (.int .u8 61), .lit (.int .u8 58), .lit (.int .u8 42), .lit (.int .u8 50), .lit (.int .u8 38), .lit (.int .u8 29), .lit (.int .u8 17), .lit (.int .u8 4), .lit (.int .u8 62), .lit (.int .u8 47), .lit (.int .u8 59), .lit (.int .u8 36), .lit (.int .u8 45), .lit (.int .u8 43), .lit (.int .u8 51), .lit (.int .u8 22), .lit (.int .u8 53), .lit (.int .u8 39), .lit (.int .u8 33), .lit (.int .u8 30), .lit (.int .u8 24), .lit (.int .u8 18), .lit (.int .u8 12), .lit (.int .u8 5), .lit (.int .u8 63), .lit (.int .u8 55), .lit (.int .u8 48), .lit (.int .u8 27), .lit (.int .u8 60), .lit (.int .u8 41), .lit (.int .u8 37), .lit (.int .u8 16), .lit (.int .u8 46), .lit (.int .u8 35), .lit (.int .u8 44), .lit (.int .u8 21), .lit (.int .u8 52), .lit (.int .u8 32), .lit (.int .u8 23), .lit (.int .u8 11), .lit (.int .u8 54), .lit (.int .u8 26), .lit (.int .u8 40), .lit (.int .u8 15), .lit (.int .u8 34), .lit (.int .u8 20), .lit (.int .u8 31), .lit (.int .u8 10), .lit (.int .u8 25), .lit (.int .u8 14), .lit (.int .u8 19), .lit (.int .u8 9), .lit (.int .u8 13), .lit (.int .u8 8), .lit (.int .u8 7), .lit (.int .u8 6)]
def laid_internal_strconv_uint64pow10 {H : Type} : DataW H := .agg [.lit (.int .u64 1), .lit (.int .u64 10), .lit (.int .u64 100), .lit (.int .u64 1000), .lit (.int .u64 10000), .lit (.int .u64 100000), .lit (.int .u64 1000000), .lit (.int .u64 10000000), .lit (.int .u64 100000000), .lit (.int .u64 1000000000), .lit (.int .u64 10000000000), .lit (.int .u64 100000000000), .lit (.int .u64 1000000000000), .lit (.int .u64 10000000000000), .lit (.int .u64 100000000000000), .lit (.int .u64 1000000000000000), .lit (.int .u64 10000000000000000), .lit (.int .u64 100000000000000000), .lit (.int .u64 1000000000000000000), .lit (.int .u64 10000000000000000000)]
def laid_unicode_utf8_acceptRanges {H : Type} : DataW H := .agg [.agg [.lit (.int .u8 128), .lit (.int .u8 191)], .agg [.lit (.int .u8 160), .lit (.int .u8 191)], .agg [.lit (.int .u8 128), .lit (.int .u8 159)], .agg [.lit (.int .u8 144), .lit (.int .u8 191)], .agg [.lit (.int .u8 128), .lit (.int .u8 143)], .agg [.lit (.int .u8 0), .lit (.int .u8 0)], .agg [.lit (.int .u8 0), .lit (.int .u8 0)], .agg [.lit (.int .u8 0), .lit (.int .u8 0)], .agg [.lit (.int .u8 0), .lit (.int .u8 0)], .agg [.lit (.int .u8 0), .lit (.int .u8 0)], .agg [.lit (.int .u8 0), .lit (.int .u8 0)], .agg [.lit (.int .u8 0), .lit (.int .u8 0)], .agg [.lit (.int .u8 0), .lit (.int .u8 0)], .agg [.lit (.int .u8 0), .lit (.int .u8 0)], .agg [.lit (.int .u8 0), .lit (.int .u8 0)], .agg [.lit (.int .u8 0), .lit (.int .u8 0)]]
def laid_strconv_ErrRange {H : Type} : DataW H := .iface "*errors.errorString" (.ptr (.agg [.lit (.string [118, 97, 108, 117, 101, 32, 111, 117, 116, 32, 111, 102, 32, 114, 97, 110, 103, 101])]))
def laid_strconv_ErrSyntax {H : Type} : DataW H := .iface "*errors.errorString" (.ptr (.agg [.lit (.string [105, 110, 118, 97, 108, 105, 100, 32, 115, 121, 110, 116, 97, 120])]))
/-- One of Go's own tables, pinned by name: the form's constant. -/
def laid_unicode_utf8_first : DataW Unit := Go.Pinned.utf8First

/-- 'laws.FnExactCurveText': WHATEVER THE INPUT: true; the input reads as it did. -/
def fnExactCurveTextSpec : ChangeSpec := { name := "fnExactCurveText", fn := fun _ => fun
  | [d] => { results := [.lit (.bool true)], args := [d] }
  | _ => none }
def fnExactCurveTextRow : OpenClaim := { program := "ytjbdoohpljffnaadoor", sum := "70ae302c3293e5aca692ff6adb4e9bdd72bfd491900dfc3be150d23a874fc304", func := "loop.example/icecores/laws.FnExactCurveText", spec := "fnExactCurveText", inPlace := ["internal/abi.NoEscape"], recurses := true, named := ["internal/strconv.uint64pow10", "math/bits.deBruijn32tab", "math/bits.deBruijn64tab"], apart := false, laid := [("math/bits.deBruijn32tab", laid_math_bits_deBruijn32tab), ("math/bits.deBruijn64tab", laid_math_bits_deBruijn64tab), ("internal/strconv.uint64pow10", laid_internal_strconv_uint64pow10)] }
def FnExactCurveTextSaid : Prop := fnExactCurveTextRow.holds Tryd.pinned (OpenSpec.ofChange fnExactCurveTextSpec)

/-- ITS FALSE NEIGHBOUR: 'it returns false'. Refute it at one input. -/
def fnExactCurveTextWrong : ChangeSpec := { name := "fnExactCurveText", fn := fun _ => fun
  | [d] => { results := [.lit (.bool false)], args := [d] }
  | _ => none }
def FnExactCurveTextWrongFalsely : Prop := fnExactCurveTextRow.holds Tryd.pinned (OpenSpec.ofChange fnExactCurveTextWrong)

/-- 'laws.FnCurveTextTurn': WHATEVER THE INPUT: true; the input reads as it did. -/
def fnCurveTextTurnSpec : ChangeSpec := { name := "fnCurveTextTurn", fn := fun _ => fun
  | [d] => { results := [.lit (.bool true)], args := [d] }
  | _ => none }
def fnCurveTextTurnRow : OpenClaim := { program := "ytjbdoohpljffnaadoor", sum := "70ae302c3293e5aca692ff6adb4e9bdd72bfd491900dfc3be150d23a874fc304", func := "loop.example/icecores/laws.FnCurveTextTurn", spec := "fnCurveTextTurn", inPlace := ["internal/abi.NoEscape"], recurses := true, named := ["internal/strconv.uint64pow10", "math/bits.deBruijn32tab", "math/bits.deBruijn64tab"], apart := false, laid := [("math/bits.deBruijn32tab", laid_math_bits_deBruijn32tab), ("math/bits.deBruijn64tab", laid_math_bits_deBruijn64tab), ("internal/strconv.uint64pow10", laid_internal_strconv_uint64pow10)] }
def FnCurveTextTurnSaid : Prop := fnCurveTextTurnRow.holds Tryd.pinned (OpenSpec.ofChange fnCurveTextTurnSpec)

/-- ITS FALSE NEIGHBOUR: 'it returns false'. Refute it at one input. -/
def fnCurveTextTurnWrong : ChangeSpec := { name := "fnCurveTextTurn", fn := fun _ => fun
  | [d] => { results := [.lit (.bool false)], args := [d] }
  | _ => none }
def FnCurveTextTurnWrongFalsely : Prop := fnCurveTextTurnRow.holds Tryd.pinned (OpenSpec.ofChange fnCurveTextTurnWrong)

/-- 'laws.FnLayersTextJoin': WHATEVER THE INPUT: true; the input reads as it did. -/
def fnLayersTextJoinSpec : ChangeSpec := { name := "fnLayersTextJoin", fn := fun _ => fun
  | [d1, d2] => { results := [.lit (.bool true)], args := [d1, d2] }
  | _ => none }
def fnLayersTextJoinRow : OpenClaim := { program := "ytjbdoohpljffnaadoor", sum := "70ae302c3293e5aca692ff6adb4e9bdd72bfd491900dfc3be150d23a874fc304", func := "loop.example/icecores/laws.FnLayersTextJoin", spec := "fnLayersTextJoin", inPlace := ["internal/abi.NoEscape"], recurses := true, named := ["internal/strconv.uint64pow10", "math/bits.deBruijn32tab", "math/bits.deBruijn64tab"], apart := false, laid := [("math/bits.deBruijn32tab", laid_math_bits_deBruijn32tab), ("math/bits.deBruijn64tab", laid_math_bits_deBruijn64tab), ("internal/strconv.uint64pow10", laid_internal_strconv_uint64pow10)] }
def FnLayersTextJoinSaid : Prop := fnLayersTextJoinRow.holds Tryd.pinned (OpenSpec.ofChange fnLayersTextJoinSpec)

/-- ITS FALSE NEIGHBOUR: 'it returns false'. Refute it at one input. -/
def fnLayersTextJoinWrong : ChangeSpec := { name := "fnLayersTextJoin", fn := fun _ => fun
  | [d1, d2] => { results := [.lit (.bool false)], args := [d1, d2] }
  | _ => none }
def FnLayersTextJoinWrongFalsely : Prop := fnLayersTextJoinRow.holds Tryd.pinned (OpenSpec.ofChange fnLayersTextJoinWrong)

/-- 'laws.FnExactLayersText': WHATEVER THE INPUT: true; the input reads as it did. -/
def fnExactLayersTextSpec : ChangeSpec := { name := "fnExactLayersText", fn := fun _ => fun
  | [d] => { results := [.lit (.bool true)], args := [d] }
  | _ => none }
def fnExactLayersTextRow : OpenClaim := { program := "ytjbdoohpljffnaadoor", sum := "70ae302c3293e5aca692ff6adb4e9bdd72bfd491900dfc3be150d23a874fc304", func := "loop.example/icecores/laws.FnExactLayersText", spec := "fnExactLayersText", inPlace := ["internal/abi.NoEscape"], recurses := true, named := ["internal/strconv.uint64pow10", "math/bits.deBruijn32tab", "math/bits.deBruijn64tab"], apart := false, laid := [("math/bits.deBruijn32tab", laid_math_bits_deBruijn32tab), ("math/bits.deBruijn64tab", laid_math_bits_deBruijn64tab), ("internal/strconv.uint64pow10", laid_internal_strconv_uint64pow10)] }
def FnExactLayersTextSaid : Prop := fnExactLayersTextRow.holds Tryd.pinned (OpenSpec.ofChange fnExactLayersTextSpec)

/-- ITS FALSE NEIGHBOUR: 'it returns false'. Refute it at one input. -/
def fnExactLayersTextWrong : ChangeSpec := { name := "fnExactLayersText", fn := fun _ => fun
  | [d] => { results := [.lit (.bool false)], args := [d] }
  | _ => none }
def FnExactLayersTextWrongFalsely : Prop := fnExactLayersTextRow.holds Tryd.pinned (OpenSpec.ofChange fnExactLayersTextWrong)

/-- 'laws.FnExactCoreText': WHATEVER THE INPUT: true; the input reads as it did. -/
def fnExactCoreTextSpec : ChangeSpec := { name := "fnExactCoreText", fn := fun _ => fun
  | [d] => { results := [.lit (.bool true)], args := [d] }
  | _ => none }
def fnExactCoreTextRow : OpenClaim := { program := "ytjbdoohpljffnaadoor", sum := "70ae302c3293e5aca692ff6adb4e9bdd72bfd491900dfc3be150d23a874fc304", func := "loop.example/icecores/laws.FnExactCoreText", spec := "fnExactCoreText", inPlace := ["internal/abi.NoEscape", "internal/bytealg.MakeNoZero"], recurses := true, named := ["internal/strconv.uint64pow10", "math/bits.deBruijn32tab", "math/bits.deBruijn64tab"], apart := false, laid := [("math/bits.deBruijn32tab", laid_math_bits_deBruijn32tab), ("math/bits.deBruijn64tab", laid_math_bits_deBruijn64tab), ("internal/strconv.uint64pow10", laid_internal_strconv_uint64pow10)] }
def FnExactCoreTextSaid : Prop := fnExactCoreTextRow.holds Tryd.pinned (OpenSpec.ofChange fnExactCoreTextSpec)

/-- ITS FALSE NEIGHBOUR: 'it returns false'. Refute it at one input. -/
def fnExactCoreTextWrong : ChangeSpec := { name := "fnExactCoreText", fn := fun _ => fun
  | [d] => { results := [.lit (.bool false)], args := [d] }
  | _ => none }
def FnExactCoreTextWrongFalsely : Prop := fnExactCoreTextRow.holds Tryd.pinned (OpenSpec.ofChange fnExactCoreTextWrong)

/-- 'laws.FnCoreText': WHATEVER THE INPUT: true; the input reads as it did. -/
def fnCoreTextSpec : ChangeSpec := { name := "fnCoreText", fn := fun _ => fun
  | [d] => { results := [.lit (.bool true)], args := [d] }
  | _ => none }
def fnCoreTextRow : OpenClaim := { program := "ytjbdoohpljffnaadoor", sum := "70ae302c3293e5aca692ff6adb4e9bdd72bfd491900dfc3be150d23a874fc304", func := "loop.example/icecores/laws.FnCoreText", spec := "fnCoreText", inPlace := ["internal/abi.NoEscape", "internal/bytealg.MakeNoZero"], recurses := true, named := ["internal/strconv.uint64pow10", "math/bits.deBruijn32tab", "math/bits.deBruijn64tab"], apart := false, laid := [("math/bits.deBruijn32tab", laid_math_bits_deBruijn32tab), ("math/bits.deBruijn64tab", laid_math_bits_deBruijn64tab), ("internal/strconv.uint64pow10", laid_internal_strconv_uint64pow10)] }
def FnCoreTextSaid : Prop := fnCoreTextRow.holds Tryd.pinned (OpenSpec.ofChange fnCoreTextSpec)

/-- ITS FALSE NEIGHBOUR: 'it returns false'. Refute it at one input. -/
def fnCoreTextWrong : ChangeSpec := { name := "fnCoreText", fn := fun _ => fun
  | [d] => { results := [.lit (.bool false)], args := [d] }
  | _ => none }
def FnCoreTextWrongFalsely : Prop := fnCoreTextRow.holds Tryd.pinned (OpenSpec.ofChange fnCoreTextWrong)

/-- 'laws.FnCoreTextParts': WHATEVER THE INPUT: true; the input reads as it did. -/
def fnCoreTextPartsSpec : ChangeSpec := { name := "fnCoreTextParts", fn := fun _ => fun
  | [d1, d2] => { results := [.lit (.bool true)], args := [d1, d2] }
  | _ => none }
def fnCoreTextPartsRow : OpenClaim := { program := "ytjbdoohpljffnaadoor", sum := "70ae302c3293e5aca692ff6adb4e9bdd72bfd491900dfc3be150d23a874fc304", func := "loop.example/icecores/laws.FnCoreTextParts", spec := "fnCoreTextParts", inPlace := ["internal/abi.NoEscape", "internal/bytealg.MakeNoZero"], recurses := true, named := ["internal/strconv.uint64pow10", "math/bits.deBruijn32tab", "math/bits.deBruijn64tab"], apart := false, laid := [("math/bits.deBruijn32tab", laid_math_bits_deBruijn32tab), ("math/bits.deBruijn64tab", laid_math_bits_deBruijn64tab), ("internal/strconv.uint64pow10", laid_internal_strconv_uint64pow10)] }
def FnCoreTextPartsSaid : Prop := fnCoreTextPartsRow.holds Tryd.pinned (OpenSpec.ofChange fnCoreTextPartsSpec)

/-- ITS FALSE NEIGHBOUR: 'it returns false'. Refute it at one input. -/
def fnCoreTextPartsWrong : ChangeSpec := { name := "fnCoreTextParts", fn := fun _ => fun
  | [d1, d2] => { results := [.lit (.bool false)], args := [d1, d2] }
  | _ => none }
def FnCoreTextPartsWrongFalsely : Prop := fnCoreTextPartsRow.holds Tryd.pinned (OpenSpec.ofChange fnCoreTextPartsWrong)

/-- 'laws.FnCurveText': WHATEVER THE INPUT: true; the input reads as it did. -/
def fnCurveTextSpec : ChangeSpec := { name := "fnCurveText", fn := fun _ => fun
  | [d1, d2] => { results := [.lit (.bool true)], args := [d1, d2] }
  | _ => none }
def fnCurveTextRow : OpenClaim := { program := "ytjbdoohpljffnaadoor", sum := "70ae302c3293e5aca692ff6adb4e9bdd72bfd491900dfc3be150d23a874fc304", func := "loop.example/icecores/laws.FnCurveText", spec := "fnCurveText", inPlace := ["internal/abi.NoEscape", "internal/bytealg.IndexByteString", "internal/bytealg.IndexString"], unfollowed := true, recurses := true, named := ["internal/strconv.uint64pow10", "math/bits.deBruijn32tab", "math/bits.deBruijn64tab", "unicode/utf8.first", "unicode/utf8.acceptRanges", "internal/bytealg.MaxLen", "strconv.ErrSyntax", "strconv.ErrRange"], apart := false, laid := [("math/bits.deBruijn32tab", laid_math_bits_deBruijn32tab), ("math/bits.deBruijn64tab", laid_math_bits_deBruijn64tab), ("internal/strconv.uint64pow10", laid_internal_strconv_uint64pow10), ("unicode/utf8.acceptRanges", laid_unicode_utf8_acceptRanges), ("strconv.ErrRange", laid_strconv_ErrRange), ("strconv.ErrSyntax", laid_strconv_ErrSyntax), ("unicode/utf8.first", laid_unicode_utf8_first)] }
def FnCurveTextSaid : Prop := fnCurveTextRow.holds Tryd.pinned (OpenSpec.ofChange fnCurveTextSpec)

/-- ITS FALSE NEIGHBOUR: 'it returns false'. Refute it at one input. -/
def fnCurveTextWrong : ChangeSpec := { name := "fnCurveText", fn := fun _ => fun
  | [d1, d2] => { results := [.lit (.bool false)], args := [d1, d2] }
  | _ => none }
def FnCurveTextWrongFalsely : Prop := fnCurveTextRow.holds Tryd.pinned (OpenSpec.ofChange fnCurveTextWrong)

/-- 'laws.FnLayersText': WHATEVER THE INPUT: true; the input reads as it did. -/
def fnLayersTextSpec : ChangeSpec := { name := "fnLayersText", fn := fun _ => fun
  | [d] => { results := [.lit (.bool true)], args := [d] }
  | _ => none }
def fnLayersTextRow : OpenClaim := { program := "ytjbdoohpljffnaadoor", sum := "70ae302c3293e5aca692ff6adb4e9bdd72bfd491900dfc3be150d23a874fc304", func := "loop.example/icecores/laws.FnLayersText", spec := "fnLayersText", inPlace := ["internal/abi.NoEscape", "internal/bytealg.IndexByteString", "internal/bytealg.IndexString"], unfollowed := true, recurses := true, named := ["internal/strconv.uint64pow10", "math/bits.deBruijn32tab", "math/bits.deBruijn64tab", "unicode/utf8.first", "unicode/utf8.acceptRanges", "internal/bytealg.MaxLen", "strconv.ErrSyntax", "strconv.ErrRange"], apart := false, laid := [("math/bits.deBruijn32tab", laid_math_bits_deBruijn32tab), ("math/bits.deBruijn64tab", laid_math_bits_deBruijn64tab), ("internal/strconv.uint64pow10", laid_internal_strconv_uint64pow10), ("unicode/utf8.acceptRanges", laid_unicode_utf8_acceptRanges), ("strconv.ErrRange", laid_strconv_ErrRange), ("strconv.ErrSyntax", laid_strconv_ErrSyntax), ("unicode/utf8.first", laid_unicode_utf8_first)] }
def FnLayersTextSaid : Prop := fnLayersTextRow.holds Tryd.pinned (OpenSpec.ofChange fnLayersTextSpec)

/-- ITS FALSE NEIGHBOUR: 'it returns false'. Refute it at one input. -/
def fnLayersTextWrong : ChangeSpec := { name := "fnLayersText", fn := fun _ => fun
  | [d] => { results := [.lit (.bool false)], args := [d] }
  | _ => none }
def FnLayersTextWrongFalsely : Prop := fnLayersTextRow.holds Tryd.pinned (OpenSpec.ofChange fnLayersTextWrong)

/-- 'laws.FnExactCurveFrom': WHATEVER THE INPUT: true; the input reads as it did. -/
def fnExactCurveFromSpec : ChangeSpec := { name := "fnExactCurveFrom", fn := fun _ => fun
  | [d] => { results := [.lit (.bool true)], args := [d] }
  | _ => none }
def fnExactCurveFromRow : OpenClaim := { program := "ytjbdoohpljffnaadoor", sum := "70ae302c3293e5aca692ff6adb4e9bdd72bfd491900dfc3be150d23a874fc304", func := "loop.example/icecores/laws.FnExactCurveFrom", spec := "fnExactCurveFrom", inPlace := ["internal/bytealg.IndexByteString", "internal/bytealg.IndexString", "internal/abi.NoEscape"], unfollowed := true, recurses := true, named := ["unicode/utf8.first", "unicode/utf8.acceptRanges", "internal/bytealg.MaxLen", "strconv.ErrSyntax", "strconv.ErrRange", "internal/strconv.uint64pow10", "math/bits.deBruijn32tab", "math/bits.deBruijn64tab"], apart := false, laid := [("math/bits.deBruijn32tab", laid_math_bits_deBruijn32tab), ("math/bits.deBruijn64tab", laid_math_bits_deBruijn64tab), ("internal/strconv.uint64pow10", laid_internal_strconv_uint64pow10), ("unicode/utf8.acceptRanges", laid_unicode_utf8_acceptRanges), ("strconv.ErrRange", laid_strconv_ErrRange), ("strconv.ErrSyntax", laid_strconv_ErrSyntax), ("unicode/utf8.first", laid_unicode_utf8_first)] }
def FnExactCurveFromSaid : Prop := fnExactCurveFromRow.holds Tryd.pinned (OpenSpec.ofChange fnExactCurveFromSpec)

/-- ITS FALSE NEIGHBOUR: 'it returns false'. Refute it at one input. -/
def fnExactCurveFromWrong : ChangeSpec := { name := "fnExactCurveFrom", fn := fun _ => fun
  | [d] => { results := [.lit (.bool false)], args := [d] }
  | _ => none }
def FnExactCurveFromWrongFalsely : Prop := fnExactCurveFromRow.holds Tryd.pinned (OpenSpec.ofChange fnExactCurveFromWrong)

/-- 'laws.FnExactLayersFrom': WHATEVER THE INPUT: true; the input reads as it did. -/
def fnExactLayersFromSpec : ChangeSpec := { name := "fnExactLayersFrom", fn := fun _ => fun
  | [d] => { results := [.lit (.bool true)], args := [d] }
  | _ => none }
def fnExactLayersFromRow : OpenClaim := { program := "ytjbdoohpljffnaadoor", sum := "70ae302c3293e5aca692ff6adb4e9bdd72bfd491900dfc3be150d23a874fc304", func := "loop.example/icecores/laws.FnExactLayersFrom", spec := "fnExactLayersFrom", inPlace := ["internal/bytealg.IndexByteString", "internal/bytealg.IndexString", "internal/abi.NoEscape"], unfollowed := true, recurses := true, named := ["unicode/utf8.first", "unicode/utf8.acceptRanges", "internal/bytealg.MaxLen", "strconv.ErrSyntax", "strconv.ErrRange", "internal/strconv.uint64pow10", "math/bits.deBruijn32tab", "math/bits.deBruijn64tab"], apart := false, laid := [("math/bits.deBruijn32tab", laid_math_bits_deBruijn32tab), ("math/bits.deBruijn64tab", laid_math_bits_deBruijn64tab), ("internal/strconv.uint64pow10", laid_internal_strconv_uint64pow10), ("unicode/utf8.acceptRanges", laid_unicode_utf8_acceptRanges), ("strconv.ErrRange", laid_strconv_ErrRange), ("strconv.ErrSyntax", laid_strconv_ErrSyntax), ("unicode/utf8.first", laid_unicode_utf8_first)] }
def FnExactLayersFromSaid : Prop := fnExactLayersFromRow.holds Tryd.pinned (OpenSpec.ofChange fnExactLayersFromSpec)

/-- ITS FALSE NEIGHBOUR: 'it returns false'. Refute it at one input. -/
def fnExactLayersFromWrong : ChangeSpec := { name := "fnExactLayersFrom", fn := fun _ => fun
  | [d] => { results := [.lit (.bool false)], args := [d] }
  | _ => none }
def FnExactLayersFromWrongFalsely : Prop := fnExactLayersFromRow.holds Tryd.pinned (OpenSpec.ofChange fnExactLayersFromWrong)

/-- 'laws.FnCurveFrom': WHATEVER THE INPUT: true; the input reads as it did. -/
def fnCurveFromSpec : ChangeSpec := { name := "fnCurveFrom", fn := fun _ => fun
  | [d] => { results := [.lit (.bool true)], args := [d] }
  | _ => none }
def fnCurveFromRow : OpenClaim := { program := "ytjbdoohpljffnaadoor", sum := "70ae302c3293e5aca692ff6adb4e9bdd72bfd491900dfc3be150d23a874fc304", func := "loop.example/icecores/laws.FnCurveFrom", spec := "fnCurveFrom", inPlace := ["internal/bytealg.IndexByteString", "internal/bytealg.IndexString", "internal/abi.NoEscape"], unfollowed := true, recurses := true, named := ["unicode/utf8.first", "unicode/utf8.acceptRanges", "internal/bytealg.MaxLen", "strconv.ErrSyntax", "strconv.ErrRange", "internal/strconv.uint64pow10", "math/bits.deBruijn32tab", "math/bits.deBruijn64tab"], apart := false, laid := [("math/bits.deBruijn32tab", laid_math_bits_deBruijn32tab), ("math/bits.deBruijn64tab", laid_math_bits_deBruijn64tab), ("internal/strconv.uint64pow10", laid_internal_strconv_uint64pow10), ("unicode/utf8.acceptRanges", laid_unicode_utf8_acceptRanges), ("strconv.ErrRange", laid_strconv_ErrRange), ("strconv.ErrSyntax", laid_strconv_ErrSyntax), ("unicode/utf8.first", laid_unicode_utf8_first)] }
def FnCurveFromSaid : Prop := fnCurveFromRow.holds Tryd.pinned (OpenSpec.ofChange fnCurveFromSpec)

/-- ITS FALSE NEIGHBOUR: 'it returns false'. Refute it at one input. -/
def fnCurveFromWrong : ChangeSpec := { name := "fnCurveFrom", fn := fun _ => fun
  | [d] => { results := [.lit (.bool false)], args := [d] }
  | _ => none }
def FnCurveFromWrongFalsely : Prop := fnCurveFromRow.holds Tryd.pinned (OpenSpec.ofChange fnCurveFromWrong)

/-- 'laws.FnLayersFrom': WHATEVER THE INPUT: true; the input reads as it did. -/
def fnLayersFromSpec : ChangeSpec := { name := "fnLayersFrom", fn := fun _ => fun
  | [d] => { results := [.lit (.bool true)], args := [d] }
  | _ => none }
def fnLayersFromRow : OpenClaim := { program := "ytjbdoohpljffnaadoor", sum := "70ae302c3293e5aca692ff6adb4e9bdd72bfd491900dfc3be150d23a874fc304", func := "loop.example/icecores/laws.FnLayersFrom", spec := "fnLayersFrom", inPlace := ["internal/bytealg.IndexByteString", "internal/bytealg.IndexString", "internal/abi.NoEscape"], unfollowed := true, recurses := true, named := ["unicode/utf8.first", "unicode/utf8.acceptRanges", "internal/bytealg.MaxLen", "strconv.ErrSyntax", "strconv.ErrRange", "internal/strconv.uint64pow10", "math/bits.deBruijn32tab", "math/bits.deBruijn64tab"], apart := false, laid := [("math/bits.deBruijn32tab", laid_math_bits_deBruijn32tab), ("math/bits.deBruijn64tab", laid_math_bits_deBruijn64tab), ("internal/strconv.uint64pow10", laid_internal_strconv_uint64pow10), ("unicode/utf8.acceptRanges", laid_unicode_utf8_acceptRanges), ("strconv.ErrRange", laid_strconv_ErrRange), ("strconv.ErrSyntax", laid_strconv_ErrSyntax), ("unicode/utf8.first", laid_unicode_utf8_first)] }
def FnLayersFromSaid : Prop := fnLayersFromRow.holds Tryd.pinned (OpenSpec.ofChange fnLayersFromSpec)

/-- ITS FALSE NEIGHBOUR: 'it returns false'. Refute it at one input. -/
def fnLayersFromWrong : ChangeSpec := { name := "fnLayersFrom", fn := fun _ => fun
  | [d] => { results := [.lit (.bool false)], args := [d] }
  | _ => none }
def FnLayersFromWrongFalsely : Prop := fnLayersFromRow.holds Tryd.pinned (OpenSpec.ofChange fnLayersFromWrong)

/- THE SECOND FORM. 'bulk': how many values and letters a reading holds, each counted each time it is reached (what is shared counts as often as it is met; a slice's spare places count too). A statement '..UptoSaid' is the law's where the arguments, and the package variables that the reading takes, are together of bulk at most 1048576: NARROWER than '..Said'. Prove '..Said' where nothing that the law and all that it calls make is longer than what came in: it says more and counts as full. Else prove '..UptoSaid'. A law counts once. -/
mutual
def uptoBulk {H : Type} : DataW H → Nat
  | .lit (.string bytes) => bytes.length + 1
  | .lit _ => 1
  | .nil => 1
  | .ptr d => uptoBulk d + 1
  | .slice elems spare => uptoBulkAll elems + uptoBulkAll spare + 1
  | .agg parts => uptoBulkAll parts + 1
  | .iface _ d => uptoBulk d + 1
  | .map entries => uptoBulkEntries entries + 1
  | .held _ => 1
def uptoBulkAll {H : Type} : List (DataW H) → Nat
  | [] => 0
  | d :: r => uptoBulk d + uptoBulkAll r
def uptoBulkEntries {H : Type} : List (Lit × DataW H) → Nat
  | [] => 0
  | x :: r => uptoBulkEntry x + uptoBulkEntries r
def uptoBulkEntry {H : Type} : Lit × DataW H → Nat
  | (.string bytes, d) => bytes.length + uptoBulk d + 1
  | (_, d) => uptoBulk d + 1
 end
def uptoSmall : (H : Type) → List (DataW H) → Bool := fun _ ds => decide (uptoBulkAll ds ≤ 1048576)
def OpenSpec.upto (s : _root_.Go.ChangeSpec) : _root_.Go.OpenSpec := { _root_.Go.OpenSpec.ofChange s with cond := some uptoSmall }

/-- 'laws.FnExactCurveText', WHERE WHAT IT READS IS OF BULK AT MOST 1048576: true; the input reads as it did. -/
def fnExactCurveTextUptoRow : OpenClaim := { program := "ytjbdoohpljffnaadoor", sum := "70ae302c3293e5aca692ff6adb4e9bdd72bfd491900dfc3be150d23a874fc304", func := "loop.example/icecores/laws.FnExactCurveText", spec := "fnExactCurveText", inPlace := ["internal/abi.NoEscape"], recurses := true, named := ["internal/strconv.uint64pow10", "math/bits.deBruijn32tab", "math/bits.deBruijn64tab"], apart := false, laid := [("math/bits.deBruijn32tab", laid_math_bits_deBruijn32tab), ("math/bits.deBruijn64tab", laid_math_bits_deBruijn64tab), ("internal/strconv.uint64pow10", laid_internal_strconv_uint64pow10)], narrowed := true }
def FnExactCurveTextUptoSaid : Prop := fnExactCurveTextUptoRow.holds Tryd.pinned (OpenSpec.upto fnExactCurveTextSpec)

/-- 'laws.FnCurveTextTurn', WHERE WHAT IT READS IS OF BULK AT MOST 1048576: true; the input reads as it did. -/
def fnCurveTextTurnUptoRow : OpenClaim := { program := "ytjbdoohpljffnaadoor", sum := "70ae302c3293e5aca692ff6adb4e9bdd72bfd491900dfc3be150d23a874fc304", func := "loop.example/icecores/laws.FnCurveTextTurn", spec := "fnCurveTextTurn", inPlace := ["internal/abi.NoEscape"], recurses := true, named := ["internal/strconv.uint64pow10", "math/bits.deBruijn32tab", "math/bits.deBruijn64tab"], apart := false, laid := [("math/bits.deBruijn32tab", laid_math_bits_deBruijn32tab), ("math/bits.deBruijn64tab", laid_math_bits_deBruijn64tab), ("internal/strconv.uint64pow10", laid_internal_strconv_uint64pow10)], narrowed := true }
def FnCurveTextTurnUptoSaid : Prop := fnCurveTextTurnUptoRow.holds Tryd.pinned (OpenSpec.upto fnCurveTextTurnSpec)

/-- 'laws.FnLayersTextJoin', WHERE WHAT IT READS IS OF BULK AT MOST 1048576: true; the input reads as it did. -/
def fnLayersTextJoinUptoRow : OpenClaim := { program := "ytjbdoohpljffnaadoor", sum := "70ae302c3293e5aca692ff6adb4e9bdd72bfd491900dfc3be150d23a874fc304", func := "loop.example/icecores/laws.FnLayersTextJoin", spec := "fnLayersTextJoin", inPlace := ["internal/abi.NoEscape"], recurses := true, named := ["internal/strconv.uint64pow10", "math/bits.deBruijn32tab", "math/bits.deBruijn64tab"], apart := false, laid := [("math/bits.deBruijn32tab", laid_math_bits_deBruijn32tab), ("math/bits.deBruijn64tab", laid_math_bits_deBruijn64tab), ("internal/strconv.uint64pow10", laid_internal_strconv_uint64pow10)], narrowed := true }
def FnLayersTextJoinUptoSaid : Prop := fnLayersTextJoinUptoRow.holds Tryd.pinned (OpenSpec.upto fnLayersTextJoinSpec)

/-- 'laws.FnExactLayersText', WHERE WHAT IT READS IS OF BULK AT MOST 1048576: true; the input reads as it did. -/
def fnExactLayersTextUptoRow : OpenClaim := { program := "ytjbdoohpljffnaadoor", sum := "70ae302c3293e5aca692ff6adb4e9bdd72bfd491900dfc3be150d23a874fc304", func := "loop.example/icecores/laws.FnExactLayersText", spec := "fnExactLayersText", inPlace := ["internal/abi.NoEscape"], recurses := true, named := ["internal/strconv.uint64pow10", "math/bits.deBruijn32tab", "math/bits.deBruijn64tab"], apart := false, laid := [("math/bits.deBruijn32tab", laid_math_bits_deBruijn32tab), ("math/bits.deBruijn64tab", laid_math_bits_deBruijn64tab), ("internal/strconv.uint64pow10", laid_internal_strconv_uint64pow10)], narrowed := true }
def FnExactLayersTextUptoSaid : Prop := fnExactLayersTextUptoRow.holds Tryd.pinned (OpenSpec.upto fnExactLayersTextSpec)

/-- 'laws.FnExactCoreText', WHERE WHAT IT READS IS OF BULK AT MOST 1048576: true; the input reads as it did. -/
def fnExactCoreTextUptoRow : OpenClaim := { program := "ytjbdoohpljffnaadoor", sum := "70ae302c3293e5aca692ff6adb4e9bdd72bfd491900dfc3be150d23a874fc304", func := "loop.example/icecores/laws.FnExactCoreText", spec := "fnExactCoreText", inPlace := ["internal/abi.NoEscape", "internal/bytealg.MakeNoZero"], recurses := true, named := ["internal/strconv.uint64pow10", "math/bits.deBruijn32tab", "math/bits.deBruijn64tab"], apart := false, laid := [("math/bits.deBruijn32tab", laid_math_bits_deBruijn32tab), ("math/bits.deBruijn64tab", laid_math_bits_deBruijn64tab), ("internal/strconv.uint64pow10", laid_internal_strconv_uint64pow10)], narrowed := true }
def FnExactCoreTextUptoSaid : Prop := fnExactCoreTextUptoRow.holds Tryd.pinned (OpenSpec.upto fnExactCoreTextSpec)

/-- 'laws.FnCoreText', WHERE WHAT IT READS IS OF BULK AT MOST 1048576: true; the input reads as it did. -/
def fnCoreTextUptoRow : OpenClaim := { program := "ytjbdoohpljffnaadoor", sum := "70ae302c3293e5aca692ff6adb4e9bdd72bfd491900dfc3be150d23a874fc304", func := "loop.example/icecores/laws.FnCoreText", spec := "fnCoreText", inPlace := ["internal/abi.NoEscape", "internal/bytealg.MakeNoZero"], recurses := true, named := ["internal/strconv.uint64pow10", "math/bits.deBruijn32tab", "math/bits.deBruijn64tab"], apart := false, laid := [("math/bits.deBruijn32tab", laid_math_bits_deBruijn32tab), ("math/bits.deBruijn64tab", laid_math_bits_deBruijn64tab), ("internal/strconv.uint64pow10", laid_internal_strconv_uint64pow10)], narrowed := true }
def FnCoreTextUptoSaid : Prop := fnCoreTextUptoRow.holds Tryd.pinned (OpenSpec.upto fnCoreTextSpec)

/-- 'laws.FnCoreTextParts', WHERE WHAT IT READS IS OF BULK AT MOST 1048576: true; the input reads as it did. -/
def fnCoreTextPartsUptoRow : OpenClaim := { program := "ytjbdoohpljffnaadoor", sum := "70ae302c3293e5aca692ff6adb4e9bdd72bfd491900dfc3be150d23a874fc304", func := "loop.example/icecores/laws.FnCoreTextParts", spec := "fnCoreTextParts", inPlace := ["internal/abi.NoEscape", "internal/bytealg.MakeNoZero"], recurses := true, named := ["internal/strconv.uint64pow10", "math/bits.deBruijn32tab", "math/bits.deBruijn64tab"], apart := false, laid := [("math/bits.deBruijn32tab", laid_math_bits_deBruijn32tab), ("math/bits.deBruijn64tab", laid_math_bits_deBruijn64tab), ("internal/strconv.uint64pow10", laid_internal_strconv_uint64pow10)], narrowed := true }
def FnCoreTextPartsUptoSaid : Prop := fnCoreTextPartsUptoRow.holds Tryd.pinned (OpenSpec.upto fnCoreTextPartsSpec)

/-- 'laws.FnCurveText', WHERE WHAT IT READS IS OF BULK AT MOST 1048576: true; the input reads as it did. -/
def fnCurveTextUptoRow : OpenClaim := { program := "ytjbdoohpljffnaadoor", sum := "70ae302c3293e5aca692ff6adb4e9bdd72bfd491900dfc3be150d23a874fc304", func := "loop.example/icecores/laws.FnCurveText", spec := "fnCurveText", inPlace := ["internal/abi.NoEscape", "internal/bytealg.IndexByteString", "internal/bytealg.IndexString"], unfollowed := true, recurses := true, named := ["internal/strconv.uint64pow10", "math/bits.deBruijn32tab", "math/bits.deBruijn64tab", "unicode/utf8.first", "unicode/utf8.acceptRanges", "internal/bytealg.MaxLen", "strconv.ErrSyntax", "strconv.ErrRange"], apart := false, laid := [("math/bits.deBruijn32tab", laid_math_bits_deBruijn32tab), ("math/bits.deBruijn64tab", laid_math_bits_deBruijn64tab), ("internal/strconv.uint64pow10", laid_internal_strconv_uint64pow10), ("unicode/utf8.acceptRanges", laid_unicode_utf8_acceptRanges), ("strconv.ErrRange", laid_strconv_ErrRange), ("strconv.ErrSyntax", laid_strconv_ErrSyntax), ("unicode/utf8.first", laid_unicode_utf8_first)], narrowed := true }
def FnCurveTextUptoSaid : Prop := fnCurveTextUptoRow.holds Tryd.pinned (OpenSpec.upto fnCurveTextSpec)

/-- 'laws.FnLayersText', WHERE WHAT IT READS IS OF BULK AT MOST 1048576: true; the input reads as it did. -/
def fnLayersTextUptoRow : OpenClaim := { program := "ytjbdoohpljffnaadoor", sum := "70ae302c3293e5aca692ff6adb4e9bdd72bfd491900dfc3be150d23a874fc304", func := "loop.example/icecores/laws.FnLayersText", spec := "fnLayersText", inPlace := ["internal/abi.NoEscape", "internal/bytealg.IndexByteString", "internal/bytealg.IndexString"], unfollowed := true, recurses := true, named := ["internal/strconv.uint64pow10", "math/bits.deBruijn32tab", "math/bits.deBruijn64tab", "unicode/utf8.first", "unicode/utf8.acceptRanges", "internal/bytealg.MaxLen", "strconv.ErrSyntax", "strconv.ErrRange"], apart := false, laid := [("math/bits.deBruijn32tab", laid_math_bits_deBruijn32tab), ("math/bits.deBruijn64tab", laid_math_bits_deBruijn64tab), ("internal/strconv.uint64pow10", laid_internal_strconv_uint64pow10), ("unicode/utf8.acceptRanges", laid_unicode_utf8_acceptRanges), ("strconv.ErrRange", laid_strconv_ErrRange), ("strconv.ErrSyntax", laid_strconv_ErrSyntax), ("unicode/utf8.first", laid_unicode_utf8_first)], narrowed := true }
def FnLayersTextUptoSaid : Prop := fnLayersTextUptoRow.holds Tryd.pinned (OpenSpec.upto fnLayersTextSpec)

/-- 'laws.FnExactCurveFrom', WHERE WHAT IT READS IS OF BULK AT MOST 1048576: true; the input reads as it did. -/
def fnExactCurveFromUptoRow : OpenClaim := { program := "ytjbdoohpljffnaadoor", sum := "70ae302c3293e5aca692ff6adb4e9bdd72bfd491900dfc3be150d23a874fc304", func := "loop.example/icecores/laws.FnExactCurveFrom", spec := "fnExactCurveFrom", inPlace := ["internal/bytealg.IndexByteString", "internal/bytealg.IndexString", "internal/abi.NoEscape"], unfollowed := true, recurses := true, named := ["unicode/utf8.first", "unicode/utf8.acceptRanges", "internal/bytealg.MaxLen", "strconv.ErrSyntax", "strconv.ErrRange", "internal/strconv.uint64pow10", "math/bits.deBruijn32tab", "math/bits.deBruijn64tab"], apart := false, laid := [("math/bits.deBruijn32tab", laid_math_bits_deBruijn32tab), ("math/bits.deBruijn64tab", laid_math_bits_deBruijn64tab), ("internal/strconv.uint64pow10", laid_internal_strconv_uint64pow10), ("unicode/utf8.acceptRanges", laid_unicode_utf8_acceptRanges), ("strconv.ErrRange", laid_strconv_ErrRange), ("strconv.ErrSyntax", laid_strconv_ErrSyntax), ("unicode/utf8.first", laid_unicode_utf8_first)], narrowed := true }
def FnExactCurveFromUptoSaid : Prop := fnExactCurveFromUptoRow.holds Tryd.pinned (OpenSpec.upto fnExactCurveFromSpec)

/-- 'laws.FnExactLayersFrom', WHERE WHAT IT READS IS OF BULK AT MOST 1048576: true; the input reads as it did. -/
def fnExactLayersFromUptoRow : OpenClaim := { program := "ytjbdoohpljffnaadoor", sum := "70ae302c3293e5aca692ff6adb4e9bdd72bfd491900dfc3be150d23a874fc304", func := "loop.example/icecores/laws.FnExactLayersFrom", spec := "fnExactLayersFrom", inPlace := ["internal/bytealg.IndexByteString", "internal/bytealg.IndexString", "internal/abi.NoEscape"], unfollowed := true, recurses := true, named := ["unicode/utf8.first", "unicode/utf8.acceptRanges", "internal/bytealg.MaxLen", "strconv.ErrSyntax", "strconv.ErrRange", "internal/strconv.uint64pow10", "math/bits.deBruijn32tab", "math/bits.deBruijn64tab"], apart := false, laid := [("math/bits.deBruijn32tab", laid_math_bits_deBruijn32tab), ("math/bits.deBruijn64tab", laid_math_bits_deBruijn64tab), ("internal/strconv.uint64pow10", laid_internal_strconv_uint64pow10), ("unicode/utf8.acceptRanges", laid_unicode_utf8_acceptRanges), ("strconv.ErrRange", laid_strconv_ErrRange), ("strconv.ErrSyntax", laid_strconv_ErrSyntax), ("unicode/utf8.first", laid_unicode_utf8_first)], narrowed := true }
def FnExactLayersFromUptoSaid : Prop := fnExactLayersFromUptoRow.holds Tryd.pinned (OpenSpec.upto fnExactLayersFromSpec)

/-- 'laws.FnCurveFrom', WHERE WHAT IT READS IS OF BULK AT MOST 1048576: true; the input reads as it did. -/
def fnCurveFromUptoRow : OpenClaim := { program := "ytjbdoohpljffnaadoor", sum := "70ae302c3293e5aca692ff6adb4e9bdd72bfd491900dfc3be150d23a874fc304", func := "loop.example/icecores/laws.FnCurveFrom", spec := "fnCurveFrom", inPlace := ["internal/bytealg.IndexByteString", "internal/bytealg.IndexString", "internal/abi.NoEscape"], unfollowed := true, recurses := true, named := ["unicode/utf8.first", "unicode/utf8.acceptRanges", "internal/bytealg.MaxLen", "strconv.ErrSyntax", "strconv.ErrRange", "internal/strconv.uint64pow10", "math/bits.deBruijn32tab", "math/bits.deBruijn64tab"], apart := false, laid := [("math/bits.deBruijn32tab", laid_math_bits_deBruijn32tab), ("math/bits.deBruijn64tab", laid_math_bits_deBruijn64tab), ("internal/strconv.uint64pow10", laid_internal_strconv_uint64pow10), ("unicode/utf8.acceptRanges", laid_unicode_utf8_acceptRanges), ("strconv.ErrRange", laid_strconv_ErrRange), ("strconv.ErrSyntax", laid_strconv_ErrSyntax), ("unicode/utf8.first", laid_unicode_utf8_first)], narrowed := true }
def FnCurveFromUptoSaid : Prop := fnCurveFromUptoRow.holds Tryd.pinned (OpenSpec.upto fnCurveFromSpec)

/-- 'laws.FnLayersFrom', WHERE WHAT IT READS IS OF BULK AT MOST 1048576: true; the input reads as it did. -/
def fnLayersFromUptoRow : OpenClaim := { program := "ytjbdoohpljffnaadoor", sum := "70ae302c3293e5aca692ff6adb4e9bdd72bfd491900dfc3be150d23a874fc304", func := "loop.example/icecores/laws.FnLayersFrom", spec := "fnLayersFrom", inPlace := ["internal/bytealg.IndexByteString", "internal/bytealg.IndexString", "internal/abi.NoEscape"], unfollowed := true, recurses := true, named := ["unicode/utf8.first", "unicode/utf8.acceptRanges", "internal/bytealg.MaxLen", "strconv.ErrSyntax", "strconv.ErrRange", "internal/strconv.uint64pow10", "math/bits.deBruijn32tab", "math/bits.deBruijn64tab"], apart := false, laid := [("math/bits.deBruijn32tab", laid_math_bits_deBruijn32tab), ("math/bits.deBruijn64tab", laid_math_bits_deBruijn64tab), ("internal/strconv.uint64pow10", laid_internal_strconv_uint64pow10), ("unicode/utf8.acceptRanges", laid_unicode_utf8_acceptRanges), ("strconv.ErrRange", laid_strconv_ErrRange), ("strconv.ErrSyntax", laid_strconv_ErrSyntax), ("unicode/utf8.first", laid_unicode_utf8_first)], narrowed := true }
def FnLayersFromUptoSaid : Prop := fnLayersFromUptoRow.holds Tryd.pinned (OpenSpec.upto fnLayersFromSpec)

end Rows
end Go.Proofs.YtjbdoohpljffnaaDoor
