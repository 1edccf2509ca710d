/-
  NARROWER THAN 'FOR EVERY INPUT', by the rows' own cells (each row's printed sentence says how): FnScriptCell: laid · FnExactRunScript: laid · FnScriptPrefix: laid · FnScriptRegister: laid · FnScriptFrame: laid · FnScriptSpread: laid.
  DERIVED. THE GIVEN ROWS OF THIS SEAT. 6 by the template 'for every input the law returns true; each argument reads behind the call as it read before'; 0 by the template 'total and deterministic' (their statements: YtcjihfongfefoaaGreatDoorTotals.lean).
  GIVEN WITH THE SEED: the statements are not yours to turn. If you find one false, say at which input.
  Laid BY PROGRAM, IN A SANDBOX (cutbox-rows.mjs): the forced cells as the released guide's own fill.sh prints them over the translation 3bc494b6222d063c… (all of the seat's roots in one cut). By AI agents, Wed Nov 11 2026. No macro, syntax, notation, axiom, sorry.
-/
import Derived.Test.YtcjihfongfefoaaGreatDoorChecked
import GoSem.PinnedTables
import GoSem.Claim
import GoSem.ClaimJoined
import GoSem.ClaimMapViews
import Derived.JoinedTies
import Derived.KernelRfl
namespace Go.Proofs.YtcjihfongfefoaaGreatDoor
/- THE CELL 'sum', in the pinned program and in every row, IS THE sha256 OF THE DUMP (.gsa) THAT YtcjihfongfefoaaGreatDoorProg.lean LOADS. Nothing in Lean hashes anything: it is a label: what it is worth is what the hold of that sum in a sandbox is worth. -/
noncomputable def Tryz.pinned : Pinned := { name := "ytcjihfongfefoaagreatdoor", sum := "3bc494b6222d063cd455cbb7d6e07ecdac65398953ee42c13f12b0702c8578ec", checked := Tryz.checked }
namespace Rows
def none {H : Type} : Left H := { results := [], args := [] }

/- WHAT THE LISTED PACKAGE-LEVEL VARIABLES READ AS WHEN THE CALL BEGINS. Each datum BY PROGRAM (the guide's laid-datum.mjs) off the statement by which the dump's own 'gosem.cut.vars' lays the variable. In a bare row this is a premise. The card (YtcjihfongfefoaaGreatDoorCards.lean) ties it to the program's text. -/
def laid_math_bits_deBruijn32tab {H : Type} : DataW H := .agg [.lit (.int .u8 0), .lit (.int .u8 1), .lit (.int .u8 28), .lit (.int .u8 2), .lit (.int .u8 29), .lit (.int .u8 14), .lit (.int .u8 24), .lit (.int .u8 3), .lit (.int .u8 30), .lit (.int .u8 22), .lit (.int .u8 20), .lit (.int .u8 15), .lit (.int .u8 25), .lit (.int .u8 17), .lit (.int .u8 4), .lit (.int .u8 8), .lit (.int .u8 31), .lit (.int .u8 27), .lit (.int .u8 13), .lit (.int .u8 23), .lit (.int .u8 21), .lit (.int .u8 19), .lit (.int .u8 16), .lit (.int .u8 7), .lit (.int .u8 26), .lit (.int .u8 12), .lit (.int .u8 18), .lit (.int .u8 6), .lit (.int .u8 11), .lit (.int .u8 5), .lit (.int .u8 10), .lit (.int .u8 9)]
def laid_math_bits_deBruijn64tab {H : Type} : DataW H := .agg [.lit (.int .u8 0), .lit (.int .u8 1), .lit (.int .u8 56), .lit (.int .u8 2), .lit (.int .u8 57), .lit (.int .u8 49), .lit (.int .u8 28), .lit (.int .u8 3), .lit (.int .u8 61), .lit (.int .u8 58), .lit (.int .u8 42), .lit (.int .u8 50), .lit (.int .u8 38), .lit (.int .u8 29), .lit (.int .u8 17), .lit (.int .u8 4), .lit (.int .u8 62), .lit (.int .u8 47), .lit (.int .u8 59), .lit (.int .u8 36), .lit (.int .u8 45), .lit (.int .u8 43), .lit (.int .u8 51), .lit (.int .u8 22), .lit (.int .u8 53), .lit (.int .u8 39), .lit (.int .u8 33), .lit (.int .u8 30), .lit (.int .u8 24), .lit (.int .u8 18), .lit (.int .u8 12), .lit (.int .u8 5), .lit (.int .u8 63), .lit (.int .u8 55), .lit (.int .u8 48), .lit (.int .u8 27), .lit (.int .u8 60), .lit (.int .u8 41), .lit (.int .u8 37), .lit (.int .u8 16), .lit (.int .u8 46), .lit (.int .u8 35), .lit (.int .u8 44), .lit (.int .u8 21), .lit (.int .u8 52), .lit (.int .u8 32), .lit (.int .u8 23), .lit (.int .u8 11), .lit (.int .u8 54), .lit (.int .u8 26), .lit (.int .u8 40), .lit (.int .u8 15), .lit (.int .u8 34), .lit (.int .u8 20), .lit (.int .u8 31), .lit (.int .u8 10), .lit (.int .u8 25), .lit (.int .u8 14), .lit (.int .u8 19), .lit (.int .u8 9), .lit (.int .u8 13), .lit (.int .u8 8), .lit (.int .u8 7), .lit (.int .u8 6)]
def laid_internal_strconv_uint64pow10 {H : Type} : DataW H := .agg [.lit (.int .u64 1), .lit (.int .u64 10), .lit (.int .u64 100), .lit (.int .u64 1000), .lit (.int .u64 10000), .lit (.int .u64 100000), .lit (.int .u64 1000000), .lit (.int .u64 10000000), .lit (.int .u64 100000000), .lit (.int .u64 1000000000), .lit (.int .u64 10000000000), .lit (.int .u64 100000000000), .lit (.int .u64 1000000000000), .lit (.int .u64 10000000000000), .lit (.int .u64 100000000000000), .lit (.int .u64 1000000000000000), .lit (.int .u64 10000000000000000), .lit (.int .u64 100000000000000000), .lit (.int .u64 1000000000000000000), .lit (.int .u64 10000000000000000000)]
def laid_unicode_utf8_acceptRanges {H : Type} : DataW H := .agg [.agg [.lit (.int .u8 128), .lit (.int .u8 191)], .agg [.lit (.int .u8 160), .lit (.int .u8 191)], .agg [.lit (.int .u8 128), .lit (.int .u8 159)], .agg [.lit (.int .u8 144), .lit (.int .u8 191)], .agg [.lit (.int .u8 128), .lit (.int .u8 143)], .agg [.lit (.int .u8 0), .lit (.int .u8 0)], .agg [.lit (.int .u8 0), .lit (.int .u8 0)], .agg [.lit (.int .u8 0), .lit (.int .u8 0)], .agg [.lit (.int .u8 0), .lit (.int .u8 0)], .agg [.lit (.int .u8 0), .lit (.int .u8 0)], .agg [.lit (.int .u8 0), .lit (.int .u8 0)], .agg [.lit (.int .u8 0), .lit (.int .u8 0)], .agg [.lit (.int .u8 0), .lit (.int .u8 0)], .agg [.lit (.int .u8 0), .lit (.int .u8 0)], .agg [.lit (.int .u8 0), .lit (.int .u8 0)], .agg [.lit (.int .u8 0), .lit (.int .u8 0)]]
def laid_loop_example_spreadspectrum_impl_forms {H : Type} : DataW H := .slice [.agg [.lit (.string [114, 101, 103, 105, 115, 116, 101, 114]), .lit (.int .i64 0), .lit (.int .i64 20001)], .agg [.lit (.string [106, 117, 109, 112]), .lit (.int .i64 1), .lit (.int .i64 1)], .agg [.lit (.string [112, 101, 114, 105, 111, 100]), .lit (.int .i64 0), .lit (.int .i64 0)], .agg [.lit (.string [98, 105, 116, 115]), .lit (.int .i64 1), .lit (.int .i64 1)], .agg [.lit (.string [104, 111, 112, 115]), .lit (.int .i64 2), .lit (.int .i64 2)], .agg [.lit (.string [115, 104, 111, 114, 116, 101, 115, 116]), .lit (.int .i64 1), .lit (.int .i64 1)], .agg [.lit (.string [109, 97, 120, 105, 109, 97, 108]), .lit (.int .i64 1), .lit (.int .i64 1)], .agg [.lit (.string [99, 114, 111, 115, 115]), .lit (.int .i64 3), .lit (.int .i64 3)], .agg [.lit (.string [112, 101, 97, 107]), .lit (.int .i64 2), .lit (.int .i64 2)], .agg [.lit (.string [103, 111, 108, 100]), .lit (.int .i64 4), .lit (.int .i64 4)], .agg [.lit (.string [119, 97, 108, 115, 104]), .lit (.int .i64 2), .lit (.int .i64 2)], .agg [.lit (.string [116, 114, 101, 101]), .lit (.int .i64 1), .lit (.int .i64 1)], .agg [.lit (.string [115, 112, 114, 101, 97, 100]), .lit (.int .i64 2), .lit (.int .i64 2)], .agg [.lit (.string [103, 97, 105, 110]), .lit (.int .i64 1), .lit (.int .i64 1)], .agg [.lit (.string [115, 105, 103, 110, 97, 108]), .lit (.int .i64 0), .lit (.int .i64 0)], .agg [.lit (.string [100, 101, 115, 112, 114, 101, 97, 100]), .lit (.int .i64 2), .lit (.int .i64 2)], .agg [.lit (.string [114, 101, 99, 101, 105, 118, 101]), .lit (.int .i64 3), .lit (.int .i64 3)], .agg [.lit (.string [102, 114, 97, 109, 101]), .lit (.int .i64 1), .lit (.int .i64 1)], .agg [.lit (.string [102, 105, 110, 100]), .lit (.int .i64 1), .lit (.int .i64 1)], .agg [.lit (.string [112, 114, 111, 116, 101, 99, 116]), .lit (.int .i64 2), .lit (.int .i64 2)], .agg [.lit (.string [111, 112, 101, 110]), .lit (.int .i64 2), .lit (.int .i64 2)], .agg [.lit (.string [99, 101, 108, 108]), .lit (.int .i64 0), .lit (.int .i64 20001)], .agg [.lit (.string [97, 100, 109, 105, 116]), .lit (.int .i64 3), .lit (.int .i64 3)], .agg [.lit (.string [114, 101, 108, 101, 97, 115, 101]), .lit (.int .i64 1), .lit (.int .i64 1)], .agg [.lit (.string [112, 111, 119, 101, 114]), .lit (.int .i64 1), .lit (.int .i64 1)], .agg [.lit (.string [115, 101, 110, 100]), .lit (.int .i64 1), .lit (.int .i64 20001)], .agg [.lit (.string [104, 101, 97, 114]), .lit (.int .i64 2), .lit (.int .i64 2)], .agg [.lit (.string [102, 111, 114, 103, 101, 116]), .lit (.int .i64 0), .lit (.int .i64 0)]] []
/-- One of Go's own tables, pinned by name: the form's constant. -/
def laid_unicode_utf8_first : DataW Unit := Go.Pinned.utf8First

/-- 'laws.FnScriptCell': WHATEVER THE INPUT: true; the input reads as it did. -/
def fnScriptCellSpec : ChangeSpec := { name := "fnScriptCell", vars := ["loop.example/spreadspectrum/impl.forms"], fn := fun _ => fun
  | [d1, d2, g1] => { results := [.lit (.bool true)], args := [d1, d2], vars := [g1] }
  | _ => none }
def fnScriptCellRow : OpenClaim := { program := "ytcjihfongfefoaagreatdoor", sum := "3bc494b6222d063cd455cbb7d6e07ecdac65398953ee42c13f12b0702c8578ec", func := "loop.example/spreadspectrum/laws.FnScriptCell", spec := "fnScriptCell", inPlace := ["internal/abi.NoEscape", "internal/bytealg.MakeNoZero", "internal/bytealg.CountString", "internal/bytealg.IndexByteString", "internal/bytealg.IndexString"], recurses := true, named := ["internal/strconv.uint64pow10", "math/bits.deBruijn32tab", "math/bits.deBruijn64tab", "unicode/utf8.first", "unicode/utf8.acceptRanges", "internal/bytealg.MaxLen", "loop.example/spreadspectrum/impl.forms"], apart := false, laid := [("math/bits.deBruijn32tab", laid_math_bits_deBruijn32tab), ("math/bits.deBruijn64tab", laid_math_bits_deBruijn64tab), ("internal/strconv.uint64pow10", laid_internal_strconv_uint64pow10), ("unicode/utf8.acceptRanges", laid_unicode_utf8_acceptRanges), ("loop.example/spreadspectrum/impl.forms", laid_loop_example_spreadspectrum_impl_forms), ("unicode/utf8.first", laid_unicode_utf8_first)] }
def FnScriptCellSaid : Prop := fnScriptCellRow.holds Tryz.pinned (OpenSpec.ofChange fnScriptCellSpec)

/-- ITS FALSE NEIGHBOUR: 'it returns false'. Refute it at one input. -/
def fnScriptCellWrong : ChangeSpec := { name := "fnScriptCell", vars := ["loop.example/spreadspectrum/impl.forms"], fn := fun _ => fun
  | [d1, d2, g1] => { results := [.lit (.bool false)], args := [d1, d2], vars := [g1] }
  | _ => none }
def FnScriptCellWrongFalsely : Prop := fnScriptCellRow.holds Tryz.pinned (OpenSpec.ofChange fnScriptCellWrong)

/-- 'laws.FnExactRunScript': WHATEVER THE INPUT: true; the input reads as it did. -/
def fnExactRunScriptSpec : ChangeSpec := { name := "fnExactRunScript", vars := ["loop.example/spreadspectrum/impl.forms"], fn := fun _ => fun
  | [d, g1] => { results := [.lit (.bool true)], args := [d], vars := [g1] }
  | _ => none }
def fnExactRunScriptRow : OpenClaim := { program := "ytcjihfongfefoaagreatdoor", sum := "3bc494b6222d063cd455cbb7d6e07ecdac65398953ee42c13f12b0702c8578ec", func := "loop.example/spreadspectrum/laws.FnExactRunScript", spec := "fnExactRunScript", inPlace := ["internal/bytealg.CountString", "internal/bytealg.IndexByteString", "internal/bytealg.IndexString", "internal/abi.NoEscape", "internal/bytealg.MakeNoZero"], recurses := true, named := ["unicode/utf8.first", "unicode/utf8.acceptRanges", "internal/bytealg.MaxLen", "loop.example/spreadspectrum/impl.forms", "internal/strconv.uint64pow10", "math/bits.deBruijn32tab", "math/bits.deBruijn64tab"], apart := false, laid := [("math/bits.deBruijn32tab", laid_math_bits_deBruijn32tab), ("math/bits.deBruijn64tab", laid_math_bits_deBruijn64tab), ("internal/strconv.uint64pow10", laid_internal_strconv_uint64pow10), ("unicode/utf8.acceptRanges", laid_unicode_utf8_acceptRanges), ("loop.example/spreadspectrum/impl.forms", laid_loop_example_spreadspectrum_impl_forms), ("unicode/utf8.first", laid_unicode_utf8_first)] }
def FnExactRunScriptSaid : Prop := fnExactRunScriptRow.holds Tryz.pinned (OpenSpec.ofChange fnExactRunScriptSpec)

/-- ITS FALSE NEIGHBOUR: 'it returns false'. Refute it at one input. -/
def fnExactRunScriptWrong : ChangeSpec := { name := "fnExactRunScript", vars := ["loop.example/spreadspectrum/impl.forms"], fn := fun _ => fun
  | [d, g1] => { results := [.lit (.bool false)], args := [d], vars := [g1] }
  | _ => none }
def FnExactRunScriptWrongFalsely : Prop := fnExactRunScriptRow.holds Tryz.pinned (OpenSpec.ofChange fnExactRunScriptWrong)

/-- 'laws.FnScriptPrefix': WHATEVER THE INPUT: true; the input reads as it did. -/
def fnScriptPrefixSpec : ChangeSpec := { name := "fnScriptPrefix", vars := ["loop.example/spreadspectrum/impl.forms"], fn := fun _ => fun
  | [d1, d2, g1] => { results := [.lit (.bool true)], args := [d1, d2], vars := [g1] }
  | _ => none }
def fnScriptPrefixRow : OpenClaim := { program := "ytcjihfongfefoaagreatdoor", sum := "3bc494b6222d063cd455cbb7d6e07ecdac65398953ee42c13f12b0702c8578ec", func := "loop.example/spreadspectrum/laws.FnScriptPrefix", spec := "fnScriptPrefix", inPlace := ["internal/bytealg.CountString", "internal/bytealg.IndexByteString", "internal/bytealg.IndexString", "internal/abi.NoEscape", "internal/bytealg.MakeNoZero"], recurses := true, named := ["unicode/utf8.first", "unicode/utf8.acceptRanges", "internal/bytealg.MaxLen", "loop.example/spreadspectrum/impl.forms", "internal/strconv.uint64pow10", "math/bits.deBruijn32tab", "math/bits.deBruijn64tab"], apart := false, laid := [("math/bits.deBruijn32tab", laid_math_bits_deBruijn32tab), ("math/bits.deBruijn64tab", laid_math_bits_deBruijn64tab), ("internal/strconv.uint64pow10", laid_internal_strconv_uint64pow10), ("unicode/utf8.acceptRanges", laid_unicode_utf8_acceptRanges), ("loop.example/spreadspectrum/impl.forms", laid_loop_example_spreadspectrum_impl_forms), ("unicode/utf8.first", laid_unicode_utf8_first)] }
def FnScriptPrefixSaid : Prop := fnScriptPrefixRow.holds Tryz.pinned (OpenSpec.ofChange fnScriptPrefixSpec)

/-- ITS FALSE NEIGHBOUR: 'it returns false'. Refute it at one input. -/
def fnScriptPrefixWrong : ChangeSpec := { name := "fnScriptPrefix", vars := ["loop.example/spreadspectrum/impl.forms"], fn := fun _ => fun
  | [d1, d2, g1] => { results := [.lit (.bool false)], args := [d1, d2], vars := [g1] }
  | _ => none }
def FnScriptPrefixWrongFalsely : Prop := fnScriptPrefixRow.holds Tryz.pinned (OpenSpec.ofChange fnScriptPrefixWrong)

/-- 'laws.FnScriptRegister': WHATEVER THE INPUT: true; the input reads as it did. -/
def fnScriptRegisterSpec : ChangeSpec := { name := "fnScriptRegister", vars := ["loop.example/spreadspectrum/impl.forms"], fn := fun _ => fun
  | [d, g1] => { results := [.lit (.bool true)], args := [d], vars := [g1] }
  | _ => none }
def fnScriptRegisterRow : OpenClaim := { program := "ytcjihfongfefoaagreatdoor", sum := "3bc494b6222d063cd455cbb7d6e07ecdac65398953ee42c13f12b0702c8578ec", func := "loop.example/spreadspectrum/laws.FnScriptRegister", spec := "fnScriptRegister", inPlace := ["internal/bytealg.CountString", "internal/bytealg.IndexByteString", "internal/bytealg.IndexString", "internal/abi.NoEscape", "internal/bytealg.MakeNoZero"], recurses := true, named := ["internal/strconv.uint64pow10", "math/bits.deBruijn32tab", "math/bits.deBruijn64tab", "unicode/utf8.first", "unicode/utf8.acceptRanges", "internal/bytealg.MaxLen", "loop.example/spreadspectrum/impl.forms"], apart := false, laid := [("math/bits.deBruijn32tab", laid_math_bits_deBruijn32tab), ("math/bits.deBruijn64tab", laid_math_bits_deBruijn64tab), ("internal/strconv.uint64pow10", laid_internal_strconv_uint64pow10), ("unicode/utf8.acceptRanges", laid_unicode_utf8_acceptRanges), ("loop.example/spreadspectrum/impl.forms", laid_loop_example_spreadspectrum_impl_forms), ("unicode/utf8.first", laid_unicode_utf8_first)] }
def FnScriptRegisterSaid : Prop := fnScriptRegisterRow.holds Tryz.pinned (OpenSpec.ofChange fnScriptRegisterSpec)

/-- ITS FALSE NEIGHBOUR: 'it returns false'. Refute it at one input. -/
def fnScriptRegisterWrong : ChangeSpec := { name := "fnScriptRegister", vars := ["loop.example/spreadspectrum/impl.forms"], fn := fun _ => fun
  | [d, g1] => { results := [.lit (.bool false)], args := [d], vars := [g1] }
  | _ => none }
def FnScriptRegisterWrongFalsely : Prop := fnScriptRegisterRow.holds Tryz.pinned (OpenSpec.ofChange fnScriptRegisterWrong)

/-- 'laws.FnScriptFrame': WHATEVER THE INPUT: true; the input reads as it did. -/
def fnScriptFrameSpec : ChangeSpec := { name := "fnScriptFrame", vars := ["loop.example/spreadspectrum/impl.forms"], fn := fun _ => fun
  | [d1, d2, g1] => { results := [.lit (.bool true)], args := [d1, d2], vars := [g1] }
  | _ => none }
def fnScriptFrameRow : OpenClaim := { program := "ytcjihfongfefoaagreatdoor", sum := "3bc494b6222d063cd455cbb7d6e07ecdac65398953ee42c13f12b0702c8578ec", func := "loop.example/spreadspectrum/laws.FnScriptFrame", spec := "fnScriptFrame", inPlace := ["internal/abi.NoEscape", "internal/bytealg.MakeNoZero", "internal/bytealg.CountString", "internal/bytealg.IndexByteString", "internal/bytealg.IndexString"], recurses := true, named := ["internal/strconv.uint64pow10", "math/bits.deBruijn32tab", "math/bits.deBruijn64tab", "unicode/utf8.first", "unicode/utf8.acceptRanges", "internal/bytealg.MaxLen", "loop.example/spreadspectrum/impl.forms"], apart := false, laid := [("math/bits.deBruijn32tab", laid_math_bits_deBruijn32tab), ("math/bits.deBruijn64tab", laid_math_bits_deBruijn64tab), ("internal/strconv.uint64pow10", laid_internal_strconv_uint64pow10), ("unicode/utf8.acceptRanges", laid_unicode_utf8_acceptRanges), ("loop.example/spreadspectrum/impl.forms", laid_loop_example_spreadspectrum_impl_forms), ("unicode/utf8.first", laid_unicode_utf8_first)] }
def FnScriptFrameSaid : Prop := fnScriptFrameRow.holds Tryz.pinned (OpenSpec.ofChange fnScriptFrameSpec)

/-- ITS FALSE NEIGHBOUR: 'it returns false'. Refute it at one input. -/
def fnScriptFrameWrong : ChangeSpec := { name := "fnScriptFrame", vars := ["loop.example/spreadspectrum/impl.forms"], fn := fun _ => fun
  | [d1, d2, g1] => { results := [.lit (.bool false)], args := [d1, d2], vars := [g1] }
  | _ => none }
def FnScriptFrameWrongFalsely : Prop := fnScriptFrameRow.holds Tryz.pinned (OpenSpec.ofChange fnScriptFrameWrong)

/-- 'laws.FnScriptSpread': WHATEVER THE INPUT: true; the input reads as it did. -/
def fnScriptSpreadSpec : ChangeSpec := { name := "fnScriptSpread", vars := ["loop.example/spreadspectrum/impl.forms"], fn := fun _ => fun
  | [d, g1] => { results := [.lit (.bool true)], args := [d], vars := [g1] }
  | _ => none }
def fnScriptSpreadRow : OpenClaim := { program := "ytcjihfongfefoaagreatdoor", sum := "3bc494b6222d063cd455cbb7d6e07ecdac65398953ee42c13f12b0702c8578ec", func := "loop.example/spreadspectrum/laws.FnScriptSpread", spec := "fnScriptSpread", inPlace := ["internal/bytealg.CountString", "internal/bytealg.IndexByteString", "internal/bytealg.IndexString", "internal/abi.NoEscape", "internal/bytealg.MakeNoZero"], recurses := true, named := ["unicode/utf8.first", "unicode/utf8.acceptRanges", "internal/bytealg.MaxLen", "loop.example/spreadspectrum/impl.forms", "internal/strconv.uint64pow10", "math/bits.deBruijn32tab", "math/bits.deBruijn64tab"], apart := false, laid := [("math/bits.deBruijn32tab", laid_math_bits_deBruijn32tab), ("math/bits.deBruijn64tab", laid_math_bits_deBruijn64tab), ("internal/strconv.uint64pow10", laid_internal_strconv_uint64pow10), ("unicode/utf8.acceptRanges", laid_unicode_utf8_acceptRanges), ("loop.example/spreadspectrum/impl.forms", laid_loop_example_spreadspectrum_impl_forms), ("unicode/utf8.first", laid_unicode_utf8_first)] }
def FnScriptSpreadSaid : Prop := fnScriptSpreadRow.holds Tryz.pinned (OpenSpec.ofChange fnScriptSpreadSpec)

/-- ITS FALSE NEIGHBOUR: 'it returns false'. Refute it at one input. -/
def fnScriptSpreadWrong : ChangeSpec := { name := "fnScriptSpread", vars := ["loop.example/spreadspectrum/impl.forms"], fn := fun _ => fun
  | [d, g1] => { results := [.lit (.bool false)], args := [d], vars := [g1] }
  | _ => none }
def FnScriptSpreadWrongFalsely : Prop := fnScriptSpreadRow.holds Tryz.pinned (OpenSpec.ofChange fnScriptSpreadWrong)

/- THE SECOND FORM. 'bulk': how many values and letters a reading holds, each counted each time it is reached (what is shared counts as often as it is met; a slice's spare places count too). A statement '..UptoSaid' is the law's where the arguments, and the package variables that the reading takes, are together of bulk at most 1048576: NARROWER than '..Said'. Prove '..Said' where nothing that the law and all that it calls make is longer than what came in: it says more and counts as full. Else prove '..UptoSaid'. A law counts once. -/
mutual
def uptoBulk {H : Type} : DataW H → Nat
  | .lit (.string bytes) => bytes.length + 1
  | .lit _ => 1
  | .nil => 1
  | .ptr d => uptoBulk d + 1
  | .slice elems spare => uptoBulkAll elems + uptoBulkAll spare + 1
  | .agg parts => uptoBulkAll parts + 1
  | .iface _ d => uptoBulk d + 1
  | .map entries => uptoBulkEntries entries + 1
  | .held _ => 1
def uptoBulkAll {H : Type} : List (DataW H) → Nat
  | [] => 0
  | d :: r => uptoBulk d + uptoBulkAll r
def uptoBulkEntries {H : Type} : List (Lit × DataW H) → Nat
  | [] => 0
  | x :: r => uptoBulkEntry x + uptoBulkEntries r
def uptoBulkEntry {H : Type} : Lit × DataW H → Nat
  | (.string bytes, d) => bytes.length + uptoBulk d + 1
  | (_, d) => uptoBulk d + 1
 end
def uptoSmall : (H : Type) → List (DataW H) → Bool := fun _ ds => decide (uptoBulkAll ds ≤ 1048576)
def OpenSpec.upto (s : _root_.Go.ChangeSpec) : _root_.Go.OpenSpec := { _root_.Go.OpenSpec.ofChange s with cond := some uptoSmall }

/-- 'laws.FnScriptCell', WHERE WHAT IT READS IS OF BULK AT MOST 1048576: true; the input reads as it did. -/
def fnScriptCellUptoRow : OpenClaim := { program := "ytcjihfongfefoaagreatdoor", sum := "3bc494b6222d063cd455cbb7d6e07ecdac65398953ee42c13f12b0702c8578ec", func := "loop.example/spreadspectrum/laws.FnScriptCell", spec := "fnScriptCell", inPlace := ["internal/abi.NoEscape", "internal/bytealg.MakeNoZero", "internal/bytealg.CountString", "internal/bytealg.IndexByteString", "internal/bytealg.IndexString"], recurses := true, named := ["internal/strconv.uint64pow10", "math/bits.deBruijn32tab", "math/bits.deBruijn64tab", "unicode/utf8.first", "unicode/utf8.acceptRanges", "internal/bytealg.MaxLen", "loop.example/spreadspectrum/impl.forms"], apart := false, laid := [("math/bits.deBruijn32tab", laid_math_bits_deBruijn32tab), ("math/bits.deBruijn64tab", laid_math_bits_deBruijn64tab), ("internal/strconv.uint64pow10", laid_internal_strconv_uint64pow10), ("unicode/utf8.acceptRanges", laid_unicode_utf8_acceptRanges), ("loop.example/spreadspectrum/impl.forms", laid_loop_example_spreadspectrum_impl_forms), ("unicode/utf8.first", laid_unicode_utf8_first)], narrowed := true }
def FnScriptCellUptoSaid : Prop := fnScriptCellUptoRow.holds Tryz.pinned (OpenSpec.upto fnScriptCellSpec)

/-- 'laws.FnExactRunScript', WHERE WHAT IT READS IS OF BULK AT MOST 1048576: true; the input reads as it did. -/
def fnExactRunScriptUptoRow : OpenClaim := { program := "ytcjihfongfefoaagreatdoor", sum := "3bc494b6222d063cd455cbb7d6e07ecdac65398953ee42c13f12b0702c8578ec", func := "loop.example/spreadspectrum/laws.FnExactRunScript", spec := "fnExactRunScript", inPlace := ["internal/bytealg.CountString", "internal/bytealg.IndexByteString", "internal/bytealg.IndexString", "internal/abi.NoEscape", "internal/bytealg.MakeNoZero"], recurses := true, named := ["unicode/utf8.first", "unicode/utf8.acceptRanges", "internal/bytealg.MaxLen", "loop.example/spreadspectrum/impl.forms", "internal/strconv.uint64pow10", "math/bits.deBruijn32tab", "math/bits.deBruijn64tab"], apart := false, laid := [("math/bits.deBruijn32tab", laid_math_bits_deBruijn32tab), ("math/bits.deBruijn64tab", laid_math_bits_deBruijn64tab), ("internal/strconv.uint64pow10", laid_internal_strconv_uint64pow10), ("unicode/utf8.acceptRanges", laid_unicode_utf8_acceptRanges), ("loop.example/spreadspectrum/impl.forms", laid_loop_example_spreadspectrum_impl_forms), ("unicode/utf8.first", laid_unicode_utf8_first)], narrowed := true }
def FnExactRunScriptUptoSaid : Prop := fnExactRunScriptUptoRow.holds Tryz.pinned (OpenSpec.upto fnExactRunScriptSpec)

/-- 'laws.FnScriptPrefix', WHERE WHAT IT READS IS OF BULK AT MOST 1048576: true; the input reads as it did. -/
def fnScriptPrefixUptoRow : OpenClaim := { program := "ytcjihfongfefoaagreatdoor", sum := "3bc494b6222d063cd455cbb7d6e07ecdac65398953ee42c13f12b0702c8578ec", func := "loop.example/spreadspectrum/laws.FnScriptPrefix", spec := "fnScriptPrefix", inPlace := ["internal/bytealg.CountString", "internal/bytealg.IndexByteString", "internal/bytealg.IndexString", "internal/abi.NoEscape", "internal/bytealg.MakeNoZero"], recurses := true, named := ["unicode/utf8.first", "unicode/utf8.acceptRanges", "internal/bytealg.MaxLen", "loop.example/spreadspectrum/impl.forms", "internal/strconv.uint64pow10", "math/bits.deBruijn32tab", "math/bits.deBruijn64tab"], apart := false, laid := [("math/bits.deBruijn32tab", laid_math_bits_deBruijn32tab), ("math/bits.deBruijn64tab", laid_math_bits_deBruijn64tab), ("internal/strconv.uint64pow10", laid_internal_strconv_uint64pow10), ("unicode/utf8.acceptRanges", laid_unicode_utf8_acceptRanges), ("loop.example/spreadspectrum/impl.forms", laid_loop_example_spreadspectrum_impl_forms), ("unicode/utf8.first", laid_unicode_utf8_first)], narrowed := true }
def FnScriptPrefixUptoSaid : Prop := fnScriptPrefixUptoRow.holds Tryz.pinned (OpenSpec.upto fnScriptPrefixSpec)

/-- 'laws.FnScriptRegister', WHERE WHAT IT READS IS OF BULK AT MOST 1048576: true; the input reads as it did. -/
def fnScriptRegisterUptoRow : OpenClaim := { program := "ytcjihfongfefoaagreatdoor", sum := "3bc494b6222d063cd455cbb7d6e07ecdac65398953ee42c13f12b0702c8578ec", func := "loop.example/spreadspectrum/laws.FnScriptRegister", spec := "fnScriptRegister", inPlace := ["internal/bytealg.CountString", "internal/bytealg.IndexByteString", "internal/bytealg.IndexString", "internal/abi.NoEscape", "internal/bytealg.MakeNoZero"], recurses := true, named := ["internal/strconv.uint64pow10", "math/bits.deBruijn32tab", "math/bits.deBruijn64tab", "unicode/utf8.first", "unicode/utf8.acceptRanges", "internal/bytealg.MaxLen", "loop.example/spreadspectrum/impl.forms"], apart := false, laid := [("math/bits.deBruijn32tab", laid_math_bits_deBruijn32tab), ("math/bits.deBruijn64tab", laid_math_bits_deBruijn64tab), ("internal/strconv.uint64pow10", laid_internal_strconv_uint64pow10), ("unicode/utf8.acceptRanges", laid_unicode_utf8_acceptRanges), ("loop.example/spreadspectrum/impl.forms", laid_loop_example_spreadspectrum_impl_forms), ("unicode/utf8.first", laid_unicode_utf8_first)], narrowed := true }
def FnScriptRegisterUptoSaid : Prop := fnScriptRegisterUptoRow.holds Tryz.pinned (OpenSpec.upto fnScriptRegisterSpec)

/-- 'laws.FnScriptFrame', WHERE WHAT IT READS IS OF BULK AT MOST 1048576: true; the input reads as it did. -/
def fnScriptFrameUptoRow : OpenClaim := { program := "ytcjihfongfefoaagreatdoor", sum := "3bc494b6222d063cd455cbb7d6e07ecdac65398953ee42c13f12b0702c8578ec", func := "loop.example/spreadspectrum/laws.FnScriptFrame", spec := "fnScriptFrame", inPlace := ["internal/abi.NoEscape", "internal/bytealg.MakeNoZero", "internal/bytealg.CountString", "internal/bytealg.IndexByteString", "internal/bytealg.IndexString"], recurses := true, named := ["internal/strconv.uint64pow10", "math/bits.deBruijn32tab", "math/bits.deBruijn64tab", "unicode/utf8.first", "unicode/utf8.acceptRanges", "internal/bytealg.MaxLen", "loop.example/spreadspectrum/impl.forms"], apart := false, laid := [("math/bits.deBruijn32tab", laid_math_bits_deBruijn32tab), ("math/bits.deBruijn64tab", laid_math_bits_deBruijn64tab), ("internal/strconv.uint64pow10", laid_internal_strconv_uint64pow10), ("unicode/utf8.acceptRanges", laid_unicode_utf8_acceptRanges), ("loop.example/spreadspectrum/impl.forms", laid_loop_example_spreadspectrum_impl_forms), ("unicode/utf8.first", laid_unicode_utf8_first)], narrowed := true }
def FnScriptFrameUptoSaid : Prop := fnScriptFrameUptoRow.holds Tryz.pinned (OpenSpec.upto fnScriptFrameSpec)

/-- 'laws.FnScriptSpread', WHERE WHAT IT READS IS OF BULK AT MOST 1048576: true; the input reads as it did. -/
def fnScriptSpreadUptoRow : OpenClaim := { program := "ytcjihfongfefoaagreatdoor", sum := "3bc494b6222d063cd455cbb7d6e07ecdac65398953ee42c13f12b0702c8578ec", func := "loop.example/spreadspectrum/laws.FnScriptSpread", spec := "fnScriptSpread", inPlace := ["internal/bytealg.CountString", "internal/bytealg.IndexByteString", "internal/bytealg.IndexString", "internal/abi.NoEscape", "internal/bytealg.MakeNoZero"], recurses := true, named := ["unicode/utf8.first", "unicode/utf8.acceptRanges", "internal/bytealg.MaxLen", "loop.example/spreadspectrum/impl.forms", "internal/strconv.uint64pow10", "math/bits.deBruijn32tab", "math/bits.deBruijn64tab"], apart := false, laid := [("math/bits.deBruijn32tab", laid_math_bits_deBruijn32tab), ("math/bits.deBruijn64tab", laid_math_bits_deBruijn64tab), ("internal/strconv.uint64pow10", laid_internal_strconv_uint64pow10), ("unicode/utf8.acceptRanges", laid_unicode_utf8_acceptRanges), ("loop.example/spreadspectrum/impl.forms", laid_loop_example_spreadspectrum_impl_forms), ("unicode/utf8.first", laid_unicode_utf8_first)], narrowed := true }
def FnScriptSpreadUptoSaid : Prop := fnScriptSpreadUptoRow.holds Tryz.pinned (OpenSpec.upto fnScriptSpreadSpec)

end Rows
end Go.Proofs.YtcjihfongfefoaaGreatDoor
