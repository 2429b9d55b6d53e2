/-
  NARROWER THAN 'FOR EVERY INPUT', by the rows' own cells (each row's printed sentence says how): FnExactComposeOf: ifaces, laid · FnCopyApply: ifaces, laid · FnCopy: ifaces, laid · FnCompose: ifaces, laid · FnApplyAll: ifaces, laid · FnResult: ifaces, laid · FnApply: ifaces, laid.
  DERIVED. THE GIVEN ROWS OF THIS SEAT. 7 by the template 'for every input the law returns true; each argument reads behind the call as it read before'; 0 by the template 'total and deterministic' (their statements: YtibnnbdpfkgfhaaGreatDoorTotals.lean).
  GIVEN WITH THE SEED: the statements are not yours to turn. If you find one false, say at which input.
  Laid BY PROGRAM, IN A SANDBOX (cutbox-rows.mjs): the forced cells as the released guide's own fill.sh prints them over the translation d574d2f8754efc02… (all of the seat's roots in one cut). By AI agents, Wed Nov 11 2026. No macro, syntax, notation, axiom, sorry.
-/
import Derived.Test.YtibnnbdpfkgfhaaGreatDoorChecked
import GoSem.Claim
import GoSem.ClaimJoined
import GoSem.ClaimMapViews
import Derived.JoinedTies
import Derived.KernelRfl
namespace Go.Proofs.YtibnnbdpfkgfhaaGreatDoor
/- THE CELL 'sum', in the pinned program and in every row, IS THE sha256 OF THE DUMP (.gsa) THAT YtibnnbdpfkgfhaaGreatDoorProg.lean LOADS. Nothing in Lean hashes anything: it is a label: what it is worth is what the hold of that sum in a sandbox is worth. -/
noncomputable def Tryz.pinned : Pinned := { name := "ytibnnbdpfkgfhaagreatdoor", sum := "d574d2f8754efc02bf4a3234adce6e9de66a582b5a7922f2595fc820a2d11529", checked := Tryz.checked }
namespace Rows
def none {H : Type} : Left H := { results := [], args := [] }

/- WHAT THE LISTED PACKAGE-LEVEL VARIABLES READ AS WHEN THE CALL BEGINS. Each datum BY PROGRAM (the guide's laid-datum.mjs) off the statement by which the dump's own 'gosem.cut.vars' lays the variable. In a bare row this is a premise. The card (YtibnnbdpfkgfhaaGreatDoorCards.lean) ties it to the program's text. -/
def laid_math_bits_deBruijn32tab {H : Type} : DataW H := .agg [.lit (.int .u8 0), .lit (.int .u8 1), .lit (.int .u8 28), .lit (.int .u8 2), .lit (.int .u8 29), .lit (.int .u8 14), .lit (.int .u8 24), .lit (.int .u8 3), .lit (.int .u8 30), .lit (.int .u8 22), .lit (.int .u8 20), .lit (.int .u8 15), .lit (.int .u8 25), .lit (.int .u8 17), .lit (.int .u8 4), .lit (.int .u8 8), .lit (.int .u8 31), .lit (.int .u8 27), .lit (.int .u8 13), .lit (.int .u8 23), .lit (.int .u8 21), .lit (.int .u8 19), .lit (.int .u8 16), .lit (.int .u8 7), .lit (.int .u8 26), .lit (.int .u8 12), .lit (.int .u8 18), .lit (.int .u8 6), .lit (.int .u8 11), .lit (.int .u8 5), .lit (.int .u8 10), .lit (.int .u8 9)]
def laid_math_bits_deBruijn64tab {H : Type} : DataW H := .agg [.lit (.int .u8 0), .lit (.int .u8 1), .lit (.int .u8 56), .lit (.int .u8 2), .lit (.int .u8 57), .lit (.int .u8 49), .lit (.int .u8 28), .lit (.int .u8 3), .lit (.int .u8 61), .lit (.int .u8 58), .lit (.int .u8 42), .lit (.int .u8 50), .lit (.int .u8 38), .lit (.int .u8 29), .lit (.int .u8 17), .lit (.int .u8 4), .lit (.int .u8 62), .lit (.int .u8 47), .lit (.int .u8 59), .lit (.int .u8 36), .lit (.int .u8 45), .lit (.int .u8 43), .lit (.int .u8 51), .lit (.int .u8 22), .lit (.int .u8 53), .lit (.int .u8 39), .lit (.int .u8 33), .lit (.int .u8 30), .lit (.int .u8 24), .lit (.int .u8 18), .lit (.int .u8 12), .lit (.int .u8 5), .lit (.int .u8 63), .lit (.int .u8 55), .lit (.int .u8 48), .lit (.int .u8 27), .lit (.int .u8 60), .lit (.int .u8 41), .lit (.int .u8 37), .lit (.int .u8 16), .lit (.int .u8 46), .lit (.int .u8 35), .lit (.int .u8 44), .lit (.int .u8 21), .lit (.int .u8 52), .lit (.int .u8 32), .lit (.int .u8 23), .lit (.int .u8 11), .lit (.int .u8 54), .lit (.int .u8 26), .lit (.int .u8 40), .lit (.int .u8 15), .lit (.int .u8 34), .lit (.int .u8 20), .lit (.int .u8 31), .lit (.int .u8 10), .lit (.int .u8 25), .lit (.int .u8 14), .lit (.int .u8 19), .lit (.int .u8 9), .lit (.int .u8 13), .lit (.int .u8 8), .lit (.int .u8 7), .lit (.int .u8 6)]
def laid_internal_strconv_uint64pow10 {H : Type} : DataW H := .agg [.lit (.int .u64 1), .lit (.int .u64 10), .lit (.int .u64 100), .lit (.int .u64 1000), .lit (.int .u64 10000), .lit (.int .u64 100000), .lit (.int .u64 1000000), .lit (.int .u64 10000000), .lit (.int .u64 100000000), .lit (.int .u64 1000000000), .lit (.int .u64 10000000000), .lit (.int .u64 100000000000), .lit (.int .u64 1000000000000), .lit (.int .u64 10000000000000), .lit (.int .u64 100000000000000), .lit (.int .u64 1000000000000000), .lit (.int .u64 10000000000000000), .lit (.int .u64 100000000000000000), .lit (.int .u64 1000000000000000000), .lit (.int .u64 10000000000000000000)]
def laid_strconv_ErrRange {H : Type} : DataW H := .iface "*errors.errorString" (.ptr (.agg [.lit (.string [118, 97, 108, 117, 101, 32, 111, 117, 116, 32, 111, 102, 32, 114, 97, 110, 103, 101])]))
def laid_strconv_ErrSyntax {H : Type} : DataW H := .iface "*errors.errorString" (.ptr (.agg [.lit (.string [105, 110, 118, 97, 108, 105, 100, 32, 115, 121, 110, 116, 97, 120])]))
def laid_loop_example_innocentgames_impl_errTooMany {H : Type} : DataW H := .iface "*errors.errorString" (.ptr (.agg [.lit (.string [116, 111, 111, 32, 109, 97, 110, 121])]))

/-- 'laws.FnExactComposeOf': WHATEVER THE INPUT: true; the input reads as it did. -/
def fnExactComposeOfSpec : ChangeSpec := { name := "fnExactComposeOf", vars := ["loop.example/innocentgames/impl.errTooMany"], fn := fun _ => fun
  | [d1, d2, d3, d4, d5, g1] => { results := [.lit (.bool true)], args := [d1, d2, d3, d4, d5], vars := [g1] }
  | _ => none }
def fnExactComposeOfRow : OpenClaim := { program := "ytibnnbdpfkgfhaagreatdoor", sum := "d574d2f8754efc02bf4a3234adce6e9de66a582b5a7922f2595fc820a2d11529", func := "loop.example/innocentgames/laws.FnExactComposeOf", spec := "fnExactComposeOf", inPlace := ["internal/bytealg.IndexByteString", "internal/bytealg.IndexString", "internal/reflectlite.TypeOf", "internal/abi.NoEscape", "internal/bytealg.MakeNoZero"], unfollowed := true, recurses := true, named := ["strconv.ErrSyntax", "strconv.ErrRange", "internal/strconv.uint64pow10", "math/bits.deBruijn32tab", "math/bits.deBruijn64tab", "loop.example/innocentgames/impl.errTooMany", "internal/bytealg.MaxLen"], ifaces := true, apart := false, laid := [("math/bits.deBruijn32tab", laid_math_bits_deBruijn32tab), ("math/bits.deBruijn64tab", laid_math_bits_deBruijn64tab), ("internal/strconv.uint64pow10", laid_internal_strconv_uint64pow10), ("strconv.ErrRange", laid_strconv_ErrRange), ("strconv.ErrSyntax", laid_strconv_ErrSyntax), ("loop.example/innocentgames/impl.errTooMany", laid_loop_example_innocentgames_impl_errTooMany)] }
def FnExactComposeOfSaid : Prop := fnExactComposeOfRow.holds Tryz.pinned (OpenSpec.ofChange fnExactComposeOfSpec)

/-- ITS FALSE NEIGHBOUR: 'it returns false'. Refute it at one input. -/
def fnExactComposeOfWrong : ChangeSpec := { name := "fnExactComposeOf", vars := ["loop.example/innocentgames/impl.errTooMany"], fn := fun _ => fun
  | [d1, d2, d3, d4, d5, g1] => { results := [.lit (.bool false)], args := [d1, d2, d3, d4, d5], vars := [g1] }
  | _ => none }
def FnExactComposeOfWrongFalsely : Prop := fnExactComposeOfRow.holds Tryz.pinned (OpenSpec.ofChange fnExactComposeOfWrong)

/-- 'laws.FnCopyApply': WHATEVER THE INPUT: true; the input reads as it did. -/
def fnCopyApplySpec : ChangeSpec := { name := "fnCopyApply", vars := ["loop.example/innocentgames/impl.errTooMany"], fn := fun _ => fun
  | [d, g1] => { results := [.lit (.bool true)], args := [d], vars := [g1] }
  | _ => none }
def fnCopyApplyRow : OpenClaim := { program := "ytibnnbdpfkgfhaagreatdoor", sum := "d574d2f8754efc02bf4a3234adce6e9de66a582b5a7922f2595fc820a2d11529", func := "loop.example/innocentgames/laws.FnCopyApply", spec := "fnCopyApply", inPlace := ["internal/bytealg.IndexByteString", "internal/bytealg.IndexString", "internal/abi.NoEscape", "internal/bytealg.MakeNoZero", "internal/reflectlite.TypeOf"], unfollowed := true, recurses := true, named := ["strconv.ErrSyntax", "strconv.ErrRange", "internal/strconv.uint64pow10", "math/bits.deBruijn32tab", "math/bits.deBruijn64tab", "loop.example/innocentgames/impl.errTooMany", "internal/bytealg.MaxLen"], ifaces := true, apart := false, laid := [("math/bits.deBruijn32tab", laid_math_bits_deBruijn32tab), ("math/bits.deBruijn64tab", laid_math_bits_deBruijn64tab), ("internal/strconv.uint64pow10", laid_internal_strconv_uint64pow10), ("strconv.ErrRange", laid_strconv_ErrRange), ("strconv.ErrSyntax", laid_strconv_ErrSyntax), ("loop.example/innocentgames/impl.errTooMany", laid_loop_example_innocentgames_impl_errTooMany)] }
def FnCopyApplySaid : Prop := fnCopyApplyRow.holds Tryz.pinned (OpenSpec.ofChange fnCopyApplySpec)

/-- ITS FALSE NEIGHBOUR: 'it returns false'. Refute it at one input. -/
def fnCopyApplyWrong : ChangeSpec := { name := "fnCopyApply", vars := ["loop.example/innocentgames/impl.errTooMany"], fn := fun _ => fun
  | [d, g1] => { results := [.lit (.bool false)], args := [d], vars := [g1] }
  | _ => none }
def FnCopyApplyWrongFalsely : Prop := fnCopyApplyRow.holds Tryz.pinned (OpenSpec.ofChange fnCopyApplyWrong)

/-- 'laws.FnCopy': WHATEVER THE INPUT: true; the input reads as it did. -/
def fnCopySpec : ChangeSpec := { name := "fnCopy", vars := ["loop.example/innocentgames/impl.errTooMany"], fn := fun _ => fun
  | [d, g1] => { results := [.lit (.bool true)], args := [d], vars := [g1] }
  | _ => none }
def fnCopyRow : OpenClaim := { program := "ytibnnbdpfkgfhaagreatdoor", sum := "d574d2f8754efc02bf4a3234adce6e9de66a582b5a7922f2595fc820a2d11529", func := "loop.example/innocentgames/laws.FnCopy", spec := "fnCopy", inPlace := ["internal/abi.NoEscape", "internal/bytealg.MakeNoZero", "internal/bytealg.IndexByteString", "internal/bytealg.IndexString", "internal/reflectlite.TypeOf"], unfollowed := true, recurses := true, named := ["internal/strconv.uint64pow10", "math/bits.deBruijn32tab", "math/bits.deBruijn64tab", "strconv.ErrSyntax", "strconv.ErrRange", "loop.example/innocentgames/impl.errTooMany", "internal/bytealg.MaxLen"], ifaces := true, apart := false, laid := [("math/bits.deBruijn32tab", laid_math_bits_deBruijn32tab), ("math/bits.deBruijn64tab", laid_math_bits_deBruijn64tab), ("internal/strconv.uint64pow10", laid_internal_strconv_uint64pow10), ("strconv.ErrRange", laid_strconv_ErrRange), ("strconv.ErrSyntax", laid_strconv_ErrSyntax), ("loop.example/innocentgames/impl.errTooMany", laid_loop_example_innocentgames_impl_errTooMany)] }
def FnCopySaid : Prop := fnCopyRow.holds Tryz.pinned (OpenSpec.ofChange fnCopySpec)

/-- ITS FALSE NEIGHBOUR: 'it returns false'. Refute it at one input. -/
def fnCopyWrong : ChangeSpec := { name := "fnCopy", vars := ["loop.example/innocentgames/impl.errTooMany"], fn := fun _ => fun
  | [d, g1] => { results := [.lit (.bool false)], args := [d], vars := [g1] }
  | _ => none }
def FnCopyWrongFalsely : Prop := fnCopyRow.holds Tryz.pinned (OpenSpec.ofChange fnCopyWrong)

/-- 'laws.FnCompose': WHATEVER THE INPUT: true; the input reads as it did. -/
def fnComposeSpec : ChangeSpec := { name := "fnCompose", vars := ["loop.example/innocentgames/impl.errTooMany"], fn := fun _ => fun
  | [d, g1] => { results := [.lit (.bool true)], args := [d], vars := [g1] }
  | _ => none }
def fnComposeRow : OpenClaim := { program := "ytibnnbdpfkgfhaagreatdoor", sum := "d574d2f8754efc02bf4a3234adce6e9de66a582b5a7922f2595fc820a2d11529", func := "loop.example/innocentgames/laws.FnCompose", spec := "fnCompose", inPlace := ["internal/bytealg.IndexByteString", "internal/bytealg.IndexString", "internal/reflectlite.TypeOf", "internal/abi.NoEscape", "internal/bytealg.MakeNoZero"], unfollowed := true, recurses := true, named := ["strconv.ErrSyntax", "strconv.ErrRange", "internal/strconv.uint64pow10", "math/bits.deBruijn32tab", "math/bits.deBruijn64tab", "loop.example/innocentgames/impl.errTooMany", "internal/bytealg.MaxLen"], ifaces := true, apart := false, laid := [("math/bits.deBruijn32tab", laid_math_bits_deBruijn32tab), ("math/bits.deBruijn64tab", laid_math_bits_deBruijn64tab), ("internal/strconv.uint64pow10", laid_internal_strconv_uint64pow10), ("strconv.ErrRange", laid_strconv_ErrRange), ("strconv.ErrSyntax", laid_strconv_ErrSyntax), ("loop.example/innocentgames/impl.errTooMany", laid_loop_example_innocentgames_impl_errTooMany)] }
def FnComposeSaid : Prop := fnComposeRow.holds Tryz.pinned (OpenSpec.ofChange fnComposeSpec)

/-- ITS FALSE NEIGHBOUR: 'it returns false'. Refute it at one input. -/
def fnComposeWrong : ChangeSpec := { name := "fnCompose", vars := ["loop.example/innocentgames/impl.errTooMany"], fn := fun _ => fun
  | [d, g1] => { results := [.lit (.bool false)], args := [d], vars := [g1] }
  | _ => none }
def FnComposeWrongFalsely : Prop := fnComposeRow.holds Tryz.pinned (OpenSpec.ofChange fnComposeWrong)

/-- 'laws.FnApplyAll': WHATEVER THE INPUT: true; the input reads as it did. -/
def fnApplyAllSpec : ChangeSpec := { name := "fnApplyAll", vars := ["loop.example/innocentgames/impl.errTooMany"], fn := fun _ => fun
  | [d, g1] => { results := [.lit (.bool true)], args := [d], vars := [g1] }
  | _ => none }
def fnApplyAllRow : OpenClaim := { program := "ytibnnbdpfkgfhaagreatdoor", sum := "d574d2f8754efc02bf4a3234adce6e9de66a582b5a7922f2595fc820a2d11529", func := "loop.example/innocentgames/laws.FnApplyAll", spec := "fnApplyAll", inPlace := ["internal/bytealg.IndexByteString", "internal/bytealg.IndexString", "internal/reflectlite.TypeOf", "internal/abi.NoEscape", "internal/bytealg.MakeNoZero"], unfollowed := true, recurses := true, named := ["strconv.ErrSyntax", "strconv.ErrRange", "internal/strconv.uint64pow10", "math/bits.deBruijn32tab", "math/bits.deBruijn64tab", "loop.example/innocentgames/impl.errTooMany", "internal/bytealg.MaxLen"], ifaces := true, apart := false, laid := [("math/bits.deBruijn32tab", laid_math_bits_deBruijn32tab), ("math/bits.deBruijn64tab", laid_math_bits_deBruijn64tab), ("internal/strconv.uint64pow10", laid_internal_strconv_uint64pow10), ("strconv.ErrRange", laid_strconv_ErrRange), ("strconv.ErrSyntax", laid_strconv_ErrSyntax), ("loop.example/innocentgames/impl.errTooMany", laid_loop_example_innocentgames_impl_errTooMany)] }
def FnApplyAllSaid : Prop := fnApplyAllRow.holds Tryz.pinned (OpenSpec.ofChange fnApplyAllSpec)

/-- ITS FALSE NEIGHBOUR: 'it returns false'. Refute it at one input. -/
def fnApplyAllWrong : ChangeSpec := { name := "fnApplyAll", vars := ["loop.example/innocentgames/impl.errTooMany"], fn := fun _ => fun
  | [d, g1] => { results := [.lit (.bool false)], args := [d], vars := [g1] }
  | _ => none }
def FnApplyAllWrongFalsely : Prop := fnApplyAllRow.holds Tryz.pinned (OpenSpec.ofChange fnApplyAllWrong)

/-- 'laws.FnResult': WHATEVER THE INPUT: true; the input reads as it did. -/
def fnResultSpec : ChangeSpec := { name := "fnResult", vars := ["loop.example/innocentgames/impl.errTooMany"], fn := fun _ => fun
  | [d, g1] => { results := [.lit (.bool true)], args := [d], vars := [g1] }
  | _ => none }
def fnResultRow : OpenClaim := { program := "ytibnnbdpfkgfhaagreatdoor", sum := "d574d2f8754efc02bf4a3234adce6e9de66a582b5a7922f2595fc820a2d11529", func := "loop.example/innocentgames/laws.FnResult", spec := "fnResult", inPlace := ["internal/bytealg.IndexByteString", "internal/bytealg.IndexString", "internal/reflectlite.TypeOf", "internal/abi.NoEscape", "internal/bytealg.MakeNoZero"], unfollowed := true, recurses := true, named := ["strconv.ErrSyntax", "strconv.ErrRange", "internal/strconv.uint64pow10", "math/bits.deBruijn32tab", "math/bits.deBruijn64tab", "loop.example/innocentgames/impl.errTooMany", "internal/bytealg.MaxLen"], ifaces := true, apart := false, laid := [("math/bits.deBruijn32tab", laid_math_bits_deBruijn32tab), ("math/bits.deBruijn64tab", laid_math_bits_deBruijn64tab), ("internal/strconv.uint64pow10", laid_internal_strconv_uint64pow10), ("strconv.ErrRange", laid_strconv_ErrRange), ("strconv.ErrSyntax", laid_strconv_ErrSyntax), ("loop.example/innocentgames/impl.errTooMany", laid_loop_example_innocentgames_impl_errTooMany)] }
def FnResultSaid : Prop := fnResultRow.holds Tryz.pinned (OpenSpec.ofChange fnResultSpec)

/-- ITS FALSE NEIGHBOUR: 'it returns false'. Refute it at one input. -/
def fnResultWrong : ChangeSpec := { name := "fnResult", vars := ["loop.example/innocentgames/impl.errTooMany"], fn := fun _ => fun
  | [d, g1] => { results := [.lit (.bool false)], args := [d], vars := [g1] }
  | _ => none }
def FnResultWrongFalsely : Prop := fnResultRow.holds Tryz.pinned (OpenSpec.ofChange fnResultWrong)

/-- 'laws.FnApply': WHATEVER THE INPUT: true; the input reads as it did. -/
def fnApplySpec : ChangeSpec := { name := "fnApply", vars := ["loop.example/innocentgames/impl.errTooMany"], fn := fun _ => fun
  | [d, g1] => { results := [.lit (.bool true)], args := [d], vars := [g1] }
  | _ => none }
def fnApplyRow : OpenClaim := { program := "ytibnnbdpfkgfhaagreatdoor", sum := "d574d2f8754efc02bf4a3234adce6e9de66a582b5a7922f2595fc820a2d11529", func := "loop.example/innocentgames/laws.FnApply", spec := "fnApply", inPlace := ["internal/bytealg.IndexByteString", "internal/bytealg.IndexString", "internal/reflectlite.TypeOf", "internal/abi.NoEscape", "internal/bytealg.MakeNoZero"], unfollowed := true, recurses := true, named := ["strconv.ErrSyntax", "strconv.ErrRange", "internal/strconv.uint64pow10", "math/bits.deBruijn32tab", "math/bits.deBruijn64tab", "loop.example/innocentgames/impl.errTooMany", "internal/bytealg.MaxLen"], ifaces := true, apart := false, laid := [("math/bits.deBruijn32tab", laid_math_bits_deBruijn32tab), ("math/bits.deBruijn64tab", laid_math_bits_deBruijn64tab), ("internal/strconv.uint64pow10", laid_internal_strconv_uint64pow10), ("strconv.ErrRange", laid_strconv_ErrRange), ("strconv.ErrSyntax", laid_strconv_ErrSyntax), ("loop.example/innocentgames/impl.errTooMany", laid_loop_example_innocentgames_impl_errTooMany)] }
def FnApplySaid : Prop := fnApplyRow.holds Tryz.pinned (OpenSpec.ofChange fnApplySpec)

/-- ITS FALSE NEIGHBOUR: 'it returns false'. Refute it at one input. -/
def fnApplyWrong : ChangeSpec := { name := "fnApply", vars := ["loop.example/innocentgames/impl.errTooMany"], fn := fun _ => fun
  | [d, g1] => { results := [.lit (.bool false)], args := [d], vars := [g1] }
  | _ => none }
def FnApplyWrongFalsely : Prop := fnApplyRow.holds Tryz.pinned (OpenSpec.ofChange fnApplyWrong)

/- THE SECOND FORM. 'bulk': how many values and letters a reading holds, each counted each time it is reached (what is shared counts as often as it is met; a slice's spare places count too). A statement '..UptoSaid' is the law's where the arguments, and the package variables that the reading takes, are together of bulk at most 1048576: NARROWER than '..Said'. Prove '..Said' where nothing that the law and all that it calls make is longer than what came in: it says more and counts as full. Else prove '..UptoSaid'. A law counts once. -/
mutual
def uptoBulk {H : Type} : DataW H → Nat
  | .lit (.string bytes) => bytes.length + 1
  | .lit _ => 1
  | .nil => 1
  | .ptr d => uptoBulk d + 1
  | .slice elems spare => uptoBulkAll elems + uptoBulkAll spare + 1
  | .agg parts => uptoBulkAll parts + 1
  | .iface _ d => uptoBulk d + 1
  | .map entries => uptoBulkEntries entries + 1
  | .held _ => 1
def uptoBulkAll {H : Type} : List (DataW H) → Nat
  | [] => 0
  | d :: r => uptoBulk d + uptoBulkAll r
def uptoBulkEntries {H : Type} : List (Lit × DataW H) → Nat
  | [] => 0
  | x :: r => uptoBulkEntry x + uptoBulkEntries r
def uptoBulkEntry {H : Type} : Lit × DataW H → Nat
  | (.string bytes, d) => bytes.length + uptoBulk d + 1
  | (_, d) => uptoBulk d + 1
 end
def uptoSmall : (H : Type) → List (DataW H) → Bool := fun _ ds => decide (uptoBulkAll ds ≤ 1048576)
def OpenSpec.upto (s : _root_.Go.ChangeSpec) : _root_.Go.OpenSpec := { _root_.Go.OpenSpec.ofChange s with cond := some uptoSmall }

/-- 'laws.FnExactComposeOf', WHERE WHAT IT READS IS OF BULK AT MOST 1048576: true; the input reads as it did. -/
def fnExactComposeOfUptoRow : OpenClaim := { program := "ytibnnbdpfkgfhaagreatdoor", sum := "d574d2f8754efc02bf4a3234adce6e9de66a582b5a7922f2595fc820a2d11529", func := "loop.example/innocentgames/laws.FnExactComposeOf", spec := "fnExactComposeOf", inPlace := ["internal/bytealg.IndexByteString", "internal/bytealg.IndexString", "internal/reflectlite.TypeOf", "internal/abi.NoEscape", "internal/bytealg.MakeNoZero"], unfollowed := true, recurses := true, named := ["strconv.ErrSyntax", "strconv.ErrRange", "internal/strconv.uint64pow10", "math/bits.deBruijn32tab", "math/bits.deBruijn64tab", "loop.example/innocentgames/impl.errTooMany", "internal/bytealg.MaxLen"], ifaces := true, apart := false, laid := [("math/bits.deBruijn32tab", laid_math_bits_deBruijn32tab), ("math/bits.deBruijn64tab", laid_math_bits_deBruijn64tab), ("internal/strconv.uint64pow10", laid_internal_strconv_uint64pow10), ("strconv.ErrRange", laid_strconv_ErrRange), ("strconv.ErrSyntax", laid_strconv_ErrSyntax), ("loop.example/innocentgames/impl.errTooMany", laid_loop_example_innocentgames_impl_errTooMany)], narrowed := true }
def FnExactComposeOfUptoSaid : Prop := fnExactComposeOfUptoRow.holds Tryz.pinned (OpenSpec.upto fnExactComposeOfSpec)

/-- 'laws.FnCopyApply', WHERE WHAT IT READS IS OF BULK AT MOST 1048576: true; the input reads as it did. -/
def fnCopyApplyUptoRow : OpenClaim := { program := "ytibnnbdpfkgfhaagreatdoor", sum := "d574d2f8754efc02bf4a3234adce6e9de66a582b5a7922f2595fc820a2d11529", func := "loop.example/innocentgames/laws.FnCopyApply", spec := "fnCopyApply", inPlace := ["internal/bytealg.IndexByteString", "internal/bytealg.IndexString", "internal/abi.NoEscape", "internal/bytealg.MakeNoZero", "internal/reflectlite.TypeOf"], unfollowed := true, recurses := true, named := ["strconv.ErrSyntax", "strconv.ErrRange", "internal/strconv.uint64pow10", "math/bits.deBruijn32tab", "math/bits.deBruijn64tab", "loop.example/innocentgames/impl.errTooMany", "internal/bytealg.MaxLen"], ifaces := true, apart := false, laid := [("math/bits.deBruijn32tab", laid_math_bits_deBruijn32tab), ("math/bits.deBruijn64tab", laid_math_bits_deBruijn64tab), ("internal/strconv.uint64pow10", laid_internal_strconv_uint64pow10), ("strconv.ErrRange", laid_strconv_ErrRange), ("strconv.ErrSyntax", laid_strconv_ErrSyntax), ("loop.example/innocentgames/impl.errTooMany", laid_loop_example_innocentgames_impl_errTooMany)], narrowed := true }
def FnCopyApplyUptoSaid : Prop := fnCopyApplyUptoRow.holds Tryz.pinned (OpenSpec.upto fnCopyApplySpec)

/-- 'laws.FnCopy', WHERE WHAT IT READS IS OF BULK AT MOST 1048576: true; the input reads as it did. -/
def fnCopyUptoRow : OpenClaim := { program := "ytibnnbdpfkgfhaagreatdoor", sum := "d574d2f8754efc02bf4a3234adce6e9de66a582b5a7922f2595fc820a2d11529", func := "loop.example/innocentgames/laws.FnCopy", spec := "fnCopy", inPlace := ["internal/abi.NoEscape", "internal/bytealg.MakeNoZero", "internal/bytealg.IndexByteString", "internal/bytealg.IndexString", "internal/reflectlite.TypeOf"], unfollowed := true, recurses := true, named := ["internal/strconv.uint64pow10", "math/bits.deBruijn32tab", "math/bits.deBruijn64tab", "strconv.ErrSyntax", "strconv.ErrRange", "loop.example/innocentgames/impl.errTooMany", "internal/bytealg.MaxLen"], ifaces := true, apart := false, laid := [("math/bits.deBruijn32tab", laid_math_bits_deBruijn32tab), ("math/bits.deBruijn64tab", laid_math_bits_deBruijn64tab), ("internal/strconv.uint64pow10", laid_internal_strconv_uint64pow10), ("strconv.ErrRange", laid_strconv_ErrRange), ("strconv.ErrSyntax", laid_strconv_ErrSyntax), ("loop.example/innocentgames/impl.errTooMany", laid_loop_example_innocentgames_impl_errTooMany)], narrowed := true }
def FnCopyUptoSaid : Prop := fnCopyUptoRow.holds Tryz.pinned (OpenSpec.upto fnCopySpec)

/-- 'laws.FnCompose', WHERE WHAT IT READS IS OF BULK AT MOST 1048576: true; the input reads as it did. -/
def fnComposeUptoRow : OpenClaim := { program := "ytibnnbdpfkgfhaagreatdoor", sum := "d574d2f8754efc02bf4a3234adce6e9de66a582b5a7922f2595fc820a2d11529", func := "loop.example/innocentgames/laws.FnCompose", spec := "fnCompose", inPlace := ["internal/bytealg.IndexByteString", "internal/bytealg.IndexString", "internal/reflectlite.TypeOf", "internal/abi.NoEscape", "internal/bytealg.MakeNoZero"], unfollowed := true, recurses := true, named := ["strconv.ErrSyntax", "strconv.ErrRange", "internal/strconv.uint64pow10", "math/bits.deBruijn32tab", "math/bits.deBruijn64tab", "loop.example/innocentgames/impl.errTooMany", "internal/bytealg.MaxLen"], ifaces := true, apart := false, laid := [("math/bits.deBruijn32tab", laid_math_bits_deBruijn32tab), ("math/bits.deBruijn64tab", laid_math_bits_deBruijn64tab), ("internal/strconv.uint64pow10", laid_internal_strconv_uint64pow10), ("strconv.ErrRange", laid_strconv_ErrRange), ("strconv.ErrSyntax", laid_strconv_ErrSyntax), ("loop.example/innocentgames/impl.errTooMany", laid_loop_example_innocentgames_impl_errTooMany)], narrowed := true }
def FnComposeUptoSaid : Prop := fnComposeUptoRow.holds Tryz.pinned (OpenSpec.upto fnComposeSpec)

/-- 'laws.FnApplyAll', WHERE WHAT IT READS IS OF BULK AT MOST 1048576: true; the input reads as it did. -/
def fnApplyAllUptoRow : OpenClaim := { program := "ytibnnbdpfkgfhaagreatdoor", sum := "d574d2f8754efc02bf4a3234adce6e9de66a582b5a7922f2595fc820a2d11529", func := "loop.example/innocentgames/laws.FnApplyAll", spec := "fnApplyAll", inPlace := ["internal/bytealg.IndexByteString", "internal/bytealg.IndexString", "internal/reflectlite.TypeOf", "internal/abi.NoEscape", "internal/bytealg.MakeNoZero"], unfollowed := true, recurses := true, named := ["strconv.ErrSyntax", "strconv.ErrRange", "internal/strconv.uint64pow10", "math/bits.deBruijn32tab", "math/bits.deBruijn64tab", "loop.example/innocentgames/impl.errTooMany", "internal/bytealg.MaxLen"], ifaces := true, apart := false, laid := [("math/bits.deBruijn32tab", laid_math_bits_deBruijn32tab), ("math/bits.deBruijn64tab", laid_math_bits_deBruijn64tab), ("internal/strconv.uint64pow10", laid_internal_strconv_uint64pow10), ("strconv.ErrRange", laid_strconv_ErrRange), ("strconv.ErrSyntax", laid_strconv_ErrSyntax), ("loop.example/innocentgames/impl.errTooMany", laid_loop_example_innocentgames_impl_errTooMany)], narrowed := true }
def FnApplyAllUptoSaid : Prop := fnApplyAllUptoRow.holds Tryz.pinned (OpenSpec.upto fnApplyAllSpec)

/-- 'laws.FnResult', WHERE WHAT IT READS IS OF BULK AT MOST 1048576: true; the input reads as it did. -/
def fnResultUptoRow : OpenClaim := { program := "ytibnnbdpfkgfhaagreatdoor", sum := "d574d2f8754efc02bf4a3234adce6e9de66a582b5a7922f2595fc820a2d11529", func := "loop.example/innocentgames/laws.FnResult", spec := "fnResult", inPlace := ["internal/bytealg.IndexByteString", "internal/bytealg.IndexString", "internal/reflectlite.TypeOf", "internal/abi.NoEscape", "internal/bytealg.MakeNoZero"], unfollowed := true, recurses := true, named := ["strconv.ErrSyntax", "strconv.ErrRange", "internal/strconv.uint64pow10", "math/bits.deBruijn32tab", "math/bits.deBruijn64tab", "loop.example/innocentgames/impl.errTooMany", "internal/bytealg.MaxLen"], ifaces := true, apart := false, laid := [("math/bits.deBruijn32tab", laid_math_bits_deBruijn32tab), ("math/bits.deBruijn64tab", laid_math_bits_deBruijn64tab), ("internal/strconv.uint64pow10", laid_internal_strconv_uint64pow10), ("strconv.ErrRange", laid_strconv_ErrRange), ("strconv.ErrSyntax", laid_strconv_ErrSyntax), ("loop.example/innocentgames/impl.errTooMany", laid_loop_example_innocentgames_impl_errTooMany)], narrowed := true }
def FnResultUptoSaid : Prop := fnResultUptoRow.holds Tryz.pinned (OpenSpec.upto fnResultSpec)

/-- 'laws.FnApply', WHERE WHAT IT READS IS OF BULK AT MOST 1048576: true; the input reads as it did. -/
def fnApplyUptoRow : OpenClaim := { program := "ytibnnbdpfkgfhaagreatdoor", sum := "d574d2f8754efc02bf4a3234adce6e9de66a582b5a7922f2595fc820a2d11529", func := "loop.example/innocentgames/laws.FnApply", spec := "fnApply", inPlace := ["internal/bytealg.IndexByteString", "internal/bytealg.IndexString", "internal/reflectlite.TypeOf", "internal/abi.NoEscape", "internal/bytealg.MakeNoZero"], unfollowed := true, recurses := true, named := ["strconv.ErrSyntax", "strconv.ErrRange", "internal/strconv.uint64pow10", "math/bits.deBruijn32tab", "math/bits.deBruijn64tab", "loop.example/innocentgames/impl.errTooMany", "internal/bytealg.MaxLen"], ifaces := true, apart := false, laid := [("math/bits.deBruijn32tab", laid_math_bits_deBruijn32tab), ("math/bits.deBruijn64tab", laid_math_bits_deBruijn64tab), ("internal/strconv.uint64pow10", laid_internal_strconv_uint64pow10), ("strconv.ErrRange", laid_strconv_ErrRange), ("strconv.ErrSyntax", laid_strconv_ErrSyntax), ("loop.example/innocentgames/impl.errTooMany", laid_loop_example_innocentgames_impl_errTooMany)], narrowed := true }
def FnApplyUptoSaid : Prop := fnApplyUptoRow.holds Tryz.pinned (OpenSpec.upto fnApplySpec)

end Rows
end Go.Proofs.YtibnnbdpfkgfhaaGreatDoor
