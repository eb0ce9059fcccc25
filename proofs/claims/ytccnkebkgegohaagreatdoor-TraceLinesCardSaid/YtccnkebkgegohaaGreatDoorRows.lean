/-
  NARROWER THAN 'FOR EVERY INPUT', by the rows' own cells (each row's printed sentence says how): TraceReduced: laid · TraceMerges: laid · TraceChecks: laid · TraceStands: laid · TraceProjected: laid · TraceOrders: laid · TraceExchanged: laid · TraceMeets: laid · TraceTurns: laid · TraceJoins: laid · TraceRests: laid · TraceNeeds: laid · TraceSteps: laid · TraceMemory: laid · TraceNormal: laid · TraceLines: laid.
  DERIVED. THE GIVEN ROWS OF THIS SEAT. 16 by the template 'for every input the law returns true; each argument reads behind the call as it read before'; 0 by the template 'total and deterministic' (their statements: YtccnkebkgegohaaGreatDoorTotals.lean).
  GIVEN WITH THE SEED: the statements are not yours to turn. If you find one false, say at which input.
  Laid BY PROGRAM, IN A SANDBOX (cutbox-rows.mjs): the forced cells as the released guide's own fill.sh prints them over the translation d01aa9e8575e9870… (all of the seat's roots in one cut). By AI agents, Wed Nov 11 2026. No macro, syntax, notation, axiom, sorry.
-/
import Derived.Test.YtccnkebkgegohaaGreatDoorChecked
import GoSem.PinnedTables
import GoSem.Claim
import GoSem.ClaimJoined
import GoSem.ClaimMapViews
import Derived.JoinedTies
import Derived.KernelRfl
namespace Go.Proofs.YtccnkebkgegohaaGreatDoor
/- THE CELL 'sum', in the pinned program and in every row, IS THE sha256 OF THE DUMP (.gsa) THAT YtccnkebkgegohaaGreatDoorProg.lean LOADS. Nothing in Lean hashes anything: it is a label: what it is worth is what the hold of that sum in a sandbox is worth. -/
noncomputable def Tryz.pinned : Pinned := { name := "ytccnkebkgegohaagreatdoor", sum := "d01aa9e8575e987043cd9985fdd63be358b3a3def65498ebfb2edda535e41a2a", checked := Tryz.checked }
namespace Rows
def none {H : Type} : Left H := { results := [], args := [] }

/- WHAT THE LISTED PACKAGE-LEVEL VARIABLES READ AS WHEN THE CALL BEGINS. Each datum BY PROGRAM (the guide's laid-datum.mjs) off the statement by which the dump's own 'gosem.cut.vars' lays the variable. In a bare row this is a premise. The card (YtccnkebkgegohaaGreatDoorCards.lean) ties it to the program's text. -/
def laid_math_bits_deBruijn32tab {H : Type} : DataW H := .agg [.lit (.int .u8 0), .lit (.int .u8 1), .lit (.int .u8 28), .lit (.int .u8 2), .lit (.int .u8 29), .lit (.int .u8 14), .lit (.int .u8 24), .lit (.int .u8 3), .lit (.int .u8 30), .lit (.int .u8 22), .lit (.int .u8 20), .lit (.int .u8 15), .lit (.int .u8 25), .lit (.int .u8 17), .lit (.int .u8 4), .lit (.int .u8 8), .lit (.int .u8 31), .lit (.int .u8 27), .lit (.int .u8 13), .lit (.int .u8 23), .lit (.int .u8 21), .lit (.int .u8 19), .lit (.int .u8 16), .lit (.int .u8 7), .lit (.int .u8 26), .lit (.int .u8 12), .lit (.int .u8 18), .lit (.int .u8 6), .lit (.int .u8 11), .lit (.int .u8 5), .lit (.int .u8 10), .lit (.int .u8 9)]
def laid_math_bits_deBruijn64tab {H : Type} : DataW H := .agg [.lit (.int .u8 0), .lit (.int .u8 1), .lit (.int .u8 56), .lit (.int .u8 2), .lit (.int .u8 57), .lit (.int .u8 49), .lit (.int .u8 28), .lit (.int .u8 3), .lit (.int .u8 61), .lit (.int .u8 58), .lit (.int .u8 42), .lit (.int .u8 50), .lit (.int .u8 38), .lit (.int .u8 29), .lit (.int .u8 17), .lit (.int .u8 4), .lit (.int .u8 62), .lit (.int .u8 47), .lit (.int .u8 59), .lit (.int .u8 36), .lit (.int .u8 45), .lit (.int .u8 43), .lit (.int .u8 51), .lit (.int .u8 22), .lit (.int .u8 53), .lit (.int .u8 39), .lit (.int .u8 33), .lit (.int .u8 30), .lit (.int .u8 24), .lit (.int .u8 18), .lit (.int .u8 12), .lit (.int .u8 5), .lit (.int .u8 63), .lit (.int .u8 55), .lit (.int .u8 48), .lit (.int .u8 27), .lit (.int .u8 60), .lit (.int .u8 41), .lit (.int .u8 37), .lit (.int .u8 16), .lit (.int .u8 46), .lit (.int .u8 35), .lit (.int .u8 44), .lit (.int .u8 21), .lit (.int .u8 52), .lit (.int .u8 32), .lit (.int .u8 23), .lit (.int .u8 11), .lit (.int .u8 54), .lit (.int .u8 26), .lit (.int .u8 40), .lit (.int .u8 15), .lit (.int .u8 34), .lit (.int .u8 20), .lit (.int .u8 31), .lit (.int .u8 10), .lit (.int .u8 25), .lit (.int .u8 14), .lit (.int .u8 19), .lit (.int .u8 9), .lit (.int .u8 13), .lit (.int .u8 8), .lit (.int .u8 7), .lit (.int .u8 6)]
def laid_internal_strconv_uint64pow10 {H : Type} : DataW H := .agg [.lit (.int .u64 1), .lit (.int .u64 10), .lit (.int .u64 100), .lit (.int .u64 1000), .lit (.int .u64 10000), .lit (.int .u64 100000), .lit (.int .u64 1000000), .lit (.int .u64 10000000), .lit (.int .u64 100000000), .lit (.int .u64 1000000000), .lit (.int .u64 10000000000), .lit (.int .u64 100000000000), .lit (.int .u64 1000000000000), .lit (.int .u64 10000000000000), .lit (.int .u64 100000000000000), .lit (.int .u64 1000000000000000), .lit (.int .u64 10000000000000000), .lit (.int .u64 100000000000000000), .lit (.int .u64 1000000000000000000), .lit (.int .u64 10000000000000000000)]
def laid_unicode_utf8_acceptRanges {H : Type} : DataW H := .agg [.agg [.lit (.int .u8 128), .lit (.int .u8 191)], .agg [.lit (.int .u8 160), .lit (.int .u8 191)], .agg [.lit (.int .u8 128), .lit (.int .u8 159)], .agg [.lit (.int .u8 144), .lit (.int .u8 191)], .agg [.lit (.int .u8 128), .lit (.int .u8 143)], .agg [.lit (.int .u8 0), .lit (.int .u8 0)], .agg [.lit (.int .u8 0), .lit (.int .u8 0)], .agg [.lit (.int .u8 0), .lit (.int .u8 0)], .agg [.lit (.int .u8 0), .lit (.int .u8 0)], .agg [.lit (.int .u8 0), .lit (.int .u8 0)], .agg [.lit (.int .u8 0), .lit (.int .u8 0)], .agg [.lit (.int .u8 0), .lit (.int .u8 0)], .agg [.lit (.int .u8 0), .lit (.int .u8 0)], .agg [.lit (.int .u8 0), .lit (.int .u8 0)], .agg [.lit (.int .u8 0), .lit (.int .u8 0)], .agg [.lit (.int .u8 0), .lit (.int .u8 0)]]
def laid_strconv_ErrRange {H : Type} : DataW H := .iface "*errors.errorString" (.ptr (.agg [.lit (.string [118, 97, 108, 117, 101, 32, 111, 117, 116, 32, 111, 102, 32, 114, 97, 110, 103, 101])]))
def laid_strconv_ErrSyntax {H : Type} : DataW H := .iface "*errors.errorString" (.ptr (.agg [.lit (.string [105, 110, 118, 97, 108, 105, 100, 32, 115, 121, 110, 116, 97, 120])]))
/-- One of Go's own tables, pinned by name: the form's constant. -/
def laid_unicode_utf8_first : DataW Unit := Go.Pinned.utf8First

/-- 'stricklelaw04.TraceReduced': WHATEVER THE INPUT: true; the input reads as it did. -/
def traceReducedSpec : ChangeSpec := { name := "traceReduced", fn := fun _ => fun
  | [d1, d2, d3] => { results := [.lit (.bool true)], args := [d1, d2, d3] }
  | _ => none }
def traceReducedRow : OpenClaim := { program := "ytccnkebkgegohaagreatdoor", sum := "d01aa9e8575e987043cd9985fdd63be358b3a3def65498ebfb2edda535e41a2a", func := "strickle/stricklelaw04.TraceReduced", spec := "traceReduced", inPlace := ["internal/abi.NoEscape", "internal/bytealg.MakeNoZero"], unfollowed := true, recurses := true, named := ["internal/strconv.uint64pow10", "math/bits.deBruijn32tab", "math/bits.deBruijn64tab"], apart := false, laid := [("math/bits.deBruijn32tab", laid_math_bits_deBruijn32tab), ("math/bits.deBruijn64tab", laid_math_bits_deBruijn64tab), ("internal/strconv.uint64pow10", laid_internal_strconv_uint64pow10)] }
def TraceReducedSaid : Prop := traceReducedRow.holds Tryz.pinned (OpenSpec.ofChange traceReducedSpec)

/-- ITS FALSE NEIGHBOUR: 'it returns false'. Refute it at one input. -/
def traceReducedWrong : ChangeSpec := { name := "traceReduced", fn := fun _ => fun
  | [d1, d2, d3] => { results := [.lit (.bool false)], args := [d1, d2, d3] }
  | _ => none }
def TraceReducedWrongFalsely : Prop := traceReducedRow.holds Tryz.pinned (OpenSpec.ofChange traceReducedWrong)

/-- 'stricklelaw04.TraceMerges': WHATEVER THE INPUT: true; the input reads as it did. -/
def traceMergesSpec : ChangeSpec := { name := "traceMerges", fn := fun _ => fun
  | [d1, d2, d3] => { results := [.lit (.bool true)], args := [d1, d2, d3] }
  | _ => none }
def traceMergesRow : OpenClaim := { program := "ytccnkebkgegohaagreatdoor", sum := "d01aa9e8575e987043cd9985fdd63be358b3a3def65498ebfb2edda535e41a2a", func := "strickle/stricklelaw04.TraceMerges", spec := "traceMerges", inPlace := ["internal/abi.NoEscape", "internal/bytealg.MakeNoZero"], unfollowed := true, recurses := true, named := ["internal/strconv.uint64pow10", "math/bits.deBruijn32tab", "math/bits.deBruijn64tab"], apart := false, laid := [("math/bits.deBruijn32tab", laid_math_bits_deBruijn32tab), ("math/bits.deBruijn64tab", laid_math_bits_deBruijn64tab), ("internal/strconv.uint64pow10", laid_internal_strconv_uint64pow10)] }
def TraceMergesSaid : Prop := traceMergesRow.holds Tryz.pinned (OpenSpec.ofChange traceMergesSpec)

/-- ITS FALSE NEIGHBOUR: 'it returns false'. Refute it at one input. -/
def traceMergesWrong : ChangeSpec := { name := "traceMerges", fn := fun _ => fun
  | [d1, d2, d3] => { results := [.lit (.bool false)], args := [d1, d2, d3] }
  | _ => none }
def TraceMergesWrongFalsely : Prop := traceMergesRow.holds Tryz.pinned (OpenSpec.ofChange traceMergesWrong)

/-- 'stricklelaw04.TraceChecks': WHATEVER THE INPUT: true; the input reads as it did. -/
def traceChecksSpec : ChangeSpec := { name := "traceChecks", fn := fun _ => fun
  | [d1, d2, d3] => { results := [.lit (.bool true)], args := [d1, d2, d3] }
  | _ => none }
def traceChecksRow : OpenClaim := { program := "ytccnkebkgegohaagreatdoor", sum := "d01aa9e8575e987043cd9985fdd63be358b3a3def65498ebfb2edda535e41a2a", func := "strickle/stricklelaw04.TraceChecks", spec := "traceChecks", inPlace := ["internal/abi.NoEscape", "internal/bytealg.MakeNoZero"], unfollowed := true, recurses := true, named := ["internal/strconv.uint64pow10", "math/bits.deBruijn32tab", "math/bits.deBruijn64tab"], apart := false, laid := [("math/bits.deBruijn32tab", laid_math_bits_deBruijn32tab), ("math/bits.deBruijn64tab", laid_math_bits_deBruijn64tab), ("internal/strconv.uint64pow10", laid_internal_strconv_uint64pow10)] }
def TraceChecksSaid : Prop := traceChecksRow.holds Tryz.pinned (OpenSpec.ofChange traceChecksSpec)

/-- ITS FALSE NEIGHBOUR: 'it returns false'. Refute it at one input. -/
def traceChecksWrong : ChangeSpec := { name := "traceChecks", fn := fun _ => fun
  | [d1, d2, d3] => { results := [.lit (.bool false)], args := [d1, d2, d3] }
  | _ => none }
def TraceChecksWrongFalsely : Prop := traceChecksRow.holds Tryz.pinned (OpenSpec.ofChange traceChecksWrong)

/-- 'stricklelaw04.TraceStands': WHATEVER THE INPUT: true; the input reads as it did. -/
def traceStandsSpec : ChangeSpec := { name := "traceStands", fn := fun _ => fun
  | [d1, d2] => { results := [.lit (.bool true)], args := [d1, d2] }
  | _ => none }
def traceStandsRow : OpenClaim := { program := "ytccnkebkgegohaagreatdoor", sum := "d01aa9e8575e987043cd9985fdd63be358b3a3def65498ebfb2edda535e41a2a", func := "strickle/stricklelaw04.TraceStands", spec := "traceStands", inPlace := ["internal/abi.NoEscape", "internal/bytealg.MakeNoZero"], unfollowed := true, recurses := true, named := ["internal/strconv.uint64pow10", "math/bits.deBruijn32tab", "math/bits.deBruijn64tab"], apart := false, laid := [("math/bits.deBruijn32tab", laid_math_bits_deBruijn32tab), ("math/bits.deBruijn64tab", laid_math_bits_deBruijn64tab), ("internal/strconv.uint64pow10", laid_internal_strconv_uint64pow10)] }
def TraceStandsSaid : Prop := traceStandsRow.holds Tryz.pinned (OpenSpec.ofChange traceStandsSpec)

/-- ITS FALSE NEIGHBOUR: 'it returns false'. Refute it at one input. -/
def traceStandsWrong : ChangeSpec := { name := "traceStands", fn := fun _ => fun
  | [d1, d2] => { results := [.lit (.bool false)], args := [d1, d2] }
  | _ => none }
def TraceStandsWrongFalsely : Prop := traceStandsRow.holds Tryz.pinned (OpenSpec.ofChange traceStandsWrong)

/-- 'stricklelaw04.TraceProjected': WHATEVER THE INPUT: true; the input reads as it did. -/
def traceProjectedSpec : ChangeSpec := { name := "traceProjected", fn := fun _ => fun
  | [d1, d2] => { results := [.lit (.bool true)], args := [d1, d2] }
  | _ => none }
def traceProjectedRow : OpenClaim := { program := "ytccnkebkgegohaagreatdoor", sum := "d01aa9e8575e987043cd9985fdd63be358b3a3def65498ebfb2edda535e41a2a", func := "strickle/stricklelaw04.TraceProjected", spec := "traceProjected", inPlace := ["internal/abi.NoEscape", "internal/bytealg.MakeNoZero"], unfollowed := true, recurses := true, named := ["internal/strconv.uint64pow10", "math/bits.deBruijn32tab", "math/bits.deBruijn64tab"], apart := false, laid := [("math/bits.deBruijn32tab", laid_math_bits_deBruijn32tab), ("math/bits.deBruijn64tab", laid_math_bits_deBruijn64tab), ("internal/strconv.uint64pow10", laid_internal_strconv_uint64pow10)] }
def TraceProjectedSaid : Prop := traceProjectedRow.holds Tryz.pinned (OpenSpec.ofChange traceProjectedSpec)

/-- ITS FALSE NEIGHBOUR: 'it returns false'. Refute it at one input. -/
def traceProjectedWrong : ChangeSpec := { name := "traceProjected", fn := fun _ => fun
  | [d1, d2] => { results := [.lit (.bool false)], args := [d1, d2] }
  | _ => none }
def TraceProjectedWrongFalsely : Prop := traceProjectedRow.holds Tryz.pinned (OpenSpec.ofChange traceProjectedWrong)

/-- 'stricklelaw04.TraceOrders': WHATEVER THE INPUT: true; the input reads as it did. -/
def traceOrdersSpec : ChangeSpec := { name := "traceOrders", fn := fun _ => fun
  | [d1, d2] => { results := [.lit (.bool true)], args := [d1, d2] }
  | _ => none }
def traceOrdersRow : OpenClaim := { program := "ytccnkebkgegohaagreatdoor", sum := "d01aa9e8575e987043cd9985fdd63be358b3a3def65498ebfb2edda535e41a2a", func := "strickle/stricklelaw04.TraceOrders", spec := "traceOrders", inPlace := ["internal/abi.NoEscape", "internal/bytealg.MakeNoZero"], unfollowed := true, recurses := true, named := ["internal/strconv.uint64pow10", "math/bits.deBruijn32tab", "math/bits.deBruijn64tab"], apart := false, laid := [("math/bits.deBruijn32tab", laid_math_bits_deBruijn32tab), ("math/bits.deBruijn64tab", laid_math_bits_deBruijn64tab), ("internal/strconv.uint64pow10", laid_internal_strconv_uint64pow10)] }
def TraceOrdersSaid : Prop := traceOrdersRow.holds Tryz.pinned (OpenSpec.ofChange traceOrdersSpec)

/-- ITS FALSE NEIGHBOUR: 'it returns false'. Refute it at one input. -/
def traceOrdersWrong : ChangeSpec := { name := "traceOrders", fn := fun _ => fun
  | [d1, d2] => { results := [.lit (.bool false)], args := [d1, d2] }
  | _ => none }
def TraceOrdersWrongFalsely : Prop := traceOrdersRow.holds Tryz.pinned (OpenSpec.ofChange traceOrdersWrong)

/-- 'stricklelaw04.TraceExchanged': WHATEVER THE INPUT: true; the input reads as it did. -/
def traceExchangedSpec : ChangeSpec := { name := "traceExchanged", fn := fun _ => fun
  | [d1, d2] => { results := [.lit (.bool true)], args := [d1, d2] }
  | _ => none }
def traceExchangedRow : OpenClaim := { program := "ytccnkebkgegohaagreatdoor", sum := "d01aa9e8575e987043cd9985fdd63be358b3a3def65498ebfb2edda535e41a2a", func := "strickle/stricklelaw04.TraceExchanged", spec := "traceExchanged", inPlace := ["internal/abi.NoEscape", "internal/bytealg.MakeNoZero"], unfollowed := true, recurses := true, named := ["internal/strconv.uint64pow10", "math/bits.deBruijn32tab", "math/bits.deBruijn64tab"], apart := false, laid := [("math/bits.deBruijn32tab", laid_math_bits_deBruijn32tab), ("math/bits.deBruijn64tab", laid_math_bits_deBruijn64tab), ("internal/strconv.uint64pow10", laid_internal_strconv_uint64pow10)] }
def TraceExchangedSaid : Prop := traceExchangedRow.holds Tryz.pinned (OpenSpec.ofChange traceExchangedSpec)

/-- ITS FALSE NEIGHBOUR: 'it returns false'. Refute it at one input. -/
def traceExchangedWrong : ChangeSpec := { name := "traceExchanged", fn := fun _ => fun
  | [d1, d2] => { results := [.lit (.bool false)], args := [d1, d2] }
  | _ => none }
def TraceExchangedWrongFalsely : Prop := traceExchangedRow.holds Tryz.pinned (OpenSpec.ofChange traceExchangedWrong)

/-- 'stricklelaw04.TraceMeets': WHATEVER THE INPUT: true; the input reads as it did. -/
def traceMeetsSpec : ChangeSpec := { name := "traceMeets", fn := fun _ => fun
  | [d1, d2, d3] => { results := [.lit (.bool true)], args := [d1, d2, d3] }
  | _ => none }
def traceMeetsRow : OpenClaim := { program := "ytccnkebkgegohaagreatdoor", sum := "d01aa9e8575e987043cd9985fdd63be358b3a3def65498ebfb2edda535e41a2a", func := "strickle/stricklelaw04.TraceMeets", spec := "traceMeets", inPlace := ["internal/abi.NoEscape", "internal/bytealg.MakeNoZero"], unfollowed := true, recurses := true, named := ["internal/strconv.uint64pow10", "math/bits.deBruijn32tab", "math/bits.deBruijn64tab"], apart := false, laid := [("math/bits.deBruijn32tab", laid_math_bits_deBruijn32tab), ("math/bits.deBruijn64tab", laid_math_bits_deBruijn64tab), ("internal/strconv.uint64pow10", laid_internal_strconv_uint64pow10)] }
def TraceMeetsSaid : Prop := traceMeetsRow.holds Tryz.pinned (OpenSpec.ofChange traceMeetsSpec)

/-- ITS FALSE NEIGHBOUR: 'it returns false'. Refute it at one input. -/
def traceMeetsWrong : ChangeSpec := { name := "traceMeets", fn := fun _ => fun
  | [d1, d2, d3] => { results := [.lit (.bool false)], args := [d1, d2, d3] }
  | _ => none }
def TraceMeetsWrongFalsely : Prop := traceMeetsRow.holds Tryz.pinned (OpenSpec.ofChange traceMeetsWrong)

/-- 'stricklelaw04.TraceTurns': WHATEVER THE INPUT: true; the input reads as it did. -/
def traceTurnsSpec : ChangeSpec := { name := "traceTurns", fn := fun _ => fun
  | [d1, d2] => { results := [.lit (.bool true)], args := [d1, d2] }
  | _ => none }
def traceTurnsRow : OpenClaim := { program := "ytccnkebkgegohaagreatdoor", sum := "d01aa9e8575e987043cd9985fdd63be358b3a3def65498ebfb2edda535e41a2a", func := "strickle/stricklelaw04.TraceTurns", spec := "traceTurns", inPlace := ["internal/abi.NoEscape", "internal/bytealg.MakeNoZero"], unfollowed := true, recurses := true, named := ["internal/strconv.uint64pow10", "math/bits.deBruijn32tab", "math/bits.deBruijn64tab"], apart := false, laid := [("math/bits.deBruijn32tab", laid_math_bits_deBruijn32tab), ("math/bits.deBruijn64tab", laid_math_bits_deBruijn64tab), ("internal/strconv.uint64pow10", laid_internal_strconv_uint64pow10)] }
def TraceTurnsSaid : Prop := traceTurnsRow.holds Tryz.pinned (OpenSpec.ofChange traceTurnsSpec)

/-- ITS FALSE NEIGHBOUR: 'it returns false'. Refute it at one input. -/
def traceTurnsWrong : ChangeSpec := { name := "traceTurns", fn := fun _ => fun
  | [d1, d2] => { results := [.lit (.bool false)], args := [d1, d2] }
  | _ => none }
def TraceTurnsWrongFalsely : Prop := traceTurnsRow.holds Tryz.pinned (OpenSpec.ofChange traceTurnsWrong)

/-- 'stricklelaw04.TraceJoins': WHATEVER THE INPUT: true; the input reads as it did. -/
def traceJoinsSpec : ChangeSpec := { name := "traceJoins", fn := fun _ => fun
  | [d1, d2, d3] => { results := [.lit (.bool true)], args := [d1, d2, d3] }
  | _ => none }
def traceJoinsRow : OpenClaim := { program := "ytccnkebkgegohaagreatdoor", sum := "d01aa9e8575e987043cd9985fdd63be358b3a3def65498ebfb2edda535e41a2a", func := "strickle/stricklelaw04.TraceJoins", spec := "traceJoins", inPlace := ["internal/abi.NoEscape", "internal/bytealg.MakeNoZero"], unfollowed := true, recurses := true, named := ["internal/strconv.uint64pow10", "math/bits.deBruijn32tab", "math/bits.deBruijn64tab"], apart := false, laid := [("math/bits.deBruijn32tab", laid_math_bits_deBruijn32tab), ("math/bits.deBruijn64tab", laid_math_bits_deBruijn64tab), ("internal/strconv.uint64pow10", laid_internal_strconv_uint64pow10)] }
def TraceJoinsSaid : Prop := traceJoinsRow.holds Tryz.pinned (OpenSpec.ofChange traceJoinsSpec)

/-- ITS FALSE NEIGHBOUR: 'it returns false'. Refute it at one input. -/
def traceJoinsWrong : ChangeSpec := { name := "traceJoins", fn := fun _ => fun
  | [d1, d2, d3] => { results := [.lit (.bool false)], args := [d1, d2, d3] }
  | _ => none }
def TraceJoinsWrongFalsely : Prop := traceJoinsRow.holds Tryz.pinned (OpenSpec.ofChange traceJoinsWrong)

/-- 'stricklelaw04.TraceRests': WHATEVER THE INPUT: true; the input reads as it did. -/
def traceRestsSpec : ChangeSpec := { name := "traceRests", fn := fun _ => fun
  | [d1, d2] => { results := [.lit (.bool true)], args := [d1, d2] }
  | _ => none }
def traceRestsRow : OpenClaim := { program := "ytccnkebkgegohaagreatdoor", sum := "d01aa9e8575e987043cd9985fdd63be358b3a3def65498ebfb2edda535e41a2a", func := "strickle/stricklelaw04.TraceRests", spec := "traceRests", inPlace := ["internal/abi.NoEscape", "internal/bytealg.MakeNoZero"], unfollowed := true, recurses := true, named := ["internal/strconv.uint64pow10", "math/bits.deBruijn32tab", "math/bits.deBruijn64tab"], apart := false, laid := [("math/bits.deBruijn32tab", laid_math_bits_deBruijn32tab), ("math/bits.deBruijn64tab", laid_math_bits_deBruijn64tab), ("internal/strconv.uint64pow10", laid_internal_strconv_uint64pow10)] }
def TraceRestsSaid : Prop := traceRestsRow.holds Tryz.pinned (OpenSpec.ofChange traceRestsSpec)

/-- ITS FALSE NEIGHBOUR: 'it returns false'. Refute it at one input. -/
def traceRestsWrong : ChangeSpec := { name := "traceRests", fn := fun _ => fun
  | [d1, d2] => { results := [.lit (.bool false)], args := [d1, d2] }
  | _ => none }
def TraceRestsWrongFalsely : Prop := traceRestsRow.holds Tryz.pinned (OpenSpec.ofChange traceRestsWrong)

/-- 'stricklelaw04.TraceNeeds': WHATEVER THE INPUT: true; the input reads as it did. -/
def traceNeedsSpec : ChangeSpec := { name := "traceNeeds", fn := fun _ => fun
  | [d] => { results := [.lit (.bool true)], args := [d] }
  | _ => none }
def traceNeedsRow : OpenClaim := { program := "ytccnkebkgegohaagreatdoor", sum := "d01aa9e8575e987043cd9985fdd63be358b3a3def65498ebfb2edda535e41a2a", func := "strickle/stricklelaw04.TraceNeeds", spec := "traceNeeds", inPlace := ["internal/abi.NoEscape", "internal/bytealg.MakeNoZero"], unfollowed := true, recurses := true, named := ["internal/strconv.uint64pow10", "math/bits.deBruijn32tab", "math/bits.deBruijn64tab"], apart := false, laid := [("math/bits.deBruijn32tab", laid_math_bits_deBruijn32tab), ("math/bits.deBruijn64tab", laid_math_bits_deBruijn64tab), ("internal/strconv.uint64pow10", laid_internal_strconv_uint64pow10)] }
def TraceNeedsSaid : Prop := traceNeedsRow.holds Tryz.pinned (OpenSpec.ofChange traceNeedsSpec)

/-- ITS FALSE NEIGHBOUR: 'it returns false'. Refute it at one input. -/
def traceNeedsWrong : ChangeSpec := { name := "traceNeeds", fn := fun _ => fun
  | [d] => { results := [.lit (.bool false)], args := [d] }
  | _ => none }
def TraceNeedsWrongFalsely : Prop := traceNeedsRow.holds Tryz.pinned (OpenSpec.ofChange traceNeedsWrong)

/-- 'stricklelaw04.TraceSteps': WHATEVER THE INPUT: true; the input reads as it did. -/
def traceStepsSpec : ChangeSpec := { name := "traceSteps", fn := fun _ => fun
  | [d] => { results := [.lit (.bool true)], args := [d] }
  | _ => none }
def traceStepsRow : OpenClaim := { program := "ytccnkebkgegohaagreatdoor", sum := "d01aa9e8575e987043cd9985fdd63be358b3a3def65498ebfb2edda535e41a2a", func := "strickle/stricklelaw04.TraceSteps", spec := "traceSteps", inPlace := ["internal/abi.NoEscape", "internal/bytealg.MakeNoZero"], unfollowed := true, recurses := true, named := ["internal/strconv.uint64pow10", "math/bits.deBruijn32tab", "math/bits.deBruijn64tab"], apart := false, laid := [("math/bits.deBruijn32tab", laid_math_bits_deBruijn32tab), ("math/bits.deBruijn64tab", laid_math_bits_deBruijn64tab), ("internal/strconv.uint64pow10", laid_internal_strconv_uint64pow10)] }
def TraceStepsSaid : Prop := traceStepsRow.holds Tryz.pinned (OpenSpec.ofChange traceStepsSpec)

/-- ITS FALSE NEIGHBOUR: 'it returns false'. Refute it at one input. -/
def traceStepsWrong : ChangeSpec := { name := "traceSteps", fn := fun _ => fun
  | [d] => { results := [.lit (.bool false)], args := [d] }
  | _ => none }
def TraceStepsWrongFalsely : Prop := traceStepsRow.holds Tryz.pinned (OpenSpec.ofChange traceStepsWrong)

/-- 'stricklelaw04.TraceMemory': WHATEVER THE INPUT: true; the input reads as it did. -/
def traceMemorySpec : ChangeSpec := { name := "traceMemory", fn := fun _ => fun
  | [d1, d2] => { results := [.lit (.bool true)], args := [d1, d2] }
  | _ => none }
def traceMemoryRow : OpenClaim := { program := "ytccnkebkgegohaagreatdoor", sum := "d01aa9e8575e987043cd9985fdd63be358b3a3def65498ebfb2edda535e41a2a", func := "strickle/stricklelaw04.TraceMemory", spec := "traceMemory", inPlace := ["internal/abi.NoEscape", "internal/bytealg.MakeNoZero"], unfollowed := true, recurses := true, named := ["internal/strconv.uint64pow10", "math/bits.deBruijn32tab", "math/bits.deBruijn64tab"], apart := false, laid := [("math/bits.deBruijn32tab", laid_math_bits_deBruijn32tab), ("math/bits.deBruijn64tab", laid_math_bits_deBruijn64tab), ("internal/strconv.uint64pow10", laid_internal_strconv_uint64pow10)] }
def TraceMemorySaid : Prop := traceMemoryRow.holds Tryz.pinned (OpenSpec.ofChange traceMemorySpec)

/-- ITS FALSE NEIGHBOUR: 'it returns false'. Refute it at one input. -/
def traceMemoryWrong : ChangeSpec := { name := "traceMemory", fn := fun _ => fun
  | [d1, d2] => { results := [.lit (.bool false)], args := [d1, d2] }
  | _ => none }
def TraceMemoryWrongFalsely : Prop := traceMemoryRow.holds Tryz.pinned (OpenSpec.ofChange traceMemoryWrong)

/-- 'stricklelaw04.TraceNormal': WHATEVER THE INPUT: true; the input reads as it did. -/
def traceNormalSpec : ChangeSpec := { name := "traceNormal", fn := fun _ => fun
  | [d1, d2] => { results := [.lit (.bool true)], args := [d1, d2] }
  | _ => none }
def traceNormalRow : OpenClaim := { program := "ytccnkebkgegohaagreatdoor", sum := "d01aa9e8575e987043cd9985fdd63be358b3a3def65498ebfb2edda535e41a2a", func := "strickle/stricklelaw04.TraceNormal", spec := "traceNormal", inPlace := ["internal/abi.NoEscape", "internal/bytealg.MakeNoZero"], unfollowed := true, recurses := true, named := ["internal/strconv.uint64pow10", "math/bits.deBruijn32tab", "math/bits.deBruijn64tab"], apart := false, laid := [("math/bits.deBruijn32tab", laid_math_bits_deBruijn32tab), ("math/bits.deBruijn64tab", laid_math_bits_deBruijn64tab), ("internal/strconv.uint64pow10", laid_internal_strconv_uint64pow10)] }
def TraceNormalSaid : Prop := traceNormalRow.holds Tryz.pinned (OpenSpec.ofChange traceNormalSpec)

/-- ITS FALSE NEIGHBOUR: 'it returns false'. Refute it at one input. -/
def traceNormalWrong : ChangeSpec := { name := "traceNormal", fn := fun _ => fun
  | [d1, d2] => { results := [.lit (.bool false)], args := [d1, d2] }
  | _ => none }
def TraceNormalWrongFalsely : Prop := traceNormalRow.holds Tryz.pinned (OpenSpec.ofChange traceNormalWrong)

/-- 'stricklelaw04.TraceLines': WHATEVER THE INPUT: true; the input reads as it did. -/
def traceLinesSpec : ChangeSpec := { name := "traceLines", fn := fun _ => fun
  | [d1, d2] => { results := [.lit (.bool true)], args := [d1, d2] }
  | _ => none }
def traceLinesRow : OpenClaim := { program := "ytccnkebkgegohaagreatdoor", sum := "d01aa9e8575e987043cd9985fdd63be358b3a3def65498ebfb2edda535e41a2a", func := "strickle/stricklelaw04.TraceLines", spec := "traceLines", inPlace := ["internal/abi.NoEscape", "internal/bytealg.MakeNoZero", "internal/bytealg.IndexByteString", "internal/bytealg.IndexString", "internal/bytealg.CountString"], unfollowed := true, recurses := true, named := ["internal/strconv.uint64pow10", "math/bits.deBruijn32tab", "math/bits.deBruijn64tab", "internal/bytealg.MaxLen", "unicode/utf8.first", "unicode/utf8.acceptRanges", "strconv.ErrSyntax", "strconv.ErrRange"], apart := false, laid := [("math/bits.deBruijn32tab", laid_math_bits_deBruijn32tab), ("math/bits.deBruijn64tab", laid_math_bits_deBruijn64tab), ("internal/strconv.uint64pow10", laid_internal_strconv_uint64pow10), ("unicode/utf8.acceptRanges", laid_unicode_utf8_acceptRanges), ("strconv.ErrRange", laid_strconv_ErrRange), ("strconv.ErrSyntax", laid_strconv_ErrSyntax), ("unicode/utf8.first", laid_unicode_utf8_first)] }
def TraceLinesSaid : Prop := traceLinesRow.holds Tryz.pinned (OpenSpec.ofChange traceLinesSpec)

/-- ITS FALSE NEIGHBOUR: 'it returns false'. Refute it at one input. -/
def traceLinesWrong : ChangeSpec := { name := "traceLines", fn := fun _ => fun
  | [d1, d2] => { results := [.lit (.bool false)], args := [d1, d2] }
  | _ => none }
def TraceLinesWrongFalsely : Prop := traceLinesRow.holds Tryz.pinned (OpenSpec.ofChange traceLinesWrong)

/- THE SECOND FORM. 'bulk': how many values and letters a reading holds, each counted each time it is reached (what is shared counts as often as it is met; a slice's spare places count too). A statement '..UptoSaid' is the law's where the arguments, and the package variables that the reading takes, are together of bulk at most 1048576: NARROWER than '..Said'. Prove '..Said' where nothing that the law and all that it calls make is longer than what came in: it says more and counts as full. Else prove '..UptoSaid'. A law counts once. -/
mutual
def uptoBulk {H : Type} : DataW H → Nat
  | .lit (.string bytes) => bytes.length + 1
  | .lit _ => 1
  | .nil => 1
  | .ptr d => uptoBulk d + 1
  | .slice elems spare => uptoBulkAll elems + uptoBulkAll spare + 1
  | .agg parts => uptoBulkAll parts + 1
  | .iface _ d => uptoBulk d + 1
  | .map entries => uptoBulkEntries entries + 1
  | .held _ => 1
def uptoBulkAll {H : Type} : List (DataW H) → Nat
  | [] => 0
  | d :: r => uptoBulk d + uptoBulkAll r
def uptoBulkEntries {H : Type} : List (Lit × DataW H) → Nat
  | [] => 0
  | x :: r => uptoBulkEntry x + uptoBulkEntries r
def uptoBulkEntry {H : Type} : Lit × DataW H → Nat
  | (.string bytes, d) => bytes.length + uptoBulk d + 1
  | (_, d) => uptoBulk d + 1
 end
def uptoSmall : (H : Type) → List (DataW H) → Bool := fun _ ds => decide (uptoBulkAll ds ≤ 1048576)
def OpenSpec.upto (s : _root_.Go.ChangeSpec) : _root_.Go.OpenSpec := { _root_.Go.OpenSpec.ofChange s with cond := some uptoSmall }

/-- 'stricklelaw04.TraceReduced', WHERE WHAT IT READS IS OF BULK AT MOST 1048576: true; the input reads as it did. -/
def traceReducedUptoRow : OpenClaim := { program := "ytccnkebkgegohaagreatdoor", sum := "d01aa9e8575e987043cd9985fdd63be358b3a3def65498ebfb2edda535e41a2a", func := "strickle/stricklelaw04.TraceReduced", spec := "traceReduced", inPlace := ["internal/abi.NoEscape", "internal/bytealg.MakeNoZero"], unfollowed := true, recurses := true, named := ["internal/strconv.uint64pow10", "math/bits.deBruijn32tab", "math/bits.deBruijn64tab"], apart := false, laid := [("math/bits.deBruijn32tab", laid_math_bits_deBruijn32tab), ("math/bits.deBruijn64tab", laid_math_bits_deBruijn64tab), ("internal/strconv.uint64pow10", laid_internal_strconv_uint64pow10)], narrowed := true }
def TraceReducedUptoSaid : Prop := traceReducedUptoRow.holds Tryz.pinned (OpenSpec.upto traceReducedSpec)

/-- 'stricklelaw04.TraceMerges', WHERE WHAT IT READS IS OF BULK AT MOST 1048576: true; the input reads as it did. -/
def traceMergesUptoRow : OpenClaim := { program := "ytccnkebkgegohaagreatdoor", sum := "d01aa9e8575e987043cd9985fdd63be358b3a3def65498ebfb2edda535e41a2a", func := "strickle/stricklelaw04.TraceMerges", spec := "traceMerges", inPlace := ["internal/abi.NoEscape", "internal/bytealg.MakeNoZero"], unfollowed := true, recurses := true, named := ["internal/strconv.uint64pow10", "math/bits.deBruijn32tab", "math/bits.deBruijn64tab"], apart := false, laid := [("math/bits.deBruijn32tab", laid_math_bits_deBruijn32tab), ("math/bits.deBruijn64tab", laid_math_bits_deBruijn64tab), ("internal/strconv.uint64pow10", laid_internal_strconv_uint64pow10)], narrowed := true }
def TraceMergesUptoSaid : Prop := traceMergesUptoRow.holds Tryz.pinned (OpenSpec.upto traceMergesSpec)

/-- 'stricklelaw04.TraceChecks', WHERE WHAT IT READS IS OF BULK AT MOST 1048576: true; the input reads as it did. -/
def traceChecksUptoRow : OpenClaim := { program := "ytccnkebkgegohaagreatdoor", sum := "d01aa9e8575e987043cd9985fdd63be358b3a3def65498ebfb2edda535e41a2a", func := "strickle/stricklelaw04.TraceChecks", spec := "traceChecks", inPlace := ["internal/abi.NoEscape", "internal/bytealg.MakeNoZero"], unfollowed := true, recurses := true, named := ["internal/strconv.uint64pow10", "math/bits.deBruijn32tab", "math/bits.deBruijn64tab"], apart := false, laid := [("math/bits.deBruijn32tab", laid_math_bits_deBruijn32tab), ("math/bits.deBruijn64tab", laid_math_bits_deBruijn64tab), ("internal/strconv.uint64pow10", laid_internal_strconv_uint64pow10)], narrowed := true }
def TraceChecksUptoSaid : Prop := traceChecksUptoRow.holds Tryz.pinned (OpenSpec.upto traceChecksSpec)

/-- 'stricklelaw04.TraceStands', WHERE WHAT IT READS IS OF BULK AT MOST 1048576: true; the input reads as it did. -/
def traceStandsUptoRow : OpenClaim := { program := "ytccnkebkgegohaagreatdoor", sum := "d01aa9e8575e987043cd9985fdd63be358b3a3def65498ebfb2edda535e41a2a", func := "strickle/stricklelaw04.TraceStands", spec := "traceStands", inPlace := ["internal/abi.NoEscape", "internal/bytealg.MakeNoZero"], unfollowed := true, recurses := true, named := ["internal/strconv.uint64pow10", "math/bits.deBruijn32tab", "math/bits.deBruijn64tab"], apart := false, laid := [("math/bits.deBruijn32tab", laid_math_bits_deBruijn32tab), ("math/bits.deBruijn64tab", laid_math_bits_deBruijn64tab), ("internal/strconv.uint64pow10", laid_internal_strconv_uint64pow10)], narrowed := true }
def TraceStandsUptoSaid : Prop := traceStandsUptoRow.holds Tryz.pinned (OpenSpec.upto traceStandsSpec)

/-- 'stricklelaw04.TraceProjected', WHERE WHAT IT READS IS OF BULK AT MOST 1048576: true; the input reads as it did. -/
def traceProjectedUptoRow : OpenClaim := { program := "ytccnkebkgegohaagreatdoor", sum := "d01aa9e8575e987043cd9985fdd63be358b3a3def65498ebfb2edda535e41a2a", func := "strickle/stricklelaw04.TraceProjected", spec := "traceProjected", inPlace := ["internal/abi.NoEscape", "internal/bytealg.MakeNoZero"], unfollowed := true, recurses := true, named := ["internal/strconv.uint64pow10", "math/bits.deBruijn32tab", "math/bits.deBruijn64tab"], apart := false, laid := [("math/bits.deBruijn32tab", laid_math_bits_deBruijn32tab), ("math/bits.deBruijn64tab", laid_math_bits_deBruijn64tab), ("internal/strconv.uint64pow10", laid_internal_strconv_uint64pow10)], narrowed := true }
def TraceProjectedUptoSaid : Prop := traceProjectedUptoRow.holds Tryz.pinned (OpenSpec.upto traceProjectedSpec)

/-- 'stricklelaw04.TraceOrders', WHERE WHAT IT READS IS OF BULK AT MOST 1048576: true; the input reads as it did. -/
def traceOrdersUptoRow : OpenClaim := { program := "ytccnkebkgegohaagreatdoor", sum := "d01aa9e8575e987043cd9985fdd63be358b3a3def65498ebfb2edda535e41a2a", func := "strickle/stricklelaw04.TraceOrders", spec := "traceOrders", inPlace := ["internal/abi.NoEscape", "internal/bytealg.MakeNoZero"], unfollowed := true, recurses := true, named := ["internal/strconv.uint64pow10", "math/bits.deBruijn32tab", "math/bits.deBruijn64tab"], apart := false, laid := [("math/bits.deBruijn32tab", laid_math_bits_deBruijn32tab), ("math/bits.deBruijn64tab", laid_math_bits_deBruijn64tab), ("internal/strconv.uint64pow10", laid_internal_strconv_uint64pow10)], narrowed := true }
def TraceOrdersUptoSaid : Prop := traceOrdersUptoRow.holds Tryz.pinned (OpenSpec.upto traceOrdersSpec)

/-- 'stricklelaw04.TraceExchanged', WHERE WHAT IT READS IS OF BULK AT MOST 1048576: true; the input reads as it did. -/
def traceExchangedUptoRow : OpenClaim := { program := "ytccnkebkgegohaagreatdoor", sum := "d01aa9e8575e987043cd9985fdd63be358b3a3def65498ebfb2edda535e41a2a", func := "strickle/stricklelaw04.TraceExchanged", spec := "traceExchanged", inPlace := ["internal/abi.NoEscape", "internal/bytealg.MakeNoZero"], unfollowed := true, recurses := true, named := ["internal/strconv.uint64pow10", "math/bits.deBruijn32tab", "math/bits.deBruijn64tab"], apart := false, laid := [("math/bits.deBruijn32tab", laid_math_bits_deBruijn32tab), ("math/bits.deBruijn64tab", laid_math_bits_deBruijn64tab), ("internal/strconv.uint64pow10", laid_internal_strconv_uint64pow10)], narrowed := true }
def TraceExchangedUptoSaid : Prop := traceExchangedUptoRow.holds Tryz.pinned (OpenSpec.upto traceExchangedSpec)

/-- 'stricklelaw04.TraceMeets', WHERE WHAT IT READS IS OF BULK AT MOST 1048576: true; the input reads as it did. -/
def traceMeetsUptoRow : OpenClaim := { program := "ytccnkebkgegohaagreatdoor", sum := "d01aa9e8575e987043cd9985fdd63be358b3a3def65498ebfb2edda535e41a2a", func := "strickle/stricklelaw04.TraceMeets", spec := "traceMeets", inPlace := ["internal/abi.NoEscape", "internal/bytealg.MakeNoZero"], unfollowed := true, recurses := true, named := ["internal/strconv.uint64pow10", "math/bits.deBruijn32tab", "math/bits.deBruijn64tab"], apart := false, laid := [("math/bits.deBruijn32tab", laid_math_bits_deBruijn32tab), ("math/bits.deBruijn64tab", laid_math_bits_deBruijn64tab), ("internal/strconv.uint64pow10", laid_internal_strconv_uint64pow10)], narrowed := true }
def TraceMeetsUptoSaid : Prop := traceMeetsUptoRow.holds Tryz.pinned (OpenSpec.upto traceMeetsSpec)

/-- 'stricklelaw04.TraceTurns', WHERE WHAT IT READS IS OF BULK AT MOST 1048576: true; the input reads as it did. -/
def traceTurnsUptoRow : OpenClaim := { program := "ytccnkebkgegohaagreatdoor", sum := "d01aa9e8575e987043cd9985fdd63be358b3a3def65498ebfb2edda535e41a2a", func := "strickle/stricklelaw04.TraceTurns", spec := "traceTurns", inPlace := ["internal/abi.NoEscape", "internal/bytealg.MakeNoZero"], unfollowed := true, recurses := true, named := ["internal/strconv.uint64pow10", "math/bits.deBruijn32tab", "math/bits.deBruijn64tab"], apart := false, laid := [("math/bits.deBruijn32tab", laid_math_bits_deBruijn32tab), ("math/bits.deBruijn64tab", laid_math_bits_deBruijn64tab), ("internal/strconv.uint64pow10", laid_internal_strconv_uint64pow10)], narrowed := true }
def TraceTurnsUptoSaid : Prop := traceTurnsUptoRow.holds Tryz.pinned (OpenSpec.upto traceTurnsSpec)

/-- 'stricklelaw04.TraceJoins', WHERE WHAT IT READS IS OF BULK AT MOST 1048576: true; the input reads as it did. -/
def traceJoinsUptoRow : OpenClaim := { program := "ytccnkebkgegohaagreatdoor", sum := "d01aa9e8575e987043cd9985fdd63be358b3a3def65498ebfb2edda535e41a2a", func := "strickle/stricklelaw04.TraceJoins", spec := "traceJoins", inPlace := ["internal/abi.NoEscape", "internal/bytealg.MakeNoZero"], unfollowed := true, recurses := true, named := ["internal/strconv.uint64pow10", "math/bits.deBruijn32tab", "math/bits.deBruijn64tab"], apart := false, laid := [("math/bits.deBruijn32tab", laid_math_bits_deBruijn32tab), ("math/bits.deBruijn64tab", laid_math_bits_deBruijn64tab), ("internal/strconv.uint64pow10", laid_internal_strconv_uint64pow10)], narrowed := true }
def TraceJoinsUptoSaid : Prop := traceJoinsUptoRow.holds Tryz.pinned (OpenSpec.upto traceJoinsSpec)

/-- 'stricklelaw04.TraceRests', WHERE WHAT IT READS IS OF BULK AT MOST 1048576: true; the input reads as it did. -/
def traceRestsUptoRow : OpenClaim := { program := "ytccnkebkgegohaagreatdoor", sum := "d01aa9e8575e987043cd9985fdd63be358b3a3def65498ebfb2edda535e41a2a", func := "strickle/stricklelaw04.TraceRests", spec := "traceRests", inPlace := ["internal/abi.NoEscape", "internal/bytealg.MakeNoZero"], unfollowed := true, recurses := true, named := ["internal/strconv.uint64pow10", "math/bits.deBruijn32tab", "math/bits.deBruijn64tab"], apart := false, laid := [("math/bits.deBruijn32tab", laid_math_bits_deBruijn32tab), ("math/bits.deBruijn64tab", laid_math_bits_deBruijn64tab), ("internal/strconv.uint64pow10", laid_internal_strconv_uint64pow10)], narrowed := true }
def TraceRestsUptoSaid : Prop := traceRestsUptoRow.holds Tryz.pinned (OpenSpec.upto traceRestsSpec)

/-- 'stricklelaw04.TraceNeeds', WHERE WHAT IT READS IS OF BULK AT MOST 1048576: true; the input reads as it did. -/
def traceNeedsUptoRow : OpenClaim := { program := "ytccnkebkgegohaagreatdoor", sum := "d01aa9e8575e987043cd9985fdd63be358b3a3def65498ebfb2edda535e41a2a", func := "strickle/stricklelaw04.TraceNeeds", spec := "traceNeeds", inPlace := ["internal/abi.NoEscape", "internal/bytealg.MakeNoZero"], unfollowed := true, recurses := true, named := ["internal/strconv.uint64pow10", "math/bits.deBruijn32tab", "math/bits.deBruijn64tab"], apart := false, laid := [("math/bits.deBruijn32tab", laid_math_bits_deBruijn32tab), ("math/bits.deBruijn64tab", laid_math_bits_deBruijn64tab), ("internal/strconv.uint64pow10", laid_internal_strconv_uint64pow10)], narrowed := true }
def TraceNeedsUptoSaid : Prop := traceNeedsUptoRow.holds Tryz.pinned (OpenSpec.upto traceNeedsSpec)

/-- 'stricklelaw04.TraceSteps', WHERE WHAT IT READS IS OF BULK AT MOST 1048576: true; the input reads as it did. -/
def traceStepsUptoRow : OpenClaim := { program := "ytccnkebkgegohaagreatdoor", sum := "d01aa9e8575e987043cd9985fdd63be358b3a3def65498ebfb2edda535e41a2a", func := "strickle/stricklelaw04.TraceSteps", spec := "traceSteps", inPlace := ["internal/abi.NoEscape", "internal/bytealg.MakeNoZero"], unfollowed := true, recurses := true, named := ["internal/strconv.uint64pow10", "math/bits.deBruijn32tab", "math/bits.deBruijn64tab"], apart := false, laid := [("math/bits.deBruijn32tab", laid_math_bits_deBruijn32tab), ("math/bits.deBruijn64tab", laid_math_bits_deBruijn64tab), ("internal/strconv.uint64pow10", laid_internal_strconv_uint64pow10)], narrowed := true }
def TraceStepsUptoSaid : Prop := traceStepsUptoRow.holds Tryz.pinned (OpenSpec.upto traceStepsSpec)

/-- 'stricklelaw04.TraceMemory', WHERE WHAT IT READS IS OF BULK AT MOST 1048576: true; the input reads as it did. -/
def traceMemoryUptoRow : OpenClaim := { program := "ytccnkebkgegohaagreatdoor", sum := "d01aa9e8575e987043cd9985fdd63be358b3a3def65498ebfb2edda535e41a2a", func := "strickle/stricklelaw04.TraceMemory", spec := "traceMemory", inPlace := ["internal/abi.NoEscape", "internal/bytealg.MakeNoZero"], unfollowed := true, recurses := true, named := ["internal/strconv.uint64pow10", "math/bits.deBruijn32tab", "math/bits.deBruijn64tab"], apart := false, laid := [("math/bits.deBruijn32tab", laid_math_bits_deBruijn32tab), ("math/bits.deBruijn64tab", laid_math_bits_deBruijn64tab), ("internal/strconv.uint64pow10", laid_internal_strconv_uint64pow10)], narrowed := true }
def TraceMemoryUptoSaid : Prop := traceMemoryUptoRow.holds Tryz.pinned (OpenSpec.upto traceMemorySpec)

/-- 'stricklelaw04.TraceNormal', WHERE WHAT IT READS IS OF BULK AT MOST 1048576: true; the input reads as it did. -/
def traceNormalUptoRow : OpenClaim := { program := "ytccnkebkgegohaagreatdoor", sum := "d01aa9e8575e987043cd9985fdd63be358b3a3def65498ebfb2edda535e41a2a", func := "strickle/stricklelaw04.TraceNormal", spec := "traceNormal", inPlace := ["internal/abi.NoEscape", "internal/bytealg.MakeNoZero"], unfollowed := true, recurses := true, named := ["internal/strconv.uint64pow10", "math/bits.deBruijn32tab", "math/bits.deBruijn64tab"], apart := false, laid := [("math/bits.deBruijn32tab", laid_math_bits_deBruijn32tab), ("math/bits.deBruijn64tab", laid_math_bits_deBruijn64tab), ("internal/strconv.uint64pow10", laid_internal_strconv_uint64pow10)], narrowed := true }
def TraceNormalUptoSaid : Prop := traceNormalUptoRow.holds Tryz.pinned (OpenSpec.upto traceNormalSpec)

/-- 'stricklelaw04.TraceLines', WHERE WHAT IT READS IS OF BULK AT MOST 1048576: true; the input reads as it did. -/
def traceLinesUptoRow : OpenClaim := { program := "ytccnkebkgegohaagreatdoor", sum := "d01aa9e8575e987043cd9985fdd63be358b3a3def65498ebfb2edda535e41a2a", func := "strickle/stricklelaw04.TraceLines", spec := "traceLines", inPlace := ["internal/abi.NoEscape", "internal/bytealg.MakeNoZero", "internal/bytealg.IndexByteString", "internal/bytealg.IndexString", "internal/bytealg.CountString"], unfollowed := true, recurses := true, named := ["internal/strconv.uint64pow10", "math/bits.deBruijn32tab", "math/bits.deBruijn64tab", "internal/bytealg.MaxLen", "unicode/utf8.first", "unicode/utf8.acceptRanges", "strconv.ErrSyntax", "strconv.ErrRange"], apart := false, laid := [("math/bits.deBruijn32tab", laid_math_bits_deBruijn32tab), ("math/bits.deBruijn64tab", laid_math_bits_deBruijn64tab), ("internal/strconv.uint64pow10", laid_internal_strconv_uint64pow10), ("unicode/utf8.acceptRanges", laid_unicode_utf8_acceptRanges), ("strconv.ErrRange", laid_strconv_ErrRange), ("strconv.ErrSyntax", laid_strconv_ErrSyntax), ("unicode/utf8.first", laid_unicode_utf8_first)], narrowed := true }
def TraceLinesUptoSaid : Prop := traceLinesUptoRow.holds Tryz.pinned (OpenSpec.upto traceLinesSpec)

end Rows
end Go.Proofs.YtccnkebkgegohaaGreatDoor
