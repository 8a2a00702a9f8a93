/-
  NARROWER THAN 'FOR EVERY INPUT', by the rows' own cells (each row's printed sentence says how): ScriptReads: laid · ScriptBack: laid · ScriptQuotes: laid · ScriptWrong: laid · ScriptPlans: laid · ScriptOps: laid · ScriptAlls: laid · ScriptLists: laid · ScriptMany: laid.
  DERIVED. THE GIVEN ROWS OF THIS SEAT. 9 by the template 'for every input the law returns true; each argument reads behind the call as it read before'; 0 by the template 'total and deterministic' (their statements: YtjjnjglbmneecaaDoorTotals.lean).
  GIVEN WITH THE SEED: the statements are not yours to turn. If you find one false, say at which input.
  Laid BY PROGRAM, IN A SANDBOX (cutbox-rows.mjs): the forced cells as the released guide's own fill.sh prints them over the translation 0a90cd82468b7ee9… (all of the seat's roots in one cut). By AI agents, Wed Nov 11 2026. No macro, syntax, notation, axiom, sorry.
-/
import Derived.Test.YtjjnjglbmneecaaDoorChecked
import GoSem.PinnedTables
import GoSem.Claim
import GoSem.ClaimJoined
import GoSem.ClaimMapViews
import Derived.JoinedTies
import Derived.KernelRfl
namespace Go.Proofs.YtjjnjglbmneecaaDoor
/- THE CELL 'sum', in the pinned program and in every row, IS THE sha256 OF THE DUMP (.gsa) THAT YtjjnjglbmneecaaDoorProg.lean LOADS. Nothing in Lean hashes anything: it is a label: what it is worth is what the hold of that sum in a sandbox is worth. -/
noncomputable def Tryd.pinned : Pinned := { name := "ytjjnjglbmneecaadoor", sum := "0a90cd82468b7ee943c4ff3aaf213487b753468ee51d3ec1e364314464d2e931", checked := Tryd.checked }
namespace Rows
def none {H : Type} : Left H := { results := [], args := [] }

/- WHAT THE LISTED PACKAGE-LEVEL VARIABLES READ AS WHEN THE CALL BEGINS. Each datum BY PROGRAM (the guide's laid-datum.mjs) off the statement by which the dump's own 'gosem.cut.vars' lays the variable. In a bare row this is a premise. The card (YtjjnjglbmneecaaDoorCards.lean) ties it to the program's text. -/
def laid_math_bits_deBruijn32tab {H : Type} : DataW H := .agg [.lit (.int .u8 0), .lit (.int .u8 1), .lit (.int .u8 28), .lit (.int .u8 2), .lit (.int .u8 29), .lit (.int .u8 14), .lit (.int .u8 24), .lit (.int .u8 3), .lit (.int .u8 30), .lit (.int .u8 22), .lit (.int .u8 20), .lit (.int .u8 15), .lit (.int .u8 25), .lit (.int .u8 17), .lit (.int .u8 4), .lit (.int .u8 8), .lit (.int .u8 31), .lit (.int .u8 27), .lit (.int .u8 13), .lit (.int .u8 23), .lit (.int .u8 21), .lit (.int .u8 19), .lit (.int .u8 16), .lit (.int .u8 7), .lit (.int .u8 26), .lit (.int .u8 12), .lit (.int .u8 18), .lit (.int .u8 6), .lit (.int .u8 11), .lit (.int .u8 5), .lit (.int .u8 10), .lit (.int .u8 9)]
def laid_math_bits_deBruijn64tab {H : Type} : DataW H := .agg [.lit (.int .u8 0), .lit (.int .u8 1), .lit (.int .u8 56), .lit (.int .u8 2), .lit (.int .u8 57), .lit (.int .u8 49), .lit (.int .u8 28), .lit (.int .u8 3), .lit (.int .u8 61), .lit (.int .u8 58), .lit (.int .u8 42), .lit (.int .u8 50), .lit (.int .u8 38), .lit (.int .u8 29), .lit (.int .u8 17), .lit (.int .u8 4), .lit (.int .u8 62), .lit (.int .u8 47), .lit (.int .u8 59), .lit (.int .u8 36), .lit (.int .u8 45), .lit (.int .u8 43), .lit (.int .u8 51), .lit (.int .u8 22), .lit (.int .u8 53), .lit (.int .u8 39), .lit (.int .u8 33), .lit (.int .u8 30), .lit (.int .u8 24), .lit (.int .u8 18), .lit (.int .u8 12), .lit (.int .u8 5), .lit (.int .u8 63), .lit (.int .u8 55), .lit (.int .u8 48), .lit (.int .u8 27), .lit (.int .u8 60), .lit (.int .u8 41), .lit (.int .u8 37), .lit (.int .u8 16), .lit (.int .u8 46), .lit (.int .u8 35), .lit (.int .u8 44), .lit (.int .u8 21), .lit (.int .u8 52), .lit (.int .u8 32), .lit (.int .u8 23), .lit (.int .u8 11), .lit (.int .u8 54), .lit (.int .u8 26), .lit (.int .u8 40), .lit (.int .u8 15), .lit (.int .u8 34), .lit (.int .u8 20), .lit (.int .u8 31), .lit (.int .u8 10), .lit (.int .u8 25), .lit (.int .u8 14), .lit (.int .u8 19), .lit (.int .u8 9), .lit (.int .u8 13), .lit (.int .u8 8), .lit (.int .u8 7), .lit (.int .u8 6)]
def laid_internal_strconv_uint64pow10 {H : Type} : DataW H := .agg [.lit (.int .u64 1), .lit (.int .u64 10), .lit (.int .u64 100), .lit (.int .u64 1000), .lit (.int .u64 10000), .lit (.int .u64 100000), .lit (.int .u64 1000000), .lit (.int .u64 10000000), .lit (.int .u64 100000000), .lit (.int .u64 1000000000), .lit (.int .u64 10000000000), .lit (.int .u64 100000000000), .lit (.int .u64 1000000000000), .lit (.int .u64 10000000000000), .lit (.int .u64 100000000000000), .lit (.int .u64 1000000000000000), .lit (.int .u64 10000000000000000), .lit (.int .u64 100000000000000000), .lit (.int .u64 1000000000000000000), .lit (.int .u64 10000000000000000000)]
def laid_unicode_utf8_acceptRanges {H : Type} : DataW H := .agg [.agg [.lit (.int .u8 128), .lit (.int .u8 191)], .agg [.lit (.int .u8 160), .lit (.int .u8 191)], .agg [.lit (.int .u8 128), .lit (.int .u8 159)], .agg [.lit (.int .u8 144), .lit (.int .u8 191)], .agg [.lit (.int .u8 128), .lit (.int .u8 143)], .agg [.lit (.int .u8 0), .lit (.int .u8 0)], .agg [.lit (.int .u8 0), .lit (.int .u8 0)], .agg [.lit (.int .u8 0), .lit (.int .u8 0)], .agg [.lit (.int .u8 0), .lit (.int .u8 0)], .agg [.lit (.int .u8 0), .lit (.int .u8 0)], .agg [.lit (.int .u8 0), .lit (.int .u8 0)], .agg [.lit (.int .u8 0), .lit (.int .u8 0)], .agg [.lit (.int .u8 0), .lit (.int .u8 0)], .agg [.lit (.int .u8 0), .lit (.int .u8 0)], .agg [.lit (.int .u8 0), .lit (.int .u8 0)], .agg [.lit (.int .u8 0), .lit (.int .u8 0)]]
def laid_strconv_ErrRange {H : Type} : DataW H := .iface "*errors.errorString" (.ptr (.agg [.lit (.string [118, 97, 108, 117, 101, 32, 111, 117, 116, 32, 111, 102, 32, 114, 97, 110, 103, 101])]))
def laid_strconv_ErrSyntax {H : Type} : DataW H := .iface "*errors.errorString" (.ptr (.agg [.lit (.string [105, 110, 118, 97, 108, 105, 100, 32, 115, 121, 110, 116, 97, 120])]))
def laid_tempo_script_shapes {H : Type} : DataW H := .iface "func table" (.agg [.agg [.lit (.string []), .nil, .nil, .nil], .agg [.lit (.string [105, 110, 103, 101, 115, 116]), .iface "func" (.lit (.string [116, 101, 109, 112, 111, 47, 115, 99, 114, 105, 112, 116, 46, 116, 101, 120, 116])), .iface "func" (.lit (.string [116, 101, 109, 112, 111, 47, 115, 99, 114, 105, 112, 116, 46, 113, 117, 111, 116, 101, 100])), .iface "func" (.lit (.string [116, 101, 109, 112, 111, 47, 115, 99, 114, 105, 112, 116, 46, 117, 110, 113, 117, 111, 116, 101, 100]))], .agg [.lit (.string [103, 97, 109, 101]), .iface "func" (.lit (.string [116, 101, 109, 112, 111, 47, 115, 99, 114, 105, 112, 116, 46, 110, 117, 109, 98, 101, 114])), .iface "func" (.lit (.string [116, 101, 109, 112, 111, 47, 115, 99, 114, 105, 112, 116, 46, 110, 117, 109, 98, 101, 114, 101, 100])), .iface "func" (.lit (.string [116, 101, 109, 112, 111, 47, 115, 99, 114, 105, 112, 116, 46, 99, 111, 117, 110, 116, 101, 100]))], .agg [.lit (.string [112, 111, 115, 105, 116, 105, 111, 110]), .iface "func" (.lit (.string [116, 101, 109, 112, 111, 47, 115, 99, 114, 105, 112, 116, 46, 113, 117, 101, 114, 121])), .iface "func" (.lit (.string [116, 101, 109, 112, 111, 47, 115, 99, 114, 105, 112, 116, 46, 113, 117, 111, 116, 101, 100])), .iface "func" (.lit (.string [116, 101, 109, 112, 111, 47, 115, 99, 114, 105, 112, 116, 46, 117, 110, 113, 117, 111, 116, 101, 100]))], .agg [.lit (.string [109, 97, 116, 101, 114, 105, 97, 108]), .iface "func" (.lit (.string [116, 101, 109, 112, 111, 47, 115, 99, 114, 105, 112, 116, 46, 113, 117, 101, 114, 121])), .iface "func" (.lit (.string [116, 101, 109, 112, 111, 47, 115, 99, 114, 105, 112, 116, 46, 113, 117, 111, 116, 101, 100])), .iface "func" (.lit (.string [116, 101, 109, 112, 111, 47, 115, 99, 114, 105, 112, 116, 46, 117, 110, 113, 117, 111, 116, 101, 100]))], .agg [.lit (.string [115, 116, 97, 116, 115]), .iface "func" (.lit (.string [116, 101, 109, 112, 111, 47, 115, 99, 114, 105, 112, 116, 46, 113, 117, 101, 114, 121])), .iface "func" (.lit (.string [116, 101, 109, 112, 111, 47, 115, 99, 114, 105, 112, 116, 46, 113, 117, 111, 116, 101, 100])), .iface "func" (.lit (.string [116, 101, 109, 112, 111, 47, 115, 99, 114, 105, 112, 116, 46, 117, 110, 113, 117, 111, 116, 101, 100]))], .agg [.lit (.string [98, 111, 111, 107]), .iface "func" (.lit (.string [116, 101, 109, 112, 111, 47, 115, 99, 114, 105, 112, 116, 46, 98, 97, 114, 101])), .iface "func" (.lit (.string [116, 101, 109, 112, 111, 47, 115, 99, 114, 105, 112, 116, 46, 110, 111, 116, 104, 105, 110, 103])), .iface "func" (.lit (.string [116, 101, 109, 112, 111, 47, 115, 99, 114, 105, 112, 116, 46, 110, 111, 110, 101]))], .agg [.lit (.string [99, 104, 101, 99, 107, 112, 111, 105, 110, 116]), .iface "func" (.lit (.string [116, 101, 109, 112, 111, 47, 115, 99, 114, 105, 112, 116, 46, 98, 97, 114, 101])), .iface "func" (.lit (.string [116, 101, 109, 112, 111, 47, 115, 99, 114, 105, 112, 116, 46, 110, 111, 116, 104, 105, 110, 103])), .iface "func" (.lit (.string [116, 101, 109, 112, 111, 47, 115, 99, 114, 105, 112, 116, 46, 110, 111, 110, 101]))], .agg [.lit (.string [99, 114, 97, 115, 104]), .iface "func" (.lit (.string [116, 101, 109, 112, 111, 47, 115, 99, 114, 105, 112, 116, 46, 99, 114, 97, 115, 104])), .iface "func" (.lit (.string [116, 101, 109, 112, 111, 47, 115, 99, 114, 105, 112, 116, 46, 112, 108, 97, 110, 110, 101, 100])), .iface "func" (.lit (.string [116, 101, 109, 112, 111, 47, 115, 99, 114, 105, 112, 116, 46, 112, 108, 97, 110, 115]))], .agg [.lit (.string [114, 101, 111, 112, 101, 110]), .iface "func" (.lit (.string [116, 101, 109, 112, 111, 47, 115, 99, 114, 105, 112, 116, 46, 98, 97, 114, 101])), .iface "func" (.lit (.string [116, 101, 109, 112, 111, 47, 115, 99, 114, 105, 112, 116, 46, 110, 111, 116, 104, 105, 110, 103])), .iface "func" (.lit (.string [116, 101, 109, 112, 111, 47, 115, 99, 114, 105, 112, 116, 46, 110, 111, 110, 101]))]])
/-- One of Go's own tables, pinned by name: the form's constant. -/
def laid_unicode_utf8_first : DataW Unit := Go.Pinned.utf8First

/-- 'tempolaw44.ScriptReads': WHATEVER THE INPUT: true; the input reads as it did. -/
def scriptReadsSpec : ChangeSpec := { name := "scriptReads", fn := fun _ => fun
  | [d] => { results := [.lit (.bool true)], args := [d] }
  | _ => none }
def scriptReadsRow : OpenClaim := { program := "ytjjnjglbmneecaadoor", sum := "0a90cd82468b7ee943c4ff3aaf213487b753468ee51d3ec1e364314464d2e931", func := "tempo/tempolaw44.ScriptReads", spec := "scriptReads", inPlace := ["internal/bytealg.IndexByteString", "internal/bytealg.IndexString", "internal/abi.NoEscape", "internal/bytealg.CountString"], unfollowed := true, recurses := true, named := ["tempo/script.shapes", "unicode/utf8.first", "unicode/utf8.acceptRanges", "internal/bytealg.MaxLen", "strconv.ErrSyntax", "strconv.ErrRange", "internal/strconv.uint64pow10", "math/bits.deBruijn32tab", "math/bits.deBruijn64tab"], apart := false, laid := [("math/bits.deBruijn32tab", laid_math_bits_deBruijn32tab), ("math/bits.deBruijn64tab", laid_math_bits_deBruijn64tab), ("internal/strconv.uint64pow10", laid_internal_strconv_uint64pow10), ("unicode/utf8.acceptRanges", laid_unicode_utf8_acceptRanges), ("strconv.ErrRange", laid_strconv_ErrRange), ("strconv.ErrSyntax", laid_strconv_ErrSyntax), ("tempo/script.shapes", laid_tempo_script_shapes), ("unicode/utf8.first", laid_unicode_utf8_first)] }
def ScriptReadsSaid : Prop := scriptReadsRow.holds Tryd.pinned (OpenSpec.ofChange scriptReadsSpec)

/-- ITS FALSE NEIGHBOUR: 'it returns false'. Refute it at one input. -/
def scriptReadsWrong : ChangeSpec := { name := "scriptReads", fn := fun _ => fun
  | [d] => { results := [.lit (.bool false)], args := [d] }
  | _ => none }
def ScriptReadsWrongFalsely : Prop := scriptReadsRow.holds Tryd.pinned (OpenSpec.ofChange scriptReadsWrong)

/-- 'tempolaw44.ScriptBack': WHATEVER THE INPUT: true; the input reads as it did. -/
def scriptBackSpec : ChangeSpec := { name := "scriptBack", fn := fun _ => fun
  | [d1, d2] => { results := [.lit (.bool true)], args := [d1, d2] }
  | _ => none }
def scriptBackRow : OpenClaim := { program := "ytjjnjglbmneecaadoor", sum := "0a90cd82468b7ee943c4ff3aaf213487b753468ee51d3ec1e364314464d2e931", func := "tempo/tempolaw44.ScriptBack", spec := "scriptBack", inPlace := ["internal/bytealg.IndexByteString", "internal/bytealg.IndexString", "internal/abi.NoEscape", "internal/bytealg.CountString"], unfollowed := true, recurses := true, named := ["tempo/script.shapes", "unicode/utf8.first", "unicode/utf8.acceptRanges", "internal/bytealg.MaxLen", "strconv.ErrSyntax", "strconv.ErrRange", "internal/strconv.uint64pow10", "math/bits.deBruijn32tab", "math/bits.deBruijn64tab"], apart := false, laid := [("math/bits.deBruijn32tab", laid_math_bits_deBruijn32tab), ("math/bits.deBruijn64tab", laid_math_bits_deBruijn64tab), ("internal/strconv.uint64pow10", laid_internal_strconv_uint64pow10), ("unicode/utf8.acceptRanges", laid_unicode_utf8_acceptRanges), ("strconv.ErrRange", laid_strconv_ErrRange), ("strconv.ErrSyntax", laid_strconv_ErrSyntax), ("tempo/script.shapes", laid_tempo_script_shapes), ("unicode/utf8.first", laid_unicode_utf8_first)] }
def ScriptBackSaid : Prop := scriptBackRow.holds Tryd.pinned (OpenSpec.ofChange scriptBackSpec)

/-- ITS FALSE NEIGHBOUR: 'it returns false'. Refute it at one input. -/
def scriptBackWrong : ChangeSpec := { name := "scriptBack", fn := fun _ => fun
  | [d1, d2] => { results := [.lit (.bool false)], args := [d1, d2] }
  | _ => none }
def ScriptBackWrongFalsely : Prop := scriptBackRow.holds Tryd.pinned (OpenSpec.ofChange scriptBackWrong)

/-- 'tempolaw44.ScriptQuotes': WHATEVER THE INPUT: true; the input reads as it did. -/
def scriptQuotesSpec : ChangeSpec := { name := "scriptQuotes", fn := fun _ => fun
  | [d1, d2] => { results := [.lit (.bool true)], args := [d1, d2] }
  | _ => none }
def scriptQuotesRow : OpenClaim := { program := "ytjjnjglbmneecaadoor", sum := "0a90cd82468b7ee943c4ff3aaf213487b753468ee51d3ec1e364314464d2e931", func := "tempo/tempolaw44.ScriptQuotes", spec := "scriptQuotes", inPlace := ["internal/bytealg.IndexByteString", "internal/bytealg.IndexString", "internal/abi.NoEscape", "internal/bytealg.CountString"], unfollowed := true, recurses := true, named := ["tempo/script.shapes", "unicode/utf8.first", "unicode/utf8.acceptRanges", "internal/bytealg.MaxLen", "strconv.ErrSyntax", "strconv.ErrRange", "internal/strconv.uint64pow10", "math/bits.deBruijn32tab", "math/bits.deBruijn64tab"], apart := false, laid := [("math/bits.deBruijn32tab", laid_math_bits_deBruijn32tab), ("math/bits.deBruijn64tab", laid_math_bits_deBruijn64tab), ("internal/strconv.uint64pow10", laid_internal_strconv_uint64pow10), ("unicode/utf8.acceptRanges", laid_unicode_utf8_acceptRanges), ("strconv.ErrRange", laid_strconv_ErrRange), ("strconv.ErrSyntax", laid_strconv_ErrSyntax), ("tempo/script.shapes", laid_tempo_script_shapes), ("unicode/utf8.first", laid_unicode_utf8_first)] }
def ScriptQuotesSaid : Prop := scriptQuotesRow.holds Tryd.pinned (OpenSpec.ofChange scriptQuotesSpec)

/-- ITS FALSE NEIGHBOUR: 'it returns false'. Refute it at one input. -/
def scriptQuotesWrong : ChangeSpec := { name := "scriptQuotes", fn := fun _ => fun
  | [d1, d2] => { results := [.lit (.bool false)], args := [d1, d2] }
  | _ => none }
def ScriptQuotesWrongFalsely : Prop := scriptQuotesRow.holds Tryd.pinned (OpenSpec.ofChange scriptQuotesWrong)

/-- 'tempolaw44.ScriptWrong': WHATEVER THE INPUT: true; the input reads as it did. -/
def scriptWrongSpec : ChangeSpec := { name := "scriptWrong", fn := fun _ => fun
  | [d1, d2, d3, d4] => { results := [.lit (.bool true)], args := [d1, d2, d3, d4] }
  | _ => none }
def scriptWrongRow : OpenClaim := { program := "ytjjnjglbmneecaadoor", sum := "0a90cd82468b7ee943c4ff3aaf213487b753468ee51d3ec1e364314464d2e931", func := "tempo/tempolaw44.ScriptWrong", spec := "scriptWrong", inPlace := ["internal/bytealg.IndexByteString", "internal/bytealg.IndexString", "internal/abi.NoEscape", "internal/bytealg.CountString"], unfollowed := true, recurses := true, named := ["tempo/script.shapes", "unicode/utf8.first", "unicode/utf8.acceptRanges", "internal/bytealg.MaxLen", "strconv.ErrSyntax", "strconv.ErrRange", "internal/strconv.uint64pow10", "math/bits.deBruijn32tab", "math/bits.deBruijn64tab"], apart := false, laid := [("math/bits.deBruijn32tab", laid_math_bits_deBruijn32tab), ("math/bits.deBruijn64tab", laid_math_bits_deBruijn64tab), ("internal/strconv.uint64pow10", laid_internal_strconv_uint64pow10), ("unicode/utf8.acceptRanges", laid_unicode_utf8_acceptRanges), ("strconv.ErrRange", laid_strconv_ErrRange), ("strconv.ErrSyntax", laid_strconv_ErrSyntax), ("tempo/script.shapes", laid_tempo_script_shapes), ("unicode/utf8.first", laid_unicode_utf8_first)] }
def ScriptWrongSaid : Prop := scriptWrongRow.holds Tryd.pinned (OpenSpec.ofChange scriptWrongSpec)

/-- ITS FALSE NEIGHBOUR: 'it returns false'. Refute it at one input. -/
def scriptWrongWrong : ChangeSpec := { name := "scriptWrong", fn := fun _ => fun
  | [d1, d2, d3, d4] => { results := [.lit (.bool false)], args := [d1, d2, d3, d4] }
  | _ => none }
def ScriptWrongWrongFalsely : Prop := scriptWrongRow.holds Tryd.pinned (OpenSpec.ofChange scriptWrongWrong)

/-- 'tempolaw44.ScriptPlans': WHATEVER THE INPUT: true; the input reads as it did. -/
def scriptPlansSpec : ChangeSpec := { name := "scriptPlans", fn := fun _ => fun
  | [d1, d2] => { results := [.lit (.bool true)], args := [d1, d2] }
  | _ => none }
def scriptPlansRow : OpenClaim := { program := "ytjjnjglbmneecaadoor", sum := "0a90cd82468b7ee943c4ff3aaf213487b753468ee51d3ec1e364314464d2e931", func := "tempo/tempolaw44.ScriptPlans", spec := "scriptPlans", inPlace := ["internal/bytealg.IndexByteString", "internal/bytealg.IndexString", "internal/abi.NoEscape", "internal/bytealg.CountString"], unfollowed := true, recurses := true, named := ["tempo/script.shapes", "unicode/utf8.first", "unicode/utf8.acceptRanges", "internal/bytealg.MaxLen", "strconv.ErrSyntax", "strconv.ErrRange", "internal/strconv.uint64pow10", "math/bits.deBruijn32tab", "math/bits.deBruijn64tab"], apart := false, laid := [("math/bits.deBruijn32tab", laid_math_bits_deBruijn32tab), ("math/bits.deBruijn64tab", laid_math_bits_deBruijn64tab), ("internal/strconv.uint64pow10", laid_internal_strconv_uint64pow10), ("unicode/utf8.acceptRanges", laid_unicode_utf8_acceptRanges), ("strconv.ErrRange", laid_strconv_ErrRange), ("strconv.ErrSyntax", laid_strconv_ErrSyntax), ("tempo/script.shapes", laid_tempo_script_shapes), ("unicode/utf8.first", laid_unicode_utf8_first)] }
def ScriptPlansSaid : Prop := scriptPlansRow.holds Tryd.pinned (OpenSpec.ofChange scriptPlansSpec)

/-- ITS FALSE NEIGHBOUR: 'it returns false'. Refute it at one input. -/
def scriptPlansWrong : ChangeSpec := { name := "scriptPlans", fn := fun _ => fun
  | [d1, d2] => { results := [.lit (.bool false)], args := [d1, d2] }
  | _ => none }
def ScriptPlansWrongFalsely : Prop := scriptPlansRow.holds Tryd.pinned (OpenSpec.ofChange scriptPlansWrong)

/-- 'tempolaw44.ScriptOps': WHATEVER THE INPUT: true; the input reads as it did. -/
def scriptOpsSpec : ChangeSpec := { name := "scriptOps", fn := fun _ => fun
  | [d1, d2] => { results := [.lit (.bool true)], args := [d1, d2] }
  | _ => none }
def scriptOpsRow : OpenClaim := { program := "ytjjnjglbmneecaadoor", sum := "0a90cd82468b7ee943c4ff3aaf213487b753468ee51d3ec1e364314464d2e931", func := "tempo/tempolaw44.ScriptOps", spec := "scriptOps", inPlace := ["internal/bytealg.IndexByteString", "internal/bytealg.IndexString", "internal/abi.NoEscape", "internal/bytealg.CountString"], unfollowed := true, recurses := true, named := ["tempo/script.shapes", "unicode/utf8.first", "unicode/utf8.acceptRanges", "internal/bytealg.MaxLen", "strconv.ErrSyntax", "strconv.ErrRange", "internal/strconv.uint64pow10", "math/bits.deBruijn32tab", "math/bits.deBruijn64tab"], apart := false, laid := [("math/bits.deBruijn32tab", laid_math_bits_deBruijn32tab), ("math/bits.deBruijn64tab", laid_math_bits_deBruijn64tab), ("internal/strconv.uint64pow10", laid_internal_strconv_uint64pow10), ("unicode/utf8.acceptRanges", laid_unicode_utf8_acceptRanges), ("strconv.ErrRange", laid_strconv_ErrRange), ("strconv.ErrSyntax", laid_strconv_ErrSyntax), ("tempo/script.shapes", laid_tempo_script_shapes), ("unicode/utf8.first", laid_unicode_utf8_first)] }
def ScriptOpsSaid : Prop := scriptOpsRow.holds Tryd.pinned (OpenSpec.ofChange scriptOpsSpec)

/-- ITS FALSE NEIGHBOUR: 'it returns false'. Refute it at one input. -/
def scriptOpsWrong : ChangeSpec := { name := "scriptOps", fn := fun _ => fun
  | [d1, d2] => { results := [.lit (.bool false)], args := [d1, d2] }
  | _ => none }
def ScriptOpsWrongFalsely : Prop := scriptOpsRow.holds Tryd.pinned (OpenSpec.ofChange scriptOpsWrong)

/-- 'tempolaw44.ScriptAlls': WHATEVER THE INPUT: true; the input reads as it did. -/
def scriptAllsSpec : ChangeSpec := { name := "scriptAlls", fn := fun _ => fun
  | [d1, d2, d3] => { results := [.lit (.bool true)], args := [d1, d2, d3] }
  | _ => none }
def scriptAllsRow : OpenClaim := { program := "ytjjnjglbmneecaadoor", sum := "0a90cd82468b7ee943c4ff3aaf213487b753468ee51d3ec1e364314464d2e931", func := "tempo/tempolaw44.ScriptAlls", spec := "scriptAlls", inPlace := ["internal/bytealg.IndexByteString", "internal/bytealg.IndexString", "internal/abi.NoEscape", "internal/bytealg.CountString"], unfollowed := true, recurses := true, named := ["tempo/script.shapes", "unicode/utf8.first", "unicode/utf8.acceptRanges", "internal/bytealg.MaxLen", "strconv.ErrSyntax", "strconv.ErrRange", "internal/strconv.uint64pow10", "math/bits.deBruijn32tab", "math/bits.deBruijn64tab"], apart := false, laid := [("math/bits.deBruijn32tab", laid_math_bits_deBruijn32tab), ("math/bits.deBruijn64tab", laid_math_bits_deBruijn64tab), ("internal/strconv.uint64pow10", laid_internal_strconv_uint64pow10), ("unicode/utf8.acceptRanges", laid_unicode_utf8_acceptRanges), ("strconv.ErrRange", laid_strconv_ErrRange), ("strconv.ErrSyntax", laid_strconv_ErrSyntax), ("tempo/script.shapes", laid_tempo_script_shapes), ("unicode/utf8.first", laid_unicode_utf8_first)] }
def ScriptAllsSaid : Prop := scriptAllsRow.holds Tryd.pinned (OpenSpec.ofChange scriptAllsSpec)

/-- ITS FALSE NEIGHBOUR: 'it returns false'. Refute it at one input. -/
def scriptAllsWrong : ChangeSpec := { name := "scriptAlls", fn := fun _ => fun
  | [d1, d2, d3] => { results := [.lit (.bool false)], args := [d1, d2, d3] }
  | _ => none }
def ScriptAllsWrongFalsely : Prop := scriptAllsRow.holds Tryd.pinned (OpenSpec.ofChange scriptAllsWrong)

/-- 'tempolaw44.ScriptLists': WHATEVER THE INPUT: true; the input reads as it did. -/
def scriptListsSpec : ChangeSpec := { name := "scriptLists", fn := fun _ => fun
  | [d1, d2] => { results := [.lit (.bool true)], args := [d1, d2] }
  | _ => none }
def scriptListsRow : OpenClaim := { program := "ytjjnjglbmneecaadoor", sum := "0a90cd82468b7ee943c4ff3aaf213487b753468ee51d3ec1e364314464d2e931", func := "tempo/tempolaw44.ScriptLists", spec := "scriptLists", inPlace := ["internal/bytealg.IndexByteString", "internal/bytealg.IndexString", "internal/abi.NoEscape", "internal/bytealg.CountString"], unfollowed := true, recurses := true, named := ["tempo/script.shapes", "unicode/utf8.first", "unicode/utf8.acceptRanges", "internal/bytealg.MaxLen", "strconv.ErrSyntax", "strconv.ErrRange", "internal/strconv.uint64pow10", "math/bits.deBruijn32tab", "math/bits.deBruijn64tab"], apart := false, laid := [("math/bits.deBruijn32tab", laid_math_bits_deBruijn32tab), ("math/bits.deBruijn64tab", laid_math_bits_deBruijn64tab), ("internal/strconv.uint64pow10", laid_internal_strconv_uint64pow10), ("unicode/utf8.acceptRanges", laid_unicode_utf8_acceptRanges), ("strconv.ErrRange", laid_strconv_ErrRange), ("strconv.ErrSyntax", laid_strconv_ErrSyntax), ("tempo/script.shapes", laid_tempo_script_shapes), ("unicode/utf8.first", laid_unicode_utf8_first)] }
def ScriptListsSaid : Prop := scriptListsRow.holds Tryd.pinned (OpenSpec.ofChange scriptListsSpec)

/-- ITS FALSE NEIGHBOUR: 'it returns false'. Refute it at one input. -/
def scriptListsWrong : ChangeSpec := { name := "scriptLists", fn := fun _ => fun
  | [d1, d2] => { results := [.lit (.bool false)], args := [d1, d2] }
  | _ => none }
def ScriptListsWrongFalsely : Prop := scriptListsRow.holds Tryd.pinned (OpenSpec.ofChange scriptListsWrong)

/-- 'tempolaw44.ScriptMany': WHATEVER THE INPUT: true; the input reads as it did. -/
def scriptManySpec : ChangeSpec := { name := "scriptMany", fn := fun _ => fun
  | [d] => { results := [.lit (.bool true)], args := [d] }
  | _ => none }
def scriptManyRow : OpenClaim := { program := "ytjjnjglbmneecaadoor", sum := "0a90cd82468b7ee943c4ff3aaf213487b753468ee51d3ec1e364314464d2e931", func := "tempo/tempolaw44.ScriptMany", spec := "scriptMany", inPlace := ["internal/abi.NoEscape", "internal/bytealg.CountString", "internal/bytealg.IndexByteString", "internal/bytealg.IndexString"], unfollowed := true, recurses := true, named := ["tempo/script.shapes", "unicode/utf8.first", "unicode/utf8.acceptRanges", "internal/bytealg.MaxLen", "strconv.ErrSyntax", "strconv.ErrRange", "internal/strconv.uint64pow10", "math/bits.deBruijn32tab", "math/bits.deBruijn64tab"], apart := false, laid := [("math/bits.deBruijn32tab", laid_math_bits_deBruijn32tab), ("math/bits.deBruijn64tab", laid_math_bits_deBruijn64tab), ("internal/strconv.uint64pow10", laid_internal_strconv_uint64pow10), ("unicode/utf8.acceptRanges", laid_unicode_utf8_acceptRanges), ("strconv.ErrRange", laid_strconv_ErrRange), ("strconv.ErrSyntax", laid_strconv_ErrSyntax), ("tempo/script.shapes", laid_tempo_script_shapes), ("unicode/utf8.first", laid_unicode_utf8_first)] }
def ScriptManySaid : Prop := scriptManyRow.holds Tryd.pinned (OpenSpec.ofChange scriptManySpec)

/-- ITS FALSE NEIGHBOUR: 'it returns false'. Refute it at one input. -/
def scriptManyWrong : ChangeSpec := { name := "scriptMany", fn := fun _ => fun
  | [d] => { results := [.lit (.bool false)], args := [d] }
  | _ => none }
def ScriptManyWrongFalsely : Prop := scriptManyRow.holds Tryd.pinned (OpenSpec.ofChange scriptManyWrong)

/- THE SECOND FORM. 'bulk': how many values and letters a reading holds, each counted each time it is reached (what is shared counts as often as it is met; a slice's spare places count too). A statement '..UptoSaid' is the law's where the arguments, and the package variables that the reading takes, are together of bulk at most 1048576: NARROWER than '..Said'. Prove '..Said' where nothing that the law and all that it calls make is longer than what came in: it says more and counts as full. Else prove '..UptoSaid'. A law counts once. -/
mutual
def uptoBulk {H : Type} : DataW H → Nat
  | .lit (.string bytes) => bytes.length + 1
  | .lit _ => 1
  | .nil => 1
  | .ptr d => uptoBulk d + 1
  | .slice elems spare => uptoBulkAll elems + uptoBulkAll spare + 1
  | .agg parts => uptoBulkAll parts + 1
  | .iface _ d => uptoBulk d + 1
  | .map entries => uptoBulkEntries entries + 1
  | .held _ => 1
def uptoBulkAll {H : Type} : List (DataW H) → Nat
  | [] => 0
  | d :: r => uptoBulk d + uptoBulkAll r
def uptoBulkEntries {H : Type} : List (Lit × DataW H) → Nat
  | [] => 0
  | x :: r => uptoBulkEntry x + uptoBulkEntries r
def uptoBulkEntry {H : Type} : Lit × DataW H → Nat
  | (.string bytes, d) => bytes.length + uptoBulk d + 1
  | (_, d) => uptoBulk d + 1
 end
def uptoSmall : (H : Type) → List (DataW H) → Bool := fun _ ds => decide (uptoBulkAll ds ≤ 1048576)
def OpenSpec.upto (s : _root_.Go.ChangeSpec) : _root_.Go.OpenSpec := { _root_.Go.OpenSpec.ofChange s with cond := some uptoSmall }

/-- 'tempolaw44.ScriptReads', WHERE WHAT IT READS IS OF BULK AT MOST 1048576: true; the input reads as it did. -/
def scriptReadsUptoRow : OpenClaim := { program := "ytjjnjglbmneecaadoor", sum := "0a90cd82468b7ee943c4ff3aaf213487b753468ee51d3ec1e364314464d2e931", func := "tempo/tempolaw44.ScriptReads", spec := "scriptReads", inPlace := ["internal/bytealg.IndexByteString", "internal/bytealg.IndexString", "internal/abi.NoEscape", "internal/bytealg.CountString"], unfollowed := true, recurses := true, named := ["tempo/script.shapes", "unicode/utf8.first", "unicode/utf8.acceptRanges", "internal/bytealg.MaxLen", "strconv.ErrSyntax", "strconv.ErrRange", "internal/strconv.uint64pow10", "math/bits.deBruijn32tab", "math/bits.deBruijn64tab"], apart := false, laid := [("math/bits.deBruijn32tab", laid_math_bits_deBruijn32tab), ("math/bits.deBruijn64tab", laid_math_bits_deBruijn64tab), ("internal/strconv.uint64pow10", laid_internal_strconv_uint64pow10), ("unicode/utf8.acceptRanges", laid_unicode_utf8_acceptRanges), ("strconv.ErrRange", laid_strconv_ErrRange), ("strconv.ErrSyntax", laid_strconv_ErrSyntax), ("tempo/script.shapes", laid_tempo_script_shapes), ("unicode/utf8.first", laid_unicode_utf8_first)], narrowed := true }
def ScriptReadsUptoSaid : Prop := scriptReadsUptoRow.holds Tryd.pinned (OpenSpec.upto scriptReadsSpec)

/-- 'tempolaw44.ScriptBack', WHERE WHAT IT READS IS OF BULK AT MOST 1048576: true; the input reads as it did. -/
def scriptBackUptoRow : OpenClaim := { program := "ytjjnjglbmneecaadoor", sum := "0a90cd82468b7ee943c4ff3aaf213487b753468ee51d3ec1e364314464d2e931", func := "tempo/tempolaw44.ScriptBack", spec := "scriptBack", inPlace := ["internal/bytealg.IndexByteString", "internal/bytealg.IndexString", "internal/abi.NoEscape", "internal/bytealg.CountString"], unfollowed := true, recurses := true, named := ["tempo/script.shapes", "unicode/utf8.first", "unicode/utf8.acceptRanges", "internal/bytealg.MaxLen", "strconv.ErrSyntax", "strconv.ErrRange", "internal/strconv.uint64pow10", "math/bits.deBruijn32tab", "math/bits.deBruijn64tab"], apart := false, laid := [("math/bits.deBruijn32tab", laid_math_bits_deBruijn32tab), ("math/bits.deBruijn64tab", laid_math_bits_deBruijn64tab), ("internal/strconv.uint64pow10", laid_internal_strconv_uint64pow10), ("unicode/utf8.acceptRanges", laid_unicode_utf8_acceptRanges), ("strconv.ErrRange", laid_strconv_ErrRange), ("strconv.ErrSyntax", laid_strconv_ErrSyntax), ("tempo/script.shapes", laid_tempo_script_shapes), ("unicode/utf8.first", laid_unicode_utf8_first)], narrowed := true }
def ScriptBackUptoSaid : Prop := scriptBackUptoRow.holds Tryd.pinned (OpenSpec.upto scriptBackSpec)

/-- 'tempolaw44.ScriptQuotes', WHERE WHAT IT READS IS OF BULK AT MOST 1048576: true; the input reads as it did. -/
def scriptQuotesUptoRow : OpenClaim := { program := "ytjjnjglbmneecaadoor", sum := "0a90cd82468b7ee943c4ff3aaf213487b753468ee51d3ec1e364314464d2e931", func := "tempo/tempolaw44.ScriptQuotes", spec := "scriptQuotes", inPlace := ["internal/bytealg.IndexByteString", "internal/bytealg.IndexString", "internal/abi.NoEscape", "internal/bytealg.CountString"], unfollowed := true, recurses := true, named := ["tempo/script.shapes", "unicode/utf8.first", "unicode/utf8.acceptRanges", "internal/bytealg.MaxLen", "strconv.ErrSyntax", "strconv.ErrRange", "internal/strconv.uint64pow10", "math/bits.deBruijn32tab", "math/bits.deBruijn64tab"], apart := false, laid := [("math/bits.deBruijn32tab", laid_math_bits_deBruijn32tab), ("math/bits.deBruijn64tab", laid_math_bits_deBruijn64tab), ("internal/strconv.uint64pow10", laid_internal_strconv_uint64pow10), ("unicode/utf8.acceptRanges", laid_unicode_utf8_acceptRanges), ("strconv.ErrRange", laid_strconv_ErrRange), ("strconv.ErrSyntax", laid_strconv_ErrSyntax), ("tempo/script.shapes", laid_tempo_script_shapes), ("unicode/utf8.first", laid_unicode_utf8_first)], narrowed := true }
def ScriptQuotesUptoSaid : Prop := scriptQuotesUptoRow.holds Tryd.pinned (OpenSpec.upto scriptQuotesSpec)

/-- 'tempolaw44.ScriptWrong', WHERE WHAT IT READS IS OF BULK AT MOST 1048576: true; the input reads as it did. -/
def scriptWrongUptoRow : OpenClaim := { program := "ytjjnjglbmneecaadoor", sum := "0a90cd82468b7ee943c4ff3aaf213487b753468ee51d3ec1e364314464d2e931", func := "tempo/tempolaw44.ScriptWrong", spec := "scriptWrong", inPlace := ["internal/bytealg.IndexByteString", "internal/bytealg.IndexString", "internal/abi.NoEscape", "internal/bytealg.CountString"], unfollowed := true, recurses := true, named := ["tempo/script.shapes", "unicode/utf8.first", "unicode/utf8.acceptRanges", "internal/bytealg.MaxLen", "strconv.ErrSyntax", "strconv.ErrRange", "internal/strconv.uint64pow10", "math/bits.deBruijn32tab", "math/bits.deBruijn64tab"], apart := false, laid := [("math/bits.deBruijn32tab", laid_math_bits_deBruijn32tab), ("math/bits.deBruijn64tab", laid_math_bits_deBruijn64tab), ("internal/strconv.uint64pow10", laid_internal_strconv_uint64pow10), ("unicode/utf8.acceptRanges", laid_unicode_utf8_acceptRanges), ("strconv.ErrRange", laid_strconv_ErrRange), ("strconv.ErrSyntax", laid_strconv_ErrSyntax), ("tempo/script.shapes", laid_tempo_script_shapes), ("unicode/utf8.first", laid_unicode_utf8_first)], narrowed := true }
def ScriptWrongUptoSaid : Prop := scriptWrongUptoRow.holds Tryd.pinned (OpenSpec.upto scriptWrongSpec)

/-- 'tempolaw44.ScriptPlans', WHERE WHAT IT READS IS OF BULK AT MOST 1048576: true; the input reads as it did. -/
def scriptPlansUptoRow : OpenClaim := { program := "ytjjnjglbmneecaadoor", sum := "0a90cd82468b7ee943c4ff3aaf213487b753468ee51d3ec1e364314464d2e931", func := "tempo/tempolaw44.ScriptPlans", spec := "scriptPlans", inPlace := ["internal/bytealg.IndexByteString", "internal/bytealg.IndexString", "internal/abi.NoEscape", "internal/bytealg.CountString"], unfollowed := true, recurses := true, named := ["tempo/script.shapes", "unicode/utf8.first", "unicode/utf8.acceptRanges", "internal/bytealg.MaxLen", "strconv.ErrSyntax", "strconv.ErrRange", "internal/strconv.uint64pow10", "math/bits.deBruijn32tab", "math/bits.deBruijn64tab"], apart := false, laid := [("math/bits.deBruijn32tab", laid_math_bits_deBruijn32tab), ("math/bits.deBruijn64tab", laid_math_bits_deBruijn64tab), ("internal/strconv.uint64pow10", laid_internal_strconv_uint64pow10), ("unicode/utf8.acceptRanges", laid_unicode_utf8_acceptRanges), ("strconv.ErrRange", laid_strconv_ErrRange), ("strconv.ErrSyntax", laid_strconv_ErrSyntax), ("tempo/script.shapes", laid_tempo_script_shapes), ("unicode/utf8.first", laid_unicode_utf8_first)], narrowed := true }
def ScriptPlansUptoSaid : Prop := scriptPlansUptoRow.holds Tryd.pinned (OpenSpec.upto scriptPlansSpec)

/-- 'tempolaw44.ScriptOps', WHERE WHAT IT READS IS OF BULK AT MOST 1048576: true; the input reads as it did. -/
def scriptOpsUptoRow : OpenClaim := { program := "ytjjnjglbmneecaadoor", sum := "0a90cd82468b7ee943c4ff3aaf213487b753468ee51d3ec1e364314464d2e931", func := "tempo/tempolaw44.ScriptOps", spec := "scriptOps", inPlace := ["internal/bytealg.IndexByteString", "internal/bytealg.IndexString", "internal/abi.NoEscape", "internal/bytealg.CountString"], unfollowed := true, recurses := true, named := ["tempo/script.shapes", "unicode/utf8.first", "unicode/utf8.acceptRanges", "internal/bytealg.MaxLen", "strconv.ErrSyntax", "strconv.ErrRange", "internal/strconv.uint64pow10", "math/bits.deBruijn32tab", "math/bits.deBruijn64tab"], apart := false, laid := [("math/bits.deBruijn32tab", laid_math_bits_deBruijn32tab), ("math/bits.deBruijn64tab", laid_math_bits_deBruijn64tab), ("internal/strconv.uint64pow10", laid_internal_strconv_uint64pow10), ("unicode/utf8.acceptRanges", laid_unicode_utf8_acceptRanges), ("strconv.ErrRange", laid_strconv_ErrRange), ("strconv.ErrSyntax", laid_strconv_ErrSyntax), ("tempo/script.shapes", laid_tempo_script_shapes), ("unicode/utf8.first", laid_unicode_utf8_first)], narrowed := true }
def ScriptOpsUptoSaid : Prop := scriptOpsUptoRow.holds Tryd.pinned (OpenSpec.upto scriptOpsSpec)

/-- 'tempolaw44.ScriptAlls', WHERE WHAT IT READS IS OF BULK AT MOST 1048576: true; the input reads as it did. -/
def scriptAllsUptoRow : OpenClaim := { program := "ytjjnjglbmneecaadoor", sum := "0a90cd82468b7ee943c4ff3aaf213487b753468ee51d3ec1e364314464d2e931", func := "tempo/tempolaw44.ScriptAlls", spec := "scriptAlls", inPlace := ["internal/bytealg.IndexByteString", "internal/bytealg.IndexString", "internal/abi.NoEscape", "internal/bytealg.CountString"], unfollowed := true, recurses := true, named := ["tempo/script.shapes", "unicode/utf8.first", "unicode/utf8.acceptRanges", "internal/bytealg.MaxLen", "strconv.ErrSyntax", "strconv.ErrRange", "internal/strconv.uint64pow10", "math/bits.deBruijn32tab", "math/bits.deBruijn64tab"], apart := false, laid := [("math/bits.deBruijn32tab", laid_math_bits_deBruijn32tab), ("math/bits.deBruijn64tab", laid_math_bits_deBruijn64tab), ("internal/strconv.uint64pow10", laid_internal_strconv_uint64pow10), ("unicode/utf8.acceptRanges", laid_unicode_utf8_acceptRanges), ("strconv.ErrRange", laid_strconv_ErrRange), ("strconv.ErrSyntax", laid_strconv_ErrSyntax), ("tempo/script.shapes", laid_tempo_script_shapes), ("unicode/utf8.first", laid_unicode_utf8_first)], narrowed := true }
def ScriptAllsUptoSaid : Prop := scriptAllsUptoRow.holds Tryd.pinned (OpenSpec.upto scriptAllsSpec)

/-- 'tempolaw44.ScriptLists', WHERE WHAT IT READS IS OF BULK AT MOST 1048576: true; the input reads as it did. -/
def scriptListsUptoRow : OpenClaim := { program := "ytjjnjglbmneecaadoor", sum := "0a90cd82468b7ee943c4ff3aaf213487b753468ee51d3ec1e364314464d2e931", func := "tempo/tempolaw44.ScriptLists", spec := "scriptLists", inPlace := ["internal/bytealg.IndexByteString", "internal/bytealg.IndexString", "internal/abi.NoEscape", "internal/bytealg.CountString"], unfollowed := true, recurses := true, named := ["tempo/script.shapes", "unicode/utf8.first", "unicode/utf8.acceptRanges", "internal/bytealg.MaxLen", "strconv.ErrSyntax", "strconv.ErrRange", "internal/strconv.uint64pow10", "math/bits.deBruijn32tab", "math/bits.deBruijn64tab"], apart := false, laid := [("math/bits.deBruijn32tab", laid_math_bits_deBruijn32tab), ("math/bits.deBruijn64tab", laid_math_bits_deBruijn64tab), ("internal/strconv.uint64pow10", laid_internal_strconv_uint64pow10), ("unicode/utf8.acceptRanges", laid_unicode_utf8_acceptRanges), ("strconv.ErrRange", laid_strconv_ErrRange), ("strconv.ErrSyntax", laid_strconv_ErrSyntax), ("tempo/script.shapes", laid_tempo_script_shapes), ("unicode/utf8.first", laid_unicode_utf8_first)], narrowed := true }
def ScriptListsUptoSaid : Prop := scriptListsUptoRow.holds Tryd.pinned (OpenSpec.upto scriptListsSpec)

/-- 'tempolaw44.ScriptMany', WHERE WHAT IT READS IS OF BULK AT MOST 1048576: true; the input reads as it did. -/
def scriptManyUptoRow : OpenClaim := { program := "ytjjnjglbmneecaadoor", sum := "0a90cd82468b7ee943c4ff3aaf213487b753468ee51d3ec1e364314464d2e931", func := "tempo/tempolaw44.ScriptMany", spec := "scriptMany", inPlace := ["internal/abi.NoEscape", "internal/bytealg.CountString", "internal/bytealg.IndexByteString", "internal/bytealg.IndexString"], unfollowed := true, recurses := true, named := ["tempo/script.shapes", "unicode/utf8.first", "unicode/utf8.acceptRanges", "internal/bytealg.MaxLen", "strconv.ErrSyntax", "strconv.ErrRange", "internal/strconv.uint64pow10", "math/bits.deBruijn32tab", "math/bits.deBruijn64tab"], apart := false, laid := [("math/bits.deBruijn32tab", laid_math_bits_deBruijn32tab), ("math/bits.deBruijn64tab", laid_math_bits_deBruijn64tab), ("internal/strconv.uint64pow10", laid_internal_strconv_uint64pow10), ("unicode/utf8.acceptRanges", laid_unicode_utf8_acceptRanges), ("strconv.ErrRange", laid_strconv_ErrRange), ("strconv.ErrSyntax", laid_strconv_ErrSyntax), ("tempo/script.shapes", laid_tempo_script_shapes), ("unicode/utf8.first", laid_unicode_utf8_first)], narrowed := true }
def ScriptManyUptoSaid : Prop := scriptManyUptoRow.holds Tryd.pinned (OpenSpec.upto scriptManySpec)

end Rows
end Go.Proofs.YtjjnjglbmneecaaDoor
