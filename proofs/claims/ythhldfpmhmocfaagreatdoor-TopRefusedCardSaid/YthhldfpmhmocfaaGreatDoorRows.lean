/-
  NARROWER THAN 'FOR EVERY INPUT', by the rows' own cells (each row's printed sentence says how): TopKeeps: laid · TopNames: laid · TopOld: laid · TopMerges: laid · TopRuns: laid · TopGrows: laid · TopShows: laid · TopRefused: laid · TopMemory: laid · TopEnds: laid · TopReads: loops, laid.
  DERIVED. THE GIVEN ROWS OF THIS SEAT. 11 by the template 'for every input the law returns true; each argument reads behind the call as it read before'; 0 by the template 'total and deterministic' (their statements: YthhldfpmhmocfaaGreatDoorTotals.lean).
  GIVEN WITH THE SEED: the statements are not yours to turn. If you find one false, say at which input.
  Laid BY PROGRAM, IN A SANDBOX (cutbox-rows.mjs): the forced cells as the released guide's own fill.sh prints them over the translation dd8fae7e70c5fd16… (all of the seat's roots in one cut). By AI agents, Wed Nov 11 2026. No macro, syntax, notation, axiom, sorry.
-/
import Derived.Test.YthhldfpmhmocfaaGreatDoorChecked
import GoSem.Claim
import GoSem.ClaimJoined
import GoSem.ClaimMapViews
import Derived.JoinedTies
import Derived.KernelRfl
namespace Go.Proofs.YthhldfpmhmocfaaGreatDoor
/- THE CELL 'sum', in the pinned program and in every row, IS THE sha256 OF THE DUMP (.gsa) THAT YthhldfpmhmocfaaGreatDoorProg.lean LOADS. Nothing in Lean hashes anything: it is a label: what it is worth is what the hold of that sum in a sandbox is worth. -/
noncomputable def Tryz.pinned : Pinned := { name := "ythhldfpmhmocfaagreatdoor", sum := "dd8fae7e70c5fd165b01739752d5df14ec2ee2972561448c4b68972e2fa61566", checked := Tryz.checked }
namespace Rows
def none {H : Type} : Left H := { results := [], args := [] }

/- WHAT THE LISTED PACKAGE-LEVEL VARIABLES READ AS WHEN THE CALL BEGINS. Each datum BY PROGRAM (the guide's laid-datum.mjs) off the statement by which the dump's own 'gosem.cut.vars' lays the variable. In a bare row this is a premise. The card (YthhldfpmhmocfaaGreatDoorCards.lean) ties it to the program's text. -/
def laid_math_bits_deBruijn32tab {H : Type} : DataW H := .agg [.lit (.int .u8 0), .lit (.int .u8 1), .lit (.int .u8 28), .lit (.int .u8 2), .lit (.int .u8 29), .lit (.int .u8 14), .lit (.int .u8 24), .lit (.int .u8 3), .lit (.int .u8 30), .lit (.int .u8 22), .lit (.int .u8 20), .lit (.int .u8 15), .lit (.int .u8 25), .lit (.int .u8 17), .lit (.int .u8 4), .lit (.int .u8 8), .lit (.int .u8 31), .lit (.int .u8 27), .lit (.int .u8 13), .lit (.int .u8 23), .lit (.int .u8 21), .lit (.int .u8 19), .lit (.int .u8 16), .lit (.int .u8 7), .lit (.int .u8 26), .lit (.int .u8 12), .lit (.int .u8 18), .lit (.int .u8 6), .lit (.int .u8 11), .lit (.int .u8 5), .lit (.int .u8 10), .lit (.int .u8 9)]
def laid_math_bits_deBruijn64tab {H : Type} : DataW H := .agg [.lit (.int .u8 0), .lit (.int .u8 1), .lit (.int .u8 56), .lit (.int .u8 2), .lit (.int .u8 57), .lit (.int .u8 49), .lit (.int .u8 28), .lit (.int .u8 3), .lit (.int .u8 61), .lit (.int .u8 58), .lit (.int .u8 42), .lit (.int .u8 50), .lit (.int .u8 38), .lit (.int .u8 29), .lit (.int .u8 17), .lit (.int .u8 4), .lit (.int .u8 62), .lit (.int .u8 47), .lit (.int .u8 59), .lit (.int .u8 36), .lit (.int .u8 45), .lit (.int .u8 43), .lit (.int .u8 51), .lit (.int .u8 22), .lit (.int .u8 53), .lit (.int .u8 39), .lit (.int .u8 33), .lit (.int .u8 30), .lit (.int .u8 24), .lit (.int .u8 18), .lit (.int .u8 12), .lit (.int .u8 5), .lit (.int .u8 63), .lit (.int .u8 55), .lit (.int .u8 48), .lit (.int .u8 27), .lit (.int .u8 60), .lit (.int .u8 41), .lit (.int .u8 37), .lit (.int .u8 16), .lit (.int .u8 46), .lit (.int .u8 35), .lit (.int .u8 44), .lit (.int .u8 21), .lit (.int .u8 52), .lit (.int .u8 32), .lit (.int .u8 23), .lit (.int .u8 11), .lit (.int .u8 54), .lit (.int .u8 26), .lit (.int .u8 40), .lit (.int .u8 15), .lit (.int .u8 34), .lit (.int .u8 20), .lit (.int .u8 31), .lit (.int .u8 10), .lit (.int .u8 25), .lit (.int .u8 14), .lit (.int .u8 19), .lit (.int .u8 9), .lit (.int .u8 13), .lit (.int .u8 8), .lit (.int .u8 7), .lit (.int .u8 6)]
def laid_internal_strconv_uint64pow10 {H : Type} : DataW H := .agg [.lit (.int .u64 1), .lit (.int .u64 10), .lit (.int .u64 100), .lit (.int .u64 1000), .lit (.int .u64 10000), .lit (.int .u64 100000), .lit (.int .u64 1000000), .lit (.int .u64 10000000), .lit (.int .u64 100000000), .lit (.int .u64 1000000000), .lit (.int .u64 10000000000), .lit (.int .u64 100000000000), .lit (.int .u64 1000000000000), .lit (.int .u64 10000000000000), .lit (.int .u64 100000000000000), .lit (.int .u64 1000000000000000), .lit (.int .u64 10000000000000000), .lit (.int .u64 100000000000000000), .lit (.int .u64 1000000000000000000), .lit (.int .u64 10000000000000000000)]
def laid_strconv_ErrRange {H : Type} : DataW H := .iface "*errors.errorString" (.ptr (.agg [.lit (.string [118, 97, 108, 117, 101, 32, 111, 117, 116, 32, 111, 102, 32, 114, 97, 110, 103, 101])]))
def laid_strconv_ErrSyntax {H : Type} : DataW H := .iface "*errors.errorString" (.ptr (.agg [.lit (.string [105, 110, 118, 97, 108, 105, 100, 32, 115, 121, 110, 116, 97, 120])]))
def laid_patternbook_book_words {H : Type} : DataW H := .slice [.lit (.string [98, 111, 111, 108]), .lit (.string [101, 110, 117, 109]), .lit (.string [103, 111, 110, 101]), .lit (.string [105, 110, 116]), .lit (.string [109, 97, 110, 121]), .lit (.string [109, 97, 121, 98, 101]), .lit (.string [109, 101, 115, 115, 97, 103, 101]), .lit (.string [111, 110, 101]), .lit (.string [116, 101, 120, 116])] []
def laid_patternbook_book_kinds {H : Type} : DataW H := .agg [.lit (.string []), .lit (.string [98, 111, 111, 108]), .lit (.string [105, 110, 116]), .lit (.string [116, 101, 120, 116])]
def laid_patternbook_book_rules {H : Type} : DataW H := .agg [.lit (.string []), .lit (.string [111, 110, 101]), .lit (.string [109, 97, 121, 98, 101]), .lit (.string [109, 97, 110, 121])]

/-- 'patternbooktop.TopKeeps': WHATEVER THE INPUT: true; the input reads as it did. -/
def topKeepsSpec : ChangeSpec := { name := "topKeeps", fn := fun _ => fun
  | [d] => { results := [.lit (.bool true)], args := [d] }
  | _ => none }
def topKeepsRow : OpenClaim := { program := "ythhldfpmhmocfaagreatdoor", sum := "dd8fae7e70c5fd165b01739752d5df14ec2ee2972561448c4b68972e2fa61566", func := "patternbook/patternbooktop.TopKeeps", spec := "topKeeps", inPlace := ["internal/bytealg.abigen_runtime_cmpstring", "slices.overlaps[patternbook/api.Ref]", "internal/abi.NoEscape"], unfollowed := true, recurses := true, named := ["patternbook/book.words", "patternbook/book.rules", "patternbook/book.kinds", "strconv.ErrSyntax", "strconv.ErrRange", "internal/strconv.uint64pow10", "math/bits.deBruijn32tab", "math/bits.deBruijn64tab"], apart := false, laid := [("math/bits.deBruijn32tab", laid_math_bits_deBruijn32tab), ("math/bits.deBruijn64tab", laid_math_bits_deBruijn64tab), ("internal/strconv.uint64pow10", laid_internal_strconv_uint64pow10), ("strconv.ErrRange", laid_strconv_ErrRange), ("strconv.ErrSyntax", laid_strconv_ErrSyntax), ("patternbook/book.words", laid_patternbook_book_words), ("patternbook/book.kinds", laid_patternbook_book_kinds), ("patternbook/book.rules", laid_patternbook_book_rules)] }
def TopKeepsSaid : Prop := topKeepsRow.holds Tryz.pinned (OpenSpec.ofChange topKeepsSpec)

/-- ITS FALSE NEIGHBOUR: 'it returns false'. Refute it at one input. -/
def topKeepsWrong : ChangeSpec := { name := "topKeeps", fn := fun _ => fun
  | [d] => { results := [.lit (.bool false)], args := [d] }
  | _ => none }
def TopKeepsWrongFalsely : Prop := topKeepsRow.holds Tryz.pinned (OpenSpec.ofChange topKeepsWrong)

/-- 'patternbooktop.TopNames': WHATEVER THE INPUT: true; the input reads as it did. -/
def topNamesSpec : ChangeSpec := { name := "topNames", fn := fun _ => fun
  | [d] => { results := [.lit (.bool true)], args := [d] }
  | _ => none }
def topNamesRow : OpenClaim := { program := "ythhldfpmhmocfaagreatdoor", sum := "dd8fae7e70c5fd165b01739752d5df14ec2ee2972561448c4b68972e2fa61566", func := "patternbook/patternbooktop.TopNames", spec := "topNames", inPlace := ["internal/bytealg.abigen_runtime_cmpstring", "slices.overlaps[patternbook/api.Ref]", "internal/abi.NoEscape"], unfollowed := true, recurses := true, named := ["patternbook/book.words", "patternbook/book.rules", "patternbook/book.kinds", "strconv.ErrSyntax", "strconv.ErrRange", "internal/strconv.uint64pow10", "math/bits.deBruijn32tab", "math/bits.deBruijn64tab"], apart := false, laid := [("math/bits.deBruijn32tab", laid_math_bits_deBruijn32tab), ("math/bits.deBruijn64tab", laid_math_bits_deBruijn64tab), ("internal/strconv.uint64pow10", laid_internal_strconv_uint64pow10), ("strconv.ErrRange", laid_strconv_ErrRange), ("strconv.ErrSyntax", laid_strconv_ErrSyntax), ("patternbook/book.words", laid_patternbook_book_words), ("patternbook/book.kinds", laid_patternbook_book_kinds), ("patternbook/book.rules", laid_patternbook_book_rules)] }
def TopNamesSaid : Prop := topNamesRow.holds Tryz.pinned (OpenSpec.ofChange topNamesSpec)

/-- ITS FALSE NEIGHBOUR: 'it returns false'. Refute it at one input. -/
def topNamesWrong : ChangeSpec := { name := "topNames", fn := fun _ => fun
  | [d] => { results := [.lit (.bool false)], args := [d] }
  | _ => none }
def TopNamesWrongFalsely : Prop := topNamesRow.holds Tryz.pinned (OpenSpec.ofChange topNamesWrong)

/-- 'patternbooktop.TopOld': WHATEVER THE INPUT: true; the input reads as it did. -/
def topOldSpec : ChangeSpec := { name := "topOld", fn := fun _ => fun
  | [d] => { results := [.lit (.bool true)], args := [d] }
  | _ => none }
def topOldRow : OpenClaim := { program := "ythhldfpmhmocfaagreatdoor", sum := "dd8fae7e70c5fd165b01739752d5df14ec2ee2972561448c4b68972e2fa61566", func := "patternbook/patternbooktop.TopOld", spec := "topOld", inPlace := ["internal/bytealg.abigen_runtime_cmpstring", "slices.overlaps[patternbook/api.Ref]", "internal/abi.NoEscape"], unfollowed := true, recurses := true, named := ["patternbook/book.words", "patternbook/book.rules", "patternbook/book.kinds", "strconv.ErrSyntax", "strconv.ErrRange", "internal/strconv.uint64pow10", "math/bits.deBruijn32tab", "math/bits.deBruijn64tab"], apart := false, laid := [("math/bits.deBruijn32tab", laid_math_bits_deBruijn32tab), ("math/bits.deBruijn64tab", laid_math_bits_deBruijn64tab), ("internal/strconv.uint64pow10", laid_internal_strconv_uint64pow10), ("strconv.ErrRange", laid_strconv_ErrRange), ("strconv.ErrSyntax", laid_strconv_ErrSyntax), ("patternbook/book.words", laid_patternbook_book_words), ("patternbook/book.kinds", laid_patternbook_book_kinds), ("patternbook/book.rules", laid_patternbook_book_rules)] }
def TopOldSaid : Prop := topOldRow.holds Tryz.pinned (OpenSpec.ofChange topOldSpec)

/-- ITS FALSE NEIGHBOUR: 'it returns false'. Refute it at one input. -/
def topOldWrong : ChangeSpec := { name := "topOld", fn := fun _ => fun
  | [d] => { results := [.lit (.bool false)], args := [d] }
  | _ => none }
def TopOldWrongFalsely : Prop := topOldRow.holds Tryz.pinned (OpenSpec.ofChange topOldWrong)

/-- 'patternbooktop.TopMerges': WHATEVER THE INPUT: true; the input reads as it did. -/
def topMergesSpec : ChangeSpec := { name := "topMerges", fn := fun _ => fun
  | [d] => { results := [.lit (.bool true)], args := [d] }
  | _ => none }
def topMergesRow : OpenClaim := { program := "ythhldfpmhmocfaagreatdoor", sum := "dd8fae7e70c5fd165b01739752d5df14ec2ee2972561448c4b68972e2fa61566", func := "patternbook/patternbooktop.TopMerges", spec := "topMerges", inPlace := ["internal/bytealg.abigen_runtime_cmpstring", "slices.overlaps[patternbook/api.Ref]", "internal/abi.NoEscape"], unfollowed := true, recurses := true, named := ["patternbook/book.words", "patternbook/book.rules", "patternbook/book.kinds", "strconv.ErrSyntax", "strconv.ErrRange", "internal/strconv.uint64pow10", "math/bits.deBruijn32tab", "math/bits.deBruijn64tab"], apart := false, laid := [("math/bits.deBruijn32tab", laid_math_bits_deBruijn32tab), ("math/bits.deBruijn64tab", laid_math_bits_deBruijn64tab), ("internal/strconv.uint64pow10", laid_internal_strconv_uint64pow10), ("strconv.ErrRange", laid_strconv_ErrRange), ("strconv.ErrSyntax", laid_strconv_ErrSyntax), ("patternbook/book.words", laid_patternbook_book_words), ("patternbook/book.kinds", laid_patternbook_book_kinds), ("patternbook/book.rules", laid_patternbook_book_rules)] }
def TopMergesSaid : Prop := topMergesRow.holds Tryz.pinned (OpenSpec.ofChange topMergesSpec)

/-- ITS FALSE NEIGHBOUR: 'it returns false'. Refute it at one input. -/
def topMergesWrong : ChangeSpec := { name := "topMerges", fn := fun _ => fun
  | [d] => { results := [.lit (.bool false)], args := [d] }
  | _ => none }
def TopMergesWrongFalsely : Prop := topMergesRow.holds Tryz.pinned (OpenSpec.ofChange topMergesWrong)

/-- 'patternbooktop.TopRuns': WHATEVER THE INPUT: true; the input reads as it did. -/
def topRunsSpec : ChangeSpec := { name := "topRuns", fn := fun _ => fun
  | [d1, d2] => { results := [.lit (.bool true)], args := [d1, d2] }
  | _ => none }
def topRunsRow : OpenClaim := { program := "ythhldfpmhmocfaagreatdoor", sum := "dd8fae7e70c5fd165b01739752d5df14ec2ee2972561448c4b68972e2fa61566", func := "patternbook/patternbooktop.TopRuns", spec := "topRuns", inPlace := ["internal/bytealg.abigen_runtime_cmpstring", "slices.overlaps[patternbook/api.Ref]", "internal/abi.NoEscape"], unfollowed := true, recurses := true, named := ["patternbook/book.words", "patternbook/book.rules", "patternbook/book.kinds", "strconv.ErrSyntax", "strconv.ErrRange", "internal/strconv.uint64pow10", "math/bits.deBruijn32tab", "math/bits.deBruijn64tab"], apart := false, laid := [("math/bits.deBruijn32tab", laid_math_bits_deBruijn32tab), ("math/bits.deBruijn64tab", laid_math_bits_deBruijn64tab), ("internal/strconv.uint64pow10", laid_internal_strconv_uint64pow10), ("strconv.ErrRange", laid_strconv_ErrRange), ("strconv.ErrSyntax", laid_strconv_ErrSyntax), ("patternbook/book.words", laid_patternbook_book_words), ("patternbook/book.kinds", laid_patternbook_book_kinds), ("patternbook/book.rules", laid_patternbook_book_rules)] }
def TopRunsSaid : Prop := topRunsRow.holds Tryz.pinned (OpenSpec.ofChange topRunsSpec)

/-- ITS FALSE NEIGHBOUR: 'it returns false'. Refute it at one input. -/
def topRunsWrong : ChangeSpec := { name := "topRuns", fn := fun _ => fun
  | [d1, d2] => { results := [.lit (.bool false)], args := [d1, d2] }
  | _ => none }
def TopRunsWrongFalsely : Prop := topRunsRow.holds Tryz.pinned (OpenSpec.ofChange topRunsWrong)

/-- 'patternbooktop.TopGrows': WHATEVER THE INPUT: true; the input reads as it did. -/
def topGrowsSpec : ChangeSpec := { name := "topGrows", fn := fun _ => fun
  | [d] => { results := [.lit (.bool true)], args := [d] }
  | _ => none }
def topGrowsRow : OpenClaim := { program := "ythhldfpmhmocfaagreatdoor", sum := "dd8fae7e70c5fd165b01739752d5df14ec2ee2972561448c4b68972e2fa61566", func := "patternbook/patternbooktop.TopGrows", spec := "topGrows", inPlace := ["internal/bytealg.abigen_runtime_cmpstring", "slices.overlaps[patternbook/api.Ref]", "internal/abi.NoEscape"], unfollowed := true, recurses := true, named := ["patternbook/book.words", "patternbook/book.rules", "patternbook/book.kinds", "strconv.ErrSyntax", "strconv.ErrRange", "internal/strconv.uint64pow10", "math/bits.deBruijn32tab", "math/bits.deBruijn64tab"], apart := false, laid := [("math/bits.deBruijn32tab", laid_math_bits_deBruijn32tab), ("math/bits.deBruijn64tab", laid_math_bits_deBruijn64tab), ("internal/strconv.uint64pow10", laid_internal_strconv_uint64pow10), ("strconv.ErrRange", laid_strconv_ErrRange), ("strconv.ErrSyntax", laid_strconv_ErrSyntax), ("patternbook/book.words", laid_patternbook_book_words), ("patternbook/book.kinds", laid_patternbook_book_kinds), ("patternbook/book.rules", laid_patternbook_book_rules)] }
def TopGrowsSaid : Prop := topGrowsRow.holds Tryz.pinned (OpenSpec.ofChange topGrowsSpec)

/-- ITS FALSE NEIGHBOUR: 'it returns false'. Refute it at one input. -/
def topGrowsWrong : ChangeSpec := { name := "topGrows", fn := fun _ => fun
  | [d] => { results := [.lit (.bool false)], args := [d] }
  | _ => none }
def TopGrowsWrongFalsely : Prop := topGrowsRow.holds Tryz.pinned (OpenSpec.ofChange topGrowsWrong)

/-- 'patternbooktop.TopShows': WHATEVER THE INPUT: true; the input reads as it did. -/
def topShowsSpec : ChangeSpec := { name := "topShows", fn := fun _ => fun
  | [d1, d2] => { results := [.lit (.bool true)], args := [d1, d2] }
  | _ => none }
def topShowsRow : OpenClaim := { program := "ythhldfpmhmocfaagreatdoor", sum := "dd8fae7e70c5fd165b01739752d5df14ec2ee2972561448c4b68972e2fa61566", func := "patternbook/patternbooktop.TopShows", spec := "topShows", inPlace := ["internal/bytealg.abigen_runtime_cmpstring", "slices.overlaps[patternbook/api.Ref]", "internal/abi.NoEscape"], unfollowed := true, recurses := true, named := ["patternbook/book.words", "patternbook/book.rules", "patternbook/book.kinds", "strconv.ErrSyntax", "strconv.ErrRange", "internal/strconv.uint64pow10", "math/bits.deBruijn32tab", "math/bits.deBruijn64tab"], apart := false, laid := [("math/bits.deBruijn32tab", laid_math_bits_deBruijn32tab), ("math/bits.deBruijn64tab", laid_math_bits_deBruijn64tab), ("internal/strconv.uint64pow10", laid_internal_strconv_uint64pow10), ("strconv.ErrRange", laid_strconv_ErrRange), ("strconv.ErrSyntax", laid_strconv_ErrSyntax), ("patternbook/book.words", laid_patternbook_book_words), ("patternbook/book.kinds", laid_patternbook_book_kinds), ("patternbook/book.rules", laid_patternbook_book_rules)] }
def TopShowsSaid : Prop := topShowsRow.holds Tryz.pinned (OpenSpec.ofChange topShowsSpec)

/-- ITS FALSE NEIGHBOUR: 'it returns false'. Refute it at one input. -/
def topShowsWrong : ChangeSpec := { name := "topShows", fn := fun _ => fun
  | [d1, d2] => { results := [.lit (.bool false)], args := [d1, d2] }
  | _ => none }
def TopShowsWrongFalsely : Prop := topShowsRow.holds Tryz.pinned (OpenSpec.ofChange topShowsWrong)

/-- 'patternbooktop.TopRefused': WHATEVER THE INPUT: true; the input reads as it did. -/
def topRefusedSpec : ChangeSpec := { name := "topRefused", fn := fun _ => fun
  | [d1, d2] => { results := [.lit (.bool true)], args := [d1, d2] }
  | _ => none }
def topRefusedRow : OpenClaim := { program := "ythhldfpmhmocfaagreatdoor", sum := "dd8fae7e70c5fd165b01739752d5df14ec2ee2972561448c4b68972e2fa61566", func := "patternbook/patternbooktop.TopRefused", spec := "topRefused", inPlace := ["internal/bytealg.abigen_runtime_cmpstring", "slices.overlaps[patternbook/api.Ref]", "internal/abi.NoEscape"], unfollowed := true, recurses := true, named := ["patternbook/book.words", "patternbook/book.rules", "patternbook/book.kinds", "strconv.ErrSyntax", "strconv.ErrRange", "internal/strconv.uint64pow10", "math/bits.deBruijn32tab", "math/bits.deBruijn64tab"], apart := false, laid := [("math/bits.deBruijn32tab", laid_math_bits_deBruijn32tab), ("math/bits.deBruijn64tab", laid_math_bits_deBruijn64tab), ("internal/strconv.uint64pow10", laid_internal_strconv_uint64pow10), ("strconv.ErrRange", laid_strconv_ErrRange), ("strconv.ErrSyntax", laid_strconv_ErrSyntax), ("patternbook/book.words", laid_patternbook_book_words), ("patternbook/book.kinds", laid_patternbook_book_kinds), ("patternbook/book.rules", laid_patternbook_book_rules)] }
def TopRefusedSaid : Prop := topRefusedRow.holds Tryz.pinned (OpenSpec.ofChange topRefusedSpec)

/-- ITS FALSE NEIGHBOUR: 'it returns false'. Refute it at one input. -/
def topRefusedWrong : ChangeSpec := { name := "topRefused", fn := fun _ => fun
  | [d1, d2] => { results := [.lit (.bool false)], args := [d1, d2] }
  | _ => none }
def TopRefusedWrongFalsely : Prop := topRefusedRow.holds Tryz.pinned (OpenSpec.ofChange topRefusedWrong)

/-- 'patternbooktop.TopMemory': WHATEVER THE INPUT: true; the input reads as it did. -/
def topMemorySpec : ChangeSpec := { name := "topMemory", fn := fun _ => fun
  | [d] => { results := [.lit (.bool true)], args := [d] }
  | _ => none }
def topMemoryRow : OpenClaim := { program := "ythhldfpmhmocfaagreatdoor", sum := "dd8fae7e70c5fd165b01739752d5df14ec2ee2972561448c4b68972e2fa61566", func := "patternbook/patternbooktop.TopMemory", spec := "topMemory", inPlace := ["internal/bytealg.abigen_runtime_cmpstring", "slices.overlaps[patternbook/api.Ref]", "internal/abi.NoEscape"], unfollowed := true, recurses := true, named := ["patternbook/book.words", "patternbook/book.rules", "patternbook/book.kinds", "strconv.ErrSyntax", "strconv.ErrRange", "internal/strconv.uint64pow10", "math/bits.deBruijn32tab", "math/bits.deBruijn64tab"], apart := false, laid := [("math/bits.deBruijn32tab", laid_math_bits_deBruijn32tab), ("math/bits.deBruijn64tab", laid_math_bits_deBruijn64tab), ("internal/strconv.uint64pow10", laid_internal_strconv_uint64pow10), ("strconv.ErrRange", laid_strconv_ErrRange), ("strconv.ErrSyntax", laid_strconv_ErrSyntax), ("patternbook/book.words", laid_patternbook_book_words), ("patternbook/book.kinds", laid_patternbook_book_kinds), ("patternbook/book.rules", laid_patternbook_book_rules)] }
def TopMemorySaid : Prop := topMemoryRow.holds Tryz.pinned (OpenSpec.ofChange topMemorySpec)

/-- ITS FALSE NEIGHBOUR: 'it returns false'. Refute it at one input. -/
def topMemoryWrong : ChangeSpec := { name := "topMemory", fn := fun _ => fun
  | [d] => { results := [.lit (.bool false)], args := [d] }
  | _ => none }
def TopMemoryWrongFalsely : Prop := topMemoryRow.holds Tryz.pinned (OpenSpec.ofChange topMemoryWrong)

/-- 'patternbooktop.TopEnds': WHATEVER THE INPUT: true; the input reads as it did. -/
def topEndsSpec : ChangeSpec := { name := "topEnds", fn := fun _ => fun
  | [d1, d2] => { results := [.lit (.bool true)], args := [d1, d2] }
  | _ => none }
def topEndsRow : OpenClaim := { program := "ythhldfpmhmocfaagreatdoor", sum := "dd8fae7e70c5fd165b01739752d5df14ec2ee2972561448c4b68972e2fa61566", func := "patternbook/patternbooktop.TopEnds", spec := "topEnds", inPlace := ["internal/bytealg.abigen_runtime_cmpstring", "slices.overlaps[patternbook/api.Ref]", "internal/abi.NoEscape"], unfollowed := true, recurses := true, named := ["patternbook/book.words", "patternbook/book.rules", "patternbook/book.kinds", "strconv.ErrSyntax", "strconv.ErrRange", "internal/strconv.uint64pow10", "math/bits.deBruijn32tab", "math/bits.deBruijn64tab"], apart := false, laid := [("math/bits.deBruijn32tab", laid_math_bits_deBruijn32tab), ("math/bits.deBruijn64tab", laid_math_bits_deBruijn64tab), ("internal/strconv.uint64pow10", laid_internal_strconv_uint64pow10), ("strconv.ErrRange", laid_strconv_ErrRange), ("strconv.ErrSyntax", laid_strconv_ErrSyntax), ("patternbook/book.words", laid_patternbook_book_words), ("patternbook/book.kinds", laid_patternbook_book_kinds), ("patternbook/book.rules", laid_patternbook_book_rules)] }
def TopEndsSaid : Prop := topEndsRow.holds Tryz.pinned (OpenSpec.ofChange topEndsSpec)

/-- ITS FALSE NEIGHBOUR: 'it returns false'. Refute it at one input. -/
def topEndsWrong : ChangeSpec := { name := "topEnds", fn := fun _ => fun
  | [d1, d2] => { results := [.lit (.bool false)], args := [d1, d2] }
  | _ => none }
def TopEndsWrongFalsely : Prop := topEndsRow.holds Tryz.pinned (OpenSpec.ofChange topEndsWrong)

/-- 'patternbooktop.TopReads': WHATEVER THE INPUT: true; the input reads as it did. -/
def topReadsSpec : ChangeSpec := { name := "topReads", fn := fun _ => fun
  | [d1, d2, d3] => { results := [.lit (.bool true)], args := [d1, d2, d3] }
  | _ => none }
def topReadsRow : OpenClaim := { program := "ythhldfpmhmocfaagreatdoor", sum := "dd8fae7e70c5fd165b01739752d5df14ec2ee2972561448c4b68972e2fa61566", func := "patternbook/patternbooktop.TopReads", spec := "topReads", inPlace := ["internal/bytealg.abigen_runtime_cmpstring", "slices.overlaps[patternbook/api.Ref]", "internal/abi.NoEscape"], unfollowed := true, recurses := true, named := ["patternbook/book.words", "patternbook/book.rules", "patternbook/book.kinds", "strconv.ErrSyntax", "strconv.ErrRange", "internal/strconv.uint64pow10", "math/bits.deBruijn32tab", "math/bits.deBruijn64tab"], loops := true, apart := false, laid := [("math/bits.deBruijn32tab", laid_math_bits_deBruijn32tab), ("math/bits.deBruijn64tab", laid_math_bits_deBruijn64tab), ("internal/strconv.uint64pow10", laid_internal_strconv_uint64pow10), ("strconv.ErrRange", laid_strconv_ErrRange), ("strconv.ErrSyntax", laid_strconv_ErrSyntax), ("patternbook/book.words", laid_patternbook_book_words), ("patternbook/book.kinds", laid_patternbook_book_kinds), ("patternbook/book.rules", laid_patternbook_book_rules)] }
def TopReadsSaid : Prop := topReadsRow.holds Tryz.pinned (OpenSpec.ofChange topReadsSpec)

/-- ITS FALSE NEIGHBOUR: 'it returns false'. Refute it at one input. -/
def topReadsWrong : ChangeSpec := { name := "topReads", fn := fun _ => fun
  | [d1, d2, d3] => { results := [.lit (.bool false)], args := [d1, d2, d3] }
  | _ => none }
def TopReadsWrongFalsely : Prop := topReadsRow.holds Tryz.pinned (OpenSpec.ofChange topReadsWrong)

/- THE SECOND FORM. 'bulk': how many values and letters a reading holds, each counted each time it is reached (what is shared counts as often as it is met; a slice's spare places count too). A statement '..UptoSaid' is the law's where the arguments, and the package variables that the reading takes, are together of bulk at most 1048576: NARROWER than '..Said'. Prove '..Said' where nothing that the law and all that it calls make is longer than what came in: it says more and counts as full. Else prove '..UptoSaid'. A law counts once. -/
mutual
def uptoBulk {H : Type} : DataW H → Nat
  | .lit (.string bytes) => bytes.length + 1
  | .lit _ => 1
  | .nil => 1
  | .ptr d => uptoBulk d + 1
  | .slice elems spare => uptoBulkAll elems + uptoBulkAll spare + 1
  | .agg parts => uptoBulkAll parts + 1
  | .iface _ d => uptoBulk d + 1
  | .map entries => uptoBulkEntries entries + 1
  | .held _ => 1
def uptoBulkAll {H : Type} : List (DataW H) → Nat
  | [] => 0
  | d :: r => uptoBulk d + uptoBulkAll r
def uptoBulkEntries {H : Type} : List (Lit × DataW H) → Nat
  | [] => 0
  | x :: r => uptoBulkEntry x + uptoBulkEntries r
def uptoBulkEntry {H : Type} : Lit × DataW H → Nat
  | (.string bytes, d) => bytes.length + uptoBulk d + 1
  | (_, d) => uptoBulk d + 1
 end
def uptoSmall : (H : Type) → List (DataW H) → Bool := fun _ ds => decide (uptoBulkAll ds ≤ 1048576)
def OpenSpec.upto (s : _root_.Go.ChangeSpec) : _root_.Go.OpenSpec := { _root_.Go.OpenSpec.ofChange s with cond := some uptoSmall }

/-- 'patternbooktop.TopKeeps', WHERE WHAT IT READS IS OF BULK AT MOST 1048576: true; the input reads as it did. -/
def topKeepsUptoRow : OpenClaim := { program := "ythhldfpmhmocfaagreatdoor", sum := "dd8fae7e70c5fd165b01739752d5df14ec2ee2972561448c4b68972e2fa61566", func := "patternbook/patternbooktop.TopKeeps", spec := "topKeeps", inPlace := ["internal/bytealg.abigen_runtime_cmpstring", "slices.overlaps[patternbook/api.Ref]", "internal/abi.NoEscape"], unfollowed := true, recurses := true, named := ["patternbook/book.words", "patternbook/book.rules", "patternbook/book.kinds", "strconv.ErrSyntax", "strconv.ErrRange", "internal/strconv.uint64pow10", "math/bits.deBruijn32tab", "math/bits.deBruijn64tab"], apart := false, laid := [("math/bits.deBruijn32tab", laid_math_bits_deBruijn32tab), ("math/bits.deBruijn64tab", laid_math_bits_deBruijn64tab), ("internal/strconv.uint64pow10", laid_internal_strconv_uint64pow10), ("strconv.ErrRange", laid_strconv_ErrRange), ("strconv.ErrSyntax", laid_strconv_ErrSyntax), ("patternbook/book.words", laid_patternbook_book_words), ("patternbook/book.kinds", laid_patternbook_book_kinds), ("patternbook/book.rules", laid_patternbook_book_rules)], narrowed := true }
def TopKeepsUptoSaid : Prop := topKeepsUptoRow.holds Tryz.pinned (OpenSpec.upto topKeepsSpec)

/-- 'patternbooktop.TopNames', WHERE WHAT IT READS IS OF BULK AT MOST 1048576: true; the input reads as it did. -/
def topNamesUptoRow : OpenClaim := { program := "ythhldfpmhmocfaagreatdoor", sum := "dd8fae7e70c5fd165b01739752d5df14ec2ee2972561448c4b68972e2fa61566", func := "patternbook/patternbooktop.TopNames", spec := "topNames", inPlace := ["internal/bytealg.abigen_runtime_cmpstring", "slices.overlaps[patternbook/api.Ref]", "internal/abi.NoEscape"], unfollowed := true, recurses := true, named := ["patternbook/book.words", "patternbook/book.rules", "patternbook/book.kinds", "strconv.ErrSyntax", "strconv.ErrRange", "internal/strconv.uint64pow10", "math/bits.deBruijn32tab", "math/bits.deBruijn64tab"], apart := false, laid := [("math/bits.deBruijn32tab", laid_math_bits_deBruijn32tab), ("math/bits.deBruijn64tab", laid_math_bits_deBruijn64tab), ("internal/strconv.uint64pow10", laid_internal_strconv_uint64pow10), ("strconv.ErrRange", laid_strconv_ErrRange), ("strconv.ErrSyntax", laid_strconv_ErrSyntax), ("patternbook/book.words", laid_patternbook_book_words), ("patternbook/book.kinds", laid_patternbook_book_kinds), ("patternbook/book.rules", laid_patternbook_book_rules)], narrowed := true }
def TopNamesUptoSaid : Prop := topNamesUptoRow.holds Tryz.pinned (OpenSpec.upto topNamesSpec)

/-- 'patternbooktop.TopOld', WHERE WHAT IT READS IS OF BULK AT MOST 1048576: true; the input reads as it did. -/
def topOldUptoRow : OpenClaim := { program := "ythhldfpmhmocfaagreatdoor", sum := "dd8fae7e70c5fd165b01739752d5df14ec2ee2972561448c4b68972e2fa61566", func := "patternbook/patternbooktop.TopOld", spec := "topOld", inPlace := ["internal/bytealg.abigen_runtime_cmpstring", "slices.overlaps[patternbook/api.Ref]", "internal/abi.NoEscape"], unfollowed := true, recurses := true, named := ["patternbook/book.words", "patternbook/book.rules", "patternbook/book.kinds", "strconv.ErrSyntax", "strconv.ErrRange", "internal/strconv.uint64pow10", "math/bits.deBruijn32tab", "math/bits.deBruijn64tab"], apart := false, laid := [("math/bits.deBruijn32tab", laid_math_bits_deBruijn32tab), ("math/bits.deBruijn64tab", laid_math_bits_deBruijn64tab), ("internal/strconv.uint64pow10", laid_internal_strconv_uint64pow10), ("strconv.ErrRange", laid_strconv_ErrRange), ("strconv.ErrSyntax", laid_strconv_ErrSyntax), ("patternbook/book.words", laid_patternbook_book_words), ("patternbook/book.kinds", laid_patternbook_book_kinds), ("patternbook/book.rules", laid_patternbook_book_rules)], narrowed := true }
def TopOldUptoSaid : Prop := topOldUptoRow.holds Tryz.pinned (OpenSpec.upto topOldSpec)

/-- 'patternbooktop.TopMerges', WHERE WHAT IT READS IS OF BULK AT MOST 1048576: true; the input reads as it did. -/
def topMergesUptoRow : OpenClaim := { program := "ythhldfpmhmocfaagreatdoor", sum := "dd8fae7e70c5fd165b01739752d5df14ec2ee2972561448c4b68972e2fa61566", func := "patternbook/patternbooktop.TopMerges", spec := "topMerges", inPlace := ["internal/bytealg.abigen_runtime_cmpstring", "slices.overlaps[patternbook/api.Ref]", "internal/abi.NoEscape"], unfollowed := true, recurses := true, named := ["patternbook/book.words", "patternbook/book.rules", "patternbook/book.kinds", "strconv.ErrSyntax", "strconv.ErrRange", "internal/strconv.uint64pow10", "math/bits.deBruijn32tab", "math/bits.deBruijn64tab"], apart := false, laid := [("math/bits.deBruijn32tab", laid_math_bits_deBruijn32tab), ("math/bits.deBruijn64tab", laid_math_bits_deBruijn64tab), ("internal/strconv.uint64pow10", laid_internal_strconv_uint64pow10), ("strconv.ErrRange", laid_strconv_ErrRange), ("strconv.ErrSyntax", laid_strconv_ErrSyntax), ("patternbook/book.words", laid_patternbook_book_words), ("patternbook/book.kinds", laid_patternbook_book_kinds), ("patternbook/book.rules", laid_patternbook_book_rules)], narrowed := true }
def TopMergesUptoSaid : Prop := topMergesUptoRow.holds Tryz.pinned (OpenSpec.upto topMergesSpec)

/-- 'patternbooktop.TopRuns', WHERE WHAT IT READS IS OF BULK AT MOST 1048576: true; the input reads as it did. -/
def topRunsUptoRow : OpenClaim := { program := "ythhldfpmhmocfaagreatdoor", sum := "dd8fae7e70c5fd165b01739752d5df14ec2ee2972561448c4b68972e2fa61566", func := "patternbook/patternbooktop.TopRuns", spec := "topRuns", inPlace := ["internal/bytealg.abigen_runtime_cmpstring", "slices.overlaps[patternbook/api.Ref]", "internal/abi.NoEscape"], unfollowed := true, recurses := true, named := ["patternbook/book.words", "patternbook/book.rules", "patternbook/book.kinds", "strconv.ErrSyntax", "strconv.ErrRange", "internal/strconv.uint64pow10", "math/bits.deBruijn32tab", "math/bits.deBruijn64tab"], apart := false, laid := [("math/bits.deBruijn32tab", laid_math_bits_deBruijn32tab), ("math/bits.deBruijn64tab", laid_math_bits_deBruijn64tab), ("internal/strconv.uint64pow10", laid_internal_strconv_uint64pow10), ("strconv.ErrRange", laid_strconv_ErrRange), ("strconv.ErrSyntax", laid_strconv_ErrSyntax), ("patternbook/book.words", laid_patternbook_book_words), ("patternbook/book.kinds", laid_patternbook_book_kinds), ("patternbook/book.rules", laid_patternbook_book_rules)], narrowed := true }
def TopRunsUptoSaid : Prop := topRunsUptoRow.holds Tryz.pinned (OpenSpec.upto topRunsSpec)

/-- 'patternbooktop.TopGrows', WHERE WHAT IT READS IS OF BULK AT MOST 1048576: true; the input reads as it did. -/
def topGrowsUptoRow : OpenClaim := { program := "ythhldfpmhmocfaagreatdoor", sum := "dd8fae7e70c5fd165b01739752d5df14ec2ee2972561448c4b68972e2fa61566", func := "patternbook/patternbooktop.TopGrows", spec := "topGrows", inPlace := ["internal/bytealg.abigen_runtime_cmpstring", "slices.overlaps[patternbook/api.Ref]", "internal/abi.NoEscape"], unfollowed := true, recurses := true, named := ["patternbook/book.words", "patternbook/book.rules", "patternbook/book.kinds", "strconv.ErrSyntax", "strconv.ErrRange", "internal/strconv.uint64pow10", "math/bits.deBruijn32tab", "math/bits.deBruijn64tab"], apart := false, laid := [("math/bits.deBruijn32tab", laid_math_bits_deBruijn32tab), ("math/bits.deBruijn64tab", laid_math_bits_deBruijn64tab), ("internal/strconv.uint64pow10", laid_internal_strconv_uint64pow10), ("strconv.ErrRange", laid_strconv_ErrRange), ("strconv.ErrSyntax", laid_strconv_ErrSyntax), ("patternbook/book.words", laid_patternbook_book_words), ("patternbook/book.kinds", laid_patternbook_book_kinds), ("patternbook/book.rules", laid_patternbook_book_rules)], narrowed := true }
def TopGrowsUptoSaid : Prop := topGrowsUptoRow.holds Tryz.pinned (OpenSpec.upto topGrowsSpec)

/-- 'patternbooktop.TopShows', WHERE WHAT IT READS IS OF BULK AT MOST 1048576: true; the input reads as it did. -/
def topShowsUptoRow : OpenClaim := { program := "ythhldfpmhmocfaagreatdoor", sum := "dd8fae7e70c5fd165b01739752d5df14ec2ee2972561448c4b68972e2fa61566", func := "patternbook/patternbooktop.TopShows", spec := "topShows", inPlace := ["internal/bytealg.abigen_runtime_cmpstring", "slices.overlaps[patternbook/api.Ref]", "internal/abi.NoEscape"], unfollowed := true, recurses := true, named := ["patternbook/book.words", "patternbook/book.rules", "patternbook/book.kinds", "strconv.ErrSyntax", "strconv.ErrRange", "internal/strconv.uint64pow10", "math/bits.deBruijn32tab", "math/bits.deBruijn64tab"], apart := false, laid := [("math/bits.deBruijn32tab", laid_math_bits_deBruijn32tab), ("math/bits.deBruijn64tab", laid_math_bits_deBruijn64tab), ("internal/strconv.uint64pow10", laid_internal_strconv_uint64pow10), ("strconv.ErrRange", laid_strconv_ErrRange), ("strconv.ErrSyntax", laid_strconv_ErrSyntax), ("patternbook/book.words", laid_patternbook_book_words), ("patternbook/book.kinds", laid_patternbook_book_kinds), ("patternbook/book.rules", laid_patternbook_book_rules)], narrowed := true }
def TopShowsUptoSaid : Prop := topShowsUptoRow.holds Tryz.pinned (OpenSpec.upto topShowsSpec)

/-- 'patternbooktop.TopRefused', WHERE WHAT IT READS IS OF BULK AT MOST 1048576: true; the input reads as it did. -/
def topRefusedUptoRow : OpenClaim := { program := "ythhldfpmhmocfaagreatdoor", sum := "dd8fae7e70c5fd165b01739752d5df14ec2ee2972561448c4b68972e2fa61566", func := "patternbook/patternbooktop.TopRefused", spec := "topRefused", inPlace := ["internal/bytealg.abigen_runtime_cmpstring", "slices.overlaps[patternbook/api.Ref]", "internal/abi.NoEscape"], unfollowed := true, recurses := true, named := ["patternbook/book.words", "patternbook/book.rules", "patternbook/book.kinds", "strconv.ErrSyntax", "strconv.ErrRange", "internal/strconv.uint64pow10", "math/bits.deBruijn32tab", "math/bits.deBruijn64tab"], apart := false, laid := [("math/bits.deBruijn32tab", laid_math_bits_deBruijn32tab), ("math/bits.deBruijn64tab", laid_math_bits_deBruijn64tab), ("internal/strconv.uint64pow10", laid_internal_strconv_uint64pow10), ("strconv.ErrRange", laid_strconv_ErrRange), ("strconv.ErrSyntax", laid_strconv_ErrSyntax), ("patternbook/book.words", laid_patternbook_book_words), ("patternbook/book.kinds", laid_patternbook_book_kinds), ("patternbook/book.rules", laid_patternbook_book_rules)], narrowed := true }
def TopRefusedUptoSaid : Prop := topRefusedUptoRow.holds Tryz.pinned (OpenSpec.upto topRefusedSpec)

/-- 'patternbooktop.TopMemory', WHERE WHAT IT READS IS OF BULK AT MOST 1048576: true; the input reads as it did. -/
def topMemoryUptoRow : OpenClaim := { program := "ythhldfpmhmocfaagreatdoor", sum := "dd8fae7e70c5fd165b01739752d5df14ec2ee2972561448c4b68972e2fa61566", func := "patternbook/patternbooktop.TopMemory", spec := "topMemory", inPlace := ["internal/bytealg.abigen_runtime_cmpstring", "slices.overlaps[patternbook/api.Ref]", "internal/abi.NoEscape"], unfollowed := true, recurses := true, named := ["patternbook/book.words", "patternbook/book.rules", "patternbook/book.kinds", "strconv.ErrSyntax", "strconv.ErrRange", "internal/strconv.uint64pow10", "math/bits.deBruijn32tab", "math/bits.deBruijn64tab"], apart := false, laid := [("math/bits.deBruijn32tab", laid_math_bits_deBruijn32tab), ("math/bits.deBruijn64tab", laid_math_bits_deBruijn64tab), ("internal/strconv.uint64pow10", laid_internal_strconv_uint64pow10), ("strconv.ErrRange", laid_strconv_ErrRange), ("strconv.ErrSyntax", laid_strconv_ErrSyntax), ("patternbook/book.words", laid_patternbook_book_words), ("patternbook/book.kinds", laid_patternbook_book_kinds), ("patternbook/book.rules", laid_patternbook_book_rules)], narrowed := true }
def TopMemoryUptoSaid : Prop := topMemoryUptoRow.holds Tryz.pinned (OpenSpec.upto topMemorySpec)

/-- 'patternbooktop.TopEnds', WHERE WHAT IT READS IS OF BULK AT MOST 1048576: true; the input reads as it did. -/
def topEndsUptoRow : OpenClaim := { program := "ythhldfpmhmocfaagreatdoor", sum := "dd8fae7e70c5fd165b01739752d5df14ec2ee2972561448c4b68972e2fa61566", func := "patternbook/patternbooktop.TopEnds", spec := "topEnds", inPlace := ["internal/bytealg.abigen_runtime_cmpstring", "slices.overlaps[patternbook/api.Ref]", "internal/abi.NoEscape"], unfollowed := true, recurses := true, named := ["patternbook/book.words", "patternbook/book.rules", "patternbook/book.kinds", "strconv.ErrSyntax", "strconv.ErrRange", "internal/strconv.uint64pow10", "math/bits.deBruijn32tab", "math/bits.deBruijn64tab"], apart := false, laid := [("math/bits.deBruijn32tab", laid_math_bits_deBruijn32tab), ("math/bits.deBruijn64tab", laid_math_bits_deBruijn64tab), ("internal/strconv.uint64pow10", laid_internal_strconv_uint64pow10), ("strconv.ErrRange", laid_strconv_ErrRange), ("strconv.ErrSyntax", laid_strconv_ErrSyntax), ("patternbook/book.words", laid_patternbook_book_words), ("patternbook/book.kinds", laid_patternbook_book_kinds), ("patternbook/book.rules", laid_patternbook_book_rules)], narrowed := true }
def TopEndsUptoSaid : Prop := topEndsUptoRow.holds Tryz.pinned (OpenSpec.upto topEndsSpec)

/-- 'patternbooktop.TopReads', WHERE WHAT IT READS IS OF BULK AT MOST 1048576: true; the input reads as it did. -/
def topReadsUptoRow : OpenClaim := { program := "ythhldfpmhmocfaagreatdoor", sum := "dd8fae7e70c5fd165b01739752d5df14ec2ee2972561448c4b68972e2fa61566", func := "patternbook/patternbooktop.TopReads", spec := "topReads", inPlace := ["internal/bytealg.abigen_runtime_cmpstring", "slices.overlaps[patternbook/api.Ref]", "internal/abi.NoEscape"], unfollowed := true, recurses := true, named := ["patternbook/book.words", "patternbook/book.rules", "patternbook/book.kinds", "strconv.ErrSyntax", "strconv.ErrRange", "internal/strconv.uint64pow10", "math/bits.deBruijn32tab", "math/bits.deBruijn64tab"], loops := true, apart := false, laid := [("math/bits.deBruijn32tab", laid_math_bits_deBruijn32tab), ("math/bits.deBruijn64tab", laid_math_bits_deBruijn64tab), ("internal/strconv.uint64pow10", laid_internal_strconv_uint64pow10), ("strconv.ErrRange", laid_strconv_ErrRange), ("strconv.ErrSyntax", laid_strconv_ErrSyntax), ("patternbook/book.words", laid_patternbook_book_words), ("patternbook/book.kinds", laid_patternbook_book_kinds), ("patternbook/book.rules", laid_patternbook_book_rules)], narrowed := true }
def TopReadsUptoSaid : Prop := topReadsUptoRow.holds Tryz.pinned (OpenSpec.upto topReadsSpec)

end Rows
end Go.Proofs.YthhldfpmhmocfaaGreatDoor
