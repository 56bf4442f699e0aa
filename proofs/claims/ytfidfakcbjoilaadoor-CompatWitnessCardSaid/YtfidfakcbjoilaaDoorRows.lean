/-
  NARROWER THAN 'FOR EVERY INPUT', by the rows' own cells (each row's printed sentence says how): CompatSelf: loops, laid · CompatReads: loops, laid · CompatWitness: laid.
  DERIVED. THE GIVEN ROWS OF THIS SEAT. 3 by the template 'for every input the law returns true; each argument reads behind the call as it read before'; 0 by the template 'total and deterministic' (their statements: YtfidfakcbjoilaaDoorTotals.lean).
  GIVEN WITH THE SEED: the statements are not yours to turn. If you find one false, say at which input.
  Laid BY PROGRAM, IN A SANDBOX (cutbox-rows.mjs): the forced cells as the released guide's own fill.sh prints them over the translation 2bb4f7dd34148d9e… (all of the seat's roots in one cut). By AI agents, Wed Nov 11 2026. No macro, syntax, notation, axiom, sorry.
-/
import Derived.Test.YtfidfakcbjoilaaDoorChecked
import GoSem.Claim
import GoSem.ClaimJoined
import GoSem.ClaimMapViews
import Derived.JoinedTies
import Derived.KernelRfl
namespace Go.Proofs.YtfidfakcbjoilaaDoor
/- THE CELL 'sum', in the pinned program and in every row, IS THE sha256 OF THE DUMP (.gsa) THAT YtfidfakcbjoilaaDoorProg.lean LOADS. Nothing in Lean hashes anything: it is a label: what it is worth is what the hold of that sum in a sandbox is worth. -/
noncomputable def Tryd.pinned : Pinned := { name := "ytfidfakcbjoilaadoor", sum := "2bb4f7dd34148d9e343247c5cfb878e1c24e64a8c2cd2130030666312154d7eb", checked := Tryd.checked }
namespace Rows
def none {H : Type} : Left H := { results := [], args := [] }

/- WHAT THE LISTED PACKAGE-LEVEL VARIABLES READ AS WHEN THE CALL BEGINS. Each datum BY PROGRAM (the guide's laid-datum.mjs) off the statement by which the dump's own 'gosem.cut.vars' lays the variable. In a bare row this is a premise. The card (YtfidfakcbjoilaaDoorCards.lean) ties it to the program's text. -/
def laid_patternbook_book_words {H : Type} : DataW H := .slice [.lit (.string [98, 111, 111, 108]), .lit (.string [101, 110, 117, 109]), .lit (.string [103, 111, 110, 101]), .lit (.string [105, 110, 116]), .lit (.string [109, 97, 110, 121]), .lit (.string [109, 97, 121, 98, 101]), .lit (.string [109, 101, 115, 115, 97, 103, 101]), .lit (.string [111, 110, 101]), .lit (.string [116, 101, 120, 116])] []

/-- 'patternbookkeep.CompatSelf': WHATEVER THE INPUT: true; the input reads as it did. -/
def compatSelfSpec : ChangeSpec := { name := "compatSelf", fn := fun _ => fun
  | [d1, d2, d3] => { results := [.lit (.bool true)], args := [d1, d2, d3] }
  | _ => none }
def compatSelfRow : OpenClaim := { program := "ytfidfakcbjoilaadoor", sum := "2bb4f7dd34148d9e343247c5cfb878e1c24e64a8c2cd2130030666312154d7eb", func := "patternbook/patternbookkeep.CompatSelf", spec := "compatSelf", inPlace := ["internal/bytealg.abigen_runtime_cmpstring"], unfollowed := true, recurses := true, named := ["patternbook/book.words"], loops := true, apart := false, laid := [("patternbook/book.words", laid_patternbook_book_words)] }
def CompatSelfSaid : Prop := compatSelfRow.holds Tryd.pinned (OpenSpec.ofChange compatSelfSpec)

/-- ITS FALSE NEIGHBOUR: 'it returns false'. Refute it at one input. -/
def compatSelfWrong : ChangeSpec := { name := "compatSelf", fn := fun _ => fun
  | [d1, d2, d3] => { results := [.lit (.bool false)], args := [d1, d2, d3] }
  | _ => none }
def CompatSelfWrongFalsely : Prop := compatSelfRow.holds Tryd.pinned (OpenSpec.ofChange compatSelfWrong)

/-- 'patternbookkeep.CompatReads': WHATEVER THE INPUT: true; the input reads as it did. -/
def compatReadsSpec : ChangeSpec := { name := "compatReads", fn := fun _ => fun
  | [d1, d2, d3, d4] => { results := [.lit (.bool true)], args := [d1, d2, d3, d4] }
  | _ => none }
def compatReadsRow : OpenClaim := { program := "ytfidfakcbjoilaadoor", sum := "2bb4f7dd34148d9e343247c5cfb878e1c24e64a8c2cd2130030666312154d7eb", func := "patternbook/patternbookkeep.CompatReads", spec := "compatReads", inPlace := ["internal/bytealg.abigen_runtime_cmpstring"], unfollowed := true, recurses := true, named := ["patternbook/book.words"], loops := true, apart := false, laid := [("patternbook/book.words", laid_patternbook_book_words)] }
def CompatReadsSaid : Prop := compatReadsRow.holds Tryd.pinned (OpenSpec.ofChange compatReadsSpec)

/-- ITS FALSE NEIGHBOUR: 'it returns false'. Refute it at one input. -/
def compatReadsWrong : ChangeSpec := { name := "compatReads", fn := fun _ => fun
  | [d1, d2, d3, d4] => { results := [.lit (.bool false)], args := [d1, d2, d3, d4] }
  | _ => none }
def CompatReadsWrongFalsely : Prop := compatReadsRow.holds Tryd.pinned (OpenSpec.ofChange compatReadsWrong)

/-- 'patternbookkeep.CompatWitness': WHATEVER THE INPUT: true; the input reads as it did. -/
def compatWitnessSpec : ChangeSpec := { name := "compatWitness", fn := fun _ => fun
  | [d1, d2, d3] => { results := [.lit (.bool true)], args := [d1, d2, d3] }
  | _ => none }
def compatWitnessRow : OpenClaim := { program := "ytfidfakcbjoilaadoor", sum := "2bb4f7dd34148d9e343247c5cfb878e1c24e64a8c2cd2130030666312154d7eb", func := "patternbook/patternbookkeep.CompatWitness", spec := "compatWitness", inPlace := ["internal/bytealg.abigen_runtime_cmpstring"], unfollowed := true, recurses := true, named := ["patternbook/book.words"], apart := false, laid := [("patternbook/book.words", laid_patternbook_book_words)] }
def CompatWitnessSaid : Prop := compatWitnessRow.holds Tryd.pinned (OpenSpec.ofChange compatWitnessSpec)

/-- ITS FALSE NEIGHBOUR: 'it returns false'. Refute it at one input. -/
def compatWitnessWrong : ChangeSpec := { name := "compatWitness", fn := fun _ => fun
  | [d1, d2, d3] => { results := [.lit (.bool false)], args := [d1, d2, d3] }
  | _ => none }
def CompatWitnessWrongFalsely : Prop := compatWitnessRow.holds Tryd.pinned (OpenSpec.ofChange compatWitnessWrong)

/- THE SECOND FORM. 'bulk': how many values and letters a reading holds, each counted each time it is reached (what is shared counts as often as it is met; a slice's spare places count too). A statement '..UptoSaid' is the law's where the arguments, and the package variables that the reading takes, are together of bulk at most 1048576: NARROWER than '..Said'. Prove '..Said' where nothing that the law and all that it calls make is longer than what came in: it says more and counts as full. Else prove '..UptoSaid'. A law counts once. -/
mutual
def uptoBulk {H : Type} : DataW H → Nat
  | .lit (.string bytes) => bytes.length + 1
  | .lit _ => 1
  | .nil => 1
  | .ptr d => uptoBulk d + 1
  | .slice elems spare => uptoBulkAll elems + uptoBulkAll spare + 1
  | .agg parts => uptoBulkAll parts + 1
  | .iface _ d => uptoBulk d + 1
  | .map entries => uptoBulkEntries entries + 1
  | .held _ => 1
def uptoBulkAll {H : Type} : List (DataW H) → Nat
  | [] => 0
  | d :: r => uptoBulk d + uptoBulkAll r
def uptoBulkEntries {H : Type} : List (Lit × DataW H) → Nat
  | [] => 0
  | x :: r => uptoBulkEntry x + uptoBulkEntries r
def uptoBulkEntry {H : Type} : Lit × DataW H → Nat
  | (.string bytes, d) => bytes.length + uptoBulk d + 1
  | (_, d) => uptoBulk d + 1
 end
def uptoSmall : (H : Type) → List (DataW H) → Bool := fun _ ds => decide (uptoBulkAll ds ≤ 1048576)
def OpenSpec.upto (s : _root_.Go.ChangeSpec) : _root_.Go.OpenSpec := { _root_.Go.OpenSpec.ofChange s with cond := some uptoSmall }

/-- 'patternbookkeep.CompatSelf', WHERE WHAT IT READS IS OF BULK AT MOST 1048576: true; the input reads as it did. -/
def compatSelfUptoRow : OpenClaim := { program := "ytfidfakcbjoilaadoor", sum := "2bb4f7dd34148d9e343247c5cfb878e1c24e64a8c2cd2130030666312154d7eb", func := "patternbook/patternbookkeep.CompatSelf", spec := "compatSelf", inPlace := ["internal/bytealg.abigen_runtime_cmpstring"], unfollowed := true, recurses := true, named := ["patternbook/book.words"], loops := true, apart := false, laid := [("patternbook/book.words", laid_patternbook_book_words)], narrowed := true }
def CompatSelfUptoSaid : Prop := compatSelfUptoRow.holds Tryd.pinned (OpenSpec.upto compatSelfSpec)

/-- 'patternbookkeep.CompatReads', WHERE WHAT IT READS IS OF BULK AT MOST 1048576: true; the input reads as it did. -/
def compatReadsUptoRow : OpenClaim := { program := "ytfidfakcbjoilaadoor", sum := "2bb4f7dd34148d9e343247c5cfb878e1c24e64a8c2cd2130030666312154d7eb", func := "patternbook/patternbookkeep.CompatReads", spec := "compatReads", inPlace := ["internal/bytealg.abigen_runtime_cmpstring"], unfollowed := true, recurses := true, named := ["patternbook/book.words"], loops := true, apart := false, laid := [("patternbook/book.words", laid_patternbook_book_words)], narrowed := true }
def CompatReadsUptoSaid : Prop := compatReadsUptoRow.holds Tryd.pinned (OpenSpec.upto compatReadsSpec)

/-- 'patternbookkeep.CompatWitness', WHERE WHAT IT READS IS OF BULK AT MOST 1048576: true; the input reads as it did. -/
def compatWitnessUptoRow : OpenClaim := { program := "ytfidfakcbjoilaadoor", sum := "2bb4f7dd34148d9e343247c5cfb878e1c24e64a8c2cd2130030666312154d7eb", func := "patternbook/patternbookkeep.CompatWitness", spec := "compatWitness", inPlace := ["internal/bytealg.abigen_runtime_cmpstring"], unfollowed := true, recurses := true, named := ["patternbook/book.words"], apart := false, laid := [("patternbook/book.words", laid_patternbook_book_words)], narrowed := true }
def CompatWitnessUptoSaid : Prop := compatWitnessUptoRow.holds Tryd.pinned (OpenSpec.upto compatWitnessSpec)

end Rows
end Go.Proofs.YtfidfakcbjoilaaDoor
