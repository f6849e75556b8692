/-
  No cell of these rows narrows 'for every input' (looked for: loops, veiled, ifaces, maps, wideKeys, modest, calm, conditions, laid).
  DERIVED. THE GIVEN ROWS OF THIS SEAT. 12 by the template 'for every input the law returns true; each argument reads behind the call as it read before'; 0 by the template 'total and deterministic' (their statements: YtpbjpochjagicaaTotals.lean).
  GIVEN WITH THE SEED: the statements are not yours to turn. If you find one false, say at which input.
  Laid BY PROGRAM, IN A SANDBOX (cutbox-rows.mjs): the forced cells as the released guide's own fill.sh prints them over the translation d4c02e7212caf507… (all of the seat's roots in one cut). By AI agents, Wed Nov 11 2026. No macro, syntax, notation, axiom, sorry.
-/
import Derived.Test.YtpbjpochjagicaaChecked
import GoSem.Claim
import GoSem.ClaimJoined
import GoSem.ClaimMapViews
import Derived.JoinedTies
import Derived.KernelRfl
namespace Go.Proofs.Ytpbjpochjagicaa
/- THE CELL 'sum', in the pinned program and in every row, IS THE sha256 OF THE DUMP (.gsa) THAT YtpbjpochjagicaaProg.lean LOADS. Nothing in Lean hashes anything: it is a label: what it is worth is what the hold of that sum in a sandbox is worth. -/
noncomputable def Try.pinned : Pinned := { name := "ytpbjpochjagicaa", sum := "d4c02e7212caf5076563df885b717e121ef1f5350b9016823e55b7a87918821b", checked := Try.checked }
namespace Rows
def none {H : Type} : Left H := { results := [], args := [] }

/-- 'couchettelaw02.LineWorked': WHATEVER THE INPUT: true; the input reads as it did. -/
def lineWorkedSpec : ChangeSpec := { name := "lineWorked", fn := fun _ => fun
  | [d] => { results := [.lit (.bool true)], args := [d] }
  | _ => none }
def lineWorkedRow : OpenClaim := { program := "ytpbjpochjagicaa", sum := "d4c02e7212caf5076563df885b717e121ef1f5350b9016823e55b7a87918821b", func := "couchette/couchettelaw02.LineWorked", spec := "lineWorked", unfollowed := true, recurses := true, plainKeys := false, apart := false }
def LineWorkedSaid : Prop := lineWorkedRow.holds Try.pinned (OpenSpec.ofChange lineWorkedSpec)

/-- ITS FALSE NEIGHBOUR: 'it returns false'. Refute it at one input. -/
def lineWorkedWrong : ChangeSpec := { name := "lineWorked", fn := fun _ => fun
  | [d] => { results := [.lit (.bool false)], args := [d] }
  | _ => none }
def LineWorkedWrongFalsely : Prop := lineWorkedRow.holds Try.pinned (OpenSpec.ofChange lineWorkedWrong)

/-- 'couchettelaw02.LineRenamed': WHATEVER THE INPUT: true; the input reads as it did. -/
def lineRenamedSpec : ChangeSpec := { name := "lineRenamed", fn := fun _ => fun
  | [d] => { results := [.lit (.bool true)], args := [d] }
  | _ => none }
def lineRenamedRow : OpenClaim := { program := "ytpbjpochjagicaa", sum := "d4c02e7212caf5076563df885b717e121ef1f5350b9016823e55b7a87918821b", func := "couchette/couchettelaw02.LineRenamed", spec := "lineRenamed", unfollowed := true, recurses := true, plainKeys := false, apart := false }
def LineRenamedSaid : Prop := lineRenamedRow.holds Try.pinned (OpenSpec.ofChange lineRenamedSpec)

/-- ITS FALSE NEIGHBOUR: 'it returns false'. Refute it at one input. -/
def lineRenamedWrong : ChangeSpec := { name := "lineRenamed", fn := fun _ => fun
  | [d] => { results := [.lit (.bool false)], args := [d] }
  | _ => none }
def LineRenamedWrongFalsely : Prop := lineRenamedRow.holds Try.pinned (OpenSpec.ofChange lineRenamedWrong)

/-- 'couchettelaw02.LineBarred': WHATEVER THE INPUT: true; the input reads as it did. -/
def lineBarredSpec : ChangeSpec := { name := "lineBarred", fn := fun _ => fun
  | [d] => { results := [.lit (.bool true)], args := [d] }
  | _ => none }
def lineBarredRow : OpenClaim := { program := "ytpbjpochjagicaa", sum := "d4c02e7212caf5076563df885b717e121ef1f5350b9016823e55b7a87918821b", func := "couchette/couchettelaw02.LineBarred", spec := "lineBarred", unfollowed := true, recurses := true, plainKeys := false, apart := false }
def LineBarredSaid : Prop := lineBarredRow.holds Try.pinned (OpenSpec.ofChange lineBarredSpec)

/-- ITS FALSE NEIGHBOUR: 'it returns false'. Refute it at one input. -/
def lineBarredWrong : ChangeSpec := { name := "lineBarred", fn := fun _ => fun
  | [d] => { results := [.lit (.bool false)], args := [d] }
  | _ => none }
def LineBarredWrongFalsely : Prop := lineBarredRow.holds Try.pinned (OpenSpec.ofChange lineBarredWrong)

/-- 'couchettelaw02.LineFirst': WHATEVER THE INPUT: true; the input reads as it did. -/
def lineFirstSpec : ChangeSpec := { name := "lineFirst", fn := fun _ => fun
  | [d1, d2, d3, d4, d5, d6] => { results := [.lit (.bool true)], args := [d1, d2, d3, d4, d5, d6] }
  | _ => none }
def lineFirstRow : OpenClaim := { program := "ytpbjpochjagicaa", sum := "d4c02e7212caf5076563df885b717e121ef1f5350b9016823e55b7a87918821b", func := "couchette/couchettelaw02.LineFirst", spec := "lineFirst", unfollowed := true, recurses := true, plainKeys := false, apart := false }
def LineFirstSaid : Prop := lineFirstRow.holds Try.pinned (OpenSpec.ofChange lineFirstSpec)

/-- ITS FALSE NEIGHBOUR: 'it returns false'. Refute it at one input. -/
def lineFirstWrong : ChangeSpec := { name := "lineFirst", fn := fun _ => fun
  | [d1, d2, d3, d4, d5, d6] => { results := [.lit (.bool false)], args := [d1, d2, d3, d4, d5, d6] }
  | _ => none }
def LineFirstWrongFalsely : Prop := lineFirstRow.holds Try.pinned (OpenSpec.ofChange lineFirstWrong)

/-- 'couchettelaw02.LineBack': WHATEVER THE INPUT: true; the input reads as it did. -/
def lineBackSpec : ChangeSpec := { name := "lineBack", fn := fun _ => fun
  | [d] => { results := [.lit (.bool true)], args := [d] }
  | _ => none }
def lineBackRow : OpenClaim := { program := "ytpbjpochjagicaa", sum := "d4c02e7212caf5076563df885b717e121ef1f5350b9016823e55b7a87918821b", func := "couchette/couchettelaw02.LineBack", spec := "lineBack", unfollowed := true, recurses := true, plainKeys := false, apart := false }
def LineBackSaid : Prop := lineBackRow.holds Try.pinned (OpenSpec.ofChange lineBackSpec)

/-- ITS FALSE NEIGHBOUR: 'it returns false'. Refute it at one input. -/
def lineBackWrong : ChangeSpec := { name := "lineBack", fn := fun _ => fun
  | [d] => { results := [.lit (.bool false)], args := [d] }
  | _ => none }
def LineBackWrongFalsely : Prop := lineBackRow.holds Try.pinned (OpenSpec.ofChange lineBackWrong)

/-- 'couchettelaw02.LineGiven': WHATEVER THE INPUT: true; the input reads as it did. -/
def lineGivenSpec : ChangeSpec := { name := "lineGiven", fn := fun _ => fun
  | [d] => { results := [.lit (.bool true)], args := [d] }
  | _ => none }
def lineGivenRow : OpenClaim := { program := "ytpbjpochjagicaa", sum := "d4c02e7212caf5076563df885b717e121ef1f5350b9016823e55b7a87918821b", func := "couchette/couchettelaw02.LineGiven", spec := "lineGiven", unfollowed := true, recurses := true, plainKeys := false, apart := false }
def LineGivenSaid : Prop := lineGivenRow.holds Try.pinned (OpenSpec.ofChange lineGivenSpec)

/-- ITS FALSE NEIGHBOUR: 'it returns false'. Refute it at one input. -/
def lineGivenWrong : ChangeSpec := { name := "lineGiven", fn := fun _ => fun
  | [d] => { results := [.lit (.bool false)], args := [d] }
  | _ => none }
def LineGivenWrongFalsely : Prop := lineGivenRow.holds Try.pinned (OpenSpec.ofChange lineGivenWrong)

/-- 'couchettelaw02.LineBetter': WHATEVER THE INPUT: true; the input reads as it did. -/
def lineBetterSpec : ChangeSpec := { name := "lineBetter", fn := fun _ => fun
  | [d] => { results := [.lit (.bool true)], args := [d] }
  | _ => none }
def lineBetterRow : OpenClaim := { program := "ytpbjpochjagicaa", sum := "d4c02e7212caf5076563df885b717e121ef1f5350b9016823e55b7a87918821b", func := "couchette/couchettelaw02.LineBetter", spec := "lineBetter", unfollowed := true, recurses := true, plainKeys := false, apart := false }
def LineBetterSaid : Prop := lineBetterRow.holds Try.pinned (OpenSpec.ofChange lineBetterSpec)

/-- ITS FALSE NEIGHBOUR: 'it returns false'. Refute it at one input. -/
def lineBetterWrong : ChangeSpec := { name := "lineBetter", fn := fun _ => fun
  | [d] => { results := [.lit (.bool false)], args := [d] }
  | _ => none }
def LineBetterWrongFalsely : Prop := lineBetterRow.holds Try.pinned (OpenSpec.ofChange lineBetterWrong)

/-- 'couchettelaw02.LineBars': WHATEVER THE INPUT: true; the input reads as it did. -/
def lineBarsSpec : ChangeSpec := { name := "lineBars", fn := fun _ => fun
  | [d1, d2, d3, d4] => { results := [.lit (.bool true)], args := [d1, d2, d3, d4] }
  | _ => none }
def lineBarsRow : OpenClaim := { program := "ytpbjpochjagicaa", sum := "d4c02e7212caf5076563df885b717e121ef1f5350b9016823e55b7a87918821b", func := "couchette/couchettelaw02.LineBars", spec := "lineBars", unfollowed := true, recurses := true, plainKeys := false, apart := false }
def LineBarsSaid : Prop := lineBarsRow.holds Try.pinned (OpenSpec.ofChange lineBarsSpec)

/-- ITS FALSE NEIGHBOUR: 'it returns false'. Refute it at one input. -/
def lineBarsWrong : ChangeSpec := { name := "lineBars", fn := fun _ => fun
  | [d1, d2, d3, d4] => { results := [.lit (.bool false)], args := [d1, d2, d3, d4] }
  | _ => none }
def LineBarsWrongFalsely : Prop := lineBarsRow.holds Try.pinned (OpenSpec.ofChange lineBarsWrong)

/-- 'couchettelaw02.LineShortest': WHATEVER THE INPUT: true; the input reads as it did. -/
def lineShortestSpec : ChangeSpec := { name := "lineShortest", fn := fun _ => fun
  | [d] => { results := [.lit (.bool true)], args := [d] }
  | _ => none }
def lineShortestRow : OpenClaim := { program := "ytpbjpochjagicaa", sum := "d4c02e7212caf5076563df885b717e121ef1f5350b9016823e55b7a87918821b", func := "couchette/couchettelaw02.LineShortest", spec := "lineShortest", unfollowed := true, recurses := true, plainKeys := false, apart := false }
def LineShortestSaid : Prop := lineShortestRow.holds Try.pinned (OpenSpec.ofChange lineShortestSpec)

/-- ITS FALSE NEIGHBOUR: 'it returns false'. Refute it at one input. -/
def lineShortestWrong : ChangeSpec := { name := "lineShortest", fn := fun _ => fun
  | [d] => { results := [.lit (.bool false)], args := [d] }
  | _ => none }
def LineShortestWrongFalsely : Prop := lineShortestRow.holds Try.pinned (OpenSpec.ofChange lineShortestWrong)

/-- 'couchettelaw02.LineHeaviest': WHATEVER THE INPUT: true; the input reads as it did. -/
def lineHeaviestSpec : ChangeSpec := { name := "lineHeaviest", fn := fun _ => fun
  | [d] => { results := [.lit (.bool true)], args := [d] }
  | _ => none }
def lineHeaviestRow : OpenClaim := { program := "ytpbjpochjagicaa", sum := "d4c02e7212caf5076563df885b717e121ef1f5350b9016823e55b7a87918821b", func := "couchette/couchettelaw02.LineHeaviest", spec := "lineHeaviest", unfollowed := true, recurses := true, plainKeys := false, apart := false }
def LineHeaviestSaid : Prop := lineHeaviestRow.holds Try.pinned (OpenSpec.ofChange lineHeaviestSpec)

/-- ITS FALSE NEIGHBOUR: 'it returns false'. Refute it at one input. -/
def lineHeaviestWrong : ChangeSpec := { name := "lineHeaviest", fn := fun _ => fun
  | [d] => { results := [.lit (.bool false)], args := [d] }
  | _ => none }
def LineHeaviestWrongFalsely : Prop := lineHeaviestRow.holds Try.pinned (OpenSpec.ofChange lineHeaviestWrong)

/-- 'couchettelaw02.LineReached': WHATEVER THE INPUT: true; the input reads as it did. -/
def lineReachedSpec : ChangeSpec := { name := "lineReached", fn := fun _ => fun
  | [d] => { results := [.lit (.bool true)], args := [d] }
  | _ => none }
def lineReachedRow : OpenClaim := { program := "ytpbjpochjagicaa", sum := "d4c02e7212caf5076563df885b717e121ef1f5350b9016823e55b7a87918821b", func := "couchette/couchettelaw02.LineReached", spec := "lineReached", unfollowed := true, recurses := true, plainKeys := false, apart := false }
def LineReachedSaid : Prop := lineReachedRow.holds Try.pinned (OpenSpec.ofChange lineReachedSpec)

/-- ITS FALSE NEIGHBOUR: 'it returns false'. Refute it at one input. -/
def lineReachedWrong : ChangeSpec := { name := "lineReached", fn := fun _ => fun
  | [d] => { results := [.lit (.bool false)], args := [d] }
  | _ => none }
def LineReachedWrongFalsely : Prop := lineReachedRow.holds Try.pinned (OpenSpec.ofChange lineReachedWrong)

/-- 'couchettelaw02.LineMust': WHATEVER THE INPUT: true; the input reads as it did. -/
def lineMustSpec : ChangeSpec := { name := "lineMust", fn := fun _ => fun
  | [d] => { results := [.lit (.bool true)], args := [d] }
  | _ => none }
def lineMustRow : OpenClaim := { program := "ytpbjpochjagicaa", sum := "d4c02e7212caf5076563df885b717e121ef1f5350b9016823e55b7a87918821b", func := "couchette/couchettelaw02.LineMust", spec := "lineMust", unfollowed := true, recurses := true, plainKeys := false, apart := false }
def LineMustSaid : Prop := lineMustRow.holds Try.pinned (OpenSpec.ofChange lineMustSpec)

/-- ITS FALSE NEIGHBOUR: 'it returns false'. Refute it at one input. -/
def lineMustWrong : ChangeSpec := { name := "lineMust", fn := fun _ => fun
  | [d] => { results := [.lit (.bool false)], args := [d] }
  | _ => none }
def LineMustWrongFalsely : Prop := lineMustRow.holds Try.pinned (OpenSpec.ofChange lineMustWrong)

/- THE SECOND FORM. 'bulk': how many values and letters a reading holds, each counted each time it is reached (what is shared counts as often as it is met; a slice's spare places count too). A statement '..UptoSaid' is the law's where the arguments, and the package variables that the reading takes, are together of bulk at most 1048576: NARROWER than '..Said'. Prove '..Said' where nothing that the law and all that it calls make is longer than what came in: it says more and counts as full. Else prove '..UptoSaid'. A law counts once. -/
mutual
def uptoBulk {H : Type} : DataW H → Nat
  | .lit (.string bytes) => bytes.length + 1
  | .lit _ => 1
  | .nil => 1
  | .ptr d => uptoBulk d + 1
  | .slice elems spare => uptoBulkAll elems + uptoBulkAll spare + 1
  | .agg parts => uptoBulkAll parts + 1
  | .iface _ d => uptoBulk d + 1
  | .map entries => uptoBulkEntries entries + 1
  | .held _ => 1
def uptoBulkAll {H : Type} : List (DataW H) → Nat
  | [] => 0
  | d :: r => uptoBulk d + uptoBulkAll r
def uptoBulkEntries {H : Type} : List (Lit × DataW H) → Nat
  | [] => 0
  | x :: r => uptoBulkEntry x + uptoBulkEntries r
def uptoBulkEntry {H : Type} : Lit × DataW H → Nat
  | (.string bytes, d) => bytes.length + uptoBulk d + 1
  | (_, d) => uptoBulk d + 1
 end
def uptoSmall : (H : Type) → List (DataW H) → Bool := fun _ ds => decide (uptoBulkAll ds ≤ 1048576)
def OpenSpec.upto (s : _root_.Go.ChangeSpec) : _root_.Go.OpenSpec := { _root_.Go.OpenSpec.ofChange s with cond := some uptoSmall }

/-- 'couchettelaw02.LineWorked', WHERE WHAT IT READS IS OF BULK AT MOST 1048576: true; the input reads as it did. -/
def lineWorkedUptoRow : OpenClaim := { program := "ytpbjpochjagicaa", sum := "d4c02e7212caf5076563df885b717e121ef1f5350b9016823e55b7a87918821b", func := "couchette/couchettelaw02.LineWorked", spec := "lineWorked", unfollowed := true, recurses := true, plainKeys := false, apart := false, narrowed := true }
def LineWorkedUptoSaid : Prop := lineWorkedUptoRow.holds Try.pinned (OpenSpec.upto lineWorkedSpec)

/-- 'couchettelaw02.LineRenamed', WHERE WHAT IT READS IS OF BULK AT MOST 1048576: true; the input reads as it did. -/
def lineRenamedUptoRow : OpenClaim := { program := "ytpbjpochjagicaa", sum := "d4c02e7212caf5076563df885b717e121ef1f5350b9016823e55b7a87918821b", func := "couchette/couchettelaw02.LineRenamed", spec := "lineRenamed", unfollowed := true, recurses := true, plainKeys := false, apart := false, narrowed := true }
def LineRenamedUptoSaid : Prop := lineRenamedUptoRow.holds Try.pinned (OpenSpec.upto lineRenamedSpec)

/-- 'couchettelaw02.LineBarred', WHERE WHAT IT READS IS OF BULK AT MOST 1048576: true; the input reads as it did. -/
def lineBarredUptoRow : OpenClaim := { program := "ytpbjpochjagicaa", sum := "d4c02e7212caf5076563df885b717e121ef1f5350b9016823e55b7a87918821b", func := "couchette/couchettelaw02.LineBarred", spec := "lineBarred", unfollowed := true, recurses := true, plainKeys := false, apart := false, narrowed := true }
def LineBarredUptoSaid : Prop := lineBarredUptoRow.holds Try.pinned (OpenSpec.upto lineBarredSpec)

/-- 'couchettelaw02.LineFirst', WHERE WHAT IT READS IS OF BULK AT MOST 1048576: true; the input reads as it did. -/
def lineFirstUptoRow : OpenClaim := { program := "ytpbjpochjagicaa", sum := "d4c02e7212caf5076563df885b717e121ef1f5350b9016823e55b7a87918821b", func := "couchette/couchettelaw02.LineFirst", spec := "lineFirst", unfollowed := true, recurses := true, plainKeys := false, apart := false, narrowed := true }
def LineFirstUptoSaid : Prop := lineFirstUptoRow.holds Try.pinned (OpenSpec.upto lineFirstSpec)

/-- 'couchettelaw02.LineBack', WHERE WHAT IT READS IS OF BULK AT MOST 1048576: true; the input reads as it did. -/
def lineBackUptoRow : OpenClaim := { program := "ytpbjpochjagicaa", sum := "d4c02e7212caf5076563df885b717e121ef1f5350b9016823e55b7a87918821b", func := "couchette/couchettelaw02.LineBack", spec := "lineBack", unfollowed := true, recurses := true, plainKeys := false, apart := false, narrowed := true }
def LineBackUptoSaid : Prop := lineBackUptoRow.holds Try.pinned (OpenSpec.upto lineBackSpec)

/-- 'couchettelaw02.LineGiven', WHERE WHAT IT READS IS OF BULK AT MOST 1048576: true; the input reads as it did. -/
def lineGivenUptoRow : OpenClaim := { program := "ytpbjpochjagicaa", sum := "d4c02e7212caf5076563df885b717e121ef1f5350b9016823e55b7a87918821b", func := "couchette/couchettelaw02.LineGiven", spec := "lineGiven", unfollowed := true, recurses := true, plainKeys := false, apart := false, narrowed := true }
def LineGivenUptoSaid : Prop := lineGivenUptoRow.holds Try.pinned (OpenSpec.upto lineGivenSpec)

/-- 'couchettelaw02.LineBetter', WHERE WHAT IT READS IS OF BULK AT MOST 1048576: true; the input reads as it did. -/
def lineBetterUptoRow : OpenClaim := { program := "ytpbjpochjagicaa", sum := "d4c02e7212caf5076563df885b717e121ef1f5350b9016823e55b7a87918821b", func := "couchette/couchettelaw02.LineBetter", spec := "lineBetter", unfollowed := true, recurses := true, plainKeys := false, apart := false, narrowed := true }
def LineBetterUptoSaid : Prop := lineBetterUptoRow.holds Try.pinned (OpenSpec.upto lineBetterSpec)

/-- 'couchettelaw02.LineBars', WHERE WHAT IT READS IS OF BULK AT MOST 1048576: true; the input reads as it did. -/
def lineBarsUptoRow : OpenClaim := { program := "ytpbjpochjagicaa", sum := "d4c02e7212caf5076563df885b717e121ef1f5350b9016823e55b7a87918821b", func := "couchette/couchettelaw02.LineBars", spec := "lineBars", unfollowed := true, recurses := true, plainKeys := false, apart := false, narrowed := true }
def LineBarsUptoSaid : Prop := lineBarsUptoRow.holds Try.pinned (OpenSpec.upto lineBarsSpec)

/-- 'couchettelaw02.LineShortest', WHERE WHAT IT READS IS OF BULK AT MOST 1048576: true; the input reads as it did. -/
def lineShortestUptoRow : OpenClaim := { program := "ytpbjpochjagicaa", sum := "d4c02e7212caf5076563df885b717e121ef1f5350b9016823e55b7a87918821b", func := "couchette/couchettelaw02.LineShortest", spec := "lineShortest", unfollowed := true, recurses := true, plainKeys := false, apart := false, narrowed := true }
def LineShortestUptoSaid : Prop := lineShortestUptoRow.holds Try.pinned (OpenSpec.upto lineShortestSpec)

/-- 'couchettelaw02.LineHeaviest', WHERE WHAT IT READS IS OF BULK AT MOST 1048576: true; the input reads as it did. -/
def lineHeaviestUptoRow : OpenClaim := { program := "ytpbjpochjagicaa", sum := "d4c02e7212caf5076563df885b717e121ef1f5350b9016823e55b7a87918821b", func := "couchette/couchettelaw02.LineHeaviest", spec := "lineHeaviest", unfollowed := true, recurses := true, plainKeys := false, apart := false, narrowed := true }
def LineHeaviestUptoSaid : Prop := lineHeaviestUptoRow.holds Try.pinned (OpenSpec.upto lineHeaviestSpec)

/-- 'couchettelaw02.LineReached', WHERE WHAT IT READS IS OF BULK AT MOST 1048576: true; the input reads as it did. -/
def lineReachedUptoRow : OpenClaim := { program := "ytpbjpochjagicaa", sum := "d4c02e7212caf5076563df885b717e121ef1f5350b9016823e55b7a87918821b", func := "couchette/couchettelaw02.LineReached", spec := "lineReached", unfollowed := true, recurses := true, plainKeys := false, apart := false, narrowed := true }
def LineReachedUptoSaid : Prop := lineReachedUptoRow.holds Try.pinned (OpenSpec.upto lineReachedSpec)

/-- 'couchettelaw02.LineMust', WHERE WHAT IT READS IS OF BULK AT MOST 1048576: true; the input reads as it did. -/
def lineMustUptoRow : OpenClaim := { program := "ytpbjpochjagicaa", sum := "d4c02e7212caf5076563df885b717e121ef1f5350b9016823e55b7a87918821b", func := "couchette/couchettelaw02.LineMust", spec := "lineMust", unfollowed := true, recurses := true, plainKeys := false, apart := false, narrowed := true }
def LineMustUptoSaid : Prop := lineMustUptoRow.holds Try.pinned (OpenSpec.upto lineMustSpec)

end Rows
end Go.Proofs.Ytpbjpochjagicaa
