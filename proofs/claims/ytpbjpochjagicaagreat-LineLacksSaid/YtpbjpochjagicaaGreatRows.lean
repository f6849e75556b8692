/-
  No cell of these rows narrows 'for every input' (looked for: loops, veiled, ifaces, maps, wideKeys, modest, calm, conditions, laid).
  DERIVED. THE GIVEN ROWS OF THIS SEAT. 4 by the template 'for every input the law returns true; each argument reads behind the call as it read before'; 0 by the template 'total and deterministic' (their statements: YtpbjpochjagicaaGreatTotals.lean).
  GIVEN WITH THE SEED: the statements are not yours to turn. If you find one false, say at which input.
  Laid BY PROGRAM, IN A SANDBOX (cutbox-rows.mjs): the forced cells as the released guide's own fill.sh prints them over the translation ad591f682e8c3d07… (all of the seat's roots in one cut). By AI agents, Wed Nov 11 2026. No macro, syntax, notation, axiom, sorry.
-/
import Derived.Test.YtpbjpochjagicaaGreatChecked
import GoSem.Claim
import GoSem.ClaimJoined
import GoSem.ClaimMapViews
import Derived.JoinedTies
import Derived.KernelRfl
namespace Go.Proofs.YtpbjpochjagicaaGreat
/- THE CELL 'sum', in the pinned program and in every row, IS THE sha256 OF THE DUMP (.gsa) THAT YtpbjpochjagicaaGreatProg.lean LOADS. Nothing in Lean hashes anything: it is a label: what it is worth is what the hold of that sum in a sandbox is worth. -/
noncomputable def Tryz.pinned : Pinned := { name := "ytpbjpochjagicaagreat", sum := "ad591f682e8c3d07154bef804236c7378fdebc1b631b4b6b4c12aa3d139909fd", checked := Tryz.checked }
namespace Rows
def none {H : Type} : Left H := { results := [], args := [] }

/-- 'couchettelaw02.LineLacks': WHATEVER THE INPUT: true; the input reads as it did. -/
def lineLacksSpec : ChangeSpec := { name := "lineLacks", fn := fun _ => fun
  | [d1, d2, d3, d4, d5, d6] => { results := [.lit (.bool true)], args := [d1, d2, d3, d4, d5, d6] }
  | _ => none }
def lineLacksRow : OpenClaim := { program := "ytpbjpochjagicaagreat", sum := "ad591f682e8c3d07154bef804236c7378fdebc1b631b4b6b4c12aa3d139909fd", func := "couchette/couchettelaw02.LineLacks", spec := "lineLacks", unfollowed := true, recurses := true, plainKeys := false, apart := false }
def LineLacksSaid : Prop := lineLacksRow.holds Tryz.pinned (OpenSpec.ofChange lineLacksSpec)

/-- ITS FALSE NEIGHBOUR: 'it returns false'. Refute it at one input. -/
def lineLacksWrong : ChangeSpec := { name := "lineLacks", fn := fun _ => fun
  | [d1, d2, d3, d4, d5, d6] => { results := [.lit (.bool false)], args := [d1, d2, d3, d4, d5, d6] }
  | _ => none }
def LineLacksWrongFalsely : Prop := lineLacksRow.holds Tryz.pinned (OpenSpec.ofChange lineLacksWrong)

/-- 'couchettelaw02.LineHeavy': WHATEVER THE INPUT: true; the input reads as it did. -/
def lineHeavySpec : ChangeSpec := { name := "lineHeavy", fn := fun _ => fun
  | [d1, d2, d3, d4, d5, d6] => { results := [.lit (.bool true)], args := [d1, d2, d3, d4, d5, d6] }
  | _ => none }
def lineHeavyRow : OpenClaim := { program := "ytpbjpochjagicaagreat", sum := "ad591f682e8c3d07154bef804236c7378fdebc1b631b4b6b4c12aa3d139909fd", func := "couchette/couchettelaw02.LineHeavy", spec := "lineHeavy", unfollowed := true, recurses := true, plainKeys := false, apart := false }
def LineHeavySaid : Prop := lineHeavyRow.holds Tryz.pinned (OpenSpec.ofChange lineHeavySpec)

/-- ITS FALSE NEIGHBOUR: 'it returns false'. Refute it at one input. -/
def lineHeavyWrong : ChangeSpec := { name := "lineHeavy", fn := fun _ => fun
  | [d1, d2, d3, d4, d5, d6] => { results := [.lit (.bool false)], args := [d1, d2, d3, d4, d5, d6] }
  | _ => none }
def LineHeavyWrongFalsely : Prop := lineHeavyRow.holds Tryz.pinned (OpenSpec.ofChange lineHeavyWrong)

/-- 'couchettelaw02.LineWays': WHATEVER THE INPUT: true; the input reads as it did. -/
def lineWaysSpec : ChangeSpec := { name := "lineWays", fn := fun _ => fun
  | [d1, d2, d3, d4, d5, d6] => { results := [.lit (.bool true)], args := [d1, d2, d3, d4, d5, d6] }
  | _ => none }
def lineWaysRow : OpenClaim := { program := "ytpbjpochjagicaagreat", sum := "ad591f682e8c3d07154bef804236c7378fdebc1b631b4b6b4c12aa3d139909fd", func := "couchette/couchettelaw02.LineWays", spec := "lineWays", unfollowed := true, recurses := true, plainKeys := false, apart := false }
def LineWaysSaid : Prop := lineWaysRow.holds Tryz.pinned (OpenSpec.ofChange lineWaysSpec)

/-- ITS FALSE NEIGHBOUR: 'it returns false'. Refute it at one input. -/
def lineWaysWrong : ChangeSpec := { name := "lineWays", fn := fun _ => fun
  | [d1, d2, d3, d4, d5, d6] => { results := [.lit (.bool false)], args := [d1, d2, d3, d4, d5, d6] }
  | _ => none }
def LineWaysWrongFalsely : Prop := lineWaysRow.holds Tryz.pinned (OpenSpec.ofChange lineWaysWrong)

/-- 'couchettelaw02.LineRebuilt': WHATEVER THE INPUT: true; the input reads as it did. -/
def lineRebuiltSpec : ChangeSpec := { name := "lineRebuilt", fn := fun _ => fun
  | [d1, d2, d3, d4, d5, d6] => { results := [.lit (.bool true)], args := [d1, d2, d3, d4, d5, d6] }
  | _ => none }
def lineRebuiltRow : OpenClaim := { program := "ytpbjpochjagicaagreat", sum := "ad591f682e8c3d07154bef804236c7378fdebc1b631b4b6b4c12aa3d139909fd", func := "couchette/couchettelaw02.LineRebuilt", spec := "lineRebuilt", unfollowed := true, recurses := true, plainKeys := false, apart := false }
def LineRebuiltSaid : Prop := lineRebuiltRow.holds Tryz.pinned (OpenSpec.ofChange lineRebuiltSpec)

/-- ITS FALSE NEIGHBOUR: 'it returns false'. Refute it at one input. -/
def lineRebuiltWrong : ChangeSpec := { name := "lineRebuilt", fn := fun _ => fun
  | [d1, d2, d3, d4, d5, d6] => { results := [.lit (.bool false)], args := [d1, d2, d3, d4, d5, d6] }
  | _ => none }
def LineRebuiltWrongFalsely : Prop := lineRebuiltRow.holds Tryz.pinned (OpenSpec.ofChange lineRebuiltWrong)

/- THE SECOND FORM. 'bulk': how many values and letters a reading holds, each counted each time it is reached (what is shared counts as often as it is met; a slice's spare places count too). A statement '..UptoSaid' is the law's where the arguments, and the package variables that the reading takes, are together of bulk at most 1048576: NARROWER than '..Said'. Prove '..Said' where nothing that the law and all that it calls make is longer than what came in: it says more and counts as full. Else prove '..UptoSaid'. A law counts once. -/
mutual
def uptoBulk {H : Type} : DataW H → Nat
  | .lit (.string bytes) => bytes.length + 1
  | .lit _ => 1
  | .nil => 1
  | .ptr d => uptoBulk d + 1
  | .slice elems spare => uptoBulkAll elems + uptoBulkAll spare + 1
  | .agg parts => uptoBulkAll parts + 1
  | .iface _ d => uptoBulk d + 1
  | .map entries => uptoBulkEntries entries + 1
  | .held _ => 1
def uptoBulkAll {H : Type} : List (DataW H) → Nat
  | [] => 0
  | d :: r => uptoBulk d + uptoBulkAll r
def uptoBulkEntries {H : Type} : List (Lit × DataW H) → Nat
  | [] => 0
  | x :: r => uptoBulkEntry x + uptoBulkEntries r
def uptoBulkEntry {H : Type} : Lit × DataW H → Nat
  | (.string bytes, d) => bytes.length + uptoBulk d + 1
  | (_, d) => uptoBulk d + 1
 end
def uptoSmall : (H : Type) → List (DataW H) → Bool := fun _ ds => decide (uptoBulkAll ds ≤ 1048576)
def OpenSpec.upto (s : _root_.Go.ChangeSpec) : _root_.Go.OpenSpec := { _root_.Go.OpenSpec.ofChange s with cond := some uptoSmall }

/-- 'couchettelaw02.LineLacks', WHERE WHAT IT READS IS OF BULK AT MOST 1048576: true; the input reads as it did. -/
def lineLacksUptoRow : OpenClaim := { program := "ytpbjpochjagicaagreat", sum := "ad591f682e8c3d07154bef804236c7378fdebc1b631b4b6b4c12aa3d139909fd", func := "couchette/couchettelaw02.LineLacks", spec := "lineLacks", unfollowed := true, recurses := true, plainKeys := false, apart := false, narrowed := true }
def LineLacksUptoSaid : Prop := lineLacksUptoRow.holds Tryz.pinned (OpenSpec.upto lineLacksSpec)

/-- 'couchettelaw02.LineHeavy', WHERE WHAT IT READS IS OF BULK AT MOST 1048576: true; the input reads as it did. -/
def lineHeavyUptoRow : OpenClaim := { program := "ytpbjpochjagicaagreat", sum := "ad591f682e8c3d07154bef804236c7378fdebc1b631b4b6b4c12aa3d139909fd", func := "couchette/couchettelaw02.LineHeavy", spec := "lineHeavy", unfollowed := true, recurses := true, plainKeys := false, apart := false, narrowed := true }
def LineHeavyUptoSaid : Prop := lineHeavyUptoRow.holds Tryz.pinned (OpenSpec.upto lineHeavySpec)

/-- 'couchettelaw02.LineWays', WHERE WHAT IT READS IS OF BULK AT MOST 1048576: true; the input reads as it did. -/
def lineWaysUptoRow : OpenClaim := { program := "ytpbjpochjagicaagreat", sum := "ad591f682e8c3d07154bef804236c7378fdebc1b631b4b6b4c12aa3d139909fd", func := "couchette/couchettelaw02.LineWays", spec := "lineWays", unfollowed := true, recurses := true, plainKeys := false, apart := false, narrowed := true }
def LineWaysUptoSaid : Prop := lineWaysUptoRow.holds Tryz.pinned (OpenSpec.upto lineWaysSpec)

/-- 'couchettelaw02.LineRebuilt', WHERE WHAT IT READS IS OF BULK AT MOST 1048576: true; the input reads as it did. -/
def lineRebuiltUptoRow : OpenClaim := { program := "ytpbjpochjagicaagreat", sum := "ad591f682e8c3d07154bef804236c7378fdebc1b631b4b6b4c12aa3d139909fd", func := "couchette/couchettelaw02.LineRebuilt", spec := "lineRebuilt", unfollowed := true, recurses := true, plainKeys := false, apart := false, narrowed := true }
def LineRebuiltUptoSaid : Prop := lineRebuiltUptoRow.holds Tryz.pinned (OpenSpec.upto lineRebuiltSpec)

end Rows
end Go.Proofs.YtpbjpochjagicaaGreat
