/-
  No cell of these rows narrows 'for every input' (looked for: loops, veiled, ifaces, maps, wideKeys, modest, calm, conditions, laid).
  DERIVED. THE GIVEN ROWS OF THIS SEAT. 14 by the template 'for every input the law returns true; each argument reads behind the call as it read before'; 0 by the template 'total and deterministic' (their statements: YtlgiofglcgbjgaaTotals.lean).
  GIVEN WITH THE SEED: the statements are not yours to turn. If you find one false, say at which input.
  Laid BY PROGRAM, IN A SANDBOX (cutbox-rows.mjs): the forced cells as the released guide's own fill.sh prints them over the translation ba97ad0bd138180e… (all of the seat's roots in one cut). By AI agents, Wed Nov 11 2026. No macro, syntax, notation, axiom, sorry.
-/
import Derived.Test.YtlgiofglcgbjgaaChecked
import GoSem.Claim
import GoSem.ClaimJoined
import GoSem.ClaimMapViews
import Derived.JoinedTies
import Derived.KernelRfl
namespace Go.Proofs.Ytlgiofglcgbjgaa
/- THE CELL 'sum', in the pinned program and in every row, IS THE sha256 OF THE DUMP (.gsa) THAT YtlgiofglcgbjgaaProg.lean LOADS. Nothing in Lean hashes anything: it is a label: what it is worth is what the hold of that sum in a sandbox is worth. -/
noncomputable def Try.pinned : Pinned := { name := "ytlgiofglcgbjgaa", sum := "ba97ad0bd138180ea745b04959f8092169af4e97cea70a483d7069cb616d5c01", checked := Try.checked }
namespace Rows
def none {H : Type} : Left H := { results := [], args := [] }

/-- 'couchettelaw08.GalleyShort': WHATEVER THE INPUT: true; the input reads as it did. -/
def galleyShortSpec : ChangeSpec := { name := "galleyShort", fn := fun _ => fun
  | [d] => { results := [.lit (.bool true)], args := [d] }
  | _ => none }
def galleyShortRow : OpenClaim := { program := "ytlgiofglcgbjgaa", sum := "ba97ad0bd138180ea745b04959f8092169af4e97cea70a483d7069cb616d5c01", func := "couchette/couchettelaw08.GalleyShort", spec := "galleyShort", inPlace := ["(*sync.WaitGroup).Add", "internal/race.ReleaseMerge", "internal/race.Disable", "internal/race.Enable", "internal/synctest.IsInBubble", "internal/synctest.Associate[sync.WaitGroup]", "sync.fatal", "sync/atomic.OrUint64", "sync/atomic.AddUint64", "internal/race.Read", "sync/atomic.LoadUint64", "sync/atomic.StoreUint64", "internal/synctest.Disassociate[sync.WaitGroup]", "sync.runtime_Semrelease", "(*sync.WaitGroup).Done", "(*sync.WaitGroup).Wait", "internal/race.Acquire", "internal/synctest.IsAssociated[sync.WaitGroup]", "sync/atomic.CompareAndSwapUint64", "internal/race.Write", "sync.runtime_SemacquireWaitGroup"], unfollowed := true, recurses := true, plainKeys := false, leaving := true, apart := false }
def GalleyShortSaid : Prop := galleyShortRow.holds Try.pinned (OpenSpec.ofChange galleyShortSpec)

/-- ITS FALSE NEIGHBOUR: 'it returns false'. Refute it at one input. -/
def galleyShortWrong : ChangeSpec := { name := "galleyShort", fn := fun _ => fun
  | [d] => { results := [.lit (.bool false)], args := [d] }
  | _ => none }
def GalleyShortWrongFalsely : Prop := galleyShortRow.holds Try.pinned (OpenSpec.ofChange galleyShortWrong)

/-- 'couchettelaw08.GalleyCovers': WHATEVER THE INPUT: true; the input reads as it did. -/
def galleyCoversSpec : ChangeSpec := { name := "galleyCovers", fn := fun _ => fun
  | [d] => { results := [.lit (.bool true)], args := [d] }
  | _ => none }
def galleyCoversRow : OpenClaim := { program := "ytlgiofglcgbjgaa", sum := "ba97ad0bd138180ea745b04959f8092169af4e97cea70a483d7069cb616d5c01", func := "couchette/couchettelaw08.GalleyCovers", spec := "galleyCovers", inPlace := ["(*sync.WaitGroup).Add", "internal/race.ReleaseMerge", "internal/race.Disable", "internal/race.Enable", "internal/synctest.IsInBubble", "internal/synctest.Associate[sync.WaitGroup]", "sync.fatal", "sync/atomic.OrUint64", "sync/atomic.AddUint64", "internal/race.Read", "sync/atomic.LoadUint64", "sync/atomic.StoreUint64", "internal/synctest.Disassociate[sync.WaitGroup]", "sync.runtime_Semrelease", "(*sync.WaitGroup).Done", "(*sync.WaitGroup).Wait", "internal/race.Acquire", "internal/synctest.IsAssociated[sync.WaitGroup]", "sync/atomic.CompareAndSwapUint64", "internal/race.Write", "sync.runtime_SemacquireWaitGroup"], unfollowed := true, recurses := true, plainKeys := false, leaving := true, apart := false }
def GalleyCoversSaid : Prop := galleyCoversRow.holds Try.pinned (OpenSpec.ofChange galleyCoversSpec)

/-- ITS FALSE NEIGHBOUR: 'it returns false'. Refute it at one input. -/
def galleyCoversWrong : ChangeSpec := { name := "galleyCovers", fn := fun _ => fun
  | [d] => { results := [.lit (.bool false)], args := [d] }
  | _ => none }
def GalleyCoversWrongFalsely : Prop := galleyCoversRow.holds Try.pinned (OpenSpec.ofChange galleyCoversWrong)

/-- 'couchettelaw08.GalleyApart': WHATEVER THE INPUT: true; the input reads as it did. -/
def galleyApartSpec : ChangeSpec := { name := "galleyApart", fn := fun _ => fun
  | [d] => { results := [.lit (.bool true)], args := [d] }
  | _ => none }
def galleyApartRow : OpenClaim := { program := "ytlgiofglcgbjgaa", sum := "ba97ad0bd138180ea745b04959f8092169af4e97cea70a483d7069cb616d5c01", func := "couchette/couchettelaw08.GalleyApart", spec := "galleyApart", inPlace := ["(*sync.WaitGroup).Add", "internal/race.ReleaseMerge", "internal/race.Disable", "internal/race.Enable", "internal/synctest.IsInBubble", "internal/synctest.Associate[sync.WaitGroup]", "sync.fatal", "sync/atomic.OrUint64", "sync/atomic.AddUint64", "internal/race.Read", "sync/atomic.LoadUint64", "sync/atomic.StoreUint64", "internal/synctest.Disassociate[sync.WaitGroup]", "sync.runtime_Semrelease", "(*sync.WaitGroup).Done", "(*sync.WaitGroup).Wait", "internal/race.Acquire", "internal/synctest.IsAssociated[sync.WaitGroup]", "sync/atomic.CompareAndSwapUint64", "internal/race.Write", "sync.runtime_SemacquireWaitGroup"], unfollowed := true, recurses := true, plainKeys := false, leaving := true, apart := false }
def GalleyApartSaid : Prop := galleyApartRow.holds Try.pinned (OpenSpec.ofChange galleyApartSpec)

/-- ITS FALSE NEIGHBOUR: 'it returns false'. Refute it at one input. -/
def galleyApartWrong : ChangeSpec := { name := "galleyApart", fn := fun _ => fun
  | [d] => { results := [.lit (.bool false)], args := [d] }
  | _ => none }
def GalleyApartWrongFalsely : Prop := galleyApartRow.holds Try.pinned (OpenSpec.ofChange galleyApartWrong)

/-- 'couchettelaw08.GalleyUses': WHATEVER THE INPUT: true; the input reads as it did. -/
def galleyUsesSpec : ChangeSpec := { name := "galleyUses", fn := fun _ => fun
  | [d1, d2, d3] => { results := [.lit (.bool true)], args := [d1, d2, d3] }
  | _ => none }
def galleyUsesRow : OpenClaim := { program := "ytlgiofglcgbjgaa", sum := "ba97ad0bd138180ea745b04959f8092169af4e97cea70a483d7069cb616d5c01", func := "couchette/couchettelaw08.GalleyUses", spec := "galleyUses", inPlace := ["(*sync.WaitGroup).Add", "internal/race.ReleaseMerge", "internal/race.Disable", "internal/race.Enable", "internal/synctest.IsInBubble", "internal/synctest.Associate[sync.WaitGroup]", "sync.fatal", "sync/atomic.OrUint64", "sync/atomic.AddUint64", "internal/race.Read", "sync/atomic.LoadUint64", "sync/atomic.StoreUint64", "internal/synctest.Disassociate[sync.WaitGroup]", "sync.runtime_Semrelease", "(*sync.WaitGroup).Done", "(*sync.WaitGroup).Wait", "internal/race.Acquire", "internal/synctest.IsAssociated[sync.WaitGroup]", "sync/atomic.CompareAndSwapUint64", "internal/race.Write", "sync.runtime_SemacquireWaitGroup"], unfollowed := true, recurses := true, plainKeys := false, leaving := true, apart := false }
def GalleyUsesSaid : Prop := galleyUsesRow.holds Try.pinned (OpenSpec.ofChange galleyUsesSpec)

/-- ITS FALSE NEIGHBOUR: 'it returns false'. Refute it at one input. -/
def galleyUsesWrong : ChangeSpec := { name := "galleyUses", fn := fun _ => fun
  | [d1, d2, d3] => { results := [.lit (.bool false)], args := [d1, d2, d3] }
  | _ => none }
def GalleyUsesWrongFalsely : Prop := galleyUsesRow.holds Try.pinned (OpenSpec.ofChange galleyUsesWrong)

/-- 'couchettelaw08.GalleyCosts': WHATEVER THE INPUT: true; the input reads as it did. -/
def galleyCostsSpec : ChangeSpec := { name := "galleyCosts", fn := fun _ => fun
  | [d1, d2, d3, d4] => { results := [.lit (.bool true)], args := [d1, d2, d3, d4] }
  | _ => none }
def galleyCostsRow : OpenClaim := { program := "ytlgiofglcgbjgaa", sum := "ba97ad0bd138180ea745b04959f8092169af4e97cea70a483d7069cb616d5c01", func := "couchette/couchettelaw08.GalleyCosts", spec := "galleyCosts", inPlace := ["(*sync.WaitGroup).Add", "internal/race.ReleaseMerge", "internal/race.Disable", "internal/race.Enable", "internal/synctest.IsInBubble", "internal/synctest.Associate[sync.WaitGroup]", "sync.fatal", "sync/atomic.OrUint64", "sync/atomic.AddUint64", "internal/race.Read", "sync/atomic.LoadUint64", "sync/atomic.StoreUint64", "internal/synctest.Disassociate[sync.WaitGroup]", "sync.runtime_Semrelease", "(*sync.WaitGroup).Done", "(*sync.WaitGroup).Wait", "internal/race.Acquire", "internal/synctest.IsAssociated[sync.WaitGroup]", "sync/atomic.CompareAndSwapUint64", "internal/race.Write", "sync.runtime_SemacquireWaitGroup"], unfollowed := true, recurses := true, plainKeys := false, leaving := true, apart := false }
def GalleyCostsSaid : Prop := galleyCostsRow.holds Try.pinned (OpenSpec.ofChange galleyCostsSpec)

/-- ITS FALSE NEIGHBOUR: 'it returns false'. Refute it at one input. -/
def galleyCostsWrong : ChangeSpec := { name := "galleyCosts", fn := fun _ => fun
  | [d1, d2, d3, d4] => { results := [.lit (.bool false)], args := [d1, d2, d3, d4] }
  | _ => none }
def GalleyCostsWrongFalsely : Prop := galleyCostsRow.holds Try.pinned (OpenSpec.ofChange galleyCostsWrong)

/-- 'couchettelaw08.GalleyMost': WHATEVER THE INPUT: true; the input reads as it did. -/
def galleyMostSpec : ChangeSpec := { name := "galleyMost", fn := fun _ => fun
  | [d1, d2, d3, d4] => { results := [.lit (.bool true)], args := [d1, d2, d3, d4] }
  | _ => none }
def galleyMostRow : OpenClaim := { program := "ytlgiofglcgbjgaa", sum := "ba97ad0bd138180ea745b04959f8092169af4e97cea70a483d7069cb616d5c01", func := "couchette/couchettelaw08.GalleyMost", spec := "galleyMost", inPlace := ["(*sync.WaitGroup).Add", "internal/race.ReleaseMerge", "internal/race.Disable", "internal/race.Enable", "internal/synctest.IsInBubble", "internal/synctest.Associate[sync.WaitGroup]", "sync.fatal", "sync/atomic.OrUint64", "sync/atomic.AddUint64", "internal/race.Read", "sync/atomic.LoadUint64", "sync/atomic.StoreUint64", "internal/synctest.Disassociate[sync.WaitGroup]", "sync.runtime_Semrelease", "(*sync.WaitGroup).Done", "(*sync.WaitGroup).Wait", "internal/race.Acquire", "internal/synctest.IsAssociated[sync.WaitGroup]", "sync/atomic.CompareAndSwapUint64", "internal/race.Write", "sync.runtime_SemacquireWaitGroup"], unfollowed := true, recurses := true, plainKeys := false, leaving := true, apart := false }
def GalleyMostSaid : Prop := galleyMostRow.holds Try.pinned (OpenSpec.ofChange galleyMostSpec)

/-- ITS FALSE NEIGHBOUR: 'it returns false'. Refute it at one input. -/
def galleyMostWrong : ChangeSpec := { name := "galleyMost", fn := fun _ => fun
  | [d1, d2, d3, d4] => { results := [.lit (.bool false)], args := [d1, d2, d3, d4] }
  | _ => none }
def GalleyMostWrongFalsely : Prop := galleyMostRow.holds Try.pinned (OpenSpec.ofChange galleyMostWrong)

/-- 'couchettelaw08.GalleyCheapest': WHATEVER THE INPUT: true; the input reads as it did. -/
def galleyCheapestSpec : ChangeSpec := { name := "galleyCheapest", fn := fun _ => fun
  | [d] => { results := [.lit (.bool true)], args := [d] }
  | _ => none }
def galleyCheapestRow : OpenClaim := { program := "ytlgiofglcgbjgaa", sum := "ba97ad0bd138180ea745b04959f8092169af4e97cea70a483d7069cb616d5c01", func := "couchette/couchettelaw08.GalleyCheapest", spec := "galleyCheapest", inPlace := ["(*sync.WaitGroup).Add", "internal/race.ReleaseMerge", "internal/race.Disable", "internal/race.Enable", "internal/synctest.IsInBubble", "internal/synctest.Associate[sync.WaitGroup]", "sync.fatal", "sync/atomic.OrUint64", "sync/atomic.AddUint64", "internal/race.Read", "sync/atomic.LoadUint64", "sync/atomic.StoreUint64", "internal/synctest.Disassociate[sync.WaitGroup]", "sync.runtime_Semrelease", "(*sync.WaitGroup).Done", "(*sync.WaitGroup).Wait", "internal/race.Acquire", "internal/synctest.IsAssociated[sync.WaitGroup]", "sync/atomic.CompareAndSwapUint64", "internal/race.Write", "sync.runtime_SemacquireWaitGroup"], unfollowed := true, recurses := true, plainKeys := false, leaving := true, apart := false }
def GalleyCheapestSaid : Prop := galleyCheapestRow.holds Try.pinned (OpenSpec.ofChange galleyCheapestSpec)

/-- ITS FALSE NEIGHBOUR: 'it returns false'. Refute it at one input. -/
def galleyCheapestWrong : ChangeSpec := { name := "galleyCheapest", fn := fun _ => fun
  | [d] => { results := [.lit (.bool false)], args := [d] }
  | _ => none }
def GalleyCheapestWrongFalsely : Prop := galleyCheapestRow.holds Try.pinned (OpenSpec.ofChange galleyCheapestWrong)

/-- 'couchettelaw08.GalleyMust': WHATEVER THE INPUT: true; the input reads as it did. -/
def galleyMustSpec : ChangeSpec := { name := "galleyMust", fn := fun _ => fun
  | [d] => { results := [.lit (.bool true)], args := [d] }
  | _ => none }
def galleyMustRow : OpenClaim := { program := "ytlgiofglcgbjgaa", sum := "ba97ad0bd138180ea745b04959f8092169af4e97cea70a483d7069cb616d5c01", func := "couchette/couchettelaw08.GalleyMust", spec := "galleyMust", inPlace := ["(*sync.WaitGroup).Add", "internal/race.ReleaseMerge", "internal/race.Disable", "internal/race.Enable", "internal/synctest.IsInBubble", "internal/synctest.Associate[sync.WaitGroup]", "sync.fatal", "sync/atomic.OrUint64", "sync/atomic.AddUint64", "internal/race.Read", "sync/atomic.LoadUint64", "sync/atomic.StoreUint64", "internal/synctest.Disassociate[sync.WaitGroup]", "sync.runtime_Semrelease", "(*sync.WaitGroup).Done", "(*sync.WaitGroup).Wait", "internal/race.Acquire", "internal/synctest.IsAssociated[sync.WaitGroup]", "sync/atomic.CompareAndSwapUint64", "internal/race.Write", "sync.runtime_SemacquireWaitGroup"], unfollowed := true, recurses := true, plainKeys := false, leaving := true, apart := false }
def GalleyMustSaid : Prop := galleyMustRow.holds Try.pinned (OpenSpec.ofChange galleyMustSpec)

/-- ITS FALSE NEIGHBOUR: 'it returns false'. Refute it at one input. -/
def galleyMustWrong : ChangeSpec := { name := "galleyMust", fn := fun _ => fun
  | [d] => { results := [.lit (.bool false)], args := [d] }
  | _ => none }
def GalleyMustWrongFalsely : Prop := galleyMustRow.holds Try.pinned (OpenSpec.ofChange galleyMustWrong)

/-- 'couchettelaw08.GalleyDearer': WHATEVER THE INPUT: true; the input reads as it did. -/
def galleyDearerSpec : ChangeSpec := { name := "galleyDearer", fn := fun _ => fun
  | [d] => { results := [.lit (.bool true)], args := [d] }
  | _ => none }
def galleyDearerRow : OpenClaim := { program := "ytlgiofglcgbjgaa", sum := "ba97ad0bd138180ea745b04959f8092169af4e97cea70a483d7069cb616d5c01", func := "couchette/couchettelaw08.GalleyDearer", spec := "galleyDearer", inPlace := ["(*sync.WaitGroup).Add", "internal/race.ReleaseMerge", "internal/race.Disable", "internal/race.Enable", "internal/synctest.IsInBubble", "internal/synctest.Associate[sync.WaitGroup]", "sync.fatal", "sync/atomic.OrUint64", "sync/atomic.AddUint64", "internal/race.Read", "sync/atomic.LoadUint64", "sync/atomic.StoreUint64", "internal/synctest.Disassociate[sync.WaitGroup]", "sync.runtime_Semrelease", "(*sync.WaitGroup).Done", "(*sync.WaitGroup).Wait", "internal/race.Acquire", "internal/synctest.IsAssociated[sync.WaitGroup]", "sync/atomic.CompareAndSwapUint64", "internal/race.Write", "sync.runtime_SemacquireWaitGroup"], unfollowed := true, recurses := true, plainKeys := false, leaving := true, apart := false }
def GalleyDearerSaid : Prop := galleyDearerRow.holds Try.pinned (OpenSpec.ofChange galleyDearerSpec)

/-- ITS FALSE NEIGHBOUR: 'it returns false'. Refute it at one input. -/
def galleyDearerWrong : ChangeSpec := { name := "galleyDearer", fn := fun _ => fun
  | [d] => { results := [.lit (.bool false)], args := [d] }
  | _ => none }
def GalleyDearerWrongFalsely : Prop := galleyDearerRow.holds Try.pinned (OpenSpec.ofChange galleyDearerWrong)

/-- 'couchettelaw08.GalleyMenus': WHATEVER THE INPUT: true; the input reads as it did. -/
def galleyMenusSpec : ChangeSpec := { name := "galleyMenus", fn := fun _ => fun
  | [d1, d2, d3] => { results := [.lit (.bool true)], args := [d1, d2, d3] }
  | _ => none }
def galleyMenusRow : OpenClaim := { program := "ytlgiofglcgbjgaa", sum := "ba97ad0bd138180ea745b04959f8092169af4e97cea70a483d7069cb616d5c01", func := "couchette/couchettelaw08.GalleyMenus", spec := "galleyMenus", inPlace := ["(*sync.WaitGroup).Add", "internal/race.ReleaseMerge", "internal/race.Disable", "internal/race.Enable", "internal/synctest.IsInBubble", "internal/synctest.Associate[sync.WaitGroup]", "sync.fatal", "sync/atomic.OrUint64", "sync/atomic.AddUint64", "internal/race.Read", "sync/atomic.LoadUint64", "sync/atomic.StoreUint64", "internal/synctest.Disassociate[sync.WaitGroup]", "sync.runtime_Semrelease", "(*sync.WaitGroup).Done", "(*sync.WaitGroup).Wait", "internal/race.Acquire", "internal/synctest.IsAssociated[sync.WaitGroup]", "sync/atomic.CompareAndSwapUint64", "internal/race.Write", "sync.runtime_SemacquireWaitGroup"], unfollowed := true, recurses := true, plainKeys := false, leaving := true, apart := false }
def GalleyMenusSaid : Prop := galleyMenusRow.holds Try.pinned (OpenSpec.ofChange galleyMenusSpec)

/-- ITS FALSE NEIGHBOUR: 'it returns false'. Refute it at one input. -/
def galleyMenusWrong : ChangeSpec := { name := "galleyMenus", fn := fun _ => fun
  | [d1, d2, d3] => { results := [.lit (.bool false)], args := [d1, d2, d3] }
  | _ => none }
def GalleyMenusWrongFalsely : Prop := galleyMenusRow.holds Try.pinned (OpenSpec.ofChange galleyMenusWrong)

/-- 'couchettelaw08.GalleyMenu': WHATEVER THE INPUT: true; the input reads as it did. -/
def galleyMenuSpec : ChangeSpec := { name := "galleyMenu", fn := fun _ => fun
  | [d] => { results := [.lit (.bool true)], args := [d] }
  | _ => none }
def galleyMenuRow : OpenClaim := { program := "ytlgiofglcgbjgaa", sum := "ba97ad0bd138180ea745b04959f8092169af4e97cea70a483d7069cb616d5c01", func := "couchette/couchettelaw08.GalleyMenu", spec := "galleyMenu", inPlace := ["(*sync.WaitGroup).Add", "internal/race.ReleaseMerge", "internal/race.Disable", "internal/race.Enable", "internal/synctest.IsInBubble", "internal/synctest.Associate[sync.WaitGroup]", "sync.fatal", "sync/atomic.OrUint64", "sync/atomic.AddUint64", "internal/race.Read", "sync/atomic.LoadUint64", "sync/atomic.StoreUint64", "internal/synctest.Disassociate[sync.WaitGroup]", "sync.runtime_Semrelease", "(*sync.WaitGroup).Done", "(*sync.WaitGroup).Wait", "internal/race.Acquire", "internal/synctest.IsAssociated[sync.WaitGroup]", "sync/atomic.CompareAndSwapUint64", "internal/race.Write", "sync.runtime_SemacquireWaitGroup"], unfollowed := true, recurses := true, plainKeys := false, leaving := true, apart := false }
def GalleyMenuSaid : Prop := galleyMenuRow.holds Try.pinned (OpenSpec.ofChange galleyMenuSpec)

/-- ITS FALSE NEIGHBOUR: 'it returns false'. Refute it at one input. -/
def galleyMenuWrong : ChangeSpec := { name := "galleyMenu", fn := fun _ => fun
  | [d] => { results := [.lit (.bool false)], args := [d] }
  | _ => none }
def GalleyMenuWrongFalsely : Prop := galleyMenuRow.holds Try.pinned (OpenSpec.ofChange galleyMenuWrong)

/-- 'couchettelaw08.GalleyEasier': WHATEVER THE INPUT: true; the input reads as it did. -/
def galleyEasierSpec : ChangeSpec := { name := "galleyEasier", fn := fun _ => fun
  | [d] => { results := [.lit (.bool true)], args := [d] }
  | _ => none }
def galleyEasierRow : OpenClaim := { program := "ytlgiofglcgbjgaa", sum := "ba97ad0bd138180ea745b04959f8092169af4e97cea70a483d7069cb616d5c01", func := "couchette/couchettelaw08.GalleyEasier", spec := "galleyEasier", inPlace := ["(*sync.WaitGroup).Add", "internal/race.ReleaseMerge", "internal/race.Disable", "internal/race.Enable", "internal/synctest.IsInBubble", "internal/synctest.Associate[sync.WaitGroup]", "sync.fatal", "sync/atomic.OrUint64", "sync/atomic.AddUint64", "internal/race.Read", "sync/atomic.LoadUint64", "sync/atomic.StoreUint64", "internal/synctest.Disassociate[sync.WaitGroup]", "sync.runtime_Semrelease", "(*sync.WaitGroup).Done", "(*sync.WaitGroup).Wait", "internal/race.Acquire", "internal/synctest.IsAssociated[sync.WaitGroup]", "sync/atomic.CompareAndSwapUint64", "internal/race.Write", "sync.runtime_SemacquireWaitGroup"], unfollowed := true, recurses := true, plainKeys := false, leaving := true, apart := false }
def GalleyEasierSaid : Prop := galleyEasierRow.holds Try.pinned (OpenSpec.ofChange galleyEasierSpec)

/-- ITS FALSE NEIGHBOUR: 'it returns false'. Refute it at one input. -/
def galleyEasierWrong : ChangeSpec := { name := "galleyEasier", fn := fun _ => fun
  | [d] => { results := [.lit (.bool false)], args := [d] }
  | _ => none }
def GalleyEasierWrongFalsely : Prop := galleyEasierRow.holds Try.pinned (OpenSpec.ofChange galleyEasierWrong)

/-- 'couchettelaw08.GalleyAccounted': WHATEVER THE INPUT: true; the input reads as it did. -/
def galleyAccountedSpec : ChangeSpec := { name := "galleyAccounted", fn := fun _ => fun
  | [d] => { results := [.lit (.bool true)], args := [d] }
  | _ => none }
def galleyAccountedRow : OpenClaim := { program := "ytlgiofglcgbjgaa", sum := "ba97ad0bd138180ea745b04959f8092169af4e97cea70a483d7069cb616d5c01", func := "couchette/couchettelaw08.GalleyAccounted", spec := "galleyAccounted", inPlace := ["(*sync.WaitGroup).Add", "internal/race.ReleaseMerge", "internal/race.Disable", "internal/race.Enable", "internal/synctest.IsInBubble", "internal/synctest.Associate[sync.WaitGroup]", "sync.fatal", "sync/atomic.OrUint64", "sync/atomic.AddUint64", "internal/race.Read", "sync/atomic.LoadUint64", "sync/atomic.StoreUint64", "internal/synctest.Disassociate[sync.WaitGroup]", "sync.runtime_Semrelease", "(*sync.WaitGroup).Done", "(*sync.WaitGroup).Wait", "internal/race.Acquire", "internal/synctest.IsAssociated[sync.WaitGroup]", "sync/atomic.CompareAndSwapUint64", "internal/race.Write", "sync.runtime_SemacquireWaitGroup"], unfollowed := true, recurses := true, plainKeys := false, leaving := true, apart := false }
def GalleyAccountedSaid : Prop := galleyAccountedRow.holds Try.pinned (OpenSpec.ofChange galleyAccountedSpec)

/-- ITS FALSE NEIGHBOUR: 'it returns false'. Refute it at one input. -/
def galleyAccountedWrong : ChangeSpec := { name := "galleyAccounted", fn := fun _ => fun
  | [d] => { results := [.lit (.bool false)], args := [d] }
  | _ => none }
def GalleyAccountedWrongFalsely : Prop := galleyAccountedRow.holds Try.pinned (OpenSpec.ofChange galleyAccountedWrong)

/-- 'couchettelaw08.GalleyGains': WHATEVER THE INPUT: true; the input reads as it did. -/
def galleyGainsSpec : ChangeSpec := { name := "galleyGains", fn := fun _ => fun
  | [d1, d2, d3, d4, d5, d6] => { results := [.lit (.bool true)], args := [d1, d2, d3, d4, d5, d6] }
  | _ => none }
def galleyGainsRow : OpenClaim := { program := "ytlgiofglcgbjgaa", sum := "ba97ad0bd138180ea745b04959f8092169af4e97cea70a483d7069cb616d5c01", func := "couchette/couchettelaw08.GalleyGains", spec := "galleyGains", inPlace := ["(*sync.WaitGroup).Add", "internal/race.ReleaseMerge", "internal/race.Disable", "internal/race.Enable", "internal/synctest.IsInBubble", "internal/synctest.Associate[sync.WaitGroup]", "sync.fatal", "sync/atomic.OrUint64", "sync/atomic.AddUint64", "internal/race.Read", "sync/atomic.LoadUint64", "sync/atomic.StoreUint64", "internal/synctest.Disassociate[sync.WaitGroup]", "sync.runtime_Semrelease", "(*sync.WaitGroup).Done", "(*sync.WaitGroup).Wait", "internal/race.Acquire", "internal/synctest.IsAssociated[sync.WaitGroup]", "sync/atomic.CompareAndSwapUint64", "internal/race.Write", "sync.runtime_SemacquireWaitGroup"], unfollowed := true, recurses := true, plainKeys := false, leaving := true, apart := false }
def GalleyGainsSaid : Prop := galleyGainsRow.holds Try.pinned (OpenSpec.ofChange galleyGainsSpec)

/-- ITS FALSE NEIGHBOUR: 'it returns false'. Refute it at one input. -/
def galleyGainsWrong : ChangeSpec := { name := "galleyGains", fn := fun _ => fun
  | [d1, d2, d3, d4, d5, d6] => { results := [.lit (.bool false)], args := [d1, d2, d3, d4, d5, d6] }
  | _ => none }
def GalleyGainsWrongFalsely : Prop := galleyGainsRow.holds Try.pinned (OpenSpec.ofChange galleyGainsWrong)

/- THE SECOND FORM. 'bulk': how many values and letters a reading holds, each counted each time it is reached (what is shared counts as often as it is met; a slice's spare places count too). A statement '..UptoSaid' is the law's where the arguments, and the package variables that the reading takes, are together of bulk at most 1048576: NARROWER than '..Said'. Prove '..Said' where nothing that the law and all that it calls make is longer than what came in: it says more and counts as full. Else prove '..UptoSaid'. A law counts once. -/
mutual
def uptoBulk {H : Type} : DataW H → Nat
  | .lit (.string bytes) => bytes.length + 1
  | .lit _ => 1
  | .nil => 1
  | .ptr d => uptoBulk d + 1
  | .slice elems spare => uptoBulkAll elems + uptoBulkAll spare + 1
  | .agg parts => uptoBulkAll parts + 1
  | .iface _ d => uptoBulk d + 1
  | .map entries => uptoBulkEntries entries + 1
  | .held _ => 1
def uptoBulkAll {H : Type} : List (DataW H) → Nat
  | [] => 0
  | d :: r => uptoBulk d + uptoBulkAll r
def uptoBulkEntries {H : Type} : List (Lit × DataW H) → Nat
  | [] => 0
  | x :: r => uptoBulkEntry x + uptoBulkEntries r
def uptoBulkEntry {H : Type} : Lit × DataW H → Nat
  | (.string bytes, d) => bytes.length + uptoBulk d + 1
  | (_, d) => uptoBulk d + 1
 end
def uptoSmall : (H : Type) → List (DataW H) → Bool := fun _ ds => decide (uptoBulkAll ds ≤ 1048576)
def OpenSpec.upto (s : _root_.Go.ChangeSpec) : _root_.Go.OpenSpec := { _root_.Go.OpenSpec.ofChange s with cond := some uptoSmall }

/-- 'couchettelaw08.GalleyShort', WHERE WHAT IT READS IS OF BULK AT MOST 1048576: true; the input reads as it did. -/
def galleyShortUptoRow : OpenClaim := { program := "ytlgiofglcgbjgaa", sum := "ba97ad0bd138180ea745b04959f8092169af4e97cea70a483d7069cb616d5c01", func := "couchette/couchettelaw08.GalleyShort", spec := "galleyShort", inPlace := ["(*sync.WaitGroup).Add", "internal/race.ReleaseMerge", "internal/race.Disable", "internal/race.Enable", "internal/synctest.IsInBubble", "internal/synctest.Associate[sync.WaitGroup]", "sync.fatal", "sync/atomic.OrUint64", "sync/atomic.AddUint64", "internal/race.Read", "sync/atomic.LoadUint64", "sync/atomic.StoreUint64", "internal/synctest.Disassociate[sync.WaitGroup]", "sync.runtime_Semrelease", "(*sync.WaitGroup).Done", "(*sync.WaitGroup).Wait", "internal/race.Acquire", "internal/synctest.IsAssociated[sync.WaitGroup]", "sync/atomic.CompareAndSwapUint64", "internal/race.Write", "sync.runtime_SemacquireWaitGroup"], unfollowed := true, recurses := true, plainKeys := false, leaving := true, apart := false, narrowed := true }
def GalleyShortUptoSaid : Prop := galleyShortUptoRow.holds Try.pinned (OpenSpec.upto galleyShortSpec)

/-- 'couchettelaw08.GalleyCovers', WHERE WHAT IT READS IS OF BULK AT MOST 1048576: true; the input reads as it did. -/
def galleyCoversUptoRow : OpenClaim := { program := "ytlgiofglcgbjgaa", sum := "ba97ad0bd138180ea745b04959f8092169af4e97cea70a483d7069cb616d5c01", func := "couchette/couchettelaw08.GalleyCovers", spec := "galleyCovers", inPlace := ["(*sync.WaitGroup).Add", "internal/race.ReleaseMerge", "internal/race.Disable", "internal/race.Enable", "internal/synctest.IsInBubble", "internal/synctest.Associate[sync.WaitGroup]", "sync.fatal", "sync/atomic.OrUint64", "sync/atomic.AddUint64", "internal/race.Read", "sync/atomic.LoadUint64", "sync/atomic.StoreUint64", "internal/synctest.Disassociate[sync.WaitGroup]", "sync.runtime_Semrelease", "(*sync.WaitGroup).Done", "(*sync.WaitGroup).Wait", "internal/race.Acquire", "internal/synctest.IsAssociated[sync.WaitGroup]", "sync/atomic.CompareAndSwapUint64", "internal/race.Write", "sync.runtime_SemacquireWaitGroup"], unfollowed := true, recurses := true, plainKeys := false, leaving := true, apart := false, narrowed := true }
def GalleyCoversUptoSaid : Prop := galleyCoversUptoRow.holds Try.pinned (OpenSpec.upto galleyCoversSpec)

/-- 'couchettelaw08.GalleyApart', WHERE WHAT IT READS IS OF BULK AT MOST 1048576: true; the input reads as it did. -/
def galleyApartUptoRow : OpenClaim := { program := "ytlgiofglcgbjgaa", sum := "ba97ad0bd138180ea745b04959f8092169af4e97cea70a483d7069cb616d5c01", func := "couchette/couchettelaw08.GalleyApart", spec := "galleyApart", inPlace := ["(*sync.WaitGroup).Add", "internal/race.ReleaseMerge", "internal/race.Disable", "internal/race.Enable", "internal/synctest.IsInBubble", "internal/synctest.Associate[sync.WaitGroup]", "sync.fatal", "sync/atomic.OrUint64", "sync/atomic.AddUint64", "internal/race.Read", "sync/atomic.LoadUint64", "sync/atomic.StoreUint64", "internal/synctest.Disassociate[sync.WaitGroup]", "sync.runtime_Semrelease", "(*sync.WaitGroup).Done", "(*sync.WaitGroup).Wait", "internal/race.Acquire", "internal/synctest.IsAssociated[sync.WaitGroup]", "sync/atomic.CompareAndSwapUint64", "internal/race.Write", "sync.runtime_SemacquireWaitGroup"], unfollowed := true, recurses := true, plainKeys := false, leaving := true, apart := false, narrowed := true }
def GalleyApartUptoSaid : Prop := galleyApartUptoRow.holds Try.pinned (OpenSpec.upto galleyApartSpec)

/-- 'couchettelaw08.GalleyUses', WHERE WHAT IT READS IS OF BULK AT MOST 1048576: true; the input reads as it did. -/
def galleyUsesUptoRow : OpenClaim := { program := "ytlgiofglcgbjgaa", sum := "ba97ad0bd138180ea745b04959f8092169af4e97cea70a483d7069cb616d5c01", func := "couchette/couchettelaw08.GalleyUses", spec := "galleyUses", inPlace := ["(*sync.WaitGroup).Add", "internal/race.ReleaseMerge", "internal/race.Disable", "internal/race.Enable", "internal/synctest.IsInBubble", "internal/synctest.Associate[sync.WaitGroup]", "sync.fatal", "sync/atomic.OrUint64", "sync/atomic.AddUint64", "internal/race.Read", "sync/atomic.LoadUint64", "sync/atomic.StoreUint64", "internal/synctest.Disassociate[sync.WaitGroup]", "sync.runtime_Semrelease", "(*sync.WaitGroup).Done", "(*sync.WaitGroup).Wait", "internal/race.Acquire", "internal/synctest.IsAssociated[sync.WaitGroup]", "sync/atomic.CompareAndSwapUint64", "internal/race.Write", "sync.runtime_SemacquireWaitGroup"], unfollowed := true, recurses := true, plainKeys := false, leaving := true, apart := false, narrowed := true }
def GalleyUsesUptoSaid : Prop := galleyUsesUptoRow.holds Try.pinned (OpenSpec.upto galleyUsesSpec)

/-- 'couchettelaw08.GalleyCosts', WHERE WHAT IT READS IS OF BULK AT MOST 1048576: true; the input reads as it did. -/
def galleyCostsUptoRow : OpenClaim := { program := "ytlgiofglcgbjgaa", sum := "ba97ad0bd138180ea745b04959f8092169af4e97cea70a483d7069cb616d5c01", func := "couchette/couchettelaw08.GalleyCosts", spec := "galleyCosts", inPlace := ["(*sync.WaitGroup).Add", "internal/race.ReleaseMerge", "internal/race.Disable", "internal/race.Enable", "internal/synctest.IsInBubble", "internal/synctest.Associate[sync.WaitGroup]", "sync.fatal", "sync/atomic.OrUint64", "sync/atomic.AddUint64", "internal/race.Read", "sync/atomic.LoadUint64", "sync/atomic.StoreUint64", "internal/synctest.Disassociate[sync.WaitGroup]", "sync.runtime_Semrelease", "(*sync.WaitGroup).Done", "(*sync.WaitGroup).Wait", "internal/race.Acquire", "internal/synctest.IsAssociated[sync.WaitGroup]", "sync/atomic.CompareAndSwapUint64", "internal/race.Write", "sync.runtime_SemacquireWaitGroup"], unfollowed := true, recurses := true, plainKeys := false, leaving := true, apart := false, narrowed := true }
def GalleyCostsUptoSaid : Prop := galleyCostsUptoRow.holds Try.pinned (OpenSpec.upto galleyCostsSpec)

/-- 'couchettelaw08.GalleyMost', WHERE WHAT IT READS IS OF BULK AT MOST 1048576: true; the input reads as it did. -/
def galleyMostUptoRow : OpenClaim := { program := "ytlgiofglcgbjgaa", sum := "ba97ad0bd138180ea745b04959f8092169af4e97cea70a483d7069cb616d5c01", func := "couchette/couchettelaw08.GalleyMost", spec := "galleyMost", inPlace := ["(*sync.WaitGroup).Add", "internal/race.ReleaseMerge", "internal/race.Disable", "internal/race.Enable", "internal/synctest.IsInBubble", "internal/synctest.Associate[sync.WaitGroup]", "sync.fatal", "sync/atomic.OrUint64", "sync/atomic.AddUint64", "internal/race.Read", "sync/atomic.LoadUint64", "sync/atomic.StoreUint64", "internal/synctest.Disassociate[sync.WaitGroup]", "sync.runtime_Semrelease", "(*sync.WaitGroup).Done", "(*sync.WaitGroup).Wait", "internal/race.Acquire", "internal/synctest.IsAssociated[sync.WaitGroup]", "sync/atomic.CompareAndSwapUint64", "internal/race.Write", "sync.runtime_SemacquireWaitGroup"], unfollowed := true, recurses := true, plainKeys := false, leaving := true, apart := false, narrowed := true }
def GalleyMostUptoSaid : Prop := galleyMostUptoRow.holds Try.pinned (OpenSpec.upto galleyMostSpec)

/-- 'couchettelaw08.GalleyCheapest', WHERE WHAT IT READS IS OF BULK AT MOST 1048576: true; the input reads as it did. -/
def galleyCheapestUptoRow : OpenClaim := { program := "ytlgiofglcgbjgaa", sum := "ba97ad0bd138180ea745b04959f8092169af4e97cea70a483d7069cb616d5c01", func := "couchette/couchettelaw08.GalleyCheapest", spec := "galleyCheapest", inPlace := ["(*sync.WaitGroup).Add", "internal/race.ReleaseMerge", "internal/race.Disable", "internal/race.Enable", "internal/synctest.IsInBubble", "internal/synctest.Associate[sync.WaitGroup]", "sync.fatal", "sync/atomic.OrUint64", "sync/atomic.AddUint64", "internal/race.Read", "sync/atomic.LoadUint64", "sync/atomic.StoreUint64", "internal/synctest.Disassociate[sync.WaitGroup]", "sync.runtime_Semrelease", "(*sync.WaitGroup).Done", "(*sync.WaitGroup).Wait", "internal/race.Acquire", "internal/synctest.IsAssociated[sync.WaitGroup]", "sync/atomic.CompareAndSwapUint64", "internal/race.Write", "sync.runtime_SemacquireWaitGroup"], unfollowed := true, recurses := true, plainKeys := false, leaving := true, apart := false, narrowed := true }
def GalleyCheapestUptoSaid : Prop := galleyCheapestUptoRow.holds Try.pinned (OpenSpec.upto galleyCheapestSpec)

/-- 'couchettelaw08.GalleyMust', WHERE WHAT IT READS IS OF BULK AT MOST 1048576: true; the input reads as it did. -/
def galleyMustUptoRow : OpenClaim := { program := "ytlgiofglcgbjgaa", sum := "ba97ad0bd138180ea745b04959f8092169af4e97cea70a483d7069cb616d5c01", func := "couchette/couchettelaw08.GalleyMust", spec := "galleyMust", inPlace := ["(*sync.WaitGroup).Add", "internal/race.ReleaseMerge", "internal/race.Disable", "internal/race.Enable", "internal/synctest.IsInBubble", "internal/synctest.Associate[sync.WaitGroup]", "sync.fatal", "sync/atomic.OrUint64", "sync/atomic.AddUint64", "internal/race.Read", "sync/atomic.LoadUint64", "sync/atomic.StoreUint64", "internal/synctest.Disassociate[sync.WaitGroup]", "sync.runtime_Semrelease", "(*sync.WaitGroup).Done", "(*sync.WaitGroup).Wait", "internal/race.Acquire", "internal/synctest.IsAssociated[sync.WaitGroup]", "sync/atomic.CompareAndSwapUint64", "internal/race.Write", "sync.runtime_SemacquireWaitGroup"], unfollowed := true, recurses := true, plainKeys := false, leaving := true, apart := false, narrowed := true }
def GalleyMustUptoSaid : Prop := galleyMustUptoRow.holds Try.pinned (OpenSpec.upto galleyMustSpec)

/-- 'couchettelaw08.GalleyDearer', WHERE WHAT IT READS IS OF BULK AT MOST 1048576: true; the input reads as it did. -/
def galleyDearerUptoRow : OpenClaim := { program := "ytlgiofglcgbjgaa", sum := "ba97ad0bd138180ea745b04959f8092169af4e97cea70a483d7069cb616d5c01", func := "couchette/couchettelaw08.GalleyDearer", spec := "galleyDearer", inPlace := ["(*sync.WaitGroup).Add", "internal/race.ReleaseMerge", "internal/race.Disable", "internal/race.Enable", "internal/synctest.IsInBubble", "internal/synctest.Associate[sync.WaitGroup]", "sync.fatal", "sync/atomic.OrUint64", "sync/atomic.AddUint64", "internal/race.Read", "sync/atomic.LoadUint64", "sync/atomic.StoreUint64", "internal/synctest.Disassociate[sync.WaitGroup]", "sync.runtime_Semrelease", "(*sync.WaitGroup).Done", "(*sync.WaitGroup).Wait", "internal/race.Acquire", "internal/synctest.IsAssociated[sync.WaitGroup]", "sync/atomic.CompareAndSwapUint64", "internal/race.Write", "sync.runtime_SemacquireWaitGroup"], unfollowed := true, recurses := true, plainKeys := false, leaving := true, apart := false, narrowed := true }
def GalleyDearerUptoSaid : Prop := galleyDearerUptoRow.holds Try.pinned (OpenSpec.upto galleyDearerSpec)

/-- 'couchettelaw08.GalleyMenus', WHERE WHAT IT READS IS OF BULK AT MOST 1048576: true; the input reads as it did. -/
def galleyMenusUptoRow : OpenClaim := { program := "ytlgiofglcgbjgaa", sum := "ba97ad0bd138180ea745b04959f8092169af4e97cea70a483d7069cb616d5c01", func := "couchette/couchettelaw08.GalleyMenus", spec := "galleyMenus", inPlace := ["(*sync.WaitGroup).Add", "internal/race.ReleaseMerge", "internal/race.Disable", "internal/race.Enable", "internal/synctest.IsInBubble", "internal/synctest.Associate[sync.WaitGroup]", "sync.fatal", "sync/atomic.OrUint64", "sync/atomic.AddUint64", "internal/race.Read", "sync/atomic.LoadUint64", "sync/atomic.StoreUint64", "internal/synctest.Disassociate[sync.WaitGroup]", "sync.runtime_Semrelease", "(*sync.WaitGroup).Done", "(*sync.WaitGroup).Wait", "internal/race.Acquire", "internal/synctest.IsAssociated[sync.WaitGroup]", "sync/atomic.CompareAndSwapUint64", "internal/race.Write", "sync.runtime_SemacquireWaitGroup"], unfollowed := true, recurses := true, plainKeys := false, leaving := true, apart := false, narrowed := true }
def GalleyMenusUptoSaid : Prop := galleyMenusUptoRow.holds Try.pinned (OpenSpec.upto galleyMenusSpec)

/-- 'couchettelaw08.GalleyMenu', WHERE WHAT IT READS IS OF BULK AT MOST 1048576: true; the input reads as it did. -/
def galleyMenuUptoRow : OpenClaim := { program := "ytlgiofglcgbjgaa", sum := "ba97ad0bd138180ea745b04959f8092169af4e97cea70a483d7069cb616d5c01", func := "couchette/couchettelaw08.GalleyMenu", spec := "galleyMenu", inPlace := ["(*sync.WaitGroup).Add", "internal/race.ReleaseMerge", "internal/race.Disable", "internal/race.Enable", "internal/synctest.IsInBubble", "internal/synctest.Associate[sync.WaitGroup]", "sync.fatal", "sync/atomic.OrUint64", "sync/atomic.AddUint64", "internal/race.Read", "sync/atomic.LoadUint64", "sync/atomic.StoreUint64", "internal/synctest.Disassociate[sync.WaitGroup]", "sync.runtime_Semrelease", "(*sync.WaitGroup).Done", "(*sync.WaitGroup).Wait", "internal/race.Acquire", "internal/synctest.IsAssociated[sync.WaitGroup]", "sync/atomic.CompareAndSwapUint64", "internal/race.Write", "sync.runtime_SemacquireWaitGroup"], unfollowed := true, recurses := true, plainKeys := false, leaving := true, apart := false, narrowed := true }
def GalleyMenuUptoSaid : Prop := galleyMenuUptoRow.holds Try.pinned (OpenSpec.upto galleyMenuSpec)

/-- 'couchettelaw08.GalleyEasier', WHERE WHAT IT READS IS OF BULK AT MOST 1048576: true; the input reads as it did. -/
def galleyEasierUptoRow : OpenClaim := { program := "ytlgiofglcgbjgaa", sum := "ba97ad0bd138180ea745b04959f8092169af4e97cea70a483d7069cb616d5c01", func := "couchette/couchettelaw08.GalleyEasier", spec := "galleyEasier", inPlace := ["(*sync.WaitGroup).Add", "internal/race.ReleaseMerge", "internal/race.Disable", "internal/race.Enable", "internal/synctest.IsInBubble", "internal/synctest.Associate[sync.WaitGroup]", "sync.fatal", "sync/atomic.OrUint64", "sync/atomic.AddUint64", "internal/race.Read", "sync/atomic.LoadUint64", "sync/atomic.StoreUint64", "internal/synctest.Disassociate[sync.WaitGroup]", "sync.runtime_Semrelease", "(*sync.WaitGroup).Done", "(*sync.WaitGroup).Wait", "internal/race.Acquire", "internal/synctest.IsAssociated[sync.WaitGroup]", "sync/atomic.CompareAndSwapUint64", "internal/race.Write", "sync.runtime_SemacquireWaitGroup"], unfollowed := true, recurses := true, plainKeys := false, leaving := true, apart := false, narrowed := true }
def GalleyEasierUptoSaid : Prop := galleyEasierUptoRow.holds Try.pinned (OpenSpec.upto galleyEasierSpec)

/-- 'couchettelaw08.GalleyAccounted', WHERE WHAT IT READS IS OF BULK AT MOST 1048576: true; the input reads as it did. -/
def galleyAccountedUptoRow : OpenClaim := { program := "ytlgiofglcgbjgaa", sum := "ba97ad0bd138180ea745b04959f8092169af4e97cea70a483d7069cb616d5c01", func := "couchette/couchettelaw08.GalleyAccounted", spec := "galleyAccounted", inPlace := ["(*sync.WaitGroup).Add", "internal/race.ReleaseMerge", "internal/race.Disable", "internal/race.Enable", "internal/synctest.IsInBubble", "internal/synctest.Associate[sync.WaitGroup]", "sync.fatal", "sync/atomic.OrUint64", "sync/atomic.AddUint64", "internal/race.Read", "sync/atomic.LoadUint64", "sync/atomic.StoreUint64", "internal/synctest.Disassociate[sync.WaitGroup]", "sync.runtime_Semrelease", "(*sync.WaitGroup).Done", "(*sync.WaitGroup).Wait", "internal/race.Acquire", "internal/synctest.IsAssociated[sync.WaitGroup]", "sync/atomic.CompareAndSwapUint64", "internal/race.Write", "sync.runtime_SemacquireWaitGroup"], unfollowed := true, recurses := true, plainKeys := false, leaving := true, apart := false, narrowed := true }
def GalleyAccountedUptoSaid : Prop := galleyAccountedUptoRow.holds Try.pinned (OpenSpec.upto galleyAccountedSpec)

/-- 'couchettelaw08.GalleyGains', WHERE WHAT IT READS IS OF BULK AT MOST 1048576: true; the input reads as it did. -/
def galleyGainsUptoRow : OpenClaim := { program := "ytlgiofglcgbjgaa", sum := "ba97ad0bd138180ea745b04959f8092169af4e97cea70a483d7069cb616d5c01", func := "couchette/couchettelaw08.GalleyGains", spec := "galleyGains", inPlace := ["(*sync.WaitGroup).Add", "internal/race.ReleaseMerge", "internal/race.Disable", "internal/race.Enable", "internal/synctest.IsInBubble", "internal/synctest.Associate[sync.WaitGroup]", "sync.fatal", "sync/atomic.OrUint64", "sync/atomic.AddUint64", "internal/race.Read", "sync/atomic.LoadUint64", "sync/atomic.StoreUint64", "internal/synctest.Disassociate[sync.WaitGroup]", "sync.runtime_Semrelease", "(*sync.WaitGroup).Done", "(*sync.WaitGroup).Wait", "internal/race.Acquire", "internal/synctest.IsAssociated[sync.WaitGroup]", "sync/atomic.CompareAndSwapUint64", "internal/race.Write", "sync.runtime_SemacquireWaitGroup"], unfollowed := true, recurses := true, plainKeys := false, leaving := true, apart := false, narrowed := true }
def GalleyGainsUptoSaid : Prop := galleyGainsUptoRow.holds Try.pinned (OpenSpec.upto galleyGainsSpec)

end Rows
end Go.Proofs.Ytlgiofglcgbjgaa
