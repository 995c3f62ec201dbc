/-
  No cell of these rows narrows 'for every input' (looked for: loops, veiled, ifaces, maps, wideKeys, modest, calm, conditions, laid).
  DERIVED. THE GIVEN ROWS OF THIS SEAT. 3 by the template 'for every input the law returns true; each argument reads behind the call as it read before'; 0 by the template 'total and deterministic' (their statements: YtklmllaggigkfaaGreatTotals.lean).
  GIVEN WITH THE SEED: the statements are not yours to turn. If you find one false, say at which input.
  Laid BY PROGRAM, IN A SANDBOX (cutbox-rows.mjs): the forced cells as the released guide's own fill.sh prints them over the translation cf5449bcba15b3ac… (all of the seat's roots in one cut). By AI agents, Wed Nov 11 2026. No macro, syntax, notation, axiom, sorry.
-/
import Derived.Test.YtklmllaggigkfaaGreatChecked
import GoSem.Claim
import GoSem.ClaimJoined
import GoSem.ClaimMapViews
import Derived.JoinedTies
import Derived.KernelRfl
namespace Go.Proofs.YtklmllaggigkfaaGreat
/- THE CELL 'sum', in the pinned program and in every row, IS THE sha256 OF THE DUMP (.gsa) THAT YtklmllaggigkfaaGreatProg.lean LOADS. Nothing in Lean hashes anything: it is a label: what it is worth is what the hold of that sum in a sandbox is worth. -/
noncomputable def Tryz.pinned : Pinned := { name := "ytklmllaggigkfaagreat", sum := "cf5449bcba15b3ac42cce750ee30a3d6e52f53405586ff50bc31f53b04bc56a1", checked := Tryz.checked }
namespace Rows
def none {H : Type} : Left H := { results := [], args := [] }

/-- 'laws.FnExactWorldPlay': WHATEVER THE INPUT: true; the input reads as it did. -/
def fnExactWorldPlaySpec : ChangeSpec := { name := "fnExactWorldPlay", fn := fun _ => fun
  | [d] => { results := [.lit (.bool true)], args := [d] }
  | _ => none }
def fnExactWorldPlayRow : OpenClaim := { program := "ytklmllaggigkfaagreat", sum := "cf5449bcba15b3ac42cce750ee30a3d6e52f53405586ff50bc31f53b04bc56a1", func := "loop.example/hawser/laws.FnExactWorldPlay", spec := "fnExactWorldPlay", inPlace := ["slices.overlaps[int]"], unfollowed := true, recurses := true, leaving := true, apart := false }
def FnExactWorldPlaySaid : Prop := fnExactWorldPlayRow.holds Tryz.pinned (OpenSpec.ofChange fnExactWorldPlaySpec)

/-- ITS FALSE NEIGHBOUR: 'it returns false'. Refute it at one input. -/
def fnExactWorldPlayWrong : ChangeSpec := { name := "fnExactWorldPlay", fn := fun _ => fun
  | [d] => { results := [.lit (.bool false)], args := [d] }
  | _ => none }
def FnExactWorldPlayWrongFalsely : Prop := fnExactWorldPlayRow.holds Tryz.pinned (OpenSpec.ofChange fnExactWorldPlayWrong)

/-- 'laws.FnExactWorldDo': WHATEVER THE INPUT: true; the input reads as it did. -/
def fnExactWorldDoSpec : ChangeSpec := { name := "fnExactWorldDo", fn := fun _ => fun
  | [d1, d2] => { results := [.lit (.bool true)], args := [d1, d2] }
  | _ => none }
def fnExactWorldDoRow : OpenClaim := { program := "ytklmllaggigkfaagreat", sum := "cf5449bcba15b3ac42cce750ee30a3d6e52f53405586ff50bc31f53b04bc56a1", func := "loop.example/hawser/laws.FnExactWorldDo", spec := "fnExactWorldDo", inPlace := ["(*sync.WaitGroup).Add", "internal/race.ReleaseMerge", "internal/race.Disable", "internal/race.Enable", "internal/synctest.IsInBubble", "internal/synctest.Associate[sync.WaitGroup]", "sync.fatal", "sync/atomic.OrUint64", "sync/atomic.AddUint64", "internal/race.Read", "sync/atomic.LoadUint64", "sync/atomic.StoreUint64", "internal/synctest.Disassociate[sync.WaitGroup]", "sync.runtime_Semrelease", "(*sync.WaitGroup).Done", "(*sync.WaitGroup).Wait", "internal/race.Acquire", "internal/synctest.IsAssociated[sync.WaitGroup]", "sync/atomic.CompareAndSwapUint64", "internal/race.Write", "sync.runtime_SemacquireWaitGroup", "slices.overlaps[int]"], unfollowed := true, recurses := true, leaving := true, apart := false }
def FnExactWorldDoSaid : Prop := fnExactWorldDoRow.holds Tryz.pinned (OpenSpec.ofChange fnExactWorldDoSpec)

/-- ITS FALSE NEIGHBOUR: 'it returns false'. Refute it at one input. -/
def fnExactWorldDoWrong : ChangeSpec := { name := "fnExactWorldDo", fn := fun _ => fun
  | [d1, d2] => { results := [.lit (.bool false)], args := [d1, d2] }
  | _ => none }
def FnExactWorldDoWrongFalsely : Prop := fnExactWorldDoRow.holds Tryz.pinned (OpenSpec.ofChange fnExactWorldDoWrong)

/-- 'laws.FnExactWorldCalm': WHATEVER THE INPUT: true; the input reads as it did. -/
def fnExactWorldCalmSpec : ChangeSpec := { name := "fnExactWorldCalm", fn := fun _ => fun
  | [d1, d2] => { results := [.lit (.bool true)], args := [d1, d2] }
  | _ => none }
def fnExactWorldCalmRow : OpenClaim := { program := "ytklmllaggigkfaagreat", sum := "cf5449bcba15b3ac42cce750ee30a3d6e52f53405586ff50bc31f53b04bc56a1", func := "loop.example/hawser/laws.FnExactWorldCalm", spec := "fnExactWorldCalm", inPlace := ["(*sync.WaitGroup).Add", "internal/race.ReleaseMerge", "internal/race.Disable", "internal/race.Enable", "internal/synctest.IsInBubble", "internal/synctest.Associate[sync.WaitGroup]", "sync.fatal", "sync/atomic.OrUint64", "sync/atomic.AddUint64", "internal/race.Read", "sync/atomic.LoadUint64", "sync/atomic.StoreUint64", "internal/synctest.Disassociate[sync.WaitGroup]", "sync.runtime_Semrelease", "(*sync.WaitGroup).Done", "(*sync.WaitGroup).Wait", "internal/race.Acquire", "internal/synctest.IsAssociated[sync.WaitGroup]", "sync/atomic.CompareAndSwapUint64", "internal/race.Write", "sync.runtime_SemacquireWaitGroup", "slices.overlaps[int]"], unfollowed := true, recurses := true, leaving := true, apart := false }
def FnExactWorldCalmSaid : Prop := fnExactWorldCalmRow.holds Tryz.pinned (OpenSpec.ofChange fnExactWorldCalmSpec)

/-- ITS FALSE NEIGHBOUR: 'it returns false'. Refute it at one input. -/
def fnExactWorldCalmWrong : ChangeSpec := { name := "fnExactWorldCalm", fn := fun _ => fun
  | [d1, d2] => { results := [.lit (.bool false)], args := [d1, d2] }
  | _ => none }
def FnExactWorldCalmWrongFalsely : Prop := fnExactWorldCalmRow.holds Tryz.pinned (OpenSpec.ofChange fnExactWorldCalmWrong)

/- THE SECOND FORM. 'bulk': how many values and letters a reading holds, each counted each time it is reached (what is shared counts as often as it is met; a slice's spare places count too). A statement '..UptoSaid' is the law's where the arguments, and the package variables that the reading takes, are together of bulk at most 1048576: NARROWER than '..Said'. Prove '..Said' where nothing that the law and all that it calls make is longer than what came in: it says more and counts as full. Else prove '..UptoSaid'. A law counts once. -/
mutual
def uptoBulk {H : Type} : DataW H → Nat
  | .lit (.string bytes) => bytes.length + 1
  | .lit _ => 1
  | .nil => 1
  | .ptr d => uptoBulk d + 1
  | .slice elems spare => uptoBulkAll elems + uptoBulkAll spare + 1
  | .agg parts => uptoBulkAll parts + 1
  | .iface _ d => uptoBulk d + 1
  | .map entries => uptoBulkEntries entries + 1
  | .held _ => 1
def uptoBulkAll {H : Type} : List (DataW H) → Nat
  | [] => 0
  | d :: r => uptoBulk d + uptoBulkAll r
def uptoBulkEntries {H : Type} : List (Lit × DataW H) → Nat
  | [] => 0
  | x :: r => uptoBulkEntry x + uptoBulkEntries r
def uptoBulkEntry {H : Type} : Lit × DataW H → Nat
  | (.string bytes, d) => bytes.length + uptoBulk d + 1
  | (_, d) => uptoBulk d + 1
 end
def uptoSmall : (H : Type) → List (DataW H) → Bool := fun _ ds => decide (uptoBulkAll ds ≤ 1048576)
def OpenSpec.upto (s : _root_.Go.ChangeSpec) : _root_.Go.OpenSpec := { _root_.Go.OpenSpec.ofChange s with cond := some uptoSmall }

/-- 'laws.FnExactWorldPlay', WHERE WHAT IT READS IS OF BULK AT MOST 1048576: true; the input reads as it did. -/
def fnExactWorldPlayUptoRow : OpenClaim := { program := "ytklmllaggigkfaagreat", sum := "cf5449bcba15b3ac42cce750ee30a3d6e52f53405586ff50bc31f53b04bc56a1", func := "loop.example/hawser/laws.FnExactWorldPlay", spec := "fnExactWorldPlay", inPlace := ["slices.overlaps[int]"], unfollowed := true, recurses := true, leaving := true, apart := false, narrowed := true }
def FnExactWorldPlayUptoSaid : Prop := fnExactWorldPlayUptoRow.holds Tryz.pinned (OpenSpec.upto fnExactWorldPlaySpec)

/-- 'laws.FnExactWorldDo', WHERE WHAT IT READS IS OF BULK AT MOST 1048576: true; the input reads as it did. -/
def fnExactWorldDoUptoRow : OpenClaim := { program := "ytklmllaggigkfaagreat", sum := "cf5449bcba15b3ac42cce750ee30a3d6e52f53405586ff50bc31f53b04bc56a1", func := "loop.example/hawser/laws.FnExactWorldDo", spec := "fnExactWorldDo", inPlace := ["(*sync.WaitGroup).Add", "internal/race.ReleaseMerge", "internal/race.Disable", "internal/race.Enable", "internal/synctest.IsInBubble", "internal/synctest.Associate[sync.WaitGroup]", "sync.fatal", "sync/atomic.OrUint64", "sync/atomic.AddUint64", "internal/race.Read", "sync/atomic.LoadUint64", "sync/atomic.StoreUint64", "internal/synctest.Disassociate[sync.WaitGroup]", "sync.runtime_Semrelease", "(*sync.WaitGroup).Done", "(*sync.WaitGroup).Wait", "internal/race.Acquire", "internal/synctest.IsAssociated[sync.WaitGroup]", "sync/atomic.CompareAndSwapUint64", "internal/race.Write", "sync.runtime_SemacquireWaitGroup", "slices.overlaps[int]"], unfollowed := true, recurses := true, leaving := true, apart := false, narrowed := true }
def FnExactWorldDoUptoSaid : Prop := fnExactWorldDoUptoRow.holds Tryz.pinned (OpenSpec.upto fnExactWorldDoSpec)

/-- 'laws.FnExactWorldCalm', WHERE WHAT IT READS IS OF BULK AT MOST 1048576: true; the input reads as it did. -/
def fnExactWorldCalmUptoRow : OpenClaim := { program := "ytklmllaggigkfaagreat", sum := "cf5449bcba15b3ac42cce750ee30a3d6e52f53405586ff50bc31f53b04bc56a1", func := "loop.example/hawser/laws.FnExactWorldCalm", spec := "fnExactWorldCalm", inPlace := ["(*sync.WaitGroup).Add", "internal/race.ReleaseMerge", "internal/race.Disable", "internal/race.Enable", "internal/synctest.IsInBubble", "internal/synctest.Associate[sync.WaitGroup]", "sync.fatal", "sync/atomic.OrUint64", "sync/atomic.AddUint64", "internal/race.Read", "sync/atomic.LoadUint64", "sync/atomic.StoreUint64", "internal/synctest.Disassociate[sync.WaitGroup]", "sync.runtime_Semrelease", "(*sync.WaitGroup).Done", "(*sync.WaitGroup).Wait", "internal/race.Acquire", "internal/synctest.IsAssociated[sync.WaitGroup]", "sync/atomic.CompareAndSwapUint64", "internal/race.Write", "sync.runtime_SemacquireWaitGroup", "slices.overlaps[int]"], unfollowed := true, recurses := true, leaving := true, apart := false, narrowed := true }
def FnExactWorldCalmUptoSaid : Prop := fnExactWorldCalmUptoRow.holds Tryz.pinned (OpenSpec.upto fnExactWorldCalmSpec)

end Rows
end Go.Proofs.YtklmllaggigkfaaGreat
