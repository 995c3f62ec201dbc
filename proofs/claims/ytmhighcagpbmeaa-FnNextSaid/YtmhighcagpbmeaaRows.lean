/-
  No cell of these rows narrows 'for every input' (looked for: loops, veiled, ifaces, maps, wideKeys, modest, calm, conditions, laid).
  DERIVED. THE GIVEN ROWS OF THIS SEAT. 12 by the template 'for every input the law returns true; each argument reads behind the call as it read before'; 0 by the template 'total and deterministic' (their statements: YtmhighcagpbmeaaTotals.lean).
  GIVEN WITH THE SEED: the statements are not yours to turn. If you find one false, say at which input.
  Laid BY PROGRAM, IN A SANDBOX (cutbox-rows.mjs): the forced cells as the released guide's own fill.sh prints them over the translation 4827d4705a5db794… (all of the seat's roots in one cut). By AI agents, Wed Nov 11 2026. No macro, syntax, notation, axiom, sorry.
-/
import Derived.Test.YtmhighcagpbmeaaChecked
import GoSem.Claim
import GoSem.ClaimJoined
import GoSem.ClaimMapViews
import Derived.JoinedTies
import Derived.KernelRfl
namespace Go.Proofs.Ytmhighcagpbmeaa
/- THE CELL 'sum', in the pinned program and in every row, IS THE sha256 OF THE DUMP (.gsa) THAT YtmhighcagpbmeaaProg.lean LOADS. Nothing in Lean hashes anything: it is a label: what it is worth is what the hold of that sum in a sandbox is worth. -/
noncomputable def Try.pinned : Pinned := { name := "ytmhighcagpbmeaa", sum := "4827d4705a5db794ec94693e0252bf96c4db6bd73506f2d35d7a68342752d014", checked := Try.checked }
namespace Rows
def none {H : Type} : Left H := { results := [], args := [] }

/-- 'laws.FnChainKnows': WHATEVER THE INPUT: true; the input reads as it did. -/
def fnChainKnowsSpec : ChangeSpec := { name := "fnChainKnows", fn := fun _ => fun
  | [d] => { results := [.lit (.bool true)], args := [d] }
  | _ => none }
def fnChainKnowsRow : OpenClaim := { program := "ytmhighcagpbmeaa", sum := "4827d4705a5db794ec94693e0252bf96c4db6bd73506f2d35d7a68342752d014", func := "loop.example/hawser/laws.FnChainKnows", spec := "fnChainKnows", apart := false }
def FnChainKnowsSaid : Prop := fnChainKnowsRow.holds Try.pinned (OpenSpec.ofChange fnChainKnowsSpec)

/-- ITS FALSE NEIGHBOUR: 'it returns false'. Refute it at one input. -/
def fnChainKnowsWrong : ChangeSpec := { name := "fnChainKnows", fn := fun _ => fun
  | [d] => { results := [.lit (.bool false)], args := [d] }
  | _ => none }
def FnChainKnowsWrongFalsely : Prop := fnChainKnowsRow.holds Try.pinned (OpenSpec.ofChange fnChainKnowsWrong)

/-- 'laws.FnChainLess': WHATEVER THE INPUT: true; the input reads as it did. -/
def fnChainLessSpec : ChangeSpec := { name := "fnChainLess", fn := fun _ => fun
  | [d1, d2] => { results := [.lit (.bool true)], args := [d1, d2] }
  | _ => none }
def fnChainLessRow : OpenClaim := { program := "ytmhighcagpbmeaa", sum := "4827d4705a5db794ec94693e0252bf96c4db6bd73506f2d35d7a68342752d014", func := "loop.example/hawser/laws.FnChainLess", spec := "fnChainLess", apart := false }
def FnChainLessSaid : Prop := fnChainLessRow.holds Try.pinned (OpenSpec.ofChange fnChainLessSpec)

/-- ITS FALSE NEIGHBOUR: 'it returns false'. Refute it at one input. -/
def fnChainLessWrong : ChangeSpec := { name := "fnChainLess", fn := fun _ => fun
  | [d1, d2] => { results := [.lit (.bool false)], args := [d1, d2] }
  | _ => none }
def FnChainLessWrongFalsely : Prop := fnChainLessRow.holds Try.pinned (OpenSpec.ofChange fnChainLessWrong)

/-- 'laws.FnSettled': WHATEVER THE INPUT: true; the input reads as it did. -/
def fnSettledSpec : ChangeSpec := { name := "fnSettled", fn := fun _ => fun
  | [d] => { results := [.lit (.bool true)], args := [d] }
  | _ => none }
def fnSettledRow : OpenClaim := { program := "ytmhighcagpbmeaa", sum := "4827d4705a5db794ec94693e0252bf96c4db6bd73506f2d35d7a68342752d014", func := "loop.example/hawser/laws.FnSettled", spec := "fnSettled", apart := false }
def FnSettledSaid : Prop := fnSettledRow.holds Try.pinned (OpenSpec.ofChange fnSettledSpec)

/-- ITS FALSE NEIGHBOUR: 'it returns false'. Refute it at one input. -/
def fnSettledWrong : ChangeSpec := { name := "fnSettled", fn := fun _ => fun
  | [d] => { results := [.lit (.bool false)], args := [d] }
  | _ => none }
def FnSettledWrongFalsely : Prop := fnSettledRow.holds Try.pinned (OpenSpec.ofChange fnSettledWrong)

/-- 'laws.FnStateSeq': WHATEVER THE INPUT: true; the input reads as it did. -/
def fnStateSeqSpec : ChangeSpec := { name := "fnStateSeq", fn := fun _ => fun
  | [d1, d2] => { results := [.lit (.bool true)], args := [d1, d2] }
  | _ => none }
def fnStateSeqRow : OpenClaim := { program := "ytmhighcagpbmeaa", sum := "4827d4705a5db794ec94693e0252bf96c4db6bd73506f2d35d7a68342752d014", func := "loop.example/hawser/laws.FnStateSeq", spec := "fnStateSeq", apart := false }
def FnStateSeqSaid : Prop := fnStateSeqRow.holds Try.pinned (OpenSpec.ofChange fnStateSeqSpec)

/-- ITS FALSE NEIGHBOUR: 'it returns false'. Refute it at one input. -/
def fnStateSeqWrong : ChangeSpec := { name := "fnStateSeq", fn := fun _ => fun
  | [d1, d2] => { results := [.lit (.bool false)], args := [d1, d2] }
  | _ => none }
def FnStateSeqWrongFalsely : Prop := fnStateSeqRow.holds Try.pinned (OpenSpec.ofChange fnStateSeqWrong)

/-- 'laws.FnHas': WHATEVER THE INPUT: true; the input reads as it did. -/
def fnHasSpec : ChangeSpec := { name := "fnHas", fn := fun _ => fun
  | [d1, d2] => { results := [.lit (.bool true)], args := [d1, d2] }
  | _ => none }
def fnHasRow : OpenClaim := { program := "ytmhighcagpbmeaa", sum := "4827d4705a5db794ec94693e0252bf96c4db6bd73506f2d35d7a68342752d014", func := "loop.example/hawser/laws.FnHas", spec := "fnHas", apart := false }
def FnHasSaid : Prop := fnHasRow.holds Try.pinned (OpenSpec.ofChange fnHasSpec)

/-- ITS FALSE NEIGHBOUR: 'it returns false'. Refute it at one input. -/
def fnHasWrong : ChangeSpec := { name := "fnHas", fn := fun _ => fun
  | [d1, d2] => { results := [.lit (.bool false)], args := [d1, d2] }
  | _ => none }
def FnHasWrongFalsely : Prop := fnHasRow.holds Try.pinned (OpenSpec.ofChange fnHasWrong)

/-- 'laws.FnUserSum': WHATEVER THE INPUT: true; the input reads as it did. -/
def fnUserSumSpec : ChangeSpec := { name := "fnUserSum", fn := fun _ => fun
  | [d] => { results := [.lit (.bool true)], args := [d] }
  | _ => none }
def fnUserSumRow : OpenClaim := { program := "ytmhighcagpbmeaa", sum := "4827d4705a5db794ec94693e0252bf96c4db6bd73506f2d35d7a68342752d014", func := "loop.example/hawser/laws.FnUserSum", spec := "fnUserSum", apart := false }
def FnUserSumSaid : Prop := fnUserSumRow.holds Try.pinned (OpenSpec.ofChange fnUserSumSpec)

/-- ITS FALSE NEIGHBOUR: 'it returns false'. Refute it at one input. -/
def fnUserSumWrong : ChangeSpec := { name := "fnUserSum", fn := fun _ => fun
  | [d] => { results := [.lit (.bool false)], args := [d] }
  | _ => none }
def FnUserSumWrongFalsely : Prop := fnUserSumRow.holds Try.pinned (OpenSpec.ofChange fnUserSumWrong)

/-- 'laws.FnWayOpen': WHATEVER THE INPUT: true; the input reads as it did. -/
def fnWayOpenSpec : ChangeSpec := { name := "fnWayOpen", fn := fun _ => fun
  | [d] => { results := [.lit (.bool true)], args := [d] }
  | _ => none }
def fnWayOpenRow : OpenClaim := { program := "ytmhighcagpbmeaa", sum := "4827d4705a5db794ec94693e0252bf96c4db6bd73506f2d35d7a68342752d014", func := "loop.example/hawser/laws.FnWayOpen", spec := "fnWayOpen", unfollowed := true, recurses := true, apart := false }
def FnWayOpenSaid : Prop := fnWayOpenRow.holds Try.pinned (OpenSpec.ofChange fnWayOpenSpec)

/-- ITS FALSE NEIGHBOUR: 'it returns false'. Refute it at one input. -/
def fnWayOpenWrong : ChangeSpec := { name := "fnWayOpen", fn := fun _ => fun
  | [d] => { results := [.lit (.bool false)], args := [d] }
  | _ => none }
def FnWayOpenWrongFalsely : Prop := fnWayOpenRow.holds Try.pinned (OpenSpec.ofChange fnWayOpenWrong)

/-- 'laws.FnWayFresh': WHATEVER THE INPUT: true; the input reads as it did. -/
def fnWayFreshSpec : ChangeSpec := { name := "fnWayFresh", fn := fun _ => fun
  | [d] => { results := [.lit (.bool true)], args := [d] }
  | _ => none }
def fnWayFreshRow : OpenClaim := { program := "ytmhighcagpbmeaa", sum := "4827d4705a5db794ec94693e0252bf96c4db6bd73506f2d35d7a68342752d014", func := "loop.example/hawser/laws.FnWayFresh", spec := "fnWayFresh", unfollowed := true, recurses := true, apart := false }
def FnWayFreshSaid : Prop := fnWayFreshRow.holds Try.pinned (OpenSpec.ofChange fnWayFreshSpec)

/-- ITS FALSE NEIGHBOUR: 'it returns false'. Refute it at one input. -/
def fnWayFreshWrong : ChangeSpec := { name := "fnWayFresh", fn := fun _ => fun
  | [d] => { results := [.lit (.bool false)], args := [d] }
  | _ => none }
def FnWayFreshWrongFalsely : Prop := fnWayFreshRow.holds Try.pinned (OpenSpec.ofChange fnWayFreshWrong)

/-- 'laws.FnDone': WHATEVER THE INPUT: true; the input reads as it did. -/
def fnDoneSpec : ChangeSpec := { name := "fnDone", fn := fun _ => fun
  | [d] => { results := [.lit (.bool true)], args := [d] }
  | _ => none }
def fnDoneRow : OpenClaim := { program := "ytmhighcagpbmeaa", sum := "4827d4705a5db794ec94693e0252bf96c4db6bd73506f2d35d7a68342752d014", func := "loop.example/hawser/laws.FnDone", spec := "fnDone", unfollowed := true, recurses := true, apart := false }
def FnDoneSaid : Prop := fnDoneRow.holds Try.pinned (OpenSpec.ofChange fnDoneSpec)

/-- ITS FALSE NEIGHBOUR: 'it returns false'. Refute it at one input. -/
def fnDoneWrong : ChangeSpec := { name := "fnDone", fn := fun _ => fun
  | [d] => { results := [.lit (.bool false)], args := [d] }
  | _ => none }
def FnDoneWrongFalsely : Prop := fnDoneRow.holds Try.pinned (OpenSpec.ofChange fnDoneWrong)

/-- 'laws.FnNext': WHATEVER THE INPUT: true; the input reads as it did. -/
def fnNextSpec : ChangeSpec := { name := "fnNext", fn := fun _ => fun
  | [d] => { results := [.lit (.bool true)], args := [d] }
  | _ => none }
def fnNextRow : OpenClaim := { program := "ytmhighcagpbmeaa", sum := "4827d4705a5db794ec94693e0252bf96c4db6bd73506f2d35d7a68342752d014", func := "loop.example/hawser/laws.FnNext", spec := "fnNext", apart := false }
def FnNextSaid : Prop := fnNextRow.holds Try.pinned (OpenSpec.ofChange fnNextSpec)

/-- ITS FALSE NEIGHBOUR: 'it returns false'. Refute it at one input. -/
def fnNextWrong : ChangeSpec := { name := "fnNext", fn := fun _ => fun
  | [d] => { results := [.lit (.bool false)], args := [d] }
  | _ => none }
def FnNextWrongFalsely : Prop := fnNextRow.holds Try.pinned (OpenSpec.ofChange fnNextWrong)

/-- 'laws.FnWayNext': WHATEVER THE INPUT: true; the input reads as it did. -/
def fnWayNextSpec : ChangeSpec := { name := "fnWayNext", fn := fun _ => fun
  | [d] => { results := [.lit (.bool true)], args := [d] }
  | _ => none }
def fnWayNextRow : OpenClaim := { program := "ytmhighcagpbmeaa", sum := "4827d4705a5db794ec94693e0252bf96c4db6bd73506f2d35d7a68342752d014", func := "loop.example/hawser/laws.FnWayNext", spec := "fnWayNext", unfollowed := true, recurses := true, apart := false }
def FnWayNextSaid : Prop := fnWayNextRow.holds Try.pinned (OpenSpec.ofChange fnWayNextSpec)

/-- ITS FALSE NEIGHBOUR: 'it returns false'. Refute it at one input. -/
def fnWayNextWrong : ChangeSpec := { name := "fnWayNext", fn := fun _ => fun
  | [d] => { results := [.lit (.bool false)], args := [d] }
  | _ => none }
def FnWayNextWrongFalsely : Prop := fnWayNextRow.holds Try.pinned (OpenSpec.ofChange fnWayNextWrong)

/-- 'laws.FnWayBoth': WHATEVER THE INPUT: true; the input reads as it did. -/
def fnWayBothSpec : ChangeSpec := { name := "fnWayBoth", fn := fun _ => fun
  | [d] => { results := [.lit (.bool true)], args := [d] }
  | _ => none }
def fnWayBothRow : OpenClaim := { program := "ytmhighcagpbmeaa", sum := "4827d4705a5db794ec94693e0252bf96c4db6bd73506f2d35d7a68342752d014", func := "loop.example/hawser/laws.FnWayBoth", spec := "fnWayBoth", unfollowed := true, recurses := true, apart := false }
def FnWayBothSaid : Prop := fnWayBothRow.holds Try.pinned (OpenSpec.ofChange fnWayBothSpec)

/-- ITS FALSE NEIGHBOUR: 'it returns false'. Refute it at one input. -/
def fnWayBothWrong : ChangeSpec := { name := "fnWayBoth", fn := fun _ => fun
  | [d] => { results := [.lit (.bool false)], args := [d] }
  | _ => none }
def FnWayBothWrongFalsely : Prop := fnWayBothRow.holds Try.pinned (OpenSpec.ofChange fnWayBothWrong)

/- THE SECOND FORM. 'bulk': how many values and letters a reading holds, each counted each time it is reached (what is shared counts as often as it is met; a slice's spare places count too). A statement '..UptoSaid' is the law's where the arguments, and the package variables that the reading takes, are together of bulk at most 1048576: NARROWER than '..Said'. Prove '..Said' where nothing that the law and all that it calls make is longer than what came in: it says more and counts as full. Else prove '..UptoSaid'. A law counts once. -/
mutual
def uptoBulk {H : Type} : DataW H → Nat
  | .lit (.string bytes) => bytes.length + 1
  | .lit _ => 1
  | .nil => 1
  | .ptr d => uptoBulk d + 1
  | .slice elems spare => uptoBulkAll elems + uptoBulkAll spare + 1
  | .agg parts => uptoBulkAll parts + 1
  | .iface _ d => uptoBulk d + 1
  | .map entries => uptoBulkEntries entries + 1
  | .held _ => 1
def uptoBulkAll {H : Type} : List (DataW H) → Nat
  | [] => 0
  | d :: r => uptoBulk d + uptoBulkAll r
def uptoBulkEntries {H : Type} : List (Lit × DataW H) → Nat
  | [] => 0
  | x :: r => uptoBulkEntry x + uptoBulkEntries r
def uptoBulkEntry {H : Type} : Lit × DataW H → Nat
  | (.string bytes, d) => bytes.length + uptoBulk d + 1
  | (_, d) => uptoBulk d + 1
 end
def uptoSmall : (H : Type) → List (DataW H) → Bool := fun _ ds => decide (uptoBulkAll ds ≤ 1048576)
def OpenSpec.upto (s : _root_.Go.ChangeSpec) : _root_.Go.OpenSpec := { _root_.Go.OpenSpec.ofChange s with cond := some uptoSmall }

/-- 'laws.FnChainKnows', WHERE WHAT IT READS IS OF BULK AT MOST 1048576: true; the input reads as it did. -/
def fnChainKnowsUptoRow : OpenClaim := { program := "ytmhighcagpbmeaa", sum := "4827d4705a5db794ec94693e0252bf96c4db6bd73506f2d35d7a68342752d014", func := "loop.example/hawser/laws.FnChainKnows", spec := "fnChainKnows", apart := false, narrowed := true }
def FnChainKnowsUptoSaid : Prop := fnChainKnowsUptoRow.holds Try.pinned (OpenSpec.upto fnChainKnowsSpec)

/-- 'laws.FnChainLess', WHERE WHAT IT READS IS OF BULK AT MOST 1048576: true; the input reads as it did. -/
def fnChainLessUptoRow : OpenClaim := { program := "ytmhighcagpbmeaa", sum := "4827d4705a5db794ec94693e0252bf96c4db6bd73506f2d35d7a68342752d014", func := "loop.example/hawser/laws.FnChainLess", spec := "fnChainLess", apart := false, narrowed := true }
def FnChainLessUptoSaid : Prop := fnChainLessUptoRow.holds Try.pinned (OpenSpec.upto fnChainLessSpec)

/-- 'laws.FnSettled', WHERE WHAT IT READS IS OF BULK AT MOST 1048576: true; the input reads as it did. -/
def fnSettledUptoRow : OpenClaim := { program := "ytmhighcagpbmeaa", sum := "4827d4705a5db794ec94693e0252bf96c4db6bd73506f2d35d7a68342752d014", func := "loop.example/hawser/laws.FnSettled", spec := "fnSettled", apart := false, narrowed := true }
def FnSettledUptoSaid : Prop := fnSettledUptoRow.holds Try.pinned (OpenSpec.upto fnSettledSpec)

/-- 'laws.FnStateSeq', WHERE WHAT IT READS IS OF BULK AT MOST 1048576: true; the input reads as it did. -/
def fnStateSeqUptoRow : OpenClaim := { program := "ytmhighcagpbmeaa", sum := "4827d4705a5db794ec94693e0252bf96c4db6bd73506f2d35d7a68342752d014", func := "loop.example/hawser/laws.FnStateSeq", spec := "fnStateSeq", apart := false, narrowed := true }
def FnStateSeqUptoSaid : Prop := fnStateSeqUptoRow.holds Try.pinned (OpenSpec.upto fnStateSeqSpec)

/-- 'laws.FnHas', WHERE WHAT IT READS IS OF BULK AT MOST 1048576: true; the input reads as it did. -/
def fnHasUptoRow : OpenClaim := { program := "ytmhighcagpbmeaa", sum := "4827d4705a5db794ec94693e0252bf96c4db6bd73506f2d35d7a68342752d014", func := "loop.example/hawser/laws.FnHas", spec := "fnHas", apart := false, narrowed := true }
def FnHasUptoSaid : Prop := fnHasUptoRow.holds Try.pinned (OpenSpec.upto fnHasSpec)

/-- 'laws.FnUserSum', WHERE WHAT IT READS IS OF BULK AT MOST 1048576: true; the input reads as it did. -/
def fnUserSumUptoRow : OpenClaim := { program := "ytmhighcagpbmeaa", sum := "4827d4705a5db794ec94693e0252bf96c4db6bd73506f2d35d7a68342752d014", func := "loop.example/hawser/laws.FnUserSum", spec := "fnUserSum", apart := false, narrowed := true }
def FnUserSumUptoSaid : Prop := fnUserSumUptoRow.holds Try.pinned (OpenSpec.upto fnUserSumSpec)

/-- 'laws.FnWayOpen', WHERE WHAT IT READS IS OF BULK AT MOST 1048576: true; the input reads as it did. -/
def fnWayOpenUptoRow : OpenClaim := { program := "ytmhighcagpbmeaa", sum := "4827d4705a5db794ec94693e0252bf96c4db6bd73506f2d35d7a68342752d014", func := "loop.example/hawser/laws.FnWayOpen", spec := "fnWayOpen", unfollowed := true, recurses := true, apart := false, narrowed := true }
def FnWayOpenUptoSaid : Prop := fnWayOpenUptoRow.holds Try.pinned (OpenSpec.upto fnWayOpenSpec)

/-- 'laws.FnWayFresh', WHERE WHAT IT READS IS OF BULK AT MOST 1048576: true; the input reads as it did. -/
def fnWayFreshUptoRow : OpenClaim := { program := "ytmhighcagpbmeaa", sum := "4827d4705a5db794ec94693e0252bf96c4db6bd73506f2d35d7a68342752d014", func := "loop.example/hawser/laws.FnWayFresh", spec := "fnWayFresh", unfollowed := true, recurses := true, apart := false, narrowed := true }
def FnWayFreshUptoSaid : Prop := fnWayFreshUptoRow.holds Try.pinned (OpenSpec.upto fnWayFreshSpec)

/-- 'laws.FnDone', WHERE WHAT IT READS IS OF BULK AT MOST 1048576: true; the input reads as it did. -/
def fnDoneUptoRow : OpenClaim := { program := "ytmhighcagpbmeaa", sum := "4827d4705a5db794ec94693e0252bf96c4db6bd73506f2d35d7a68342752d014", func := "loop.example/hawser/laws.FnDone", spec := "fnDone", unfollowed := true, recurses := true, apart := false, narrowed := true }
def FnDoneUptoSaid : Prop := fnDoneUptoRow.holds Try.pinned (OpenSpec.upto fnDoneSpec)

/-- 'laws.FnNext', WHERE WHAT IT READS IS OF BULK AT MOST 1048576: true; the input reads as it did. -/
def fnNextUptoRow : OpenClaim := { program := "ytmhighcagpbmeaa", sum := "4827d4705a5db794ec94693e0252bf96c4db6bd73506f2d35d7a68342752d014", func := "loop.example/hawser/laws.FnNext", spec := "fnNext", apart := false, narrowed := true }
def FnNextUptoSaid : Prop := fnNextUptoRow.holds Try.pinned (OpenSpec.upto fnNextSpec)

/-- 'laws.FnWayNext', WHERE WHAT IT READS IS OF BULK AT MOST 1048576: true; the input reads as it did. -/
def fnWayNextUptoRow : OpenClaim := { program := "ytmhighcagpbmeaa", sum := "4827d4705a5db794ec94693e0252bf96c4db6bd73506f2d35d7a68342752d014", func := "loop.example/hawser/laws.FnWayNext", spec := "fnWayNext", unfollowed := true, recurses := true, apart := false, narrowed := true }
def FnWayNextUptoSaid : Prop := fnWayNextUptoRow.holds Try.pinned (OpenSpec.upto fnWayNextSpec)

/-- 'laws.FnWayBoth', WHERE WHAT IT READS IS OF BULK AT MOST 1048576: true; the input reads as it did. -/
def fnWayBothUptoRow : OpenClaim := { program := "ytmhighcagpbmeaa", sum := "4827d4705a5db794ec94693e0252bf96c4db6bd73506f2d35d7a68342752d014", func := "loop.example/hawser/laws.FnWayBoth", spec := "fnWayBoth", unfollowed := true, recurses := true, apart := false, narrowed := true }
def FnWayBothUptoSaid : Prop := fnWayBothUptoRow.holds Try.pinned (OpenSpec.upto fnWayBothSpec)

end Rows
end Go.Proofs.Ytmhighcagpbmeaa
