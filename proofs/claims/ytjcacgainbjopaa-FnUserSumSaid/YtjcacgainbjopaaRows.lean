/-
  No cell of these rows narrows 'for every input' (looked for: loops, veiled, ifaces, maps, wideKeys, modest, calm, conditions, laid).
  DERIVED. THE GIVEN ROWS OF THIS SEAT. 4 by the template 'for every input the law returns true; each argument reads behind the call as it read before'; 0 by the template 'total and deterministic' (their statements: YtjcacgainbjopaaTotals.lean).
  GIVEN WITH THE SEED: the statements are not yours to turn. If you find one false, say at which input.
  Laid BY PROGRAM, IN A SANDBOX (cutbox-rows.mjs): the forced cells as the released guide's own fill.sh prints them over the translation a28738595af5ce34… (all of the seat's roots in one cut). By AI agents, Wed Nov 11 2026. No macro, syntax, notation, axiom, sorry.
-/
import Derived.Test.YtjcacgainbjopaaChecked
import GoSem.Claim
import GoSem.ClaimJoined
import GoSem.ClaimMapViews
import Derived.JoinedTies
import Derived.KernelRfl
namespace Go.Proofs.Ytjcacgainbjopaa
/- THE CELL 'sum', in the pinned program and in every row, IS THE sha256 OF THE DUMP (.gsa) THAT YtjcacgainbjopaaProg.lean LOADS. Nothing in Lean hashes anything: it is a label: what it is worth is what the hold of that sum in a sandbox is worth. -/
noncomputable def Try.pinned : Pinned := { name := "ytjcacgainbjopaa", sum := "a28738595af5ce342c394de4cb6d68da3098b14e8a6d3a5ebf9da32be1bb73e4", checked := Try.checked }
namespace Rows
def none {H : Type} : Left H := { results := [], args := [] }

/-- 'laws.FnUserSum': WHATEVER THE INPUT: true; the input reads as it did. -/
def fnUserSumSpec : ChangeSpec := { name := "fnUserSum", fn := fun _ => fun
  | [d] => { results := [.lit (.bool true)], args := [d] }
  | _ => none }
def fnUserSumRow : OpenClaim := { program := "ytjcacgainbjopaa", sum := "a28738595af5ce342c394de4cb6d68da3098b14e8a6d3a5ebf9da32be1bb73e4", func := "loop.example/hawser/laws.FnUserSum", spec := "fnUserSum", apart := false }
def FnUserSumSaid : Prop := fnUserSumRow.holds Try.pinned (OpenSpec.ofChange fnUserSumSpec)

/-- ITS FALSE NEIGHBOUR: 'it returns false'. Refute it at one input. -/
def fnUserSumWrong : ChangeSpec := { name := "fnUserSum", fn := fun _ => fun
  | [d] => { results := [.lit (.bool false)], args := [d] }
  | _ => none }
def FnUserSumWrongFalsely : Prop := fnUserSumRow.holds Try.pinned (OpenSpec.ofChange fnUserSumWrong)

/-- 'laws.FnDone': WHATEVER THE INPUT: true; the input reads as it did. -/
def fnDoneSpec : ChangeSpec := { name := "fnDone", fn := fun _ => fun
  | [d] => { results := [.lit (.bool true)], args := [d] }
  | _ => none }
def fnDoneRow : OpenClaim := { program := "ytjcacgainbjopaa", sum := "a28738595af5ce342c394de4cb6d68da3098b14e8a6d3a5ebf9da32be1bb73e4", func := "loop.example/hawser/laws.FnDone", spec := "fnDone", unfollowed := true, recurses := true, apart := false }
def FnDoneSaid : Prop := fnDoneRow.holds Try.pinned (OpenSpec.ofChange fnDoneSpec)

/-- ITS FALSE NEIGHBOUR: 'it returns false'. Refute it at one input. -/
def fnDoneWrong : ChangeSpec := { name := "fnDone", fn := fun _ => fun
  | [d] => { results := [.lit (.bool false)], args := [d] }
  | _ => none }
def FnDoneWrongFalsely : Prop := fnDoneRow.holds Try.pinned (OpenSpec.ofChange fnDoneWrong)

/-- 'laws.FnNotesSum': WHATEVER THE INPUT: true; the input reads as it did. -/
def fnNotesSumSpec : ChangeSpec := { name := "fnNotesSum", fn := fun _ => fun
  | [d] => { results := [.lit (.bool true)], args := [d] }
  | _ => none }
def fnNotesSumRow : OpenClaim := { program := "ytjcacgainbjopaa", sum := "a28738595af5ce342c394de4cb6d68da3098b14e8a6d3a5ebf9da32be1bb73e4", func := "loop.example/hawser/laws.FnNotesSum", spec := "fnNotesSum", unfollowed := true, recurses := true, apart := false }
def FnNotesSumSaid : Prop := fnNotesSumRow.holds Try.pinned (OpenSpec.ofChange fnNotesSumSpec)

/-- ITS FALSE NEIGHBOUR: 'it returns false'. Refute it at one input. -/
def fnNotesSumWrong : ChangeSpec := { name := "fnNotesSum", fn := fun _ => fun
  | [d] => { results := [.lit (.bool false)], args := [d] }
  | _ => none }
def FnNotesSumWrongFalsely : Prop := fnNotesSumRow.holds Try.pinned (OpenSpec.ofChange fnNotesSumWrong)

/-- 'laws.FnAwaySum': WHATEVER THE INPUT: true; the input reads as it did. -/
def fnAwaySumSpec : ChangeSpec := { name := "fnAwaySum", fn := fun _ => fun
  | [d] => { results := [.lit (.bool true)], args := [d] }
  | _ => none }
def fnAwaySumRow : OpenClaim := { program := "ytjcacgainbjopaa", sum := "a28738595af5ce342c394de4cb6d68da3098b14e8a6d3a5ebf9da32be1bb73e4", func := "loop.example/hawser/laws.FnAwaySum", spec := "fnAwaySum", unfollowed := true, recurses := true, apart := false }
def FnAwaySumSaid : Prop := fnAwaySumRow.holds Try.pinned (OpenSpec.ofChange fnAwaySumSpec)

/-- ITS FALSE NEIGHBOUR: 'it returns false'. Refute it at one input. -/
def fnAwaySumWrong : ChangeSpec := { name := "fnAwaySum", fn := fun _ => fun
  | [d] => { results := [.lit (.bool false)], args := [d] }
  | _ => none }
def FnAwaySumWrongFalsely : Prop := fnAwaySumRow.holds Try.pinned (OpenSpec.ofChange fnAwaySumWrong)

/- THE SECOND FORM. 'bulk': how many values and letters a reading holds, each counted each time it is reached (what is shared counts as often as it is met; a slice's spare places count too). A statement '..UptoSaid' is the law's where the arguments, and the package variables that the reading takes, are together of bulk at most 1048576: NARROWER than '..Said'. Prove '..Said' where nothing that the law and all that it calls make is longer than what came in: it says more and counts as full. Else prove '..UptoSaid'. A law counts once. -/
mutual
def uptoBulk {H : Type} : DataW H → Nat
  | .lit (.string bytes) => bytes.length + 1
  | .lit _ => 1
  | .nil => 1
  | .ptr d => uptoBulk d + 1
  | .slice elems spare => uptoBulkAll elems + uptoBulkAll spare + 1
  | .agg parts => uptoBulkAll parts + 1
  | .iface _ d => uptoBulk d + 1
  | .map entries => uptoBulkEntries entries + 1
  | .held _ => 1
def uptoBulkAll {H : Type} : List (DataW H) → Nat
  | [] => 0
  | d :: r => uptoBulk d + uptoBulkAll r
def uptoBulkEntries {H : Type} : List (Lit × DataW H) → Nat
  | [] => 0
  | x :: r => uptoBulkEntry x + uptoBulkEntries r
def uptoBulkEntry {H : Type} : Lit × DataW H → Nat
  | (.string bytes, d) => bytes.length + uptoBulk d + 1
  | (_, d) => uptoBulk d + 1
 end
def uptoSmall : (H : Type) → List (DataW H) → Bool := fun _ ds => decide (uptoBulkAll ds ≤ 1048576)
def OpenSpec.upto (s : _root_.Go.ChangeSpec) : _root_.Go.OpenSpec := { _root_.Go.OpenSpec.ofChange s with cond := some uptoSmall }

/-- 'laws.FnUserSum', WHERE WHAT IT READS IS OF BULK AT MOST 1048576: true; the input reads as it did. -/
def fnUserSumUptoRow : OpenClaim := { program := "ytjcacgainbjopaa", sum := "a28738595af5ce342c394de4cb6d68da3098b14e8a6d3a5ebf9da32be1bb73e4", func := "loop.example/hawser/laws.FnUserSum", spec := "fnUserSum", apart := false, narrowed := true }
def FnUserSumUptoSaid : Prop := fnUserSumUptoRow.holds Try.pinned (OpenSpec.upto fnUserSumSpec)

/-- 'laws.FnDone', WHERE WHAT IT READS IS OF BULK AT MOST 1048576: true; the input reads as it did. -/
def fnDoneUptoRow : OpenClaim := { program := "ytjcacgainbjopaa", sum := "a28738595af5ce342c394de4cb6d68da3098b14e8a6d3a5ebf9da32be1bb73e4", func := "loop.example/hawser/laws.FnDone", spec := "fnDone", unfollowed := true, recurses := true, apart := false, narrowed := true }
def FnDoneUptoSaid : Prop := fnDoneUptoRow.holds Try.pinned (OpenSpec.upto fnDoneSpec)

/-- 'laws.FnNotesSum', WHERE WHAT IT READS IS OF BULK AT MOST 1048576: true; the input reads as it did. -/
def fnNotesSumUptoRow : OpenClaim := { program := "ytjcacgainbjopaa", sum := "a28738595af5ce342c394de4cb6d68da3098b14e8a6d3a5ebf9da32be1bb73e4", func := "loop.example/hawser/laws.FnNotesSum", spec := "fnNotesSum", unfollowed := true, recurses := true, apart := false, narrowed := true }
def FnNotesSumUptoSaid : Prop := fnNotesSumUptoRow.holds Try.pinned (OpenSpec.upto fnNotesSumSpec)

/-- 'laws.FnAwaySum', WHERE WHAT IT READS IS OF BULK AT MOST 1048576: true; the input reads as it did. -/
def fnAwaySumUptoRow : OpenClaim := { program := "ytjcacgainbjopaa", sum := "a28738595af5ce342c394de4cb6d68da3098b14e8a6d3a5ebf9da32be1bb73e4", func := "loop.example/hawser/laws.FnAwaySum", spec := "fnAwaySum", unfollowed := true, recurses := true, apart := false, narrowed := true }
def FnAwaySumUptoSaid : Prop := fnAwaySumUptoRow.holds Try.pinned (OpenSpec.upto fnAwaySumSpec)

end Rows
end Go.Proofs.Ytjcacgainbjopaa
