/-
  No cell of these rows narrows 'for every input' (looked for: loops, veiled, ifaces, maps, wideKeys, modest, calm, conditions, laid).
  DERIVED. THE GIVEN ROWS OF THIS SEAT. 9 by the template 'for every input the law returns true; each argument reads behind the call as it read before'; 0 by the template 'total and deterministic' (their statements: YtfboldbfbmmahaaTotals.lean).
  GIVEN WITH THE SEED: the statements are not yours to turn. If you find one false, say at which input.
  Laid BY PROGRAM, IN A SANDBOX (cutbox-rows.mjs): the forced cells as the released guide's own fill.sh prints them over the translation 835a3cb040faf40f… (all of the seat's roots in one cut). By AI agents, Wed Nov 11 2026. No macro, syntax, notation, axiom, sorry.
-/
import Derived.Test.YtfboldbfbmmahaaChecked
import GoSem.Claim
import GoSem.ClaimJoined
import GoSem.ClaimMapViews
import Derived.JoinedTies
import Derived.KernelRfl
namespace Go.Proofs.Ytfboldbfbmmahaa
/- THE CELL 'sum', in the pinned program and in every row, IS THE sha256 OF THE DUMP (.gsa) THAT YtfboldbfbmmahaaProg.lean LOADS. Nothing in Lean hashes anything: it is a label: what it is worth is what the hold of that sum in a sandbox is worth. -/
noncomputable def Try.pinned : Pinned := { name := "ytfboldbfbmmahaa", sum := "835a3cb040faf40fe18240371c04ab2448ce464cb6fdae4151e379ad51c69852", checked := Try.checked }
namespace Rows
def none {H : Type} : Left H := { results := [], args := [] }

/-- 'laws.FnExactSumDone': WHATEVER THE INPUT: true; the input reads as it did. -/
def fnExactSumDoneSpec : ChangeSpec := { name := "fnExactSumDone", fn := fun _ => fun
  | [d] => { results := [.lit (.bool true)], args := [d] }
  | _ => none }
def fnExactSumDoneRow : OpenClaim := { program := "ytfboldbfbmmahaa", sum := "835a3cb040faf40fe18240371c04ab2448ce464cb6fdae4151e379ad51c69852", func := "loop.example/hawser/laws.FnExactSumDone", spec := "fnExactSumDone", apart := false }
def FnExactSumDoneSaid : Prop := fnExactSumDoneRow.holds Try.pinned (OpenSpec.ofChange fnExactSumDoneSpec)

/-- ITS FALSE NEIGHBOUR: 'it returns false'. Refute it at one input. -/
def fnExactSumDoneWrong : ChangeSpec := { name := "fnExactSumDone", fn := fun _ => fun
  | [d] => { results := [.lit (.bool false)], args := [d] }
  | _ => none }
def FnExactSumDoneWrongFalsely : Prop := fnExactSumDoneRow.holds Try.pinned (OpenSpec.ofChange fnExactSumDoneWrong)

/-- 'laws.FnExactSumAway': WHATEVER THE INPUT: true; the input reads as it did. -/
def fnExactSumAwaySpec : ChangeSpec := { name := "fnExactSumAway", fn := fun _ => fun
  | [d1, d2, d3] => { results := [.lit (.bool true)], args := [d1, d2, d3] }
  | _ => none }
def fnExactSumAwayRow : OpenClaim := { program := "ytfboldbfbmmahaa", sum := "835a3cb040faf40fe18240371c04ab2448ce464cb6fdae4151e379ad51c69852", func := "loop.example/hawser/laws.FnExactSumAway", spec := "fnExactSumAway", unfollowed := true, recurses := true, apart := false }
def FnExactSumAwaySaid : Prop := fnExactSumAwayRow.holds Try.pinned (OpenSpec.ofChange fnExactSumAwaySpec)

/-- ITS FALSE NEIGHBOUR: 'it returns false'. Refute it at one input. -/
def fnExactSumAwayWrong : ChangeSpec := { name := "fnExactSumAway", fn := fun _ => fun
  | [d1, d2, d3] => { results := [.lit (.bool false)], args := [d1, d2, d3] }
  | _ => none }
def FnExactSumAwayWrongFalsely : Prop := fnExactSumAwayRow.holds Try.pinned (OpenSpec.ofChange fnExactSumAwayWrong)

/-- 'laws.FnExactSumNotes': WHATEVER THE INPUT: true; the input reads as it did. -/
def fnExactSumNotesSpec : ChangeSpec := { name := "fnExactSumNotes", fn := fun _ => fun
  | [d1, d2] => { results := [.lit (.bool true)], args := [d1, d2] }
  | _ => none }
def fnExactSumNotesRow : OpenClaim := { program := "ytfboldbfbmmahaa", sum := "835a3cb040faf40fe18240371c04ab2448ce464cb6fdae4151e379ad51c69852", func := "loop.example/hawser/laws.FnExactSumNotes", spec := "fnExactSumNotes", unfollowed := true, recurses := true, apart := false }
def FnExactSumNotesSaid : Prop := fnExactSumNotesRow.holds Try.pinned (OpenSpec.ofChange fnExactSumNotesSpec)

/-- ITS FALSE NEIGHBOUR: 'it returns false'. Refute it at one input. -/
def fnExactSumNotesWrong : ChangeSpec := { name := "fnExactSumNotes", fn := fun _ => fun
  | [d1, d2] => { results := [.lit (.bool false)], args := [d1, d2] }
  | _ => none }
def FnExactSumNotesWrongFalsely : Prop := fnExactSumNotesRow.holds Try.pinned (OpenSpec.ofChange fnExactSumNotesWrong)

/-- 'laws.FnExactSumUser': WHATEVER THE INPUT: true; the input reads as it did. -/
def fnExactSumUserSpec : ChangeSpec := { name := "fnExactSumUser", fn := fun _ => fun
  | [d1, d2] => { results := [.lit (.bool true)], args := [d1, d2] }
  | _ => none }
def fnExactSumUserRow : OpenClaim := { program := "ytfboldbfbmmahaa", sum := "835a3cb040faf40fe18240371c04ab2448ce464cb6fdae4151e379ad51c69852", func := "loop.example/hawser/laws.FnExactSumUser", spec := "fnExactSumUser", apart := false }
def FnExactSumUserSaid : Prop := fnExactSumUserRow.holds Try.pinned (OpenSpec.ofChange fnExactSumUserSpec)

/-- ITS FALSE NEIGHBOUR: 'it returns false'. Refute it at one input. -/
def fnExactSumUserWrong : ChangeSpec := { name := "fnExactSumUser", fn := fun _ => fun
  | [d1, d2] => { results := [.lit (.bool false)], args := [d1, d2] }
  | _ => none }
def FnExactSumUserWrongFalsely : Prop := fnExactSumUserRow.holds Try.pinned (OpenSpec.ofChange fnExactSumUserWrong)

/-- 'laws.FnStateForm': WHATEVER THE INPUT: true; the input reads as it did. -/
def fnStateFormSpec : ChangeSpec := { name := "fnStateForm", fn := fun _ => fun
  | [d] => { results := [.lit (.bool true)], args := [d] }
  | _ => none }
def fnStateFormRow : OpenClaim := { program := "ytfboldbfbmmahaa", sum := "835a3cb040faf40fe18240371c04ab2448ce464cb6fdae4151e379ad51c69852", func := "loop.example/hawser/laws.FnStateForm", spec := "fnStateForm", apart := false }
def FnStateFormSaid : Prop := fnStateFormRow.holds Try.pinned (OpenSpec.ofChange fnStateFormSpec)

/-- ITS FALSE NEIGHBOUR: 'it returns false'. Refute it at one input. -/
def fnStateFormWrong : ChangeSpec := { name := "fnStateForm", fn := fun _ => fun
  | [d] => { results := [.lit (.bool false)], args := [d] }
  | _ => none }
def FnStateFormWrongFalsely : Prop := fnStateFormRow.holds Try.pinned (OpenSpec.ofChange fnStateFormWrong)

/-- 'laws.FnStateGot2': WHATEVER THE INPUT: true; the input reads as it did. -/
def fnStateGot2Spec : ChangeSpec := { name := "fnStateGot2", fn := fun _ => fun
  | [d1, d2] => { results := [.lit (.bool true)], args := [d1, d2] }
  | _ => none }
def fnStateGot2Row : OpenClaim := { program := "ytfboldbfbmmahaa", sum := "835a3cb040faf40fe18240371c04ab2448ce464cb6fdae4151e379ad51c69852", func := "loop.example/hawser/laws.FnStateGot2", spec := "fnStateGot2", apart := false }
def FnStateGot2Said : Prop := fnStateGot2Row.holds Try.pinned (OpenSpec.ofChange fnStateGot2Spec)

/-- ITS FALSE NEIGHBOUR: 'it returns false'. Refute it at one input. -/
def fnStateGot2Wrong : ChangeSpec := { name := "fnStateGot2", fn := fun _ => fun
  | [d1, d2] => { results := [.lit (.bool false)], args := [d1, d2] }
  | _ => none }
def FnStateGot2WrongFalsely : Prop := fnStateGot2Row.holds Try.pinned (OpenSpec.ofChange fnStateGot2Wrong)

/-- 'laws.FnStateLess': WHATEVER THE INPUT: true; the input reads as it did. -/
def fnStateLessSpec : ChangeSpec := { name := "fnStateLess", fn := fun _ => fun
  | [d] => { results := [.lit (.bool true)], args := [d] }
  | _ => none }
def fnStateLessRow : OpenClaim := { program := "ytfboldbfbmmahaa", sum := "835a3cb040faf40fe18240371c04ab2448ce464cb6fdae4151e379ad51c69852", func := "loop.example/hawser/laws.FnStateLess", spec := "fnStateLess", apart := false }
def FnStateLessSaid : Prop := fnStateLessRow.holds Try.pinned (OpenSpec.ofChange fnStateLessSpec)

/-- ITS FALSE NEIGHBOUR: 'it returns false'. Refute it at one input. -/
def fnStateLessWrong : ChangeSpec := { name := "fnStateLess", fn := fun _ => fun
  | [d] => { results := [.lit (.bool false)], args := [d] }
  | _ => none }
def FnStateLessWrongFalsely : Prop := fnStateLessRow.holds Try.pinned (OpenSpec.ofChange fnStateLessWrong)

/-- 'laws.FnGot': WHATEVER THE INPUT: true; the input reads as it did. -/
def fnGotSpec : ChangeSpec := { name := "fnGot", fn := fun _ => fun
  | [d] => { results := [.lit (.bool true)], args := [d] }
  | _ => none }
def fnGotRow : OpenClaim := { program := "ytfboldbfbmmahaa", sum := "835a3cb040faf40fe18240371c04ab2448ce464cb6fdae4151e379ad51c69852", func := "loop.example/hawser/laws.FnGot", spec := "fnGot", apart := false }
def FnGotSaid : Prop := fnGotRow.holds Try.pinned (OpenSpec.ofChange fnGotSpec)

/-- ITS FALSE NEIGHBOUR: 'it returns false'. Refute it at one input. -/
def fnGotWrong : ChangeSpec := { name := "fnGot", fn := fun _ => fun
  | [d] => { results := [.lit (.bool false)], args := [d] }
  | _ => none }
def FnGotWrongFalsely : Prop := fnGotRow.holds Try.pinned (OpenSpec.ofChange fnGotWrong)

/-- 'laws.FnLive': WHATEVER THE INPUT: true; the input reads as it did. -/
def fnLiveSpec : ChangeSpec := { name := "fnLive", fn := fun _ => fun
  | [d] => { results := [.lit (.bool true)], args := [d] }
  | _ => none }
def fnLiveRow : OpenClaim := { program := "ytfboldbfbmmahaa", sum := "835a3cb040faf40fe18240371c04ab2448ce464cb6fdae4151e379ad51c69852", func := "loop.example/hawser/laws.FnLive", spec := "fnLive", apart := false }
def FnLiveSaid : Prop := fnLiveRow.holds Try.pinned (OpenSpec.ofChange fnLiveSpec)

/-- ITS FALSE NEIGHBOUR: 'it returns false'. Refute it at one input. -/
def fnLiveWrong : ChangeSpec := { name := "fnLive", fn := fun _ => fun
  | [d] => { results := [.lit (.bool false)], args := [d] }
  | _ => none }
def FnLiveWrongFalsely : Prop := fnLiveRow.holds Try.pinned (OpenSpec.ofChange fnLiveWrong)

/- THE SECOND FORM. 'bulk': how many values and letters a reading holds, each counted each time it is reached (what is shared counts as often as it is met; a slice's spare places count too). A statement '..UptoSaid' is the law's where the arguments, and the package variables that the reading takes, are together of bulk at most 1048576: NARROWER than '..Said'. Prove '..Said' where nothing that the law and all that it calls make is longer than what came in: it says more and counts as full. Else prove '..UptoSaid'. A law counts once. -/
mutual
def uptoBulk {H : Type} : DataW H → Nat
  | .lit (.string bytes) => bytes.length + 1
  | .lit _ => 1
  | .nil => 1
  | .ptr d => uptoBulk d + 1
  | .slice elems spare => uptoBulkAll elems + uptoBulkAll spare + 1
  | .agg parts => uptoBulkAll parts + 1
  | .iface _ d => uptoBulk d + 1
  | .map entries => uptoBulkEntries entries + 1
  | .held _ => 1
def uptoBulkAll {H : Type} : List (DataW H) → Nat
  | [] => 0
  | d :: r => uptoBulk d + uptoBulkAll r
def uptoBulkEntries {H : Type} : List (Lit × DataW H) → Nat
  | [] => 0
  | x :: r => uptoBulkEntry x + uptoBulkEntries r
def uptoBulkEntry {H : Type} : Lit × DataW H → Nat
  | (.string bytes, d) => bytes.length + uptoBulk d + 1
  | (_, d) => uptoBulk d + 1
 end
def uptoSmall : (H : Type) → List (DataW H) → Bool := fun _ ds => decide (uptoBulkAll ds ≤ 1048576)
def OpenSpec.upto (s : _root_.Go.ChangeSpec) : _root_.Go.OpenSpec := { _root_.Go.OpenSpec.ofChange s with cond := some uptoSmall }

/-- 'laws.FnExactSumDone', WHERE WHAT IT READS IS OF BULK AT MOST 1048576: true; the input reads as it did. -/
def fnExactSumDoneUptoRow : OpenClaim := { program := "ytfboldbfbmmahaa", sum := "835a3cb040faf40fe18240371c04ab2448ce464cb6fdae4151e379ad51c69852", func := "loop.example/hawser/laws.FnExactSumDone", spec := "fnExactSumDone", apart := false, narrowed := true }
def FnExactSumDoneUptoSaid : Prop := fnExactSumDoneUptoRow.holds Try.pinned (OpenSpec.upto fnExactSumDoneSpec)

/-- 'laws.FnExactSumAway', WHERE WHAT IT READS IS OF BULK AT MOST 1048576: true; the input reads as it did. -/
def fnExactSumAwayUptoRow : OpenClaim := { program := "ytfboldbfbmmahaa", sum := "835a3cb040faf40fe18240371c04ab2448ce464cb6fdae4151e379ad51c69852", func := "loop.example/hawser/laws.FnExactSumAway", spec := "fnExactSumAway", unfollowed := true, recurses := true, apart := false, narrowed := true }
def FnExactSumAwayUptoSaid : Prop := fnExactSumAwayUptoRow.holds Try.pinned (OpenSpec.upto fnExactSumAwaySpec)

/-- 'laws.FnExactSumNotes', WHERE WHAT IT READS IS OF BULK AT MOST 1048576: true; the input reads as it did. -/
def fnExactSumNotesUptoRow : OpenClaim := { program := "ytfboldbfbmmahaa", sum := "835a3cb040faf40fe18240371c04ab2448ce464cb6fdae4151e379ad51c69852", func := "loop.example/hawser/laws.FnExactSumNotes", spec := "fnExactSumNotes", unfollowed := true, recurses := true, apart := false, narrowed := true }
def FnExactSumNotesUptoSaid : Prop := fnExactSumNotesUptoRow.holds Try.pinned (OpenSpec.upto fnExactSumNotesSpec)

/-- 'laws.FnExactSumUser', WHERE WHAT IT READS IS OF BULK AT MOST 1048576: true; the input reads as it did. -/
def fnExactSumUserUptoRow : OpenClaim := { program := "ytfboldbfbmmahaa", sum := "835a3cb040faf40fe18240371c04ab2448ce464cb6fdae4151e379ad51c69852", func := "loop.example/hawser/laws.FnExactSumUser", spec := "fnExactSumUser", apart := false, narrowed := true }
def FnExactSumUserUptoSaid : Prop := fnExactSumUserUptoRow.holds Try.pinned (OpenSpec.upto fnExactSumUserSpec)

/-- 'laws.FnStateForm', WHERE WHAT IT READS IS OF BULK AT MOST 1048576: true; the input reads as it did. -/
def fnStateFormUptoRow : OpenClaim := { program := "ytfboldbfbmmahaa", sum := "835a3cb040faf40fe18240371c04ab2448ce464cb6fdae4151e379ad51c69852", func := "loop.example/hawser/laws.FnStateForm", spec := "fnStateForm", apart := false, narrowed := true }
def FnStateFormUptoSaid : Prop := fnStateFormUptoRow.holds Try.pinned (OpenSpec.upto fnStateFormSpec)

/-- 'laws.FnStateGot2', WHERE WHAT IT READS IS OF BULK AT MOST 1048576: true; the input reads as it did. -/
def fnStateGot2UptoRow : OpenClaim := { program := "ytfboldbfbmmahaa", sum := "835a3cb040faf40fe18240371c04ab2448ce464cb6fdae4151e379ad51c69852", func := "loop.example/hawser/laws.FnStateGot2", spec := "fnStateGot2", apart := false, narrowed := true }
def FnStateGot2UptoSaid : Prop := fnStateGot2UptoRow.holds Try.pinned (OpenSpec.upto fnStateGot2Spec)

/-- 'laws.FnStateLess', WHERE WHAT IT READS IS OF BULK AT MOST 1048576: true; the input reads as it did. -/
def fnStateLessUptoRow : OpenClaim := { program := "ytfboldbfbmmahaa", sum := "835a3cb040faf40fe18240371c04ab2448ce464cb6fdae4151e379ad51c69852", func := "loop.example/hawser/laws.FnStateLess", spec := "fnStateLess", apart := false, narrowed := true }
def FnStateLessUptoSaid : Prop := fnStateLessUptoRow.holds Try.pinned (OpenSpec.upto fnStateLessSpec)

/-- 'laws.FnGot', WHERE WHAT IT READS IS OF BULK AT MOST 1048576: true; the input reads as it did. -/
def fnGotUptoRow : OpenClaim := { program := "ytfboldbfbmmahaa", sum := "835a3cb040faf40fe18240371c04ab2448ce464cb6fdae4151e379ad51c69852", func := "loop.example/hawser/laws.FnGot", spec := "fnGot", apart := false, narrowed := true }
def FnGotUptoSaid : Prop := fnGotUptoRow.holds Try.pinned (OpenSpec.upto fnGotSpec)

/-- 'laws.FnLive', WHERE WHAT IT READS IS OF BULK AT MOST 1048576: true; the input reads as it did. -/
def fnLiveUptoRow : OpenClaim := { program := "ytfboldbfbmmahaa", sum := "835a3cb040faf40fe18240371c04ab2448ce464cb6fdae4151e379ad51c69852", func := "loop.example/hawser/laws.FnLive", spec := "fnLive", apart := false, narrowed := true }
def FnLiveUptoSaid : Prop := fnLiveUptoRow.holds Try.pinned (OpenSpec.upto fnLiveSpec)

end Rows
end Go.Proofs.Ytfboldbfbmmahaa
