/-
  No cell of these rows narrows 'for every input' (looked for: loops, veiled, ifaces, maps, wideKeys, modest, calm, conditions, laid).
  DERIVED. THE GIVEN ROWS OF THIS SEAT. 12 by the template 'for every input the law returns true; each argument reads behind the call as it read before'; 0 by the template 'total and deterministic' (their statements: YtceihgojdnkfiaaTotals.lean).
  GIVEN WITH THE SEED: the statements are not yours to turn. If you find one false, say at which input.
  Laid BY PROGRAM, IN A SANDBOX (cutbox-rows.mjs): the forced cells as the released guide's own fill.sh prints them over the translation 65559fff533ef145… (all of the seat's roots in one cut). By AI agents, Wed Nov 11 2026. No macro, syntax, notation, axiom, sorry.
-/
import Derived.Test.YtceihgojdnkfiaaChecked
import GoSem.Claim
import GoSem.ClaimJoined
import GoSem.ClaimMapViews
import Derived.JoinedTies
import Derived.KernelRfl
namespace Go.Proofs.Ytceihgojdnkfiaa
/- THE CELL 'sum', in the pinned program and in every row, IS THE sha256 OF THE DUMP (.gsa) THAT YtceihgojdnkfiaaProg.lean LOADS. Nothing in Lean hashes anything: it is a label: what it is worth is what the hold of that sum in a sandbox is worth. -/
noncomputable def Try.pinned : Pinned := { name := "ytceihgojdnkfiaa", sum := "65559fff533ef145e19de5803649469348a5669e9e057fd8542791dcfc861981", checked := Try.checked }
namespace Rows
def none {H : Type} : Left H := { results := [], args := [] }

/-- 'laws.FnNotesSum': WHATEVER THE INPUT: true; the input reads as it did. -/
def fnNotesSumSpec : ChangeSpec := { name := "fnNotesSum", fn := fun _ => fun
  | [d] => { results := [.lit (.bool true)], args := [d] }
  | _ => none }
def fnNotesSumRow : OpenClaim := { program := "ytceihgojdnkfiaa", sum := "65559fff533ef145e19de5803649469348a5669e9e057fd8542791dcfc861981", func := "loop.example/hawser/laws.FnNotesSum", spec := "fnNotesSum", unfollowed := true, recurses := true, apart := false }
def FnNotesSumSaid : Prop := fnNotesSumRow.holds Try.pinned (OpenSpec.ofChange fnNotesSumSpec)

/-- ITS FALSE NEIGHBOUR: 'it returns false'. Refute it at one input. -/
def fnNotesSumWrong : ChangeSpec := { name := "fnNotesSum", fn := fun _ => fun
  | [d] => { results := [.lit (.bool false)], args := [d] }
  | _ => none }
def FnNotesSumWrongFalsely : Prop := fnNotesSumRow.holds Try.pinned (OpenSpec.ofChange fnNotesSumWrong)

/-- 'laws.FnBlock': WHATEVER THE INPUT: true; the input reads as it did. -/
def fnBlockSpec : ChangeSpec := { name := "fnBlock", fn := fun _ => fun
  | [d] => { results := [.lit (.bool true)], args := [d] }
  | _ => none }
def fnBlockRow : OpenClaim := { program := "ytceihgojdnkfiaa", sum := "65559fff533ef145e19de5803649469348a5669e9e057fd8542791dcfc861981", func := "loop.example/hawser/laws.FnBlock", spec := "fnBlock", apart := false }
def FnBlockSaid : Prop := fnBlockRow.holds Try.pinned (OpenSpec.ofChange fnBlockSpec)

/-- ITS FALSE NEIGHBOUR: 'it returns false'. Refute it at one input. -/
def fnBlockWrong : ChangeSpec := { name := "fnBlock", fn := fun _ => fun
  | [d] => { results := [.lit (.bool false)], args := [d] }
  | _ => none }
def FnBlockWrongFalsely : Prop := fnBlockRow.holds Try.pinned (OpenSpec.ofChange fnBlockWrong)

/-- 'laws.FnBlockTwice': WHATEVER THE INPUT: true; the input reads as it did. -/
def fnBlockTwiceSpec : ChangeSpec := { name := "fnBlockTwice", fn := fun _ => fun
  | [d] => { results := [.lit (.bool true)], args := [d] }
  | _ => none }
def fnBlockTwiceRow : OpenClaim := { program := "ytceihgojdnkfiaa", sum := "65559fff533ef145e19de5803649469348a5669e9e057fd8542791dcfc861981", func := "loop.example/hawser/laws.FnBlockTwice", spec := "fnBlockTwice", apart := false }
def FnBlockTwiceSaid : Prop := fnBlockTwiceRow.holds Try.pinned (OpenSpec.ofChange fnBlockTwiceSpec)

/-- ITS FALSE NEIGHBOUR: 'it returns false'. Refute it at one input. -/
def fnBlockTwiceWrong : ChangeSpec := { name := "fnBlockTwice", fn := fun _ => fun
  | [d] => { results := [.lit (.bool false)], args := [d] }
  | _ => none }
def FnBlockTwiceWrongFalsely : Prop := fnBlockTwiceRow.holds Try.pinned (OpenSpec.ofChange fnBlockTwiceWrong)

/-- 'laws.FnAwaySum': WHATEVER THE INPUT: true; the input reads as it did. -/
def fnAwaySumSpec : ChangeSpec := { name := "fnAwaySum", fn := fun _ => fun
  | [d] => { results := [.lit (.bool true)], args := [d] }
  | _ => none }
def fnAwaySumRow : OpenClaim := { program := "ytceihgojdnkfiaa", sum := "65559fff533ef145e19de5803649469348a5669e9e057fd8542791dcfc861981", func := "loop.example/hawser/laws.FnAwaySum", spec := "fnAwaySum", unfollowed := true, recurses := true, apart := false }
def FnAwaySumSaid : Prop := fnAwaySumRow.holds Try.pinned (OpenSpec.ofChange fnAwaySumSpec)

/-- ITS FALSE NEIGHBOUR: 'it returns false'. Refute it at one input. -/
def fnAwaySumWrong : ChangeSpec := { name := "fnAwaySum", fn := fun _ => fun
  | [d] => { results := [.lit (.bool false)], args := [d] }
  | _ => none }
def FnAwaySumWrongFalsely : Prop := fnAwaySumRow.holds Try.pinned (OpenSpec.ofChange fnAwaySumWrong)

/-- 'laws.FnWayVer': WHATEVER THE INPUT: true; the input reads as it did. -/
def fnWayVerSpec : ChangeSpec := { name := "fnWayVer", fn := fun _ => fun
  | [d] => { results := [.lit (.bool true)], args := [d] }
  | _ => none }
def fnWayVerRow : OpenClaim := { program := "ytceihgojdnkfiaa", sum := "65559fff533ef145e19de5803649469348a5669e9e057fd8542791dcfc861981", func := "loop.example/hawser/laws.FnWayVer", spec := "fnWayVer", unfollowed := true, recurses := true, apart := false }
def FnWayVerSaid : Prop := fnWayVerRow.holds Try.pinned (OpenSpec.ofChange fnWayVerSpec)

/-- ITS FALSE NEIGHBOUR: 'it returns false'. Refute it at one input. -/
def fnWayVerWrong : ChangeSpec := { name := "fnWayVer", fn := fun _ => fun
  | [d] => { results := [.lit (.bool false)], args := [d] }
  | _ => none }
def FnWayVerWrongFalsely : Prop := fnWayVerRow.holds Try.pinned (OpenSpec.ofChange fnWayVerWrong)

/-- 'laws.FnWayDo': WHATEVER THE INPUT: true; the input reads as it did. -/
def fnWayDoSpec : ChangeSpec := { name := "fnWayDo", fn := fun _ => fun
  | [d] => { results := [.lit (.bool true)], args := [d] }
  | _ => none }
def fnWayDoRow : OpenClaim := { program := "ytceihgojdnkfiaa", sum := "65559fff533ef145e19de5803649469348a5669e9e057fd8542791dcfc861981", func := "loop.example/hawser/laws.FnWayDo", spec := "fnWayDo", unfollowed := true, recurses := true, apart := false }
def FnWayDoSaid : Prop := fnWayDoRow.holds Try.pinned (OpenSpec.ofChange fnWayDoSpec)

/-- ITS FALSE NEIGHBOUR: 'it returns false'. Refute it at one input. -/
def fnWayDoWrong : ChangeSpec := { name := "fnWayDo", fn := fun _ => fun
  | [d] => { results := [.lit (.bool false)], args := [d] }
  | _ => none }
def FnWayDoWrongFalsely : Prop := fnWayDoRow.holds Try.pinned (OpenSpec.ofChange fnWayDoWrong)

/-- 'laws.FnWayTwice': WHATEVER THE INPUT: true; the input reads as it did. -/
def fnWayTwiceSpec : ChangeSpec := { name := "fnWayTwice", fn := fun _ => fun
  | [d] => { results := [.lit (.bool true)], args := [d] }
  | _ => none }
def fnWayTwiceRow : OpenClaim := { program := "ytceihgojdnkfiaa", sum := "65559fff533ef145e19de5803649469348a5669e9e057fd8542791dcfc861981", func := "loop.example/hawser/laws.FnWayTwice", spec := "fnWayTwice", unfollowed := true, recurses := true, apart := false }
def FnWayTwiceSaid : Prop := fnWayTwiceRow.holds Try.pinned (OpenSpec.ofChange fnWayTwiceSpec)

/-- ITS FALSE NEIGHBOUR: 'it returns false'. Refute it at one input. -/
def fnWayTwiceWrong : ChangeSpec := { name := "fnWayTwice", fn := fun _ => fun
  | [d] => { results := [.lit (.bool false)], args := [d] }
  | _ => none }
def FnWayTwiceWrongFalsely : Prop := fnWayTwiceRow.holds Try.pinned (OpenSpec.ofChange fnWayTwiceWrong)

/-- 'laws.FnWayFlush': WHATEVER THE INPUT: true; the input reads as it did. -/
def fnWayFlushSpec : ChangeSpec := { name := "fnWayFlush", fn := fun _ => fun
  | [d] => { results := [.lit (.bool true)], args := [d] }
  | _ => none }
def fnWayFlushRow : OpenClaim := { program := "ytceihgojdnkfiaa", sum := "65559fff533ef145e19de5803649469348a5669e9e057fd8542791dcfc861981", func := "loop.example/hawser/laws.FnWayFlush", spec := "fnWayFlush", unfollowed := true, recurses := true, apart := false }
def FnWayFlushSaid : Prop := fnWayFlushRow.holds Try.pinned (OpenSpec.ofChange fnWayFlushSpec)

/-- ITS FALSE NEIGHBOUR: 'it returns false'. Refute it at one input. -/
def fnWayFlushWrong : ChangeSpec := { name := "fnWayFlush", fn := fun _ => fun
  | [d] => { results := [.lit (.bool false)], args := [d] }
  | _ => none }
def FnWayFlushWrongFalsely : Prop := fnWayFlushRow.holds Try.pinned (OpenSpec.ofChange fnWayFlushWrong)

/-- 'laws.FnAt': WHATEVER THE INPUT: true; the input reads as it did. -/
def fnAtSpec : ChangeSpec := { name := "fnAt", fn := fun _ => fun
  | [d1, d2] => { results := [.lit (.bool true)], args := [d1, d2] }
  | _ => none }
def fnAtRow : OpenClaim := { program := "ytceihgojdnkfiaa", sum := "65559fff533ef145e19de5803649469348a5669e9e057fd8542791dcfc861981", func := "loop.example/hawser/laws.FnAt", spec := "fnAt", unfollowed := true, recurses := true, apart := false }
def FnAtSaid : Prop := fnAtRow.holds Try.pinned (OpenSpec.ofChange fnAtSpec)

/-- ITS FALSE NEIGHBOUR: 'it returns false'. Refute it at one input. -/
def fnAtWrong : ChangeSpec := { name := "fnAt", fn := fun _ => fun
  | [d1, d2] => { results := [.lit (.bool false)], args := [d1, d2] }
  | _ => none }
def FnAtWrongFalsely : Prop := fnAtRow.holds Try.pinned (OpenSpec.ofChange fnAtWrong)

/-- 'laws.FnSend': WHATEVER THE INPUT: true; the input reads as it did. -/
def fnSendSpec : ChangeSpec := { name := "fnSend", fn := fun _ => fun
  | [d] => { results := [.lit (.bool true)], args := [d] }
  | _ => none }
def fnSendRow : OpenClaim := { program := "ytceihgojdnkfiaa", sum := "65559fff533ef145e19de5803649469348a5669e9e057fd8542791dcfc861981", func := "loop.example/hawser/laws.FnSend", spec := "fnSend", unfollowed := true, recurses := true, apart := false }
def FnSendSaid : Prop := fnSendRow.holds Try.pinned (OpenSpec.ofChange fnSendSpec)

/-- ITS FALSE NEIGHBOUR: 'it returns false'. Refute it at one input. -/
def fnSendWrong : ChangeSpec := { name := "fnSend", fn := fun _ => fun
  | [d] => { results := [.lit (.bool false)], args := [d] }
  | _ => none }
def FnSendWrongFalsely : Prop := fnSendRow.holds Try.pinned (OpenSpec.ofChange fnSendWrong)

/-- 'laws.FnSendNot': WHATEVER THE INPUT: true; the input reads as it did. -/
def fnSendNotSpec : ChangeSpec := { name := "fnSendNot", fn := fun _ => fun
  | [d] => { results := [.lit (.bool true)], args := [d] }
  | _ => none }
def fnSendNotRow : OpenClaim := { program := "ytceihgojdnkfiaa", sum := "65559fff533ef145e19de5803649469348a5669e9e057fd8542791dcfc861981", func := "loop.example/hawser/laws.FnSendNot", spec := "fnSendNot", unfollowed := true, recurses := true, apart := false }
def FnSendNotSaid : Prop := fnSendNotRow.holds Try.pinned (OpenSpec.ofChange fnSendNotSpec)

/-- ITS FALSE NEIGHBOUR: 'it returns false'. Refute it at one input. -/
def fnSendNotWrong : ChangeSpec := { name := "fnSendNot", fn := fun _ => fun
  | [d] => { results := [.lit (.bool false)], args := [d] }
  | _ => none }
def FnSendNotWrongFalsely : Prop := fnSendNotRow.holds Try.pinned (OpenSpec.ofChange fnSendNotWrong)

/-- 'laws.FnSendTwo': WHATEVER THE INPUT: true; the input reads as it did. -/
def fnSendTwoSpec : ChangeSpec := { name := "fnSendTwo", fn := fun _ => fun
  | [d1, d2] => { results := [.lit (.bool true)], args := [d1, d2] }
  | _ => none }
def fnSendTwoRow : OpenClaim := { program := "ytceihgojdnkfiaa", sum := "65559fff533ef145e19de5803649469348a5669e9e057fd8542791dcfc861981", func := "loop.example/hawser/laws.FnSendTwo", spec := "fnSendTwo", unfollowed := true, recurses := true, apart := false }
def FnSendTwoSaid : Prop := fnSendTwoRow.holds Try.pinned (OpenSpec.ofChange fnSendTwoSpec)

/-- ITS FALSE NEIGHBOUR: 'it returns false'. Refute it at one input. -/
def fnSendTwoWrong : ChangeSpec := { name := "fnSendTwo", fn := fun _ => fun
  | [d1, d2] => { results := [.lit (.bool false)], args := [d1, d2] }
  | _ => none }
def FnSendTwoWrongFalsely : Prop := fnSendTwoRow.holds Try.pinned (OpenSpec.ofChange fnSendTwoWrong)

/- THE SECOND FORM. 'bulk': how many values and letters a reading holds, each counted each time it is reached (what is shared counts as often as it is met; a slice's spare places count too). A statement '..UptoSaid' is the law's where the arguments, and the package variables that the reading takes, are together of bulk at most 1048576: NARROWER than '..Said'. Prove '..Said' where nothing that the law and all that it calls make is longer than what came in: it says more and counts as full. Else prove '..UptoSaid'. A law counts once. -/
mutual
def uptoBulk {H : Type} : DataW H → Nat
  | .lit (.string bytes) => bytes.length + 1
  | .lit _ => 1
  | .nil => 1
  | .ptr d => uptoBulk d + 1
  | .slice elems spare => uptoBulkAll elems + uptoBulkAll spare + 1
  | .agg parts => uptoBulkAll parts + 1
  | .iface _ d => uptoBulk d + 1
  | .map entries => uptoBulkEntries entries + 1
  | .held _ => 1
def uptoBulkAll {H : Type} : List (DataW H) → Nat
  | [] => 0
  | d :: r => uptoBulk d + uptoBulkAll r
def uptoBulkEntries {H : Type} : List (Lit × DataW H) → Nat
  | [] => 0
  | x :: r => uptoBulkEntry x + uptoBulkEntries r
def uptoBulkEntry {H : Type} : Lit × DataW H → Nat
  | (.string bytes, d) => bytes.length + uptoBulk d + 1
  | (_, d) => uptoBulk d + 1
 end
def uptoSmall : (H : Type) → List (DataW H) → Bool := fun _ ds => decide (uptoBulkAll ds ≤ 1048576)
def OpenSpec.upto (s : _root_.Go.ChangeSpec) : _root_.Go.OpenSpec := { _root_.Go.OpenSpec.ofChange s with cond := some uptoSmall }

/-- 'laws.FnNotesSum', WHERE WHAT IT READS IS OF BULK AT MOST 1048576: true; the input reads as it did. -/
def fnNotesSumUptoRow : OpenClaim := { program := "ytceihgojdnkfiaa", sum := "65559fff533ef145e19de5803649469348a5669e9e057fd8542791dcfc861981", func := "loop.example/hawser/laws.FnNotesSum", spec := "fnNotesSum", unfollowed := true, recurses := true, apart := false, narrowed := true }
def FnNotesSumUptoSaid : Prop := fnNotesSumUptoRow.holds Try.pinned (OpenSpec.upto fnNotesSumSpec)

/-- 'laws.FnBlock', WHERE WHAT IT READS IS OF BULK AT MOST 1048576: true; the input reads as it did. -/
def fnBlockUptoRow : OpenClaim := { program := "ytceihgojdnkfiaa", sum := "65559fff533ef145e19de5803649469348a5669e9e057fd8542791dcfc861981", func := "loop.example/hawser/laws.FnBlock", spec := "fnBlock", apart := false, narrowed := true }
def FnBlockUptoSaid : Prop := fnBlockUptoRow.holds Try.pinned (OpenSpec.upto fnBlockSpec)

/-- 'laws.FnBlockTwice', WHERE WHAT IT READS IS OF BULK AT MOST 1048576: true; the input reads as it did. -/
def fnBlockTwiceUptoRow : OpenClaim := { program := "ytceihgojdnkfiaa", sum := "65559fff533ef145e19de5803649469348a5669e9e057fd8542791dcfc861981", func := "loop.example/hawser/laws.FnBlockTwice", spec := "fnBlockTwice", apart := false, narrowed := true }
def FnBlockTwiceUptoSaid : Prop := fnBlockTwiceUptoRow.holds Try.pinned (OpenSpec.upto fnBlockTwiceSpec)

/-- 'laws.FnAwaySum', WHERE WHAT IT READS IS OF BULK AT MOST 1048576: true; the input reads as it did. -/
def fnAwaySumUptoRow : OpenClaim := { program := "ytceihgojdnkfiaa", sum := "65559fff533ef145e19de5803649469348a5669e9e057fd8542791dcfc861981", func := "loop.example/hawser/laws.FnAwaySum", spec := "fnAwaySum", unfollowed := true, recurses := true, apart := false, narrowed := true }
def FnAwaySumUptoSaid : Prop := fnAwaySumUptoRow.holds Try.pinned (OpenSpec.upto fnAwaySumSpec)

/-- 'laws.FnWayVer', WHERE WHAT IT READS IS OF BULK AT MOST 1048576: true; the input reads as it did. -/
def fnWayVerUptoRow : OpenClaim := { program := "ytceihgojdnkfiaa", sum := "65559fff533ef145e19de5803649469348a5669e9e057fd8542791dcfc861981", func := "loop.example/hawser/laws.FnWayVer", spec := "fnWayVer", unfollowed := true, recurses := true, apart := false, narrowed := true }
def FnWayVerUptoSaid : Prop := fnWayVerUptoRow.holds Try.pinned (OpenSpec.upto fnWayVerSpec)

/-- 'laws.FnWayDo', WHERE WHAT IT READS IS OF BULK AT MOST 1048576: true; the input reads as it did. -/
def fnWayDoUptoRow : OpenClaim := { program := "ytceihgojdnkfiaa", sum := "65559fff533ef145e19de5803649469348a5669e9e057fd8542791dcfc861981", func := "loop.example/hawser/laws.FnWayDo", spec := "fnWayDo", unfollowed := true, recurses := true, apart := false, narrowed := true }
def FnWayDoUptoSaid : Prop := fnWayDoUptoRow.holds Try.pinned (OpenSpec.upto fnWayDoSpec)

/-- 'laws.FnWayTwice', WHERE WHAT IT READS IS OF BULK AT MOST 1048576: true; the input reads as it did. -/
def fnWayTwiceUptoRow : OpenClaim := { program := "ytceihgojdnkfiaa", sum := "65559fff533ef145e19de5803649469348a5669e9e057fd8542791dcfc861981", func := "loop.example/hawser/laws.FnWayTwice", spec := "fnWayTwice", unfollowed := true, recurses := true, apart := false, narrowed := true }
def FnWayTwiceUptoSaid : Prop := fnWayTwiceUptoRow.holds Try.pinned (OpenSpec.upto fnWayTwiceSpec)

/-- 'laws.FnWayFlush', WHERE WHAT IT READS IS OF BULK AT MOST 1048576: true; the input reads as it did. -/
def fnWayFlushUptoRow : OpenClaim := { program := "ytceihgojdnkfiaa", sum := "65559fff533ef145e19de5803649469348a5669e9e057fd8542791dcfc861981", func := "loop.example/hawser/laws.FnWayFlush", spec := "fnWayFlush", unfollowed := true, recurses := true, apart := false, narrowed := true }
def FnWayFlushUptoSaid : Prop := fnWayFlushUptoRow.holds Try.pinned (OpenSpec.upto fnWayFlushSpec)

/-- 'laws.FnAt', WHERE WHAT IT READS IS OF BULK AT MOST 1048576: true; the input reads as it did. -/
def fnAtUptoRow : OpenClaim := { program := "ytceihgojdnkfiaa", sum := "65559fff533ef145e19de5803649469348a5669e9e057fd8542791dcfc861981", func := "loop.example/hawser/laws.FnAt", spec := "fnAt", unfollowed := true, recurses := true, apart := false, narrowed := true }
def FnAtUptoSaid : Prop := fnAtUptoRow.holds Try.pinned (OpenSpec.upto fnAtSpec)

/-- 'laws.FnSend', WHERE WHAT IT READS IS OF BULK AT MOST 1048576: true; the input reads as it did. -/
def fnSendUptoRow : OpenClaim := { program := "ytceihgojdnkfiaa", sum := "65559fff533ef145e19de5803649469348a5669e9e057fd8542791dcfc861981", func := "loop.example/hawser/laws.FnSend", spec := "fnSend", unfollowed := true, recurses := true, apart := false, narrowed := true }
def FnSendUptoSaid : Prop := fnSendUptoRow.holds Try.pinned (OpenSpec.upto fnSendSpec)

/-- 'laws.FnSendNot', WHERE WHAT IT READS IS OF BULK AT MOST 1048576: true; the input reads as it did. -/
def fnSendNotUptoRow : OpenClaim := { program := "ytceihgojdnkfiaa", sum := "65559fff533ef145e19de5803649469348a5669e9e057fd8542791dcfc861981", func := "loop.example/hawser/laws.FnSendNot", spec := "fnSendNot", unfollowed := true, recurses := true, apart := false, narrowed := true }
def FnSendNotUptoSaid : Prop := fnSendNotUptoRow.holds Try.pinned (OpenSpec.upto fnSendNotSpec)

/-- 'laws.FnSendTwo', WHERE WHAT IT READS IS OF BULK AT MOST 1048576: true; the input reads as it did. -/
def fnSendTwoUptoRow : OpenClaim := { program := "ytceihgojdnkfiaa", sum := "65559fff533ef145e19de5803649469348a5669e9e057fd8542791dcfc861981", func := "loop.example/hawser/laws.FnSendTwo", spec := "fnSendTwo", unfollowed := true, recurses := true, apart := false, narrowed := true }
def FnSendTwoUptoSaid : Prop := fnSendTwoUptoRow.holds Try.pinned (OpenSpec.upto fnSendTwoSpec)

end Rows
end Go.Proofs.Ytceihgojdnkfiaa
