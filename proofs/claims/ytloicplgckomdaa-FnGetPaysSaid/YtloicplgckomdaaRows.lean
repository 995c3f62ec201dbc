/-
  No cell of these rows narrows 'for every input' (looked for: loops, veiled, ifaces, maps, wideKeys, modest, calm, conditions, laid).
  DERIVED. THE GIVEN ROWS OF THIS SEAT. 12 by the template 'for every input the law returns true; each argument reads behind the call as it read before'; 0 by the template 'total and deterministic' (their statements: YtloicplgckomdaaTotals.lean).
  GIVEN WITH THE SEED: the statements are not yours to turn. If you find one false, say at which input.
  Laid BY PROGRAM, IN A SANDBOX (cutbox-rows.mjs): the forced cells as the released guide's own fill.sh prints them over the translation a12f1b7a849c9c2f… (all of the seat's roots in one cut). By AI agents, Wed Nov 11 2026. No macro, syntax, notation, axiom, sorry.
-/
import Derived.Test.YtloicplgckomdaaChecked
import GoSem.Claim
import GoSem.ClaimJoined
import GoSem.ClaimMapViews
import Derived.JoinedTies
import Derived.KernelRfl
namespace Go.Proofs.Ytloicplgckomdaa
/- THE CELL 'sum', in the pinned program and in every row, IS THE sha256 OF THE DUMP (.gsa) THAT YtloicplgckomdaaProg.lean LOADS. Nothing in Lean hashes anything: it is a label: what it is worth is what the hold of that sum in a sandbox is worth. -/
noncomputable def Try.pinned : Pinned := { name := "ytloicplgckomdaa", sum := "a12f1b7a849c9c2fdc25f7a2b0a2541584d784283341f8fa9f7f813906497ee6", checked := Try.checked }
namespace Rows
def none {H : Type} : Left H := { results := [], args := [] }

/-- 'laws.FnStepSame': WHATEVER THE INPUT: true; the input reads as it did. -/
def fnStepSameSpec : ChangeSpec := { name := "fnStepSame", fn := fun _ => fun
  | [d1, d2] => { results := [.lit (.bool true)], args := [d1, d2] }
  | _ => none }
def fnStepSameRow : OpenClaim := { program := "ytloicplgckomdaa", sum := "a12f1b7a849c9c2fdc25f7a2b0a2541584d784283341f8fa9f7f813906497ee6", func := "loop.example/hawser/laws.FnStepSame", spec := "fnStepSame", unfollowed := true, recurses := true, apart := false }
def FnStepSameSaid : Prop := fnStepSameRow.holds Try.pinned (OpenSpec.ofChange fnStepSameSpec)

/-- ITS FALSE NEIGHBOUR: 'it returns false'. Refute it at one input. -/
def fnStepSameWrong : ChangeSpec := { name := "fnStepSame", fn := fun _ => fun
  | [d1, d2] => { results := [.lit (.bool false)], args := [d1, d2] }
  | _ => none }
def FnStepSameWrongFalsely : Prop := fnStepSameRow.holds Try.pinned (OpenSpec.ofChange fnStepSameWrong)

/-- 'laws.FnStep': WHATEVER THE INPUT: true; the input reads as it did. -/
def fnStepSpec : ChangeSpec := { name := "fnStep", fn := fun _ => fun
  | [d] => { results := [.lit (.bool true)], args := [d] }
  | _ => none }
def fnStepRow : OpenClaim := { program := "ytloicplgckomdaa", sum := "a12f1b7a849c9c2fdc25f7a2b0a2541584d784283341f8fa9f7f813906497ee6", func := "loop.example/hawser/laws.FnStep", spec := "fnStep", unfollowed := true, recurses := true, apart := false }
def FnStepSaid : Prop := fnStepRow.holds Try.pinned (OpenSpec.ofChange fnStepSpec)

/-- ITS FALSE NEIGHBOUR: 'it returns false'. Refute it at one input. -/
def fnStepWrong : ChangeSpec := { name := "fnStep", fn := fun _ => fun
  | [d] => { results := [.lit (.bool false)], args := [d] }
  | _ => none }
def FnStepWrongFalsely : Prop := fnStepRow.holds Try.pinned (OpenSpec.ofChange fnStepWrong)

/-- 'laws.FnGet': WHATEVER THE INPUT: true; the input reads as it did. -/
def fnGetSpec : ChangeSpec := { name := "fnGet", fn := fun _ => fun
  | [d] => { results := [.lit (.bool true)], args := [d] }
  | _ => none }
def fnGetRow : OpenClaim := { program := "ytloicplgckomdaa", sum := "a12f1b7a849c9c2fdc25f7a2b0a2541584d784283341f8fa9f7f813906497ee6", func := "loop.example/hawser/laws.FnGet", spec := "fnGet", unfollowed := true, recurses := true, apart := false }
def FnGetSaid : Prop := fnGetRow.holds Try.pinned (OpenSpec.ofChange fnGetSpec)

/-- ITS FALSE NEIGHBOUR: 'it returns false'. Refute it at one input. -/
def fnGetWrong : ChangeSpec := { name := "fnGet", fn := fun _ => fun
  | [d] => { results := [.lit (.bool false)], args := [d] }
  | _ => none }
def FnGetWrongFalsely : Prop := fnGetRow.holds Try.pinned (OpenSpec.ofChange fnGetWrong)

/-- 'laws.FnGetOnce': WHATEVER THE INPUT: true; the input reads as it did. -/
def fnGetOnceSpec : ChangeSpec := { name := "fnGetOnce", fn := fun _ => fun
  | [d] => { results := [.lit (.bool true)], args := [d] }
  | _ => none }
def fnGetOnceRow : OpenClaim := { program := "ytloicplgckomdaa", sum := "a12f1b7a849c9c2fdc25f7a2b0a2541584d784283341f8fa9f7f813906497ee6", func := "loop.example/hawser/laws.FnGetOnce", spec := "fnGetOnce", unfollowed := true, recurses := true, apart := false }
def FnGetOnceSaid : Prop := fnGetOnceRow.holds Try.pinned (OpenSpec.ofChange fnGetOnceSpec)

/-- ITS FALSE NEIGHBOUR: 'it returns false'. Refute it at one input. -/
def fnGetOnceWrong : ChangeSpec := { name := "fnGetOnce", fn := fun _ => fun
  | [d] => { results := [.lit (.bool false)], args := [d] }
  | _ => none }
def FnGetOnceWrongFalsely : Prop := fnGetOnceRow.holds Try.pinned (OpenSpec.ofChange fnGetOnceWrong)

/-- 'laws.FnGetOpen': WHATEVER THE INPUT: true; the input reads as it did. -/
def fnGetOpenSpec : ChangeSpec := { name := "fnGetOpen", fn := fun _ => fun
  | [d] => { results := [.lit (.bool true)], args := [d] }
  | _ => none }
def fnGetOpenRow : OpenClaim := { program := "ytloicplgckomdaa", sum := "a12f1b7a849c9c2fdc25f7a2b0a2541584d784283341f8fa9f7f813906497ee6", func := "loop.example/hawser/laws.FnGetOpen", spec := "fnGetOpen", unfollowed := true, recurses := true, apart := false }
def FnGetOpenSaid : Prop := fnGetOpenRow.holds Try.pinned (OpenSpec.ofChange fnGetOpenSpec)

/-- ITS FALSE NEIGHBOUR: 'it returns false'. Refute it at one input. -/
def fnGetOpenWrong : ChangeSpec := { name := "fnGetOpen", fn := fun _ => fun
  | [d] => { results := [.lit (.bool false)], args := [d] }
  | _ => none }
def FnGetOpenWrongFalsely : Prop := fnGetOpenRow.holds Try.pinned (OpenSpec.ofChange fnGetOpenWrong)

/-- 'laws.FnTell': WHATEVER THE INPUT: true; the input reads as it did. -/
def fnTellSpec : ChangeSpec := { name := "fnTell", fn := fun _ => fun
  | [d] => { results := [.lit (.bool true)], args := [d] }
  | _ => none }
def fnTellRow : OpenClaim := { program := "ytloicplgckomdaa", sum := "a12f1b7a849c9c2fdc25f7a2b0a2541584d784283341f8fa9f7f813906497ee6", func := "loop.example/hawser/laws.FnTell", spec := "fnTell", unfollowed := true, recurses := true, apart := false }
def FnTellSaid : Prop := fnTellRow.holds Try.pinned (OpenSpec.ofChange fnTellSpec)

/-- ITS FALSE NEIGHBOUR: 'it returns false'. Refute it at one input. -/
def fnTellWrong : ChangeSpec := { name := "fnTell", fn := fun _ => fun
  | [d] => { results := [.lit (.bool false)], args := [d] }
  | _ => none }
def FnTellWrongFalsely : Prop := fnTellRow.holds Try.pinned (OpenSpec.ofChange fnTellWrong)

/-- 'laws.FnLate': WHATEVER THE INPUT: true; the input reads as it did. -/
def fnLateSpec : ChangeSpec := { name := "fnLate", fn := fun _ => fun
  | [d] => { results := [.lit (.bool true)], args := [d] }
  | _ => none }
def fnLateRow : OpenClaim := { program := "ytloicplgckomdaa", sum := "a12f1b7a849c9c2fdc25f7a2b0a2541584d784283341f8fa9f7f813906497ee6", func := "loop.example/hawser/laws.FnLate", spec := "fnLate", unfollowed := true, recurses := true, apart := false }
def FnLateSaid : Prop := fnLateRow.holds Try.pinned (OpenSpec.ofChange fnLateSpec)

/-- ITS FALSE NEIGHBOUR: 'it returns false'. Refute it at one input. -/
def fnLateWrong : ChangeSpec := { name := "fnLate", fn := fun _ => fun
  | [d] => { results := [.lit (.bool false)], args := [d] }
  | _ => none }
def FnLateWrongFalsely : Prop := fnLateRow.holds Try.pinned (OpenSpec.ofChange fnLateWrong)

/-- 'laws.FnGetForged': WHATEVER THE INPUT: true; the input reads as it did. -/
def fnGetForgedSpec : ChangeSpec := { name := "fnGetForged", fn := fun _ => fun
  | [d1, d2] => { results := [.lit (.bool true)], args := [d1, d2] }
  | _ => none }
def fnGetForgedRow : OpenClaim := { program := "ytloicplgckomdaa", sum := "a12f1b7a849c9c2fdc25f7a2b0a2541584d784283341f8fa9f7f813906497ee6", func := "loop.example/hawser/laws.FnGetForged", spec := "fnGetForged", unfollowed := true, recurses := true, apart := false }
def FnGetForgedSaid : Prop := fnGetForgedRow.holds Try.pinned (OpenSpec.ofChange fnGetForgedSpec)

/-- ITS FALSE NEIGHBOUR: 'it returns false'. Refute it at one input. -/
def fnGetForgedWrong : ChangeSpec := { name := "fnGetForged", fn := fun _ => fun
  | [d1, d2] => { results := [.lit (.bool false)], args := [d1, d2] }
  | _ => none }
def FnGetForgedWrongFalsely : Prop := fnGetForgedRow.holds Try.pinned (OpenSpec.ofChange fnGetForgedWrong)

/-- 'laws.FnGetPays': WHATEVER THE INPUT: true; the input reads as it did. -/
def fnGetPaysSpec : ChangeSpec := { name := "fnGetPays", fn := fun _ => fun
  | [d] => { results := [.lit (.bool true)], args := [d] }
  | _ => none }
def fnGetPaysRow : OpenClaim := { program := "ytloicplgckomdaa", sum := "a12f1b7a849c9c2fdc25f7a2b0a2541584d784283341f8fa9f7f813906497ee6", func := "loop.example/hawser/laws.FnGetPays", spec := "fnGetPays", unfollowed := true, recurses := true, apart := false }
def FnGetPaysSaid : Prop := fnGetPaysRow.holds Try.pinned (OpenSpec.ofChange fnGetPaysSpec)

/-- ITS FALSE NEIGHBOUR: 'it returns false'. Refute it at one input. -/
def fnGetPaysWrong : ChangeSpec := { name := "fnGetPays", fn := fun _ => fun
  | [d] => { results := [.lit (.bool false)], args := [d] }
  | _ => none }
def FnGetPaysWrongFalsely : Prop := fnGetPaysRow.holds Try.pinned (OpenSpec.ofChange fnGetPaysWrong)

/-- 'laws.FnGetLate': WHATEVER THE INPUT: true; the input reads as it did. -/
def fnGetLateSpec : ChangeSpec := { name := "fnGetLate", fn := fun _ => fun
  | [d] => { results := [.lit (.bool true)], args := [d] }
  | _ => none }
def fnGetLateRow : OpenClaim := { program := "ytloicplgckomdaa", sum := "a12f1b7a849c9c2fdc25f7a2b0a2541584d784283341f8fa9f7f813906497ee6", func := "loop.example/hawser/laws.FnGetLate", spec := "fnGetLate", unfollowed := true, recurses := true, apart := false }
def FnGetLateSaid : Prop := fnGetLateRow.holds Try.pinned (OpenSpec.ofChange fnGetLateSpec)

/-- ITS FALSE NEIGHBOUR: 'it returns false'. Refute it at one input. -/
def fnGetLateWrong : ChangeSpec := { name := "fnGetLate", fn := fun _ => fun
  | [d] => { results := [.lit (.bool false)], args := [d] }
  | _ => none }
def FnGetLateWrongFalsely : Prop := fnGetLateRow.holds Try.pinned (OpenSpec.ofChange fnGetLateWrong)

/-- 'laws.FnTellOthers': WHATEVER THE INPUT: true; the input reads as it did. -/
def fnTellOthersSpec : ChangeSpec := { name := "fnTellOthers", fn := fun _ => fun
  | [d] => { results := [.lit (.bool true)], args := [d] }
  | _ => none }
def fnTellOthersRow : OpenClaim := { program := "ytloicplgckomdaa", sum := "a12f1b7a849c9c2fdc25f7a2b0a2541584d784283341f8fa9f7f813906497ee6", func := "loop.example/hawser/laws.FnTellOthers", spec := "fnTellOthers", unfollowed := true, recurses := true, apart := false }
def FnTellOthersSaid : Prop := fnTellOthersRow.holds Try.pinned (OpenSpec.ofChange fnTellOthersSpec)

/-- ITS FALSE NEIGHBOUR: 'it returns false'. Refute it at one input. -/
def fnTellOthersWrong : ChangeSpec := { name := "fnTellOthers", fn := fun _ => fun
  | [d] => { results := [.lit (.bool false)], args := [d] }
  | _ => none }
def FnTellOthersWrongFalsely : Prop := fnTellOthersRow.holds Try.pinned (OpenSpec.ofChange fnTellOthersWrong)

/-- 'laws.FnGetOthers': WHATEVER THE INPUT: true; the input reads as it did. -/
def fnGetOthersSpec : ChangeSpec := { name := "fnGetOthers", fn := fun _ => fun
  | [d] => { results := [.lit (.bool true)], args := [d] }
  | _ => none }
def fnGetOthersRow : OpenClaim := { program := "ytloicplgckomdaa", sum := "a12f1b7a849c9c2fdc25f7a2b0a2541584d784283341f8fa9f7f813906497ee6", func := "loop.example/hawser/laws.FnGetOthers", spec := "fnGetOthers", unfollowed := true, recurses := true, apart := false }
def FnGetOthersSaid : Prop := fnGetOthersRow.holds Try.pinned (OpenSpec.ofChange fnGetOthersSpec)

/-- ITS FALSE NEIGHBOUR: 'it returns false'. Refute it at one input. -/
def fnGetOthersWrong : ChangeSpec := { name := "fnGetOthers", fn := fun _ => fun
  | [d] => { results := [.lit (.bool false)], args := [d] }
  | _ => none }
def FnGetOthersWrongFalsely : Prop := fnGetOthersRow.holds Try.pinned (OpenSpec.ofChange fnGetOthersWrong)

/- THE SECOND FORM. 'bulk': how many values and letters a reading holds, each counted each time it is reached (what is shared counts as often as it is met; a slice's spare places count too). A statement '..UptoSaid' is the law's where the arguments, and the package variables that the reading takes, are together of bulk at most 1048576: NARROWER than '..Said'. Prove '..Said' where nothing that the law and all that it calls make is longer than what came in: it says more and counts as full. Else prove '..UptoSaid'. A law counts once. -/
mutual
def uptoBulk {H : Type} : DataW H → Nat
  | .lit (.string bytes) => bytes.length + 1
  | .lit _ => 1
  | .nil => 1
  | .ptr d => uptoBulk d + 1
  | .slice elems spare => uptoBulkAll elems + uptoBulkAll spare + 1
  | .agg parts => uptoBulkAll parts + 1
  | .iface _ d => uptoBulk d + 1
  | .map entries => uptoBulkEntries entries + 1
  | .held _ => 1
def uptoBulkAll {H : Type} : List (DataW H) → Nat
  | [] => 0
  | d :: r => uptoBulk d + uptoBulkAll r
def uptoBulkEntries {H : Type} : List (Lit × DataW H) → Nat
  | [] => 0
  | x :: r => uptoBulkEntry x + uptoBulkEntries r
def uptoBulkEntry {H : Type} : Lit × DataW H → Nat
  | (.string bytes, d) => bytes.length + uptoBulk d + 1
  | (_, d) => uptoBulk d + 1
 end
def uptoSmall : (H : Type) → List (DataW H) → Bool := fun _ ds => decide (uptoBulkAll ds ≤ 1048576)
def OpenSpec.upto (s : _root_.Go.ChangeSpec) : _root_.Go.OpenSpec := { _root_.Go.OpenSpec.ofChange s with cond := some uptoSmall }

/-- 'laws.FnStepSame', WHERE WHAT IT READS IS OF BULK AT MOST 1048576: true; the input reads as it did. -/
def fnStepSameUptoRow : OpenClaim := { program := "ytloicplgckomdaa", sum := "a12f1b7a849c9c2fdc25f7a2b0a2541584d784283341f8fa9f7f813906497ee6", func := "loop.example/hawser/laws.FnStepSame", spec := "fnStepSame", unfollowed := true, recurses := true, apart := false, narrowed := true }
def FnStepSameUptoSaid : Prop := fnStepSameUptoRow.holds Try.pinned (OpenSpec.upto fnStepSameSpec)

/-- 'laws.FnStep', WHERE WHAT IT READS IS OF BULK AT MOST 1048576: true; the input reads as it did. -/
def fnStepUptoRow : OpenClaim := { program := "ytloicplgckomdaa", sum := "a12f1b7a849c9c2fdc25f7a2b0a2541584d784283341f8fa9f7f813906497ee6", func := "loop.example/hawser/laws.FnStep", spec := "fnStep", unfollowed := true, recurses := true, apart := false, narrowed := true }
def FnStepUptoSaid : Prop := fnStepUptoRow.holds Try.pinned (OpenSpec.upto fnStepSpec)

/-- 'laws.FnGet', WHERE WHAT IT READS IS OF BULK AT MOST 1048576: true; the input reads as it did. -/
def fnGetUptoRow : OpenClaim := { program := "ytloicplgckomdaa", sum := "a12f1b7a849c9c2fdc25f7a2b0a2541584d784283341f8fa9f7f813906497ee6", func := "loop.example/hawser/laws.FnGet", spec := "fnGet", unfollowed := true, recurses := true, apart := false, narrowed := true }
def FnGetUptoSaid : Prop := fnGetUptoRow.holds Try.pinned (OpenSpec.upto fnGetSpec)

/-- 'laws.FnGetOnce', WHERE WHAT IT READS IS OF BULK AT MOST 1048576: true; the input reads as it did. -/
def fnGetOnceUptoRow : OpenClaim := { program := "ytloicplgckomdaa", sum := "a12f1b7a849c9c2fdc25f7a2b0a2541584d784283341f8fa9f7f813906497ee6", func := "loop.example/hawser/laws.FnGetOnce", spec := "fnGetOnce", unfollowed := true, recurses := true, apart := false, narrowed := true }
def FnGetOnceUptoSaid : Prop := fnGetOnceUptoRow.holds Try.pinned (OpenSpec.upto fnGetOnceSpec)

/-- 'laws.FnGetOpen', WHERE WHAT IT READS IS OF BULK AT MOST 1048576: true; the input reads as it did. -/
def fnGetOpenUptoRow : OpenClaim := { program := "ytloicplgckomdaa", sum := "a12f1b7a849c9c2fdc25f7a2b0a2541584d784283341f8fa9f7f813906497ee6", func := "loop.example/hawser/laws.FnGetOpen", spec := "fnGetOpen", unfollowed := true, recurses := true, apart := false, narrowed := true }
def FnGetOpenUptoSaid : Prop := fnGetOpenUptoRow.holds Try.pinned (OpenSpec.upto fnGetOpenSpec)

/-- 'laws.FnTell', WHERE WHAT IT READS IS OF BULK AT MOST 1048576: true; the input reads as it did. -/
def fnTellUptoRow : OpenClaim := { program := "ytloicplgckomdaa", sum := "a12f1b7a849c9c2fdc25f7a2b0a2541584d784283341f8fa9f7f813906497ee6", func := "loop.example/hawser/laws.FnTell", spec := "fnTell", unfollowed := true, recurses := true, apart := false, narrowed := true }
def FnTellUptoSaid : Prop := fnTellUptoRow.holds Try.pinned (OpenSpec.upto fnTellSpec)

/-- 'laws.FnLate', WHERE WHAT IT READS IS OF BULK AT MOST 1048576: true; the input reads as it did. -/
def fnLateUptoRow : OpenClaim := { program := "ytloicplgckomdaa", sum := "a12f1b7a849c9c2fdc25f7a2b0a2541584d784283341f8fa9f7f813906497ee6", func := "loop.example/hawser/laws.FnLate", spec := "fnLate", unfollowed := true, recurses := true, apart := false, narrowed := true }
def FnLateUptoSaid : Prop := fnLateUptoRow.holds Try.pinned (OpenSpec.upto fnLateSpec)

/-- 'laws.FnGetForged', WHERE WHAT IT READS IS OF BULK AT MOST 1048576: true; the input reads as it did. -/
def fnGetForgedUptoRow : OpenClaim := { program := "ytloicplgckomdaa", sum := "a12f1b7a849c9c2fdc25f7a2b0a2541584d784283341f8fa9f7f813906497ee6", func := "loop.example/hawser/laws.FnGetForged", spec := "fnGetForged", unfollowed := true, recurses := true, apart := false, narrowed := true }
def FnGetForgedUptoSaid : Prop := fnGetForgedUptoRow.holds Try.pinned (OpenSpec.upto fnGetForgedSpec)

/-- 'laws.FnGetPays', WHERE WHAT IT READS IS OF BULK AT MOST 1048576: true; the input reads as it did. -/
def fnGetPaysUptoRow : OpenClaim := { program := "ytloicplgckomdaa", sum := "a12f1b7a849c9c2fdc25f7a2b0a2541584d784283341f8fa9f7f813906497ee6", func := "loop.example/hawser/laws.FnGetPays", spec := "fnGetPays", unfollowed := true, recurses := true, apart := false, narrowed := true }
def FnGetPaysUptoSaid : Prop := fnGetPaysUptoRow.holds Try.pinned (OpenSpec.upto fnGetPaysSpec)

/-- 'laws.FnGetLate', WHERE WHAT IT READS IS OF BULK AT MOST 1048576: true; the input reads as it did. -/
def fnGetLateUptoRow : OpenClaim := { program := "ytloicplgckomdaa", sum := "a12f1b7a849c9c2fdc25f7a2b0a2541584d784283341f8fa9f7f813906497ee6", func := "loop.example/hawser/laws.FnGetLate", spec := "fnGetLate", unfollowed := true, recurses := true, apart := false, narrowed := true }
def FnGetLateUptoSaid : Prop := fnGetLateUptoRow.holds Try.pinned (OpenSpec.upto fnGetLateSpec)

/-- 'laws.FnTellOthers', WHERE WHAT IT READS IS OF BULK AT MOST 1048576: true; the input reads as it did. -/
def fnTellOthersUptoRow : OpenClaim := { program := "ytloicplgckomdaa", sum := "a12f1b7a849c9c2fdc25f7a2b0a2541584d784283341f8fa9f7f813906497ee6", func := "loop.example/hawser/laws.FnTellOthers", spec := "fnTellOthers", unfollowed := true, recurses := true, apart := false, narrowed := true }
def FnTellOthersUptoSaid : Prop := fnTellOthersUptoRow.holds Try.pinned (OpenSpec.upto fnTellOthersSpec)

/-- 'laws.FnGetOthers', WHERE WHAT IT READS IS OF BULK AT MOST 1048576: true; the input reads as it did. -/
def fnGetOthersUptoRow : OpenClaim := { program := "ytloicplgckomdaa", sum := "a12f1b7a849c9c2fdc25f7a2b0a2541584d784283341f8fa9f7f813906497ee6", func := "loop.example/hawser/laws.FnGetOthers", spec := "fnGetOthers", unfollowed := true, recurses := true, apart := false, narrowed := true }
def FnGetOthersUptoSaid : Prop := fnGetOthersUptoRow.holds Try.pinned (OpenSpec.upto fnGetOthersSpec)

end Rows
end Go.Proofs.Ytloicplgckomdaa
