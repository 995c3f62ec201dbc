/- The two ends of a pair: the walk. -/
import Derived.Shelf.Abstract
import Derived.RangeFuncBox
import Derived.WalkKit
import Derived.OwnWalkIn
import Derived.TacticsInMore
import Derived.LoopNIn
import Derived.LoopIn
import Derived.Stop.RegionWithIn
import Derived.RegionIn
import Derived.BigRegionIn
import Derived.Test.YtklmllaggigkfaaGreatProg
import Derived.Test.YtklmllaggigkfaaGreatPJG
namespace Go.Proofs.YtklmllaggigkfaaGreat
namespace Hw
open Go Go.RowKit
attribute [local go_sem] Oper.semAt_some
set_option maxRecDepth 100000
set_option linter.unusedVariables false
set_option linter.unusedSimpArgs false
set_option maxHeartbeats 4000000
theorem ends1 (p:Nat) (x y:Value) (W:World) (h0:W.cell? ⟨p,0,none⟩ = some x) (h1:W.cell? ⟨p,1,none⟩ = some y) (hx:x.oneCell' = true) (hy:y.oneCell' = true) :
  CallsIn Fence.wide 1 Tryz.prog 46 #[.pointer (some ⟨p,0,none⟩),.int .i64 1] W fun e W'=>e = .returned (.tuple #[x,y])∧W'.heap = W.heap∧W'.os = W.os∧W'.tape = W.tape∧W'.output = W.output:=by
 refine callsIn_of_wp Tryz.func46 rfl trivial ?_ rfl
 simp only [Tryz.ntmps46,List.size_toArray,List.length_cons,List.length_nil,Nat.reduceAdd,Nat.reduceSub,Array.replicate_succ,Array.replicate_zero,List.push_toArray,List.append_toArray,List.nil_append,List.cons_append]
 gi_wp2
 gi_region
 all_goals (gi_wp2; go_ret2; exact ⟨rfl,rfl,rfl,rfl,rfl⟩)
theorem ends2 (p:Nat) (x y:Value) (W:World) (h0:W.cell? ⟨p,0,none⟩ = some x) (h1:W.cell? ⟨p,1,none⟩ = some y) (hx:x.oneCell' = true) (hy:y.oneCell' = true) :
  CallsIn Fence.wide 1 Tryz.prog 46 #[.pointer (some ⟨p,0,none⟩),.int .i64 2] W fun e W'=>e = .returned (.tuple #[y,x])∧W'.heap = W.heap∧W'.os = W.os∧W'.tape = W.tape∧W'.output = W.output:=by
 refine callsIn_of_wp Tryz.func46 rfl trivial ?_ rfl
 simp only [Tryz.ntmps46,List.size_toArray,List.length_cons,List.length_nil,Nat.reduceAdd,Nat.reduceSub,Array.replicate_succ,Array.replicate_zero,List.push_toArray,List.append_toArray,List.nil_append,List.cons_append]
 gi_wp2
 gi_region
 all_goals (gi_wp2; go_ret2; exact ⟨rfl,rfl,rfl,rfl,rfl⟩)
end Hw
end Go.Proofs.YtklmllaggigkfaaGreat
