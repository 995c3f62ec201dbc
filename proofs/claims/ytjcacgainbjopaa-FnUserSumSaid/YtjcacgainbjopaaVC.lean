/- What a bank has: made by gen.py. -/
import Derived.Test.YtjcacgainbjopaaUW
set_option linter.unusedVariables false
set_option linter.unusedSimpArgs false
set_option maxRecDepth 100000
set_option maxHeartbeats 400000
namespace Go.Proofs.Ytjcacgainbjopaa
namespace Hw
open Go
noncomputable section
attribute [local irreducible] evFn evBody wrap wxor
abbrev AllQ (b : Bk) (x y : Int) : Prop := (BkOk b → x = tot b.own + b.locked ∧ y = tot b.notes) ∧ (¬ BkOk b → x = -1 ∧ y = -1)
theorem tot_own {b : Bk} (h : BkOk b) : (ZE.S b.own).1 = tot b.own ∧ 0 ≤ tot b.own ∧ tot b.own ≤ 30 ∧ 0 ≤ b.locked ∧ b.locked ≤ 30 := by
  have h3 := h.1.three
  refine ⟨implTotal.2 h.1, ?_⟩
  have h1 := h.2.2.1
  have h2 := h.2.2.2.1
  unfold tot at h2 ⊢
  omega
theorem tot_notes {b : Bk} (h : BkOk b) : (ZE.S b.notes).1 = tot b.notes ∧ 0 ≤ tot b.notes ∧ tot b.notes ≤ 30 := by
  refine ⟨implTotal.2 h.2.1, ?_, h.2.2.2.2⟩
  have := h.2.1.three
  unfold tot
  omega
theorem all_t {b : Bk} {x : Int} (h : ¬¬ ZF.S b = true) (e : x = (ZE.S b.own).1 + b.locked) : AllQ b x (ZE.S b.notes).1 := by
  have ho := implBk.1 (nn h)
  exact ⟨fun _ => ⟨by rw [e, (tot_own ho).1], (tot_notes ho).1⟩, fun g => absurd ho g⟩
theorem all_f {b : Bk} (h : ¬ ZF.S b = true) : AllQ b (-1) (-1) := ⟨fun g => absurd (implBk.2 g) h, fun _ => ⟨rfl, rfl⟩⟩

def Zc1.L : FL := fCons (fSh sBk) (fNil)
def Zc1 : Bk × Unit → FR (Int × Int) := fun (a0, ()) => ⟨True, fun X => And (Imp ((!(ZF.S a0)) = true) (X ((-1), (-1)))) (Imp ((!(ZF.S a0)) = false) (Lt (wrap ((ZE.S a0.own).1 + a0.locked)) fun x1 => X (x1, (ZE.S a0.notes).1))), fun r => (AllQ a0 r.1 r.2) ∧ True, fun r => (.tup [.c (.int r.1), .c (.int r.2)], [])⟩
theorem Zc1.X : XF Zc1 := mkF (0, 0) fun (a0, ()) hp => by
  clear hp
  dsimp only [Zc1]
  refine May.iff (B.not (Iff.rfl)) (fun h1 => ?_) (fun h1 => ?_)
  refine May.ret ⟨?_, trivial⟩; rotate_left 1
  refine May.lw ⟨?_, ?_⟩ fun x1 e1 => May.ret ⟨?_, trivial⟩
  all_goals try dsimp only
  all_goals first | with_reducible assumption | omega | (with_reducible rfl; done) | ((have := tot_own (implBk.1 (nn h1)); omega); done) | (exact all_t h1 e1; done) | (exact all_f h1; done)
abbrev Zc1.S := Classical.choose Zc1.X
def Zc1.c : Ctr := fc0 12 [true] Zc1.L Zc1 Zc1.S
theorem Zc1.good : Good Try.prog Zc1.c := mkFG0 (fn := Try.f12) {} Zc1.X (consG ZF.good (consG ZE.good noG)) (by kernel_rfl) (by kernel_rfl) (l0 (by kernel_rfl)) (c0 (by kernel_rfl)) (fun _ => trivial) fun s K => by kernel_rfl
end
end Hw
end Go.Proofs.Ytjcacgainbjopaa
