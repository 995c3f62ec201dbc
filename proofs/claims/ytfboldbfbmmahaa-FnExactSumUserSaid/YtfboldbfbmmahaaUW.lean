/- Worlds, by the program: made by gen.py. -/
import Derived.Test.YtfboldbfbmmahaaE5
import Derived.Test.YtfboldbfbmmahaaY9
set_option linter.unusedVariables false
set_option linter.unusedSimpArgs false
set_option maxRecDepth 100000
set_option maxHeartbeats 400000
namespace Go.Proofs.Ytfboldbfbmmahaa
namespace Hw
open Go
noncomputable section
attribute [local irreducible] evFn evBody wrap wxor
theorem implW {l : List Ch} (hf : chsFact l) : Z2.S l = true ↔ WOk l := by
  by_cases hl : l.length = 2
  · have e : (Nat.beq (Z1.R l false l (l.length : Int) 0).1 0 = true ∧ (Z1.R l false l (l.length : Int) 0).2.1 = false ∧ ¬ ∀ k, k < 2 → EndOk l k) ∨ (Nat.beq (Z1.R l false l (l.length : Int) 0).1 0 = false ∧ ∀ k, k < 2 → EndOk l k) := by
      rcases Z1.law l false l (l.length : Int) () 2 (by rw [hl]) (by decide) with ⟨h1, h2⟩ | ⟨k, r, hk, h1, -, h2⟩
      · rw [h2]
        refine .inr ⟨rfl, fun k hk => ?_⟩
        have h3 := h1 k hk
        have hk' : ((l.getD k zCh).knows.length : Int) ≤ 9223372036854775807 := (chs_get hf k).2.2.2
        have hc := implCh hk'
        simp only [Z1.E, E_none, reduceCtorEq, and_false, false_or, and_true] at h3
        rw [wrap_id (n := (k : Int) + 1) (by omega) (by omega), wrap_id (n := 1 - (k : Int)) (by omega) (by omega), wrap_id (n := ((l.getD k zCh).knows.length : Int) - 1) (by omega) (by omega), toNat_sub k hk,
          show (((l.getD k zCh).knows.length : Int) - 1).toNat = (l.getD k zCh).knows.length - 1 by omega] at h3
        unfold EndOk
        generalize (l.getD k zCh).knows.getD ((l.getD k zCh).knows.length - 1) 0 = q at *
        grind
      · rw [h2]
        have hk' : ((l.getD k zCh).knows.length : Int) ≤ 9223372036854775807 := (chs_get hf k).2.2.2
        have hc := implCh hk'
        simp only [Z1.E, E_some, reduceCtorEq, and_false, or_false, Option.some.injEq] at h1
        rw [wrap_id (n := (k : Int) + 1) (by omega) (by omega), wrap_id (n := 1 - (k : Int)) (by omega) (by omega), wrap_id (n := ((l.getD k zCh).knows.length : Int) - 1) (by omega) (by omega), toNat_sub k hk,
          show (((l.getD k zCh).knows.length : Int) - 1).toNat = (l.getD k zCh).knows.length - 1 by omega] at h1
        have hr : r = (0, (false, ((k : Int), ()))) := by grind
        subst hr
        refine .inl ⟨rfl, rfl, fun h => ?_⟩
        have h4 := h k hk
        unfold EndOk at h4
        generalize (l.getD k zCh).knows.getD ((l.getD k zCh).knows.length - 1) 0 = q at *
        grind
    unfold Z2.S WOk
    rw [show ((l.length : Int) != 2) = false by simp [hl]]
    rw [cond_false, loopB e]
    simp [hl]
  · unfold Z2.S WOk
    rw [show ((l.length : Int) != 2) = true by simp; omega]
    simp [hl]

def Idle (s : St) : Prop := ∀ k, k < s.live.length → s.live.getD k false = false

end
end Hw
end Go.Proofs.Ytfboldbfbmmahaa
