/- The law SumDone: made by gen.py. -/
import Derived.Test.YtfboldbfbmmahaaZ2
set_option linter.unusedVariables false
set_option linter.unusedSimpArgs false
set_option maxRecDepth 100000
set_option maxHeartbeats 4000000
namespace Go.Proofs.Ytfboldbfbmmahaa
namespace Hw
open Go
/-! ### laws.FnExactSumDone -/
def laws_FnExactSumDone.S (a0 : List Ch) : Bool := bif decide ((laws_szWorld.S a0 1048576) < 0) then (true) else bif !((impl_SumDone.S (laws_toWorld.S a0)) == (spec_SumDone.S (laws_toWorld.S a0))) then (false) else bif !(laws_eqWorld.S (laws_toWorld.S a0) (laws_toWorld.S a0)) then (false) else (true)
def laws_FnExactSumDone.enc (r : Bool) : AV × List Blk := (.v (.c (.bool r)), [])
def laws_FnExactSumDone.L : ShL := sCons sW (sNil)
def laws_FnExactSumDone.c : Ctr := vctr 3 laws_FnExactSumDone.L none (fun s => laws_FnExactSumDone.enc (laws_FnExactSumDone.S s.1))
theorem laws_FnExactSumDone.w (a0 : List Ch) (K : AV → List Blk → Prop) : evFn (env [laws_szWorld.c, laws_toWorld.c, spec_SumDone.c, impl_SumDone.c, laws_eqWorld.c]) [] [] Try.f3 [] (laws_FnExactSumDone.L.enc (a0, ())) K = (And (Imp ((decide ((laws_szWorld.S a0 1048576) < 0)) = true) (K (.v (.c (.bool true))) ([]))) (Imp ((decide ((laws_szWorld.S a0 1048576) < 0)) = false) (And (laws_toWorld.P a0) (And (laws_toWorld.P a0) (And (Imp ((!((impl_SumDone.S (laws_toWorld.S a0)) == (spec_SumDone.S (laws_toWorld.S a0)))) = true) (K (.v (.c (.bool false))) ([]))) (Imp ((!((impl_SumDone.S (laws_toWorld.S a0)) == (spec_SumDone.S (laws_toWorld.S a0)))) = false) (And (laws_toWorld.P a0) (And (Imp ((!(laws_eqWorld.S (laws_toWorld.S a0) (laws_toWorld.S a0))) = true) (K (.v (.c (.bool false))) ([]))) (Imp ((!(laws_eqWorld.S (laws_toWorld.S a0) (laws_toWorld.S a0))) = false) (K (.v (.c (.bool true))) ([]))))))))))) := by kernel_rfl
theorem laws_FnExactSumDone.v (a0 : List Ch) (hf : chsFact a0 ∧ True) (K : AV → List Blk → Prop) (hK : K (laws_FnExactSumDone.enc (laws_FnExactSumDone.S a0)).1 (laws_FnExactSumDone.enc (laws_FnExactSumDone.S a0)).2) : And (Imp ((decide ((laws_szWorld.S a0 1048576) < 0)) = true) (K (.v (.c (.bool true))) ([]))) (Imp ((decide ((laws_szWorld.S a0 1048576) < 0)) = false) (And (laws_toWorld.P a0) (And (laws_toWorld.P a0) (And (Imp ((!((impl_SumDone.S (laws_toWorld.S a0)) == (spec_SumDone.S (laws_toWorld.S a0)))) = true) (K (.v (.c (.bool false))) ([]))) (Imp ((!((impl_SumDone.S (laws_toWorld.S a0)) == (spec_SumDone.S (laws_toWorld.S a0)))) = false) (And (laws_toWorld.P a0) (And (Imp ((!(laws_eqWorld.S (laws_toWorld.S a0) (laws_toWorld.S a0))) = true) (K (.v (.c (.bool false))) ([]))) (Imp ((!(laws_eqWorld.S (laws_toWorld.S a0) (laws_toWorld.S a0))) = false) (K (.v (.c (.bool true))) ([])))))))))) := by
  obtain ⟨f0, -⟩ := hf
  try simp only [big] at *
  refine ⟨fun h1 => ?_, fun h1 => ?_⟩
  · have e : laws_FnExactSumDone.S a0 = (true) := by simp only [laws_FnExactSumDone.S, h1, cond_true, cond_false]
    rw [e] at hK
    exact hK
  · refine ⟨by first | assumption | omega | grind [wrap_id, chs_1, chs_2, chs_3, chs_4, chs_5, sz_world, laws_toWorld.P], ?_⟩
    refine ⟨by first | assumption | omega | grind [wrap_id, chs_1, chs_2, chs_3, chs_4, chs_5, sz_world, laws_toWorld.P], ?_⟩
    refine ⟨fun h2 => ?_, fun h2 => ?_⟩
    · have e : laws_FnExactSumDone.S a0 = (false) := by simp only [laws_FnExactSumDone.S, h1, h2, cond_true, cond_false]
      rw [e] at hK
      exact hK
    · refine ⟨by first | assumption | omega | grind [wrap_id, chs_1, chs_2, chs_3, chs_4, chs_5, sz_world, laws_toWorld.P], ?_⟩
      refine ⟨fun h3 => ?_, fun h3 => ?_⟩
      · have e : laws_FnExactSumDone.S a0 = (false) := by simp only [laws_FnExactSumDone.S, h1, h2, h3, cond_true, cond_false]
        rw [e] at hK
        exact hK
      · have e : laws_FnExactSumDone.S a0 = (true) := by simp only [laws_FnExactSumDone.S, h1, h2, h3, cond_true, cond_false]
        rw [e] at hK
        exact hK
theorem laws_FnExactSumDone.good : Good Try.prog laws_FnExactSumDone.c :=
  vgood (sh := []) (LL := []) (consG laws_szWorld.good (consG laws_toWorld.good (consG spec_SumDone.good (consG impl_SumDone.good (consG laws_eqWorld.good noG))))) (fn := Try.f3) (by kernel_rfl) (by kernel_rfl) (by rw [show loopsOf (bodyOf Try.f3) = [] from by kernel_rfl]; exact noL rfl) fun s hp hf => by
    refine Eq.mpr (laws_FnExactSumDone.w (s.1) _) ?_
    exact laws_FnExactSumDone.v _ hf (fun r bs' => And (r = (laws_FnExactSumDone.c.out s).1) (bs' = (laws_FnExactSumDone.c.out s).2)) ⟨rfl, rfl⟩
end Hw
end Go.Proofs.Ytfboldbfbmmahaa
