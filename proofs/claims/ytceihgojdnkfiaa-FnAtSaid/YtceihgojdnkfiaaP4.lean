/- What is sent, in laws: made by gen.py. -/
import Derived.Test.YtceihgojdnkfiaaP1
import Derived.Test.YtceihgojdnkfiaaP2
import Derived.Test.YtceihgojdnkfiaaK6
set_option linter.unusedVariables false
set_option linter.unusedSimpArgs false
set_option maxRecDepth 100000
set_option maxHeartbeats 400000
namespace Go.Proofs.Ytceihgojdnkfiaa
namespace Hw
open Go
noncomputable section
attribute [local irreducible] evFn evBody wrap wxor
theorem snd_zst_lt : zSt.lt := ⟨by decide, by decide, by decide, by decide⟩
theorem cs_lt {c r : Ch} {k f t s u n : Int} {b : Bool} (q : CsQ c k f t s u r n b) (h : c.lt) : r.lt := by
  by_cases g : b = true
  · have ho := (q.1.1 g).1
    have hs := ho.2.2.1
    have hi := stOk_in hs
    have hb := (q.1.1 g).2.2.2
    have r1 := bk_rng rfl ho.2.1 hb.2.2.1
    rw [(q.2.1 g).1]
    refine ⟨?_, ?_, h.2.2.1, h.2.2.2⟩
    · show (awayB c.bank k f s).own.length ≤ _ ∧ (awayB c.bank k f s).notes.length ≤ _ ∧ inI (awayB c.bank k f s).locked
      have h1 : (awayB c.bank k f s).own.length = 3 ∧ (awayB c.bank k f s).notes.length = 3 ∧ (awayB c.bank k f s).locked = (if k = 1 then c.bank.locked + s else c.bank.locked) := by
        unfold awayB
        split
        · exact ⟨by rw [List.length_set]; exact r1.1, r1.2.1, rfl⟩
        · exact ⟨r1.1, by rw [List.length_set]; exact r1.2.1, rfl⟩
      refine ⟨by omega, by omega, ?_⟩
      rw [h1.2.2]
      have hp := (q.1.1 g).2.2.1.2.2.2.2.1
      have hp : 1 ≤ s ∧ s ≤ 9 := hp
      unfold inI
      split <;> omega
    · unfold SIn at hi
      show (c.st.sent ++ [_]).length ≤ _ ∧ (c.st.live ++ [true]).length ≤ _ ∧ (c.st.back ++ [false]).length ≤ _ ∧ c.st.got.length ≤ _
      simp only [List.length_append, List.length_singleton]
      omega
  · by_cases g' : ChOk c
    · rw [(q.2.2 g).2.1 g']
      exact h
    · rw [(q.2.2 g).2.2 g']
      exact ⟨⟨by decide, by decide, by decide, by decide⟩, snd_zst_lt, ⟨by decide, fun k => by rw [getD_ge (Nat.zero_le k)]; exact snd_zst_lt⟩, by decide⟩
theorem cs_same {c r r' : Ch} {k f t s u n n' : Int} {b b' : Bool} (q : CsQ c k f t s u r n b) (q' : CsQ c k f t s u r' n' b') : b = b' ∧ n = n' ∧ r = r' := by
  have hb : b = b' := Bool.eq_iff_iff.2 (q.1.trans q'.1.symm)
  subst hb
  refine ⟨rfl, ?_⟩
  by_cases g : b = true
  · rw [(q.2.1 g).1, (q.2.1 g).2, (q'.2.1 g).1, (q'.2.1 g).2]
    exact ⟨rfl, rfl⟩
  · rw [(q.2.2 g).1, (q'.2.2 g).1]
    refine ⟨rfl, ?_⟩
    by_cases g' : ChOk c
    · rw [(q.2.2 g).2.1 g', (q'.2.2 g).2.1 g']
    · rw [(q.2.2 g).2.2 g', (q'.2.2 g).2.2 g']
theorem csB {c r r' : Ch} {k f t s u n n' : Int} {b b' x7 x8 : Bool} (q : CsQ c k f t s u r n b) (q' : CsQ c k f t s u r' n' b') (e7 : x7 = true ↔ b' = b ∧ n' = n) (q8 : x8 = true ↔ r' = r) : (bif x7 then x8 else false) = true := by
  obtain ⟨h1, h2, h3⟩ := cs_same q' q
  rw [e7.2 ⟨h1, h2⟩, q8.2 h3]
  rfl
theorem csOk {c : Ch} {p : Prop} (hl : c.lt) (h : ¬(p ∨ ¬ZV.S c = true)) : ChOk c := (specChL hl).1 (nn fun g => h (.inr g))

end
end Hw
end Go.Proofs.Ytceihgojdnkfiaa
