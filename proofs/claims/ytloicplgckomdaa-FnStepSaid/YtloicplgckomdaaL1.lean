/- Steps of chains: made by gen.py. -/
import Derived.Test.YtloicplgckomdaaHL
import Derived.Test.YtloicplgckomdaaK4
set_option linter.unusedVariables false
set_option linter.unusedSimpArgs false
set_option maxRecDepth 100000
set_option maxHeartbeats 400000
namespace Go.Proofs.Ytloicplgckomdaa
namespace Hw
open Go
noncomputable section
attribute [local irreducible] evFn evBody wrap wxor
abbrev RelQ (c : Ch) (s : St) (k : Int) (r : Ch) (b : Bool) : Prop := (b = true ↔ ChOk c ∧ MayW c.st s k) ∧ (b = true → r = stC c (after c.st k)) ∧ (¬ b = true → (ChOk c ∧ StOk s → r = c) ∧ (¬ (ChOk c ∧ StOk s) → r = zCh))
theorem relQ_f {c : Ch} {s : St} {k : Int} (h : ¬ (ChOk c ∧ StOk s)) : RelQ c s k zCh false := ⟨⟨fun g => (by cases g), fun g => absurd ⟨g.1, g.2.1.2⟩ h⟩, fun g => (by cases g), fun _ => ⟨fun g => absurd g h, fun _ => rfl⟩⟩
theorem relQ_of {c r : Ch} {s : St} {k : Int} {b : Bool} (ho : ChOk c) (hs : StOk s) (q : StpQ c s k r b) : RelQ c s k r b := by
  have hw := ho.2.2.1
  refine ⟨q.1.trans ⟨fun g => ⟨ho, ⟨hw, hs⟩, g⟩, fun g => g.2.2⟩, fun g => ?_, fun g => ⟨fun _ => q.2.2 g, fun g' => absurd ⟨ho, hs⟩ g'⟩⟩
  rw [q.2.1 g, doK_after ⟨⟨hw, hs⟩, q.1.1 g⟩]
theorem rsOk {c : Ch} {s : St} (hl : c.lt) (h : ¬(¬ZV.S c = true ∨ ¬StOk s)) : ChOk c ∧ StOk s := ⟨(specChL hl).1 (nn fun g => h (.inl g)), nn fun g => h (.inr g)⟩

def Zb2.L : FL := fCons (fSh sCh) (fCons (fSh sSt) (fCons (fSh sInt) (fNil)))
def Zb2 : Ch × St × Int × Unit → FR (Ch × Bool) := fun (a0, a1, a2, ()) => ⟨(a0.lt) ∧ True, fun X => Lt (bif !(ZV.S a0) then true else !(ZI.S a1)) fun x1 => And (Imp (x1 = true) (X ((⟨0, (⟨[], [], 0⟩ : Bk), (⟨0, 0, 0, [], [], [], []⟩ : St), [], []⟩ : Ch), false))) (Imp (x1 = false) (Call Zm.X (a0, ()) fun x2 => Call Zai.X (x2, a1, a2, ()) fun x3 => X (x3.1, x3.2))), fun r => (RelQ a0 a1 a2 r.1 r.2) ∧ True, fun r => (.tup [.agg [.int r.1.id, .arr true (.ints r.1.bank.own), .arr true (.ints r.1.bank.notes), .int r.1.bank.locked, .int r.1.st.way, .int r.1.st.ver, .int r.1.st.want, .arr true (.pkts r.1.st.sent), .arr true (.bools r.1.st.live), .arr true (.bools r.1.st.back), .arr true (.ints r.1.st.got), .arr true (.sts r.1.past), .arr true (.ints r.1.knows)], .c (.bool r.2)], [])⟩
theorem Zb2.X : XF Zb2 := mkF (zCh, false) fun (a0, a1, a2, ()) hp => by
  obtain ⟨p0, -⟩ := hp
  dsimp only [Zb2]
  refine May.lp (B.or (B.not (Iff.rfl)) (B.not (specSt))) fun x1 e1 => May.iff (e1) (fun h1 => ?_) (fun h1 => ?_)
  refine May.ret ⟨?_, trivial⟩; rotate_left 1
  refine May.call ⟨?_, trivial⟩ fun x2 q2 => have q2 := q2.1; May.call ⟨?_, ?_, trivial⟩ fun x3 q3 => have q3_0 := q3.1; have q3_1 := q3.2.1; have q3_2 := q3.2.2.1; May.ret ⟨?_, trivial⟩
  all_goals try dsimp only
  all_goals first | with_reducible assumption | omega | (exact lt_sm p0; done) | (rw [q2]; exact chOk_in (rsOk p0 h1).1 p0; done) | (exact stOk_in (rsOk p0 h1).2; done) | (rw [q2] at q3_2; exact relQ_of (rsOk p0 h1).1 (rsOk p0 h1).2 q3_2; done) | (exact relQ_f fun g => h1.elim (fun h => h ((specChL p0).2 g.1)) fun h => h g.2; done)
abbrev Zb2.S := Classical.choose Zb2.X
def Zb2.c : Ctr := fc 16 [true, true, false] Zb2.L Zb2 Zb2.S
theorem Zb2.good : Good Try.prog Zb2.c := mkFG (fn := Try.f16) {sh := [[none, some (.int, 3), some (.int, 3), none, none, none, none, some (.pkt, 49), some (.bool, 4), some (.bool, 4), some (.int, 3), some (.st, 29), some (.int, 3)], []], lst := true} Zb2.X (consG ZV.good (consG ZI.good (consG Zm.good (consG Zai.good noG)))) (by kernel_rfl) (by kernel_rfl) (l0 (by kernel_rfl)) (c0 (by kernel_rfl)) fun s K => by kernel_rfl
end
end Hw
end Go.Proofs.Ytloicplgckomdaa
