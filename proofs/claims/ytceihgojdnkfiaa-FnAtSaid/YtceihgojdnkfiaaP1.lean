/- Coins are sent, by the reference: made by gen.py. -/
import Derived.Test.YtceihgojdnkfiaaP0
set_option linter.unusedVariables false
set_option linter.unusedSimpArgs false
set_option maxRecDepth 100000
set_option maxHeartbeats 400000
namespace Go.Proofs.Ytceihgojdnkfiaa
namespace Hw
open Go
noncomputable section
attribute [local irreducible] evFn evBody wrap wxor
theorem cs_may {c : Ch} {k f t s u : Int} (ho : ChOk c) (hp : PktOk (pkS c k f t s u)) : MayAway c.bank k f s ↔ ¬ (lstK c.bank k).getD (f - 1).toNat 0 < s := by
  have hk : k = 1 ∨ k = 2 := hp.2.1
  have hf : 1 ≤ f ∧ f ≤ 3 := hp.2.2.1
  have hs : 1 ≤ s ∧ s ≤ 9 := hp.2.2.2.2.1
  exact ⟨fun h => by have := h.2.2.2.2; omega, fun h => ⟨ho.2.1, hk, hf, by omega, by omega⟩⟩
theorem aw_wrap {b : Bk} {k f s : Int} (h : BkOk b) (hf : 1 ≤ f ∧ f ≤ 3) (hs : 0 ≤ s ∧ s ≤ 30) : awayW b k f s = awayB b k f s := by
  have r := bk_rng rfl h hf
  unfold awayW awayB
  rw [wrap_id (n := b.own.getD (f - 1).toNat 0 - s) (by omega) (by omega), wrap_id (n := b.locked + s) (by omega) (by omega), wrap_id (n := b.notes.getD (f - 1).toNat 0 - s) (by omega) (by omega)]
theorem cs_spec {c x r : Ch} {k f t s u n : Int} {b : Bool} (ho : ChOk c) (e : x = c) (q : SndW x k f t s u r n b) : CsQ c k f t s u r n b := by
  subst e
  have hb : b = true ↔ ChOk x ∧ x.st.way = 3 ∧ PktOk (pkS x k f t s u) ∧ MayAway x.bank k f s := q.1.trans ⟨fun g => ⟨ho, g.1, g.2.1, (cs_may ho g.2.1).2 g.2.2⟩, fun g => ⟨g.2.1, g.2.2.1, (cs_may ho g.2.2.1).1 g.2.2.2⟩⟩
  refine ⟨hb, fun g => ⟨?_, (q.2.1 g).2⟩, fun g => ⟨(q.2.2 g).2, fun _ => (q.2.2 g).1, fun g' => absurd ho g'⟩⟩
  have hp := (hb.1 g).2.2.1
  have hs : 1 ≤ s ∧ s ≤ 9 := hp.2.2.2.2.1
  rw [(q.2.1 g).1]
  unfold sndW sndC
  rw [aw_wrap (f := f) (s := s) ho.2.1 hp.2.2.1 (by omega)]

def Zck.L : FL := fCons (fSh sCh) (fCons (fSh sInt) (fCons (fSh sInt) (fCons (fSh sInt) (fCons (fSh sInt) (fCons (fSh sInt) (fNil))))))
def Zck : Ch × Int × Int × Int × Int × Int × Unit → FR (Ch × Int × Bool) := fun (a0, a1, a2, a3, a4, a5, ()) => ⟨(a0.lt) ∧ True, fun X => And (Imp ((!(ZV.S a0)) = true) (X ((⟨0, (⟨[], [], 0⟩ : Bk), (⟨0, 0, 0, [], [], [], []⟩ : St), [], []⟩ : Ch), 0, false))) (Imp ((!(ZV.S a0)) = false) (Call Zm.X (a0, ()) fun x1 => Call Zag.X (x1, a1, a2, a3, a4, a5, ()) fun x2 => X (x2.1, x2.2.1, x2.2.2))), fun r => (CsQ a0 a1 a2 a3 a4 a5 r.1 r.2.1 r.2.2) ∧ True, fun r => (.tup [.agg [.int r.1.id, .arr true (.ints r.1.bank.own), .arr true (.ints r.1.bank.notes), .int r.1.bank.locked, .int r.1.st.way, .int r.1.st.ver, .int r.1.st.want, .arr true (.pkts r.1.st.sent), .arr true (.bools r.1.st.live), .arr true (.bools r.1.st.back), .arr true (.ints r.1.st.got), .arr true (.sts r.1.past), .arr true (.ints r.1.knows)], .c (.int r.2.1), .c (.bool r.2.2)], [])⟩
theorem Zck.X : XF Zck := mkF (zCh, 0, false) fun (a0, a1, a2, a3, a4, a5, ()) hp => by
  obtain ⟨p0, -⟩ := hp
  dsimp only [Zck]
  refine May.iff (B.not (Iff.rfl)) (fun h1 => ?_) (fun h1 => ?_)
  refine May.ret ⟨?_, trivial⟩; rotate_left 1
  refine May.call ⟨?_, trivial⟩ fun x1 q1 => have q1 := q1.1; May.call ⟨?_, trivial⟩ fun x2 q2 => have q2_0 := q2.1; have q2_1 := q2.2.1; have q2_2 := q2.2.2.1; May.ret ⟨?_, trivial⟩
  all_goals try dsimp only
  all_goals first | with_reducible assumption | omega | (exact lt_sm p0; done) | (rw [q1]; exact chOk_in ((specChL p0).1 (nn h1)) p0; done) | (exact cs_spec ((specChL p0).1 (nn h1)) q1 q2_2; done) | (exact cs_f fun g => h1 ((specChL p0).2 g); done)
abbrev Zck.S := Classical.choose Zck.X
def Zck.c : Ctr := fc 43 [true, false, false, false, false, false] Zck.L Zck Zck.S
theorem Zck.good : Good Try.prog Zck.c := mkFG (fn := Try.f43) {sh := [[none, some (.int, 3), some (.int, 3), none, none, none, none, some (.pkt, 68), some (.bool, 4), some (.bool, 4), some (.int, 3), some (.st, 38), some (.int, 3)], [], []], lst := true} Zck.X (consG ZV.good (consG Zm.good (consG Zag.good noG))) (by kernel_rfl) (by kernel_rfl) (l0 (by kernel_rfl)) (c0 (by kernel_rfl)) fun s K => by kernel_rfl
end
end Hw
end Go.Proofs.Ytceihgojdnkfiaa
