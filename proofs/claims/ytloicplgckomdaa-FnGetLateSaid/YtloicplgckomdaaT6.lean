/- Laws of packets that come, 6: made by gen.py. -/
import Derived.Test.YtloicplgckomdaaT0
import Derived.Test.YtloicplgckomdaaK4
set_option linter.unusedVariables false
set_option linter.unusedSimpArgs false
set_option maxRecDepth 100000
set_option maxHeartbeats 400000
namespace Go.Proofs.Ytloicplgckomdaa
namespace Hw
open Go
noncomputable section
attribute [local irreducible] evFn evBody wrap wxor
theorem late_next {y z : Ch} {i j : Int} (h : ChOk y) (hi : i ≤ (y.past.length : Int)) (h9 : i < 90) (ej : j = i + 1) (q : BlkQ y z) : ChOk z ∧ j ≤ (z.past.length : Int) := by
  have ho := blk_ok h
  have hp := h.2.2.2.1
  rw [q.1 h]
  refine ⟨ho, ?_⟩
  unfold blkC
  split
  · show j ≤ ((y.past ++ [y.st]).length : Int)
    rw [List.length_append, List.length_singleton]
    omega
  · omega
theorem late_no {c r y z : Ch} {s : St} {p : Pkt} {t u x : Bool} (q3 : RgQ c s p r t) (h : t = true) (e : ChOk y) (hl : ¬ (y.past.length : Int) + 1 < p.til) (q : RgQ y s p z u) (qx : x = true ↔ z = y) : (bif !u then x else false) = true := by
  have h1 := (rg_may q3 h).1
  have hu : ¬ u = true := fun g => hl (q.1.1 g).2.2.2.2.2
  rw [B.and (B.not Iff.rfl) qx]
  exact ⟨hu, (q.2.2 hu).1 ⟨e, h1.2⟩⟩

theorem Zc5.G : GG [ZcS.c, ZcA.c, Zcz.c, ZbT.c, ZbO.c] := (consG ZcS.good (consG ZcA.good (consG Zcz.good (consG ZbT.good (consG ZbO.good noG)))))
def Zc6.L : FL := fCons (fC (cPtr 1 (cStE true) rfl)) (fCons (fC (cPtr 1 cPkt rfl)) (fCons (fC (cPtr 1 (cChE true) rfl)) (fCons (fC cInt) (fNil))))
def Zc6 : St × Pkt × Ch × Int × Unit → LR (St × Pkt × Ch × Int × Unit) (Nat × Ch × Unit) := fun (y0, y1, y2, y3, ()) => ⟨(0 ≤ y3) ∧ (y3 ≤ 90) ∧ (ChOk y2) ∧ (y2.lt) ∧ (y3 ≤ (y2.past.length : Int)) ∧ (y1.til ≤ 90) ∧ True, (90 - y3).toNat, fun X => Lt (wrap ((y2.past.length : Int) + 1)) fun x7 => Lt (bif decide (y3 < 90) then decide (x7 < y1.til) else false) fun x8 => And (Imp (x8 = true) (Call ZbO.X (y2, ()) fun x9 => Lt (wrap (y3 + 1)) fun x10 => X (.inl (y0, y1, x9, x10, ())))) (Imp (x8 = false) (X (.inr (0, y2, ())))), fun r => (ChOk r.2.1) ∧ (r.2.1.lt) ∧ (¬ (r.2.1.past.length : Int) + 1 < y1.til) ∧ True, fun r => [], fun r => (.exit 0, [.c (.ptr 0 0), .c (.ptr 1 0), .c (.ptr 2 0)], [.raw 1 [.int y0.way, .int y0.ver, .int y0.want, .arr true (.pkts y0.sent), .arr true (.bools y0.live), .arr true (.bools y0.back), .arr true (.ints y0.got)], .raw 1 [.int y1.seq, .int y1.kind, .int y1.frm, .int y1.to, .int y1.sum, .int y1.til, .int y1.ver], .raw 1 [.int r.2.1.id, .arr true (.ints r.2.1.bank.own), .arr true (.ints r.2.1.bank.notes), .int r.2.1.bank.locked, .int r.2.1.st.way, .int r.2.1.st.ver, .int r.2.1.st.want, .arr true (.pkts r.2.1.st.sent), .arr true (.bools r.2.1.st.live), .arr true (.bools r.2.1.st.back), .arr true (.ints r.2.1.st.got), .arr true (.sts r.2.1.past), .arr true (.ints r.2.1.knows)]])⟩
theorem Zc6.X : XL Zc6 := mkL (0, zCh, ()) fun (y0, y1, y2, y3, ()) hp => by
  obtain ⟨p0, p1, p2, p3, p4, p5, -⟩ := hp
  unfold ML; dsimp only [Zc6]
  refine May.lwi fun x7 e7 => May.lp (B.and (B.dec) (B.dec)) fun x8 e8 => May.iff (e8) (fun h1 => ?_) (fun h1 => ?_)
  refine May.call ⟨?_, trivial⟩ fun x9 q9 => have q9 := q9.1; May.lw ⟨?_, ?_⟩ fun x10 e10 => May.nx ⟨?_, ?_, ?_, ?_, ?_, ?_, trivial⟩ ?_ ?_ fun r => rfl; rotate_left 11
  refine May.ex ⟨?_, ?_, ?_, trivial⟩
  all_goals try dsimp only [Zc6]
  all_goals first | with_reducible assumption | omega | exact fun _ q => q | (exact (late_next p2 p4 h1.1 e10 q9).1; done) | (exact (late_next p2 p4 h1.1 e10 q9).2; done) | (exact blkQ_lt q9 p3; done) | ((have := p2.2.2.2.1; have := e7 (by omega); omega); done)
abbrev Zc6.R := Classical.choose Zc6.X
def Zc6.k : LCtr := (ld 10 [4, 5, 10, 11] [] Zc6.L Zc6 0 (fun _ => [4, 5, 10]) (fun _ => []) Zc6.R).ctr
theorem Zc6.g : LGood Try.prog Try.f12.ntmps Zc6.k (bodyAt Try.f12 0) := mkLG {} Zc6.X Zc5.G (by kernel_rfl) (l0 (by kernel_rfl)) (c0 (by kernel_rfl)) fun S s => by kernel_rfl
def Zc5.L : FL := fCons (fC (cArr true kU8s)) (fNil)
def Zc5 : List Int × Unit → FR (Bool) := fun (a0, ()) => ⟨(∀ k, 0 ≤ a0.getD k 0 ∧ a0.getD k 0 ≤ 255) ∧ True, fun X => And (Imp ((decide ((a0.length : Int) > 1048576)) = true) (X true)) (Imp ((decide ((a0.length : Int) > 1048576)) = false) (Call ZcS.X (a0, ()) fun x1 => Call ZcA.X (x1.1, x1.2.1, x1.2.2, ()) fun x2 => Call Zcz.X (x1.1, x1.2.1, x1.2.2, ()) fun x3 => And (Imp (And ((!((x3.2 : Bool) == x2.2)) = false) (True)) ((ZbT (x3.1, x2.1, ())).P)) (Lt ((ZbT.S (x3.1, x2.1, ()))) fun x4 => Lt (bif bif !((x3.2 : Bool) == x2.2) then true else !x4 then true else !x3.2) fun x5 => And (Imp (x5 = true) (And (Imp (And (((x3.2 : Bool) == x2.2) = true) (True)) ((ZbT (x3.1, x2.1, ())).P)) (Lt ((ZbT.S (x3.1, x2.1, ()))) fun x6 => X (bif (x3.2 : Bool) == x2.2 then x6 else false)))) (Imp (x5 = false) (CallL Zc6.X (x1.2.1, x1.2.2, x1.1, 0, ()) fun x11 => Call Zcz.X (x11.2.1, x1.2.1, x1.2.2, ()) fun x12 => And (Imp (And ((!x12.2) = true) (True)) ((ZbT (x12.1, x11.2.1, ())).P)) (Lt ((ZbT.S (x12.1, x11.2.1, ()))) fun x13 => X (bif !x12.2 then x13 else false))))))), fun r => (r = true) ∧ True, fun r => (.v (.c (.bool r)), [])⟩
theorem Zc5.X : XF Zc5 := mkF (false) fun (a0, ()) hp => by
  obtain ⟨p0, -⟩ := hp
  dsimp only [Zc5]
  refine May.iff (B.dec) (fun h1 => ?_) (fun h1 => ?_)
  refine May.ret ⟨?_, trivial⟩; rotate_left 1
  refine May.call ⟨?_, trivial⟩ fun x1 q1 => have q1_0 := q1.1; have q1_1 := q1.2.1; May.call ⟨?_, trivial⟩ fun x2 q2 => have q2 := q2.1; May.call ⟨?_, trivial⟩ fun x3 q3 => have q3 := q3.1; May.chk (fun hπ => have g1 := B.neg (B.not (B.beq)) hπ.1; ⟨?_, trivial⟩) fun c1 => May.clq ⟨?_, trivial⟩ fun x4 q4 => have q4 := q4.1; May.lp (B.or (B.or (B.not (B.beq)) (B.not (Iff.rfl))) (B.not (Iff.rfl))) fun x5 e5 => May.iff (e5) (fun h2 => ?_) (fun h2 => ?_); rotate_left 5
  refine May.chk (fun hπ => have g1 := Iff.mp (B.beq) hπ.1; ⟨?_, trivial⟩) fun c2 => May.clq ⟨?_, trivial⟩ fun x6 q6 => have q6 := q6.1; May.ret ⟨?_, trivial⟩; rotate_left 3
  refine May.loop ⟨?_, ?_, ?_, ?_, ?_, ?_, trivial⟩ fun x11 q11 => have q11_0 := q11.1; have q11_1 := q11.2.1; have q11_2 := q11.2.2.1; May.call ⟨?_, trivial⟩ fun x12 q12 => have q12 := q12.1; May.chk (fun hπ => have g1 := Iff.mp (B.not (Iff.rfl)) hπ.1; ⟨?_, trivial⟩) fun c3 => May.clq ⟨?_, trivial⟩ fun x13 q13 => have q13 := q13.1; May.ret ⟨?_, trivial⟩
  all_goals try dsimp only
  all_goals first | with_reducible assumption | omega | (with_reducible rfl; done) | (exact rg_lt q3 q1_0; done) | (exact rgB q2 q3 q6; done) | (exact (rg_may q3 (nn fun g => h2 (.inr g))).1.1; done) | (exact (rg_may q3 (nn fun g => h2 (.inr g))).1.2.2.2.2.2.2.2.1.2; done) | (exact rg_lt q12 q11_1; done) | (exact late_no q3 (nn fun g => h2 (.inr g)) q11_0 q11_2 q12 q13; done)
abbrev Zc5.S := Classical.choose Zc5.X
def Zc5.c : Ctr := fc 12 [false] Zc5.L Zc5 Zc5.S
theorem Zc5.good : Good Try.prog Zc5.c := mkFG (fn := Try.f12) {LL := [Zc6.k]} Zc5.X Zc5.G (by kernel_rfl) (by kernel_rfl) (lG (by kernel_rfl) (consL (by kernel_rfl) Zc6.g (noL rfl))) (c0 (by kernel_rfl)) fun s K => by kernel_rfl
end
end Hw
end Go.Proofs.Ytloicplgckomdaa
