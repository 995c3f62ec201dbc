/- Laws of packets that come, 5: made by gen.py. -/
import Derived.Test.YtloicplgckomdaaT0
import Derived.Test.YtloicplgckomdaaFT
set_option linter.unusedVariables false
set_option linter.unusedSimpArgs false
set_option maxRecDepth 100000
set_option maxHeartbeats 400000
namespace Go.Proofs.Ytloicplgckomdaa
namespace Hw
open Go
noncomputable section
attribute [local irreducible] evFn evBody wrap wxor
abbrev Oth (c : Ch) (p : Pkt) (r : Ch) : Prop := ChOk c ∧ ChOk r ∧ PktOk p ∧ ∃ b g, PayL c.bank p b g ∧ r = gotC c b p.seq g
theorem oth_of {c r : Ch} {s : St} {p : Pkt} {t : Bool} (q3 : RgQ c s p r t) (h : t = true) : Oth c p r := by
  obtain ⟨h1, h2, b, g, h3, h4, h5, h6⟩ := rg_may q3 h
  exact ⟨h1.1, h6, h1.2.2, b, g, h3, h4⟩
theorem oth_got {c r : Ch} {p : Pkt} {i x y : Int} (o : Oth c p r) (hi : ¬ i = p.seq) (q7 : GotQ r.st i x) (q8 : GotQ c.st i y) : x = y := by
  obtain ⟨h1, h2, h3, b, g, h4, h5⟩ := o
  by_cases hn : 1 ≤ i ∧ i ≤ 8
  · rw [q7.1 h2.2.2.1 hn.1 hn.2, q8.1 h1.2.2.1 hn.1 hn.2, h5]
    show (c.st.got.set _ g).getD _ 0 = _
    have hl := h1.2.2.1.2.2.2.2.2.1
    have hp := h3.1
    rw [getD_set (by omega), if_neg (by omega)]
  · rw [q7.2 (fun g => hn g.2), q8.2 (fun g => hn g.2)]
theorem oth_set {c r : Ch} {p : Pkt} {i x y : Int} (o : Oth c p r) (q9 : StlQ r.st i x) (q10 : StlQ c.st i y) : x = y := by
  obtain ⟨h1, h2, h3, b, g, h4, h5⟩ := o
  have e1 : r.st.sent = c.st.sent := by rw [h5]; rfl
  have e2 : r.st.live = c.st.live := by rw [h5]; rfl
  have e3 : r.st.back = c.st.back := by rw [h5]; rfl
  by_cases hn : 1 ≤ i ∧ i ≤ (c.st.sent.length : Int)
  · rw [q9.1 h2.2.2.1 hn.1 (by rw [e1]; exact hn.2), q10.1 h1.2.2.1 hn.1 hn.2, e2, e3]
  · rw [q9.2 (fun g => hn (by rw [e1] at g; exact g.2)), q10.2 (fun g => hn g.2)]
theorem oth_no {c r : Ch} {p : Pkt} {i x7 x8 x9 x10 : Int} (o : Oth c p r) (q7 : GotQ r.st i x7) (q8 : GotQ c.st i x8) (q9 : StlQ r.st i x9) (q10 : StlQ c.st i x10) : ¬ (¬ i = p.seq ∧ ¬ x7 = x8 ∨ ¬ x9 = x10) := fun g => g.elim (fun g => g.2 (oth_got o g.1 q7 q8)) fun g => g (oth_set o q9 q10)
theorem oth_all {c r : Ch} {p : Pkt} {x y u v z : Int} (o : Oth c p r) (q14 : AllQ c.bank x y) (q15 : AllQ r.bank u v) (ez : z = y + p.sum) : x = u ∧ (v = y ∨ v = z ∧ p.kind = 1) := by
  obtain ⟨h1, h2, h3, b, g, h4, h5⟩ := o
  have e : r.bank = b := by rw [h5]; rfl
  obtain ⟨k1, k2⟩ := q14.1 h1.2.1
  obtain ⟨k3, k4⟩ := q15.1 h2.2.1
  rw [e] at k3 k4
  by_cases m : PayOk c.bank p
  · have hto := m.2.2.2.1
    rw [(h4.1 m).1] at k3 k4
    have l1 := tot_set (v := c.bank.own.getD (p.to - 1).toNat 0 + p.sum) h1.2.1.1.1 hto
    have l2 := tot_set (v := c.bank.notes.getD (p.to - 1).toNat 0 + p.sum) h1.2.1.2.1.1 hto
    have hk := h3.2.1
    unfold backB pkO at k3 k4
    by_cases hp : p.kind = 1
    · rw [if_pos hp, if_neg (by decide)] at k3 k4
      have k4 : v = tot (c.bank.notes.set (p.to - 1).toNat (c.bank.notes.getD (p.to - 1).toNat 0 + p.sum)) := k4
      have k3 : u = tot c.bank.own + c.bank.locked := k3
      exact ⟨by omega, .inr ⟨by omega, hp⟩⟩
    · rw [if_neg hp, if_pos rfl] at k3 k4
      have k3 : u = tot (c.bank.own.set (p.to - 1).toNat (c.bank.own.getD (p.to - 1).toNat 0 + p.sum)) + (c.bank.locked - p.sum) := k3
      have k4 : v = tot c.bank.notes := k4
      exact ⟨by omega, .inl (by omega)⟩
  · rw [(h4.2 m).1] at k3 k4
    exact ⟨by omega, .inl (by omega)⟩
theorem tot_own {b : Bk} (h : BkOk b) : (ZE.S b.own).1 = tot b.own ∧ 0 ≤ tot b.own ∧ tot b.own ≤ 30 ∧ 0 ≤ b.locked ∧ b.locked ≤ 30 := by
  have h3 := h.1.three
  refine ⟨implTotal.2 h.1, ?_⟩
  have h1 := h.2.2.1
  have h2 := h.2.2.2.1
  unfold tot at h2 ⊢
  omega
theorem all_t {b : Bk} {x : Int} (h : ¬¬ ZF.S b = true) (e : x = (ZE.S b.own).1 + b.locked) : AllQ b x (ZE.S b.notes).1 := by
  have ho := implBk.1 (nn h)
  exact ⟨fun _ => ⟨by rw [e, (tot_own ho).1], (bb_tot ho).1⟩, fun g => absurd ho g⟩
theorem all_f {b : Bk} (h : ¬ ZF.S b = true) : AllQ b (-1) (-1) := ⟨fun g => absurd (implBk.2 g) h, fun _ => ⟨rfl, rfl⟩⟩
theorem oth_fin {c r : Ch} {p : Pkt} {x y u v z : Int} (o : Oth c p r) (hr : r.lt) (q14 : AllQ c.bank x y) (q15 : AllQ r.bank u v) (ez : -9223372036854775808 ≤ y + p.sum ∧ y + p.sum ≤ 9223372036854775807 → z = y + p.sum) : (x = u ∧ (v = y ∨ v = z ∧ p.kind = 1)) ∧ ZY.S r = true := by
  have h1 := (q14.1 o.1.2.1).2
  have h2 := bb_tot o.1.2.1
  have h3 := o.2.2.1.2.2.2.2.1
  exact ⟨oth_all o q14 q15 (ez (by omega)), (implChL hr).2 o.2.1⟩

def Zc1.L : FL := fCons (fSh sBk) (fNil)
def Zc1 : Bk × Unit → FR (Int × Int) := fun (a0, ()) => ⟨True, fun X => And (Imp ((!(ZF.S a0)) = true) (X ((-1), (-1)))) (Imp ((!(ZF.S a0)) = false) (Lt (wrap ((ZE.S a0.own).1 + a0.locked)) fun x1 => X (x1, (ZE.S a0.notes).1))), fun r => (AllQ a0 r.1 r.2) ∧ True, fun r => (.tup [.c (.int r.1), .c (.int r.2)], [])⟩
theorem Zc1.X : XF Zc1 := mkF (0, 0) fun (a0, ()) hp => by
  clear hp
  dsimp only [Zc1]
  refine May.iff (B.not (Iff.rfl)) (fun h1 => ?_) (fun h1 => ?_)
  refine May.ret ⟨?_, trivial⟩; rotate_left 1
  refine May.lw ⟨?_, ?_⟩ fun x1 e1 => May.ret ⟨?_, trivial⟩
  all_goals try dsimp only
  all_goals first | with_reducible assumption | omega | (with_reducible rfl; done) | ((have := tot_own (implBk.1 (nn h1)); omega); done) | (exact all_t h1 e1; done) | (exact all_f h1; done)
abbrev Zc1.S := Classical.choose Zc1.X
def Zc1.c : Ctr := fc0 44 [true] Zc1.L Zc1 Zc1.S
theorem Zc1.good : Good Try.prog Zc1.c := mkFG0 (fn := Try.f44) {} Zc1.X (consG ZF.good (consG ZE.good noG)) (by kernel_rfl) (by kernel_rfl) (l0 (by kernel_rfl)) (c0 (by kernel_rfl)) (fun _ => trivial) fun s K => by kernel_rfl
theorem Zc2.G : GG [ZcS.c, ZcA.c, Zcz.c, ZbT.c, Zcv.c, Zcw.c, Zc1.c, ZY.c] := (consG ZcS.good (consG ZcA.good (consG Zcz.good (consG ZbT.good (consG Zcv.good (consG Zcw.good (consG Zc1.good (consG ZY.good noG))))))))
def Zc3.L : FL := fCons (fC cBool) (fCons (fC (cPtr 1 (cChE true) rfl)) (fCons (fC (cPtr 1 cPkt rfl)) (fCons (fC (cPtr 1 (cChE true) rfl)) (fCons (fC cInt) (fNil)))))
def Zc3 : Bool × Ch × Pkt × Ch × Int × Unit → LR (Bool × Ch × Pkt × Ch × Int × Unit) (Nat × Bool × Unit) := fun (y0, y1, y2, y3, y4, ()) => ⟨(0 ≤ y4) ∧ (1 ≤ y4) ∧ (Oth y1 y2 y3) ∧ True, (8 + 1 - y4).toNat, fun X => And (Imp ((decide (y4 ≤ 8)) = true) (Lt ((Zcv.S (y3.st, y4, ()))) fun x7 => Lt ((Zcv.S (y1.st, y4, ()))) fun x8 => Lt ((Zcw.S (y3.st, y4, ()))) fun x9 => Lt ((Zcw.S (y1.st, y4, ()))) fun x10 => Lt (bif bif y4 != y2.seq then x7 != x8 else false then true else x9 != x10) fun x11 => And (Imp (x11 = true) (X (.inr (0, false, ())))) (Imp (x11 = false) (Lt (wrap (y4 + 1)) fun x12 => X (.inl (y0, y1, y2, y3, x12, ())))))) (Imp ((decide (y4 ≤ 8)) = false) (X (.inr (1, false, ())))), fun r => (¬ r.1 = 0) ∧ True, fun r => [(Nat.beq r.1 0, (.ret, [.c (.bool r.2.1)], []))], fun r => (.exit 0, [.c (.ptr 0 0), .c (.ptr 1 0), .c (.ptr 2 0)], [.raw 1 [.int y1.id, .arr true (.ints y1.bank.own), .arr true (.ints y1.bank.notes), .int y1.bank.locked, .int y1.st.way, .int y1.st.ver, .int y1.st.want, .arr true (.pkts y1.st.sent), .arr true (.bools y1.st.live), .arr true (.bools y1.st.back), .arr true (.ints y1.st.got), .arr true (.sts y1.past), .arr true (.ints y1.knows)], .raw 1 [.int y2.seq, .int y2.kind, .int y2.frm, .int y2.to, .int y2.sum, .int y2.til, .int y2.ver], .raw 1 [.int y3.id, .arr true (.ints y3.bank.own), .arr true (.ints y3.bank.notes), .int y3.bank.locked, .int y3.st.way, .int y3.st.ver, .int y3.st.want, .arr true (.pkts y3.st.sent), .arr true (.bools y3.st.live), .arr true (.bools y3.st.back), .arr true (.ints y3.st.got), .arr true (.sts y3.past), .arr true (.ints y3.knows)]])⟩
theorem Zc3.X : XL Zc3 := mkL (0, false, ()) fun (y0, y1, y2, y3, y4, ()) hp => by
  obtain ⟨p0, p1, p2, -⟩ := hp
  unfold ML; dsimp only [Zc3]
  refine May.iff (B.dec) (fun h1 => ?_) (fun h1 => ?_)
  refine May.clq trivial fun x7 q7 => have q7 := q7.1; May.clq trivial fun x8 q8 => have q8 := q8.1; May.clq trivial fun x9 q9 => have q9 := q9.1; May.clq trivial fun x10 q10 => have q10 := q10.1; May.lp (B.or (B.and (B.ne) (B.ne)) (B.ne)) fun x11 e11 => May.iff (e11) (fun h2 => ?_) (fun h2 => ?_)
  refine May.ex ⟨?_, trivial⟩; rotate_left 1
  refine May.lw ⟨?_, ?_⟩ fun x12 e12 => May.nx ⟨?_, ?_, ?_, trivial⟩ ?_ ?_ fun r => rfl; rotate_left 7
  refine May.ex ⟨?_, trivial⟩
  all_goals try dsimp only [Zc3]
  all_goals first | with_reducible assumption | omega | exact fun _ q => q | (exact absurd h2 (oth_no p2 q7 q8 q9 q10); done) | (exact fun h => (by cases h); done)
abbrev Zc3.R := Classical.choose Zc3.X
def Zc3.k : LCtr := (ld 9 [2, 3, 5, 8, 10] [] Zc3.L Zc3 0 (fun e => match e with | .ret => [2] | _ => [3, 5, 8]) (fun _ => []) Zc3.R).ctr
theorem Zc3.g : LGood Try.prog Try.f14.ntmps Zc3.k (bodyAt Try.f14 0) := mkLG {} Zc3.X Zc2.G (by kernel_rfl) (l0 (by kernel_rfl)) (c0 (by kernel_rfl)) fun S s => by kernel_rfl
def Zc2.L : FL := fCons (fC (cArr true kU8s)) (fNil)
def Zc2 : List Int × Unit → FR (Bool) := fun (a0, ()) => ⟨(∀ k, 0 ≤ a0.getD k 0 ∧ a0.getD k 0 ≤ 255) ∧ True, fun X => And (Imp ((decide ((a0.length : Int) > 1048576)) = true) (X true)) (Imp ((decide ((a0.length : Int) > 1048576)) = false) (Call ZcS.X (a0, ()) fun x1 => Call ZcA.X (x1.1, x1.2.1, x1.2.2, ()) fun x2 => Call Zcz.X (x1.1, x1.2.1, x1.2.2, ()) fun x3 => And (Imp (And ((!((x3.2 : Bool) == x2.2)) = false) (True)) ((ZbT (x3.1, x2.1, ())).P)) (Lt ((ZbT.S (x3.1, x2.1, ()))) fun x4 => Lt (bif bif !((x3.2 : Bool) == x2.2) then true else !x4 then true else !x3.2) fun x5 => And (Imp (x5 = true) (And (Imp (And (((x3.2 : Bool) == x2.2) = true) (True)) ((ZbT (x3.1, x2.1, ())).P)) (Lt ((ZbT.S (x3.1, x2.1, ()))) fun x6 => X (bif (x3.2 : Bool) == x2.2 then x6 else false)))) (Imp (x5 = false) (CallL Zc3.X (false, x1.1, x1.2.2, x3.1, 1, ()) fun x13 => And (Imp (Nat.beq x13.1 0 = true) (X x13.2.1)) (Imp (Nat.beq x13.1 0 = false) (Call0 Zc1.X (x1.1.bank, ()) fun x14 => Call0 Zc1.X (x3.1.bank, ()) fun x15 => Lt (wrap (x14.2 + x1.2.2.sum)) fun x16 => Lt (bif x15.2 == x14.2 then true else bif x15.2 == x16 then x1.2.2.kind == 1 else false) fun x17 => Lt (bif bif x14.1 == x15.1 then x17 else false then (ZY.S x3.1) else false) fun x18 => X x18))))))), fun r => (r = true) ∧ True, fun r => (.v (.c (.bool r)), [])⟩
theorem Zc2.X : XF Zc2 := mkF (false) fun (a0, ()) hp => by
  obtain ⟨p0, -⟩ := hp
  dsimp only [Zc2]
  refine May.iff (B.dec) (fun h1 => ?_) (fun h1 => ?_)
  refine May.ret ⟨?_, trivial⟩; rotate_left 1
  refine May.call ⟨?_, trivial⟩ fun x1 q1 => have q1_0 := q1.1; have q1_1 := q1.2.1; May.call ⟨?_, trivial⟩ fun x2 q2 => have q2 := q2.1; May.call ⟨?_, trivial⟩ fun x3 q3 => have q3 := q3.1; May.chk (fun hπ => have g1 := B.neg (B.not (B.beq)) hπ.1; ⟨?_, trivial⟩) fun c1 => May.clq ⟨?_, trivial⟩ fun x4 q4 => have q4 := q4.1; May.lp (B.or (B.or (B.not (B.beq)) (B.not (Iff.rfl))) (B.not (Iff.rfl))) fun x5 e5 => May.iff (e5) (fun h2 => ?_) (fun h2 => ?_); rotate_left 5
  refine May.chk (fun hπ => have g1 := Iff.mp (B.beq) hπ.1; ⟨?_, trivial⟩) fun c2 => May.clq ⟨?_, trivial⟩ fun x6 q6 => have q6 := q6.1; May.ret ⟨?_, trivial⟩; rotate_left 3
  refine May.loop ⟨?_, ?_, ?_, trivial⟩ fun x13 q13 => have q13 := q13.1; May.iff B.nbeq (fun h3 => ?_) (fun h3 => ?_); rotate_left 3
  refine May.ret ⟨?_, trivial⟩; rotate_left 1
  refine May.call0 trivial fun x14 q14 => have q14 := q14.1; May.call0 trivial fun x15 q15 => have q15 := q15.1; May.lwi fun x16 e16 => May.lp (B.or (B.eq) (B.and (B.eq) (B.eq))) fun x17 e17 => May.lp (B.and (B.and (B.eq) (e17)) (Iff.rfl)) fun x18 e18 => May.ret ⟨?_, trivial⟩
  all_goals try dsimp only
  all_goals first | with_reducible assumption | omega | (with_reducible rfl; done) | (exact rg_lt q3 q1_0; done) | (exact rgB q2 q3 q6; done) | (exact oth_of q3 (nn fun g => h2 (.inr g)); done) | (exact absurd h3 q13; done) | (exact e18.2 (oth_fin (oth_of q3 (nn fun g => h2 (.inr g))) (rg_lt q3 q1_0) q14 q15 e16); done)
abbrev Zc2.S := Classical.choose Zc2.X
def Zc2.c : Ctr := fc 14 [false] Zc2.L Zc2 Zc2.S
theorem Zc2.good : Good Try.prog Zc2.c := mkFG (fn := Try.f14) {LL := [Zc3.k]} Zc2.X Zc2.G (by kernel_rfl) (by kernel_rfl) (lG (by kernel_rfl) (consL (by kernel_rfl) Zc3.g (noL rfl))) (c0 (by kernel_rfl)) fun s K => by kernel_rfl
end
end Hw
end Go.Proofs.Ytloicplgckomdaa
