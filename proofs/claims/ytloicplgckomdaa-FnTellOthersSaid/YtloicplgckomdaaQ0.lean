/- Packets that come: made by gen.py. -/
import Derived.Test.YtloicplgckomdaaM2
import Derived.Test.YtloicplgckomdaaK4
import Derived.Test.YtloicplgckomdaaG2
import Derived.Test.YtloicplgckomdaaG1
set_option linter.unusedVariables false
set_option linter.unusedSimpArgs false
set_option maxRecDepth 100000
set_option maxHeartbeats 400000
namespace Go.Proofs.Ytloicplgckomdaa
namespace Hw
open Go
noncomputable section
attribute [local irreducible] evFn evBody wrap wxor
def MayGL (l : Lk) (s : St) (p : Pkt) : Prop := (l.st.way = 3 ∨ l.st.way = 4) ∧ HasP s p ∧ GotQ l.st p.seq 0 ∧ p.ver = l.st.ver ∧ l.count + 1 < p.til
def pkO (p : Pkt) : Int := if p.kind = 1 then 2 else 1
def PayOk (b : Bk) (p : Pkt) : Prop := ¬ p.to = 0 ∧ MayBack b (pkO p) p.to p.sum
abbrev PayL (b : Bk) (p : Pkt) (r : Bk) (g : Int) : Prop := (PayOk b p → r = backB b (pkO p) p.to p.sum ∧ g = 1) ∧ (¬ PayOk b p → r = b ∧ g = 2)
def gotL (l : Lk) (b : Bk) (i g : Int) : Lk := ⟨b, l.id, ⟨l.st.way, l.st.ver, l.st.want, l.st.sent, l.st.live, l.st.back, l.st.got.set (i - 1).toNat g⟩, l.marks, l.count, l.knows⟩
abbrev LgQ (l : Lk) (s : St) (p : Pkt) (r : Lk) (t : Bool) : Prop := (t = true ↔ MayGL l s p) ∧ (t = true → ∃ b g, PayL l.bank p b g ∧ r = gotL l b p.seq g) ∧ (¬ t = true → r = l)
abbrev RgQ (c : Ch) (s : St) (p : Pkt) (r : Ch) (t : Bool) : Prop := (t = true ↔ (ChOk c ∧ StOk s ∧ PktOk p) ∧ MayG c s p) ∧ (t = true → ∃ b g, PayL c.bank p b g ∧ r = gotC c b p.seq g) ∧ (¬ t = true → (ChOk c ∧ StOk s ∧ PktOk p → r = c) ∧ (¬ (ChOk c ∧ StOk s ∧ PktOk p) → r = zCh))
theorem pkO1 {p : Pkt} (h : p.kind = 1) : pkO p = 2 := by unfold pkO; rw [if_pos h]
theorem pkO2 {p : Pkt} (h : ¬ p.kind = 1) : pkO p = 1 := by unfold pkO; rw [if_neg h]
theorem back_wrap {b : Bk} {k f s : Int} (h : BkOk b) (hf : 1 ≤ f ∧ f ≤ 3) (hs : 0 ≤ s ∧ s ≤ 30) : backW b k f s = backB b k f s := by
  have r := bk_rng rfl h hf
  unfold backW backB
  rw [wrap_id (n := b.own.getD (f - 1).toNat 0 + s) (by omega) (by omega), wrap_id (n := b.locked - s) (by omega) (by omega), wrap_id (n := b.notes.getD (f - 1).toNat 0 + s) (by omega) (by omega)]
theorem may_back {b : Bk} {k f s : Int} (h : BkOk b) (hk : k = 1 ∨ k = 2) (hf : 1 ≤ f ∧ f ≤ 3) (hs : 0 ≤ s ∧ s ≤ 30) : MayBack b k f s ↔ ¬ (k = 1 ∧ b.locked < s ∨ k = 2 ∧ wrap (Zu.S b.notes + s) > 30) := by
  have ht := bb_tot h
  rw [specAll h.2.1, wrap_id (by omega) (by omega)]
  unfold MayBack
  exact ⟨fun g => by omega, fun g => ⟨h, hk, hf, hs, by omega, by omega⟩⟩
theorem pkd_O {p : Pkt} (h : p.kind = 1 ∨ p.kind = 2) : pkd p = pkO p := by
  unfold pkd pkO
  split <;> split <;> omega
theorem pkO_in {p : Pkt} : pkO p = 1 ∨ pkO p = 2 := by
  unfold pkO
  split <;> omega
theorem payOk_iff {b : Bk} {p : Pkt} (h : BkOk b) (hp : PktOk p) : payOk b p ↔ PayOk b p := by
  unfold payOk PayOk
  rw [pkd_O hp.2.1]
  have h1 := hp.2.2.2.1
  have h2 := hp.2.2.2.2.1
  exact ⟨fun g => ⟨g.1, (may_back h pkO_in (by have := g.1; omega) (by omega)).2 g.2⟩, fun g => ⟨g.1, (may_back h pkO_in (by have := g.1; omega) (by omega)).1 g.2⟩⟩
theorem pay_spec {b r : Bk} {p : Pkt} {g : Int} (h : BkOk b) (hp : PktOk p) (q : PayQ b p r g) : PayL b p r g := by
  refine ⟨fun g => ?_, fun g => q.2 fun g' => g ((payOk_iff h hp).1 g')⟩
  have := q.1 ((payOk_iff h hp).2 g)
  rw [pkd_O hp.2.1, back_wrap h g.2.2.2.1 g.2.2.2.2.1] at this
  exact this
theorem pay_same {b r r' : Bk} {p : Pkt} {g g' : Int} (q : PayL b p r g) (q' : PayL b p r' g') : r = r' ∧ g = g' := by
  by_cases h : PayOk b p
  · exact ⟨(q.1 h).1.trans (q'.1 h).1.symm, (q.1 h).2.trans (q'.1 h).2.symm⟩
  · exact ⟨(q.2 h).1.trans (q'.2 h).1.symm, (q.2 h).2.trans (q'.2 h).2.symm⟩
theorem rg_same {c r r' : Ch} {s : St} {p : Pkt} {t t' : Bool} (q : RgQ c s p r t) (q' : RgQ c s p r' t') : t = t' ∧ r = r' := by
  have hb : t = t' := Bool.eq_iff_iff.2 (q.1.trans q'.1.symm)
  subst hb
  refine ⟨rfl, ?_⟩
  by_cases g : t = true
  · obtain ⟨b, x, h1, h2⟩ := q.2.1 g
    obtain ⟨b', x', h1', h2'⟩ := q'.2.1 g
    obtain ⟨e1, e2⟩ := pay_same h1 h1'
    rw [h2, h2', e1, e2]
  · by_cases g' : ChOk c ∧ StOk s ∧ PktOk p
    · rw [(q.2.2 g).1 g', (q'.2.2 g).1 g']
    · rw [(q.2.2 g).2 g', (q'.2.2 g).2 g']
theorem rg_f {c : Ch} {s : St} {p : Pkt} (h : ¬ (ChOk c ∧ StOk s ∧ PktOk p)) : RgQ c s p zCh false := ⟨⟨fun g => (by cases g), fun g => absurd g.1 h⟩, fun g => (by cases g), fun _ => ⟨fun g => absurd g h, fun _ => rfl⟩⟩
theorem rg_spec {c r : Ch} {s : St} {p : Pkt} {t : Bool} (h : ChOk c ∧ StOk s ∧ PktOk p) (q : GetQ c s p r t) : RgQ c s p r t := by
  refine ⟨q.1.trans ⟨fun g => ⟨h, g⟩, fun g => g.2⟩, fun g => ?_, fun g => ⟨fun _ => q.2.2 g, fun g' => absurd h g'⟩⟩
  obtain ⟨b, x, h1, h2⟩ := q.2.1 g
  exact ⟨b, x, pay_spec h.1.2.1 h.2.2 h1, h2⟩
theorem mayG_link {c : Ch} {s : St} {p : Pkt} (h : ChOk c ∧ StOk s ∧ PktOk p) : MayGL (lkOf c) s p ↔ MayG c s p := by
  have hw := h.1.2.2.1.1
  have hp := h.2.2.1
  have e : GotQ c.st p.seq 0 ↔ c.st.got.getD (p.seq - 1).toNat 0 = 0 := ⟨fun g => (g.1 h.1.2.2.1 hp.1 hp.2).symm, fun g => ⟨fun _ _ _ => g.symm, fun _ => rfl⟩⟩
  unfold MayGL MayG
  show (c.st.way = 3 ∨ c.st.way = 4) ∧ HasP s p ∧ GotQ c.st p.seq 0 ∧ p.ver = c.st.ver ∧ (c.past.length : Int) + 1 < p.til ↔ _
  rw [e]
  unfold Has0
  exact ⟨fun g => ⟨by omega, g.2.1.2, g.2.2⟩, fun g => ⟨by omega, ⟨h.2.1, g.2.1⟩, g.2.2⟩⟩
theorem rg_impl {c r : Ch} {l : Lk} {s : St} {p : Pkt} {t : Bool} (h : ChOk c ∧ StOk s ∧ PktOk p) (q : LgQ (lkOf c) s p l t) (e : r = lkChain l) : RgQ c s p r t := by
  refine ⟨q.1.trans ((mayG_link h).trans ⟨fun g => ⟨h, g⟩, fun g => g.2⟩), fun g => ?_, fun g => ⟨fun _ => ?_, fun g' => absurd h g'⟩⟩
  · obtain ⟨b, x, h1, h2⟩ := q.2.1 g
    refine ⟨b, x, h1, ?_⟩
    rw [e, h2]
    show (⟨c.id, b, _, c.past.reverse.reverse, c.knows⟩ : Ch) = _
    rw [List.reverse_reverse]
    rfl
  · rw [e, q.2.2 g, lkChain_of]
theorem lg_cnt {l r : Lk} {s : St} {p : Pkt} {t : Bool} (q : LgQ l s p r t) : r.count = l.count ∧ r.marks = l.marks := by
  by_cases g : t = true
  · obtain ⟨b, x, h1, h2⟩ := q.2.1 g
    rw [h2]; exact ⟨rfl, rfl⟩
  · rw [q.2.2 g]; exact ⟨rfl, rfl⟩
theorem lg_f {l : Lk} {s : St} {p : Pkt} {x : Bool} (q : x = true ↔ MayGL l s p) (h : ¬ x = true) : LgQ l s p l false := ⟨⟨fun g => (by cases g), fun g => absurd (q.2 g) h⟩, fun g => (by cases g), fun _ => rfl⟩
theorem lg_0 {l : Lk} {s : St} {p : Pkt} {i : Int} {x : Bool} (q : x = true ↔ MayGL l s p) (h : ¬¬ x = true) (e : i = p.seq - 1) (h0 : p.to = 0) : LgQ l s p ⟨l.bank, l.id, ⟨l.st.way, l.st.ver, l.st.want, l.st.sent, l.st.live, l.st.back, l.st.got.set i.toNat 2⟩, l.marks, l.count, l.knows⟩ true := by
  subst e
  exact ⟨⟨fun _ => q.1 (nn h), fun _ => rfl⟩, fun _ => ⟨l.bank, 2, ⟨fun g => absurd h0 g.1, fun _ => ⟨rfl, rfl⟩⟩, rfl⟩, fun g => absurd rfl g⟩
theorem lg_1 {l : Lk} {s : St} {p : Pkt} {b : Bk} {i k : Int} {x o : Bool} (q : x = true ↔ MayGL l s p) (h : ¬¬ x = true) (e : i = p.seq - 1) (h0 : ¬ p.to = 0) (hk : pkO p = k) (qb : BackQ l.bank k p.to p.sum b o) (ho : o = true) : LgQ l s p ⟨b, l.id, ⟨l.st.way, l.st.ver, l.st.want, l.st.sent, l.st.live, l.st.back, (l.st.got.set i.toNat 2).set i.toNat 1⟩, l.marks, l.count, l.knows⟩ true := by
  subst e hk
  refine ⟨⟨fun _ => q.1 (nn h), fun _ => rfl⟩, fun _ => ⟨b, 1, ⟨fun _ => ⟨qb.2.1 ho, rfl⟩, fun g => absurd ⟨h0, qb.1.1 ho⟩ g⟩, ?_⟩, fun g => absurd rfl g⟩
  rw [List.set_set]
  rfl
theorem lg_2 {l : Lk} {s : St} {p : Pkt} {b : Bk} {i k : Int} {x o : Bool} (q : x = true ↔ MayGL l s p) (h : ¬¬ x = true) (e : i = p.seq - 1) (h0 : ¬ p.to = 0) (hk : pkO p = k) (qb : BackQ l.bank k p.to p.sum b o) (ho : ¬ o = true) : LgQ l s p ⟨l.bank, l.id, ⟨l.st.way, l.st.ver, l.st.want, l.st.sent, l.st.live, l.st.back, l.st.got.set i.toNat 2⟩, l.marks, l.count, l.knows⟩ true := by
  subst e hk
  exact ⟨⟨fun _ => q.1 (nn h), fun _ => rfl⟩, fun _ => ⟨l.bank, 2, ⟨fun g => absurd (qb.1.2 g.2) ho, fun _ => ⟨rfl, rfl⟩⟩, rfl⟩, fun g => absurd rfl g⟩
theorem rgOk {c : Ch} {s : St} {p : Pkt} (hl : c.lt) (h : ¬((¬ZV.S c = true ∨ ¬StOk s) ∨ ¬PktOk p)) : ChOk c ∧ StOk s ∧ PktOk p := ⟨(specChL hl).1 (nn fun g => h (.inl (.inl g))), nn fun g => h (.inl (.inr g)), nn fun g => h (.inr g)⟩
theorem rgOk' {c : Ch} {s : St} {p : Pkt} (hl : c.lt) (h : ¬((¬ZY.S c = true ∨ ¬StOk s) ∨ ¬PktOk p)) : ChOk c ∧ StOk s ∧ PktOk p := ⟨(implChL hl).1 (nn fun g => h (.inl (.inl g))), nn fun g => h (.inl (.inr g)), nn fun g => h (.inr g)⟩
theorem mayGL_rng {l : Lk} {s : St} {p : Pkt} (h : MayGL l s p) : 1 ≤ p.seq ∧ p.seq ≤ 8 := by
  have h1 := h.2.1.2.1
  have h2 := stL h.2.1.1
  omega
theorem mg_f {l : Lk} {s : St} {p : Pkt} (h : ¬ l.st.way = 3 ∧ ¬ l.st.way = 4) : false = true ↔ MayGL l s p := ⟨fun g => (by cases g), fun g => absurd g.1 (by omega)⟩
theorem mg_t {l : Lk} {s : St} {p : Pkt} {x1 x3 : Bool} {x2 x4 : Int} (q1 : x1 = true ↔ HasP s p) (q2 : GotQ l.st p.seq x2) (e3 : x3 = true ↔ (x1 = true ∧ x2 = 0) ∧ p.ver = l.st.ver) (e4 : x4 = l.count + 1) (h : ¬ (¬ l.st.way = 3 ∧ ¬ l.st.way = 4)) : (bif x3 then decide (x4 < p.til) else false) = true ↔ MayGL l s p := by
  rw [B.and e3 B.dec, q1, e4]
  have e : x2 = 0 ↔ GotQ l.st p.seq 0 := ⟨fun g => by rw [← g]; exact q2, fun g => gotQ_eq q2 g⟩
  rw [e]
  unfold MayGL
  exact ⟨fun g => ⟨by omega, g.1.1.1, g.1.1.2, g.1.2, g.2⟩, fun g => ⟨⟨⟨g.2.1, g.2.2.1⟩, g.2.2.2.1⟩, g.2.2.2.2⟩⟩

def Zcx.L : FL := fCons (fC (cPtr 1 cLkO rfl)) (fCons (fAgg (cCons cInt (cCons cInt (cCons cInt (cCons (cArr false kPkts) (cCons (cArr false kBools) (cCons (cArr false kBools) (cCons (cArr false kInts) (cCons cInt (cNil)))))))))) (fCons (fSh sPkt) (fNil)))
def Zcx : Lk × (Int × Int × Int × List Pkt × List Bool × List Bool × List Int × Int × Unit) × Pkt × Unit → FR (Bool) := fun (a0, (a1, a2, a3, a4, a5, a6, a7, a8, ()), a9, ()) => ⟨(0 ≤ a0.count) ∧ (a0.count ≤ 1000000) ∧ True, fun X => And (Imp ((bif a0.st.way != 3 then a0.st.way != 4 else false) = true) (X false)) (Imp ((bif a0.st.way != 3 then a0.st.way != 4 else false) = false) (Call0 Zbf.X ((⟨a1, a2, a3, a4, a5, a6, a7⟩ : St), a9, ()) fun x1 => Lt ((Zcv.S (a0.st, a9.seq, ()))) fun x2 => Lt (bif bif x1 then x2 == 0 else false then a9.ver == a0.st.ver else false) fun x3 => Lt (wrap (a0.count + 1)) fun x4 => X (bif x3 then decide (x4 < a9.til) else false))), fun r => (r = true ↔ MayGL a0 (⟨a1, a2, a3, a4, a5, a6, a7⟩ : St) a9) ∧ True, fun r => (.v (.c (.bool r)), [.raw 1 [.own 1 1 3, .own 2 1 3, .int a0.bank.locked, .int a0.id, .int a0.st.way, .int a0.st.ver, .int a0.st.want, .own 3 7 49, .own 4 1 4, .own 5 1 4, .own 6 1 3, .mk a0.marks 0, .int a0.count, .own 7 1 3], .arr (.ints a0.bank.own), .arr (.ints a0.bank.notes), .arr (.pkts a0.st.sent), .arr (.bools a0.st.live), .arr (.bools a0.st.back), .arr (.ints a0.st.got), .arr (.ints a0.knows)])⟩
theorem Zcx.X : XF Zcx := mkF (false) fun (a0, (a1, a2, a3, a4, a5, a6, a7, a8, ()), a9, ()) hp => by
  obtain ⟨p0, p1, -⟩ := hp
  dsimp only [Zcx]
  refine May.iff (B.and (B.ne) (B.ne)) (fun h1 => ?_) (fun h1 => ?_)
  refine May.ret ⟨?_, trivial⟩; rotate_left 1
  refine May.call0 trivial fun x1 q1 => have q1 := q1.1; May.clq trivial fun x2 q2 => have q2 := q2.1; May.lp (B.and (B.and (Iff.rfl) (B.eq)) (B.eq)) fun x3 e3 => May.lwi fun x4 e4 => May.ret ⟨?_, trivial⟩
  all_goals try dsimp only
  all_goals first | with_reducible assumption | omega | (exact mg_t q1 q2 e3 (e4 (by omega)) (by omega); done) | (exact mg_f h1; done)
abbrev Zcx.S := Classical.choose Zcx.X
def Zcx.c : Ctr := fc 101 [false, false, false] Zcx.L Zcx Zcx.S
theorem Zcx.good : Good Try.prog Zcx.c := mkFG (fn := Try.f101) {} Zcx.X (consG Zbf.good (consG Zcv.good noG)) (by kernel_rfl) (by kernel_rfl) (l0 (by kernel_rfl)) (c0 (by kernel_rfl)) fun s K => by kernel_rfl
def Zcy.L : FL := fCons (fC (cPtr 1 cLkO rfl)) (fCons (fAgg (cCons cInt (cCons cInt (cCons cInt (cCons (cArr false kPkts) (cCons (cArr false kBools) (cCons (cArr false kBools) (cCons (cArr false kInts) (cCons cInt (cNil)))))))))) (fCons (fSh sPkt) (fNil)))
def Zcy : Lk × (Int × Int × Int × List Pkt × List Bool × List Bool × List Int × Int × Unit) × Pkt × Unit → FR (Bool × Lk) := fun (a0, (a1, a2, a3, a4, a5, a6, a7, a8, ()), a9, ()) => ⟨(0 ≤ a0.count) ∧ (a0.count ≤ 1000000) ∧ (a0.st.got.length = 8) ∧ True, fun X => Call Zcx.X (a0, (a1, a2, a3, a4, a5, a6, a7, a8, ()), a9, ()) fun x1 => And (Imp ((!x1) = true) (X (false, a0))) (Imp ((!x1) = false) (Lt (wrap (a9.seq - 1)) fun x2 => And ((0 : Int) ≤ x2 ∧ x2 < (a0.st.got.length : Int)) (And ((x2).toNat < a0.st.got.length) (And (Imp ((a9.to == 0) = true) (X (true, (⟨a0.bank, a0.id, (⟨a0.st.way, a0.st.ver, a0.st.want, a0.st.sent, a0.st.live, a0.st.back, a0.st.got.set (x2).toNat 2⟩ : St), a0.marks, a0.count, a0.knows⟩ : Lk)))) (Imp ((a9.to == 0) = false) (And (Imp ((a9.kind == 1) = true) (Call0 Zch.X (a0.bank, 2, a9.to, a9.sum, ()) fun x3 => And (Imp (x3.2 = true) (And ((0 : Int) ≤ x2 ∧ x2 < ((a0.st.got.set (x2).toNat 2).length : Int)) (And ((x2).toNat < (a0.st.got.set (x2).toNat 2).length) (X (true, (⟨x3.1, a0.id, (⟨a0.st.way, a0.st.ver, a0.st.want, a0.st.sent, a0.st.live, a0.st.back, (a0.st.got.set (x2).toNat 2).set (x2).toNat 1⟩ : St), a0.marks, a0.count, a0.knows⟩ : Lk)))))) (Imp (x3.2 = false) (X (true, (⟨a0.bank, a0.id, (⟨a0.st.way, a0.st.ver, a0.st.want, a0.st.sent, a0.st.live, a0.st.back, a0.st.got.set (x2).toNat 2⟩ : St), a0.marks, a0.count, a0.knows⟩ : Lk)))))) (Imp ((a9.kind == 1) = false) (Call0 Zch.X (a0.bank, 1, a9.to, a9.sum, ()) fun x4 => And (Imp (x4.2 = true) (And ((0 : Int) ≤ x2 ∧ x2 < ((a0.st.got.set (x2).toNat 2).length : Int)) (And ((x2).toNat < (a0.st.got.set (x2).toNat 2).length) (X (true, (⟨x4.1, a0.id, (⟨a0.st.way, a0.st.ver, a0.st.want, a0.st.sent, a0.st.live, a0.st.back, (a0.st.got.set (x2).toNat 2).set (x2).toNat 1⟩ : St), a0.marks, a0.count, a0.knows⟩ : Lk)))))) (Imp (x4.2 = false) (X (true, (⟨a0.bank, a0.id, (⟨a0.st.way, a0.st.ver, a0.st.want, a0.st.sent, a0.st.live, a0.st.back, a0.st.got.set (x2).toNat 2⟩ : St), a0.marks, a0.count, a0.knows⟩ : Lk)))))))))))), fun r => (LgQ a0 (⟨a1, a2, a3, a4, a5, a6, a7⟩ : St) a9 r.2 r.1) ∧ True, fun r => (.v (.c (.bool r.1)), [.raw 1 [.own 8 1 3, .own 9 1 3, .int r.2.bank.locked, .int r.2.id, .int r.2.st.way, .int r.2.st.ver, .int r.2.st.want, .own 10 7 49, .own 11 1 4, .own 12 1 4, .own 13 1 3, .mk r.2.marks 0, .int r.2.count, .own 14 1 3], .dead, .dead, .dead, .dead, .dead, .dead, .dead, .arr (.ints r.2.bank.own), .arr (.ints r.2.bank.notes), .arr (.pkts r.2.st.sent), .arr (.bools r.2.st.live), .arr (.bools r.2.st.back), .arr (.ints r.2.st.got), .arr (.ints r.2.knows)])⟩
theorem Zcy.X : XF Zcy := mkF (false, zLk) fun (a0, (a1, a2, a3, a4, a5, a6, a7, a8, ()), a9, ()) hp => by
  obtain ⟨p0, p1, p2, -⟩ := hp
  dsimp only [Zcy]
  refine May.call ⟨?_, ?_, trivial⟩ fun x1 q1 => have q1 := q1.1; May.iff (B.not (Iff.rfl)) (fun h1 => ?_) (fun h1 => ?_); rotate_left 2
  refine May.ret ⟨?_, trivial⟩; rotate_left 1
  refine May.lw ⟨?_, ?_⟩ fun x2 e2 => May.chk ?_ fun c1 => May.chk ?_ fun c2 => May.iff (B.eq) (fun h2 => ?_) (fun h2 => ?_); rotate_left 4
  refine May.ret ⟨?_, trivial⟩; rotate_left 1
  refine May.iff (B.eq) (fun h3 => ?_) (fun h3 => ?_)
  refine May.call0 trivial fun x3 q3 => have q3 := q3.1; May.iff (Iff.rfl) (fun h4 => ?_) (fun h4 => ?_)
  refine May.chk ?_ fun c3 => May.chk ?_ fun c4 => May.ret ⟨?_, trivial⟩; rotate_left 3
  refine May.ret ⟨?_, trivial⟩; rotate_left 1
  refine May.call0 trivial fun x4 q4 => have q4 := q4.1; May.iff (Iff.rfl) (fun h4 => ?_) (fun h4 => ?_)
  refine May.chk ?_ fun c5 => May.chk ?_ fun c6 => May.ret ⟨?_, trivial⟩; rotate_left 3
  refine May.ret ⟨?_, trivial⟩
  all_goals try dsimp only
  all_goals first | with_reducible assumption | omega | (exact lg_f q1 h1; done) | (have := mayGL_rng (q1.1 (nn h1)); omega; done) | (exact lg_0 q1 h1 e2 h2; done) | ((have := mayGL_rng (q1.1 (nn h1)); rw [List.length_set]; omega); done) | (exact lg_1 q1 h1 e2 h2 (pkO1 h3) q3 h4; done) | (exact lg_1 q1 h1 e2 h2 (pkO2 h3) q4 h4; done) | (exact lg_2 q1 h1 e2 h2 (pkO1 h3) q3 h4; done) | (exact lg_2 q1 h1 e2 h2 (pkO2 h3) q4 h4; done)
abbrev Zcy.S := Classical.choose Zcy.X
def Zcy.c : Ctr := fc 64 [false, false, false] Zcy.L Zcy Zcy.S
theorem Zcy.good : Good Try.prog Zcy.c := mkFG (fn := Try.f64) {tk := [1000, 1, 2, 3, 4, 5, 6, 7]} Zcy.X (consG Zcx.good (consG Zch.good noG)) (by kernel_rfl) (by kernel_rfl) (l0 (by kernel_rfl)) (c0 (by kernel_rfl)) fun s K => by kernel_rfl
def Zcz.L : FL := fCons (fSh sCh) (fCons (fSh sSt) (fCons (fSh sPkt) (fNil)))
def Zcz : Ch × St × Pkt × Unit → FR (Ch × Bool) := fun (a0, a1, a2, ()) => ⟨(a0.lt) ∧ True, fun X => Lt (bif !(ZY.S a0) then true else !(ZO.S a1)) fun x1 => And (Imp ((bif x1 then true else !(Zz.S a2)) = true) (X ((⟨0, (⟨[], [], 0⟩ : Bk), (⟨0, 0, 0, [], [], [], []⟩ : St), [], []⟩ : Ch), false))) (Imp ((bif x1 then true else !(Zz.S a2)) = false) (Call ZbB.X (a0, ()) fun x2 => Call Zcy.X (x2, (a1.way, a1.ver, a1.want, a1.sent, a1.live, a1.back, a1.got, 0, ()), a2, ()) fun x3 => Call ZbE.X (x3.2, ()) fun x4 => X (x4, x3.1))), fun r => (RgQ a0 a1 a2 r.1 r.2) ∧ True, fun r => (.tup [.agg [.int r.1.id, .arr true (.ints r.1.bank.own), .arr true (.ints r.1.bank.notes), .int r.1.bank.locked, .int r.1.st.way, .int r.1.st.ver, .int r.1.st.want, .arr true (.pkts r.1.st.sent), .arr true (.bools r.1.st.live), .arr true (.bools r.1.st.back), .arr true (.ints r.1.st.got), .arr true (.sts r.1.past), .arr true (.ints r.1.knows)], .c (.bool r.2)], [])⟩
theorem Zcz.X : XF Zcz := mkF (zCh, false) fun (a0, a1, a2, ()) hp => by
  obtain ⟨p0, -⟩ := hp
  dsimp only [Zcz]
  refine May.lp (B.or (B.not (Iff.rfl)) (B.not (implSt))) fun x1 e1 => May.iff (B.or (e1) (B.not (implPkt))) (fun h1 => ?_) (fun h1 => ?_)
  refine May.ret ⟨?_, trivial⟩; rotate_left 1
  refine May.call ⟨?_, ?_, trivial⟩ fun x2 q2 => have q2 := q2.1; May.call ⟨?_, ?_, ?_, trivial⟩ fun x3 q3 => have q3 := q3.1; May.call ⟨?_, ?_, trivial⟩ fun x4 q4 => have q4 := q4.1; May.ret ⟨?_, trivial⟩
  all_goals try dsimp only
  all_goals first | with_reducible assumption | omega | (exact lt_sm p0; done) | (have := p0.2.2.1.1; omega; done) | ((rw [q2]; exact Int.natCast_nonneg _); done) | ((rw [q2]; have := p0.2.2.1.1; show (a0.past.length : Int) ≤ _; omega); done) | ((rw [q2]; exact (stL (rgOk' p0 h1).1.2.2.1).2.2.2); done) | (rw [(lg_cnt q3).1, (lg_cnt q3).2, q2]; exact of_cnt a0; done) | (rw [(lg_cnt q3).1, q2]; have := p0.2.2.1.1; show (a0.past.length : Int) ≤ _; omega; done) | (rw [q2] at q3; exact rg_impl (rgOk' p0 h1) q3 q4; done) | (exact rg_f fun g => h1.elim (fun h => h.elim (fun h => h ((implChL p0).2 g.1)) fun h => h g.2.1) fun h => h g.2.2; done)
abbrev Zcz.S := Classical.choose Zcz.X
def Zcz.c : Ctr := fc 28 [true, true, false] Zcz.L Zcz Zcz.S
theorem Zcz.good : Good Try.prog Zcz.c := mkFG (fn := Try.f28) {sh := [[none, some (.int, 3), some (.int, 3), none, none, none, none, some (.pkt, 49), some (.bool, 4), some (.bool, 4), some (.int, 3), some (.st, 29), some (.int, 3)], []], lst := true} Zcz.X (consG ZY.good (consG ZO.good (consG Zz.good (consG ZbB.good (consG Zcy.good (consG ZbE.good noG)))))) (by kernel_rfl) (by kernel_rfl) (l0 (by kernel_rfl)) (c0 (by kernel_rfl)) fun s K => by kernel_rfl
end
end Hw
end Go.Proofs.Ytloicplgckomdaa
