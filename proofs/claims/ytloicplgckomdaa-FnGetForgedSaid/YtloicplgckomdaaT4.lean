/- Laws of packets that come, 4: made by gen.py. -/
import Derived.Test.YtloicplgckomdaaT0
set_option linter.unusedVariables false
set_option linter.unusedSimpArgs false
set_option maxRecDepth 100000
set_option maxHeartbeats 400000
namespace Go.Proofs.Ytloicplgckomdaa
namespace Hw
open Go
noncomputable section
attribute [local irreducible] evFn evBody wrap wxor
def Forged (c : Ch) (s : St) (l : List Pkt) : Prop := (ChOk c ∧ StOk s) ∧ ∀ k, k < l.length → PktOk (l.getD k zPkt) ∧ ¬ Has0 s (l.getD k zPkt)
theorem forged_no {c y : Ch} {s : St} {l : List Pkt} {i : Int} {t x : Bool} (f : Forged c s l) (h0 : 0 ≤ i) (h1 : i < (l.length : Int)) (q : RgQ c s (l.getD i.toNat zPkt) y t) (qx : x = true ↔ y = c) : ¬ (t = true ∨ ¬ x = true) := by
  have hf := f.2 i.toNat (by omega)
  have ht : ¬ t = true := fun g => hf.2 (q.1.1 g).2.2.1
  have hy := (q.2.2 ht).1 ⟨f.1.1, f.1.2, hf.1⟩
  exact fun g => g.elim ht fun g => g (qx.2 hy)
theorem has_not {s : St} {p q : Pkt} (h : Has0 s p) (hs : q.seq = p.seq) (hne : ¬ q = p) : ¬ Has0 s q := fun g => by
  have g1 := g.2.1
  rw [hs, h.2.1] at g1
  exact hne g1.symm
theorem forged_of {c r : Ch} {s : St} {p a b d e : Pkt} {t : Bool} (q3 : RgQ c s p r t) (h : t = true) (ha : PktOk a ∧ a.seq = p.seq ∧ ¬ a = p) (hb : PktOk b ∧ b.seq = p.seq ∧ ¬ b = p) (hd : PktOk d ∧ d.seq = p.seq ∧ ¬ d = p) (he : PktOk e ∧ e.seq = p.seq ∧ ¬ e = p) : Forged c s [a, b, d, e] := by
  obtain ⟨h1, h2, _⟩ := rg_may q3 h
  refine ⟨⟨h1.1, h1.2.1⟩, fun k hk => ?_⟩
  match k, hk with
  | 0, _ => exact ⟨ha.1, has_not h2.2.1 ha.2.1 ha.2.2⟩
  | 1, _ => exact ⟨hb.1, has_not h2.2.1 hb.2.1 hb.2.2⟩
  | 2, _ => exact ⟨hd.1, has_not h2.2.1 hd.2.1 hd.2.2⟩
  | 3, _ => exact ⟨he.1, has_not h2.2.1 he.2.1 he.2.2⟩
theorem pk_a {p : Pkt} {n : Int} (h : PktOk p) (hn : 1 ≤ n ∧ n ≤ 9) (hd : ¬ n = p.sum) : PktOk ⟨p.seq, p.kind, p.frm, p.to, n, p.til, p.ver⟩ ∧ p.seq = p.seq ∧ ¬ (⟨p.seq, p.kind, p.frm, p.to, n, p.til, p.ver⟩ : Pkt) = p := ⟨⟨h.1, h.2.1, h.2.2.1, h.2.2.2.1, hn, h.2.2.2.2.2⟩, rfl, fun e => hd (congrArg Pkt.sum e)⟩
theorem pk_b {p : Pkt} {n : Int} (h : PktOk p) (hn : 0 ≤ n ∧ n ≤ 3) (hd : ¬ n = p.to) : PktOk ⟨p.seq, p.kind, p.frm, n, p.sum, p.til, p.ver⟩ ∧ p.seq = p.seq ∧ ¬ (⟨p.seq, p.kind, p.frm, n, p.sum, p.til, p.ver⟩ : Pkt) = p := ⟨⟨h.1, h.2.1, h.2.2.1, hn, h.2.2.2.2⟩, rfl, fun e => hd (congrArg Pkt.to e)⟩
theorem pk_d {p : Pkt} {n : Int} (h : PktOk p) (hn : 1 ≤ n ∧ n ≤ 90) (hd : ¬ n = p.til) : PktOk ⟨p.seq, p.kind, p.frm, p.to, p.sum, n, p.ver⟩ ∧ p.seq = p.seq ∧ ¬ (⟨p.seq, p.kind, p.frm, p.to, p.sum, n, p.ver⟩ : Pkt) = p := ⟨⟨h.1, h.2.1, h.2.2.1, h.2.2.2.1, h.2.2.2.2.1, hn, h.2.2.2.2.2.2⟩, rfl, fun e => hd (congrArg Pkt.til e)⟩
theorem pk_e {p : Pkt} {n : Int} (h : PktOk p) (hn : n = 1 ∨ n = 2) (hd : ¬ n = p.kind) : PktOk ⟨p.seq, n, p.frm, p.to, p.sum, p.til, p.ver⟩ ∧ p.seq = p.seq ∧ ¬ (⟨p.seq, n, p.frm, p.to, p.sum, p.til, p.ver⟩ : Pkt) = p := ⟨⟨h.1, hn, h.2.2⟩, rfl, fun e => hd (congrArg Pkt.kind e)⟩

def ZcW.L : FL := fCons (fSh sInt) (fNil)
def ZcW : Int × Unit → FR (Int) := fun (a0, ()) => ⟨(0 ≤ a0 ∧ a0 ≤ 9) ∧ True, fun X => Lt (wrap (3 - a0)) fun x1 => X x1, fun r => (r = 3 - a0) ∧ True, fun r => (.v (.c (.int r)), [])⟩
theorem ZcW.X : XF ZcW := mkF (0) fun (a0, ()) hp => by
  obtain ⟨p0, -⟩ := hp
  dsimp only [ZcW]
  refine May.lw ⟨?_, ?_⟩ fun x1 e1 => May.ret ⟨?_, trivial⟩
  all_goals try dsimp only
  all_goals first | with_reducible assumption | omega | rfl | assumption | (simp only [List.length_append, List.length_cons, List.length_nil, List.length_set, List.length_replicate, Int.natCast_add, Int.natCast_one] at *; omega) | grind
abbrev ZcW.S := Classical.choose ZcW.X
def ZcW.c : Ctr := fc 40 [false] ZcW.L ZcW ZcW.S
theorem ZcW.good : Good Try.prog ZcW.c := mkFG (fn := Try.f40) {} ZcW.X noG (by kernel_rfl) (by kernel_rfl) (l0 (by kernel_rfl)) (c0 (by kernel_rfl)) fun s K => by kernel_rfl
theorem ZcZ.G : GG [ZcS.c, ZcA.c, Zcz.c, ZbT.c, ZcW.c] := (consG ZcS.good (consG ZcA.good (consG Zcz.good (consG ZbT.good (consG ZcW.good noG)))))
def Zc0.L : FL := fCons (fC cBool) (fCons (fC (cPtr 1 (cChE true) rfl)) (fCons (fC (cPtr 1 (cStE true) rfl)) (fCons (fC (cOwn kPkts 49)) (fCons (fC cInt) (fCons (fC cInt) (fNil))))))
def Zc0 : Bool × Ch × St × List Pkt × Int × Int × Unit → LR (Bool × Ch × St × List Pkt × Int × Int × Unit) (Nat × Bool × Unit) := fun (y0, y1, y2, y3, y4, y5, ()) => ⟨(0 ≤ y5) ∧ (y4 ≤ 9223372036854775807) ∧ (y4 = (y3.length : Int)) ∧ (y1.lt) ∧ (Forged y1 y2 y3) ∧ True, (y4 - y5).toNat, fun X => And (Imp ((decide (y5 < y4)) = true) (And ((0 : Int) ≤ y5 ∧ y5 < (y3.length : Int)) (And ((y5).toNat < y3.length) (Call Zcz.X (y1, y2, (y3.getD (y5).toNat zPkt), ()) fun x18 => And (Imp (And (x18.2 = false) (True)) ((ZbT (x18.1, y1, ())).P)) (Lt ((ZbT.S (x18.1, y1, ()))) fun x19 => And (Imp ((bif x18.2 then true else !x19) = true) (X (.inr (0, false, ())))) (Imp ((bif x18.2 then true else !x19) = false) (Lt (wrap (y5 + 1)) fun x20 => X (.inl (y0, y1, y2, y3, y4, x20, ()))))))))) (Imp ((decide (y5 < y4)) = false) (X (.inr (1, false, ())))), fun r => (¬ r.1 = 0) ∧ True, fun r => [(Nat.beq r.1 0, (.ret, [.c (.bool r.2.1)], []))], fun r => (.exit 0, [], [])⟩
theorem Zc0.X : XL Zc0 := mkL (0, false, ()) fun (y0, y1, y2, y3, y4, y5, ()) hp => by
  obtain ⟨p0, p1, p2, p3, p4, -⟩ := hp
  unfold ML; dsimp only [Zc0]
  refine May.iff (B.dec) (fun h1 => ?_) (fun h1 => ?_)
  refine May.chk ?_ fun c1 => May.chk ?_ fun c2 => May.call ⟨?_, trivial⟩ fun x18 q18 => have q18 := q18.1; May.chk (fun hπ => have g1 := B.neg (Iff.rfl) hπ.1; ⟨?_, trivial⟩) fun c3 => May.clq ⟨?_, trivial⟩ fun x19 q19 => have q19 := q19.1; May.iff (B.or (Iff.rfl) (B.not (Iff.rfl))) (fun h2 => ?_) (fun h2 => ?_); rotate_left 5
  refine May.ex ⟨?_, trivial⟩; rotate_left 1
  refine May.lw ⟨?_, ?_⟩ fun x20 e20 => May.nx ⟨?_, ?_, ?_, ?_, ?_, trivial⟩ ?_ ?_ fun r => rfl; rotate_left 9
  refine May.ex ⟨?_, trivial⟩
  all_goals try dsimp only [Zc0]
  all_goals first | with_reducible assumption | omega | exact fun _ q => q | (exact rg_lt q18 p3; done) | (exact absurd h2 (forged_no p4 p0 (by omega) q18 q19); done) | (exact fun h => (by cases h); done)
abbrev Zc0.R := Classical.choose Zc0.X
def Zc0.k : LCtr := (ld 17 [4, 5, 6, 100, 101, 102] [] Zc0.L Zc0 0 (fun e => match e with | .ret => [4] | _ => []) (fun _ => []) Zc0.R).ctr
theorem Zc0.g : LGood Try.prog Try.f10.ntmps Zc0.k (bodyAt Try.f10 0) := mkLG {} Zc0.X ZcZ.G (by kernel_rfl) (l0 (by kernel_rfl)) (c0 (by kernel_rfl)) fun S s => by kernel_rfl
def ZcZ.L : FL := fCons (fC (cArr true kU8s)) (fCons (fC (cArr true kU8s)) (fNil))
def ZcZ : List Int × List Int × Unit → FR (Bool) := fun (a0, a1, ()) => ⟨(∀ k, 0 ≤ a0.getD k 0 ∧ a0.getD k 0 ≤ 255) ∧ True, fun X => Lt (bif decide ((a0.length : Int) > 1048576) then true else decide ((a1.length : Int) > 1048576)) fun x1 => And (Imp (x1 = true) (X true)) (Imp (x1 = false) (Call ZcS.X (a0, ()) fun x2 => Call ZcA.X (x2.1, x2.2.1, x2.2.2, ()) fun x3 => Call Zcz.X (x2.1, x2.2.1, x2.2.2, ()) fun x4 => And (Imp (And ((!((x4.2 : Bool) == x3.2)) = false) (True)) ((ZbT (x4.1, x3.1, ())).P)) (Lt ((ZbT.S (x4.1, x3.1, ()))) fun x5 => Lt (bif bif !((x4.2 : Bool) == x3.2) then true else !x5 then true else !x4.2) fun x6 => And (Imp (x6 = true) (And (Imp (And (((x4.2 : Bool) == x3.2) = true) (True)) ((ZbT (x4.1, x3.1, ())).P)) (Lt ((ZbT.S (x4.1, x3.1, ()))) fun x7 => X (bif (x4.2 : Bool) == x3.2 then x7 else false)))) (Imp (x6 = false) (And ((9 : Int) ≠ 0) (Lt (x2.2.2.sum.tmod 9) fun x8 => Lt (wrap (x8 + 1)) fun x9 => Lt (wrap (x2.2.2.to + 1)) fun x10 => And ((3 : Int) ≠ 0) (Lt ((a1.length : Int).tmod 3) fun x11 => Lt (wrap (x10 + x11)) fun x12 => And ((4 : Int) ≠ 0) (Lt (x12.tmod 4) fun x13 => And ((90 : Int) ≠ 0) (Lt (x2.2.2.til.tmod 90) fun x14 => Lt (wrap (x14 + 1)) fun x15 => Call ZcW.X (x2.2.2.kind, ()) fun x16 => Lt ([(⟨x2.2.2.seq, x2.2.2.kind, x2.2.2.frm, x2.2.2.to, x9, x2.2.2.til, x2.2.2.ver⟩ : Pkt), (⟨x2.2.2.seq, x2.2.2.kind, x2.2.2.frm, x13, x2.2.2.sum, x2.2.2.til, x2.2.2.ver⟩ : Pkt), (⟨x2.2.2.seq, x2.2.2.kind, x2.2.2.frm, x2.2.2.to, x2.2.2.sum, x15, x2.2.2.ver⟩ : Pkt), (⟨x2.2.2.seq, x16, x2.2.2.frm, x2.2.2.to, x2.2.2.sum, x2.2.2.til, x2.2.2.ver⟩ : Pkt)]) fun x17 => CallL Zc0.X (false, x2.1, x2.2.1, x17, (x17.length : Int), 0, ()) fun x21 => And (Imp (Nat.beq x21.1 0 = true) (X x21.2.1)) (Imp (Nat.beq x21.1 0 = false) (X true))))))))))), fun r => (r = true) ∧ True, fun r => (.v (.c (.bool r)), [])⟩
theorem ZcZ.X : XF ZcZ := mkF (false) fun (a0, a1, ()) hp => by
  obtain ⟨p0, -⟩ := hp
  dsimp only [ZcZ]
  refine May.lp (B.or (B.dec) (B.dec)) fun x1 e1 => May.iff (e1) (fun h1 => ?_) (fun h1 => ?_)
  refine May.ret ⟨?_, trivial⟩; rotate_left 1
  refine May.call ⟨?_, trivial⟩ fun x2 q2 => have q2_0 := q2.1; have q2_1 := q2.2.1; May.call ⟨?_, trivial⟩ fun x3 q3 => have q3 := q3.1; May.call ⟨?_, trivial⟩ fun x4 q4 => have q4 := q4.1; May.chk (fun hπ => have g1 := B.neg (B.not (B.beq)) hπ.1; ⟨?_, trivial⟩) fun c1 => May.clq ⟨?_, trivial⟩ fun x5 q5 => have q5 := q5.1; May.lp (B.or (B.or (B.not (B.beq)) (B.not (Iff.rfl))) (B.not (Iff.rfl))) fun x6 e6 => May.iff (e6) (fun h2 => ?_) (fun h2 => ?_); rotate_left 5
  refine May.chk (fun hπ => have g1 := Iff.mp (B.beq) hπ.1; ⟨?_, trivial⟩) fun c2 => May.clq ⟨?_, trivial⟩ fun x7 q7 => have q7 := q7.1; May.ret ⟨?_, trivial⟩; rotate_left 3
  refine May.chk ?_ fun c3 => May.lm ?_ fun x8 e8 => May.lw ⟨?_, ?_⟩ fun x9 e9 => May.lw ⟨?_, ?_⟩ fun x10 e10 => May.chk ?_ fun c4 => May.lm ?_ fun x11 e11 => May.lw ⟨?_, ?_⟩ fun x12 e12 => May.chk ?_ fun c5 => ?_; rotate_left 11
  refine May.lm ?_ fun x13 e13 => May.chk ?_ fun c6 => May.lm ?_ fun x14 e14 => May.lw ⟨?_, ?_⟩ fun x15 e15 => May.call ⟨?_, trivial⟩ fun x16 q16 => have q16 := q16.1; May.lt fun x17 e17 => May.loop ⟨?_, ?_, ?_, ?_, ?_, trivial⟩ fun x21 q21 => have q21 := q21.1; May.iff B.nbeq (fun h3 => ?_) (fun h3 => ?_); rotate_left 11
  refine May.ret ⟨?_, trivial⟩; rotate_left 1
  refine May.ret ⟨?_, trivial⟩
  all_goals try dsimp only
  all_goals first | with_reducible assumption | omega | (with_reducible rfl; done) | (exact rg_lt q4 q2_0; done) | (exact rgB q3 q4 q7; done) | ((obtain ⟨z1, z2, z3, z4, z5, z6, z7⟩ := (rg_may q4 (nn fun g => h2 (.inr g))).1.2.2; omega); done) | ((rw [e17]; simp); done) | ((have hp := (rg_may q4 (nn fun g => h2 (.inr g))).1.2.2; obtain ⟨z1, z2, z3, z4, z5, z6, z7⟩ := id hp; rw [e17]; exact forged_of q4 (nn fun g => h2 (.inr g)) (pk_a hp (by omega) (by omega)) (pk_b hp (by omega) (by omega)) (pk_d hp (by omega) (by omega)) (pk_e hp (by omega) (by omega))); done)
abbrev ZcZ.S := Classical.choose ZcZ.X
def ZcZ.c : Ctr := fc 10 [false, false] ZcZ.L ZcZ ZcZ.S
theorem ZcZ.good : Good Try.prog ZcZ.c := mkFG (fn := Try.f10) {LL := [Zc0.k]} ZcZ.X ZcZ.G (by kernel_rfl) (by kernel_rfl) (lG (by kernel_rfl) (consL (by kernel_rfl) Zc0.g (noL rfl))) (c0 (by kernel_rfl)) fun s K => by kernel_rfl
end
end Hw
end Go.Proofs.Ytloicplgckomdaa
