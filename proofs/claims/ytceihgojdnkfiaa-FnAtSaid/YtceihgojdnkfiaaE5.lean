/- Draws, 6: made by gen.py. -/
import Derived.Test.YtceihgojdnkfiaaE4
set_option linter.unusedVariables false
set_option linter.unusedSimpArgs false
set_option maxRecDepth 100000
set_option maxHeartbeats 400000
namespace Go.Proofs.Ytceihgojdnkfiaa
namespace Hw
open Go
noncomputable section
attribute [local irreducible] evFn evBody wrap wxor
theorem Zau {l : List Ch} (h : Z0.S l = true) : l.length = 2 := by
  unfold Z0.S at h
  grind
theorem worldOk_last {l : List Ch} (hl : ∀ k, k < 2 → (l.getD k zCh).knows.length ≤ 1000000) (h : Z0.S l = true) : ∀ k, k < 2 → 0 < (l.getD k zCh).knows.length → (l.getD k zCh).knows.getD ((l.getD k zCh).knows.length - 1) 0 ≤ ((l.getD (1 - k) zCh).past.length : Int) := by
  have h2 := Zau h
  unfold Z0.S at h
  rw [show ((l.length : Int) != 2) = false by simp [h2], cond_false] at h
  rcases ZZ.law l false () 2 rfl (by decide) with ⟨h1, h2⟩ | ⟨k, r, hk, h1, -, h2⟩
  · intro k hk h0
    have h3 := h1 k hk
    have hk' := hl k hk
    simp only [ZZ.E, E_none, reduceCtorEq, and_false, false_or, and_true] at h3
    rw [wrap_id (n := (k : Int) + 1) (by omega) (by omega), wrap_id (n := 1 - (k : Int)) (by omega) (by omega), wrap_id (n := ((l.getD k zCh).knows.length : Int) - 1) (by omega) (by omega), show (1 - (k : Int)).toNat = 1 - k by omega,
      show (((l.getD k zCh).knows.length : Int) - 1).toNat = (l.getD k zCh).knows.length - 1 by omega] at h3
    generalize (l.getD k zCh).knows.getD ((l.getD k zCh).knows.length - 1) 0 = q at *
    grind
  · rw [h2] at h
    simp only [ZZ.E, E_some, reduceCtorEq, and_false, or_false, Option.some.injEq] at h1
    obtain ⟨h3, rfl⟩ := h1
    simp [show Nat.beq 0 0 = true from rfl] at h

theorem Zav.G : GG [Z0.c, Zi.c, Zm.c, Zak.c, Zam.c, Zan.c] := (consG Z0.good (consG Zi.good (consG Zm.good (consG Zak.good (consG Zam.good (consG Zan.good noG))))))
def Zaw.L : FL := fCons (fC cInt) (fCons (fC (cOwn kEvs 153)) (fCons (fC (cPtr 1 (cChE false) rfl)) (fCons (fC cInt) (fCons (fC (cPtr 1 (cStE false) rfl)) (fCons (fC cInt) (fNil))))))
def Zaw : Int × List Ev × Ch × Int × St × Int × Unit → LR (Int × List Ev × Ch × Int × St × Int × Unit) (Nat × (List Ev) × Unit) := fun (y0, y1, y2, y3, y4, y5, ()) => ⟨(0 ≤ y5) ∧ ((y4.sent.length : Int) ≤ 9223372036854775807) ∧ (CIn y2) ∧ (SIn y4) ∧ ((y1.length : Int) ≤ y5) ∧ (y5 ≤ (y4.sent.length : Int)) ∧ True, ((y4.sent.length : Int) - y5).toNat, fun X => And (Imp ((decide (y5 < (y4.sent.length : Int))) = true) (Call Zm.X (y2, ()) fun x7 => And ((0 : Int) ≤ y5 ∧ y5 < (y4.sent.length : Int)) (Call Zak.X (x7, y4, (y4.sent.getD (y5).toNat zPkt), ()) fun x8 => And (Imp (x8.2 = true) (And ((0 : Int) ≤ y5 ∧ y5 < (y4.sent.length : Int)) (And ((y1 ++ ([(⟨4, y0, y3, 0, (y4.sent.getD (y5).toNat zPkt)⟩ : Ev)])).length ≤ 4294967296) (Lt (wrap (y5 + 1)) fun x9 => X (.inl (y0, (y1 ++ ([(⟨4, y0, y3, 0, (y4.sent.getD (y5).toNat zPkt)⟩ : Ev)])), y2, y3, y4, x9, ())))))) (Imp (x8.2 = false) (Lt (wrap (y5 + 1)) fun x10 => X (.inl (y0, y1, y2, y3, y4, x10, ()))))))) (Imp ((decide (y5 < (y4.sent.length : Int))) = false) (X (.inr (0, y1, ())))), fun r => (r.2.1.length ≤ 8) ∧ True, fun r => [], fun r => (.exit 0, [.c (.int y0), .c (.own 0 11 153), .c (.ptr 1 0), .c (.int y3), .c (.ptr 2 0)], [.arr (.evs r.2.1), .raw 1 [.int y2.id, .arr false (.ints y2.bank.own), .arr false (.ints y2.bank.notes), .int y2.bank.locked, .int y2.st.way, .int y2.st.ver, .int y2.st.want, .arr false (.pkts y2.st.sent), .arr false (.bools y2.st.live), .arr false (.bools y2.st.back), .arr false (.ints y2.st.got), .arr false (.sts y2.past), .arr false (.ints y2.knows)], .raw 1 [.int y4.way, .int y4.ver, .int y4.want, .arr false (.pkts y4.sent), .arr false (.bools y4.live), .arr false (.bools y4.back), .arr false (.ints y4.got)]])⟩
theorem Zaw.X : XL Zaw := mkL (0, [], ()) fun (y0, y1, y2, y3, y4, y5, ()) hp => by
  obtain ⟨p0, p1, p2, p3, p4, p5, -⟩ := hp
  obtain ⟨p31, p32, p33, p34, p35⟩ := id p3
  unfold ML; dsimp only [Zaw]
  refine May.iff (B.dec) (fun h1 => ?_) (fun h1 => ?_)
  refine May.call ⟨?_, trivial⟩ fun x7 q7 => have q7 := q7.1; May.chk ?_ fun c1 => May.call ⟨?_, ?_, ?_, trivial⟩ fun x8 q8 => have q8_0 := q8.1; have q8_1 := q8.2.1; May.iff (Iff.rfl) (fun h2 => ?_) (fun h2 => ?_); rotate_left 5
  refine May.chk ?_ fun c2 => May.chk ?_ fun c3 => May.lw ⟨?_, ?_⟩ fun x9 e9 => May.nx ⟨?_, ?_, ?_, ?_, ?_, ?_, trivial⟩ ?_ ?_ fun r => rfl; rotate_left 12
  refine May.lw ⟨?_, ?_⟩ fun x10 e10 => May.nx ⟨?_, ?_, ?_, ?_, ?_, ?_, trivial⟩ ?_ ?_ fun r => rfl; rotate_left 10
  refine May.ex ⟨?_, trivial⟩
  all_goals try dsimp only [Zaw]
  all_goals first | with_reducible assumption | omega | exact fun _ q => q | (exact C2 _ (by omega) (by omega); done) | (have := (C2 x2 (by grind) (by grind)).2.2.2.2.1; grind; done) | (have := (C2 x5 (by omega) (by omega)).2.2.1; omega; done) | (have := (sin_get (C2 x5 (by omega) (by omega)) (i := x6) (by omega) (by omega)).1; omega; done) | (have := (C2 x2 (by omega) (by omega)).2.1.1; omega; done) | (exact sin_get (C2 x5 (by omega) (by omega)) (by omega) (by omega); done) | (exact cin_sm p2; done) | (rw [q7]; exact p2; done) | (exact pin_get p3 (by omega) (by omega); done) | rfl | assumption | (simp only [List.length_append, List.length_cons, List.length_nil, List.length_set, List.length_replicate, Int.natCast_add, Int.natCast_one] at *; omega) | grind
abbrev Zaw.R := Classical.choose Zaw.X
def Zaw.k : LCtr := (ld 8 [1, 5, 6, 7, 8, 9] [] Zaw.L Zaw 0 (fun _ => [1, 5, 6, 7, 8]) (fun _ => []) Zaw.R).ctr
theorem Zaw.g : LGood Try.prog Try.f136.ntmps Zaw.k (bodyAt Try.f136 0) := mkLG {} Zaw.X Zav.G (by kernel_rfl) (l0 (by kernel_rfl)) (c0 (by kernel_rfl)) fun S s => by kernel_rfl
def Zax.L : FL := fCons (fC cInt) (fCons (fC (cOwn kEvs 153)) (fCons (fC (cPtr 1 (cChE false) rfl)) (fCons (fC cInt) (fCons (fC (cPtr 1 (cStE false) rfl)) (fCons (fC cInt) (fNil))))))
def Zax : Int × List Ev × Ch × Int × St × Int × Unit → LR (Int × List Ev × Ch × Int × St × Int × Unit) (Nat × (List Ev) × Unit) := fun (y0, y1, y2, y3, y4, y5, ()) => ⟨(0 ≤ y5) ∧ ((y2.st.sent.length : Int) ≤ 9223372036854775807) ∧ (CIn y2) ∧ (SIn y4) ∧ ((y1.length : Int) ≤ 8 + 2 * y5) ∧ (1 ≤ y5) ∧ ((y1.length : Int) + 2 ≤ 8 + 2 * y5) ∧ (y5 ≤ (y2.st.sent.length : Int) + 1) ∧ True, ((y2.st.sent.length : Int) + 1 - y5).toNat, fun X => And (Imp ((decide (y5 ≤ (y2.st.sent.length : Int))) = true) (Call Zm.X (y2, ()) fun x12 => Call Zam.X (x12, y4, y5, ()) fun x13 => And ((Zm (y2, ())).P) (Call Zan.X (x12, y4, y3, y5, ()) fun x14 => And (Imp (x13.2 = true) (And ((y1 ++ ([(⟨5, y0, y3, y5, (⟨0, 0, 0, 0, 0, 0, 0⟩ : Pkt)⟩ : Ev)])).length ≤ 4294967296) (And (Imp (x14.2 = true) (And (((y1 ++ ([(⟨5, y0, y3, y5, (⟨0, 0, 0, 0, 0, 0, 0⟩ : Pkt)⟩ : Ev)])) ++ ([(⟨6, y0, y3, y5, (⟨0, 0, 0, 0, 0, 0, 0⟩ : Pkt)⟩ : Ev)])).length ≤ 4294967296) (Lt (((y1 ++ ([(⟨5, y0, y3, y5, (⟨0, 0, 0, 0, 0, 0, 0⟩ : Pkt)⟩ : Ev)])) ++ ([(⟨6, y0, y3, y5, (⟨0, 0, 0, 0, 0, 0, 0⟩ : Pkt)⟩ : Ev)]))) fun x15 => Lt (wrap (y5 + 1)) fun x16 => X (.inl (y0, x15, y2, y3, y4, x16, ()))))) (Imp (x14.2 = false) (Lt (wrap (y5 + 1)) fun x17 => X (.inl (y0, (y1 ++ ([(⟨5, y0, y3, y5, (⟨0, 0, 0, 0, 0, 0, 0⟩ : Pkt)⟩ : Ev)])), y2, y3, y4, x17, ()))))))) (Imp (x13.2 = false) (And (Imp (x14.2 = true) (And ((y1 ++ ([(⟨6, y0, y3, y5, (⟨0, 0, 0, 0, 0, 0, 0⟩ : Pkt)⟩ : Ev)])).length ≤ 4294967296) (Lt (wrap (y5 + 1)) fun x18 => X (.inl (y0, (y1 ++ ([(⟨6, y0, y3, y5, (⟨0, 0, 0, 0, 0, 0, 0⟩ : Pkt)⟩ : Ev)])), y2, y3, y4, x18, ()))))) (Imp (x14.2 = false) (Lt (wrap (y5 + 1)) fun x19 => X (.inl (y0, y1, y2, y3, y4, x19, ()))))))))) (Imp ((decide (y5 ≤ (y2.st.sent.length : Int))) = false) (X (.inr (0, y1, ())))), fun r => (r.2.1.length ≤ 24) ∧ True, fun r => [], fun r => (.exit 2, [.c (.own 0 11 153)], [.arr (.evs r.2.1)])⟩
theorem Zax.X : XL Zax := mkL (0, [], ()) fun (y0, y1, y2, y3, y4, y5, ()) hp => by
  obtain ⟨p0, p1, p2, p3, p4, p5, p6, p7, -⟩ := hp
  obtain ⟨p2b, p2s, p2l, p2p, p2k, p2q⟩ := id p2
  obtain ⟨p2s1, p2s2, p2s3, p2s4, p2s5⟩ := id p2s
  unfold ML; dsimp only [Zax]
  refine May.iff (B.dec) (fun h1 => ?_) (fun h1 => ?_)
  refine May.call ⟨?_, trivial⟩ fun x12 q12 => have q12 := q12.1; May.call ⟨?_, ?_, trivial⟩ fun x13 q13 => have q13_0 := q13.1; have q13_1 := q13.2.1; May.chk ⟨?_, trivial⟩ fun c1 => May.call ⟨?_, ?_, trivial⟩ fun x14 q14 => have q14_0 := q14.1; have q14_1 := q14.2.1; May.iff (Iff.rfl) (fun h2 => ?_) (fun h2 => ?_); rotate_left 6
  refine May.chk ?_ fun c2 => May.iff (Iff.rfl) (fun h3 => ?_) (fun h3 => ?_); rotate_left 1
  refine May.chk ?_ fun c3 => May.lt fun x15 e15 => May.lw ⟨?_, ?_⟩ fun x16 e16 => May.nx ⟨?_, ?_, ?_, ?_, ?_, ?_, ?_, ?_, trivial⟩ ?_ ?_ fun r => rfl; rotate_left 13
  refine May.lw ⟨?_, ?_⟩ fun x17 e17 => May.nx ⟨?_, ?_, ?_, ?_, ?_, ?_, ?_, ?_, trivial⟩ ?_ ?_ fun r => rfl; rotate_left 12
  refine May.iff (Iff.rfl) (fun h3 => ?_) (fun h3 => ?_)
  refine May.chk ?_ fun c4 => May.lw ⟨?_, ?_⟩ fun x18 e18 => May.nx ⟨?_, ?_, ?_, ?_, ?_, ?_, ?_, ?_, trivial⟩ ?_ ?_ fun r => rfl; rotate_left 13
  refine May.lw ⟨?_, ?_⟩ fun x19 e19 => May.nx ⟨?_, ?_, ?_, ?_, ?_, ?_, ?_, ?_, trivial⟩ ?_ ?_ fun r => rfl; rotate_left 12
  refine May.ex ⟨?_, trivial⟩
  all_goals try dsimp only [Zax]
  all_goals first | with_reducible assumption | omega | exact fun _ q => q | (exact C2 _ (by omega) (by omega); done) | (have := (C2 x2 (by grind) (by grind)).2.2.2.2.1; grind; done) | (have := (C2 x5 (by omega) (by omega)).2.2.1; omega; done) | (have := (sin_get (C2 x5 (by omega) (by omega)) (i := x6) (by omega) (by omega)).1; omega; done) | (have := (C2 x2 (by omega) (by omega)).2.1.1; omega; done) | (exact sin_get (C2 x5 (by omega) (by omega)) (by omega) (by omega); done) | (exact cin_sm p2; done) | (rw [q12]; exact p2; done) | rfl | assumption | (simp only [List.length_append, List.length_cons, List.length_nil, List.length_set, List.length_replicate, Int.natCast_add, Int.natCast_one] at *; omega) | grind
abbrev Zax.R := Classical.choose Zax.X
def Zax.k : LCtr := (ld 14 [1, 5, 6, 7, 8, 12] [] Zax.L Zax 0 (fun _ => [5]) (fun _ => []) Zax.R).ctr
theorem Zax.g : LGood Try.prog Try.f136.ntmps Zax.k (bodyAt Try.f136 1) := mkLG {} Zax.X Zav.G (by kernel_rfl) (l0 (by kernel_rfl)) (c0 (by kernel_rfl)) fun S s => by kernel_rfl
def Zav.L : FL := fCons (fSh sW) (fCons (fSh sInt) (fNil))
def Zav : List Ch × Int × Unit → FR ((List Ev)) := fun (a0, a1, ()) => ⟨(a0.length = 2) ∧ (CIn (a0.getD 0 zCh)) ∧ (CIn (a0.getD 1 zCh)) ∧ True, fun X => Lt (bif !(Z0.S a0) then true else !(Zi.S a1 1 2)) fun x1 => Lt (wrap (a1 - 1)) fun x2 => And (Imp (And (x1 = false) (True)) ((0 : Int) ≤ x2 ∧ x2 < (a0.length : Int))) (Lt (bif x1 then true else ((a0.getD (x2).toNat zCh).knows.length : Int) == 0) fun x3 => And (Imp (x3 = true) (X [])) (Imp (x3 = false) (And ((0 : Int) ≤ x2 ∧ x2 < (a0.length : Int)) (Lt (wrap (((a0.getD (x2).toNat zCh).knows.length : Int) - 1)) fun x4 => And ((0 : Int) ≤ x4 ∧ x4 < ((a0.getD (x2).toNat zCh).knows.length : Int)) (Lt (wrap (2 - a1)) fun x5 => And ((0 : Int) ≤ x5 ∧ x5 < (a0.length : Int)) (Lt (wrap (((a0.getD (x2).toNat zCh).knows.getD (x4).toNat 0) - 1)) fun x6 => And ((0 : Int) ≤ x6 ∧ x6 < ((a0.getD (x5).toNat zCh).past.length : Int)) (CallL Zaw.X (a1, [], (a0.getD (x2).toNat zCh), (a0.getD (x2).toNat zCh).knows.getD (x4).toNat 0, ((a0.getD (x5).toNat zCh).past.getD (x6).toNat zSt), 0, ()) fun x11 => CallL Zax.X (a1, x11.2.1, (a0.getD (x2).toNat zCh), ((a0.getD (x2).toNat zCh).knows.getD (x4).toNat 0), ((a0.getD (x5).toNat zCh).past.getD (x6).toNat zSt), 1, ()) fun x20 => X x20.2.1))))))), fun r => (r.length ≤ 24) ∧ True, fun r => (.v (.c (.own 0 11 153)), [.arr (.evs r)])⟩
theorem Zav.X : XF Zav := mkF ([]) fun (a0, a1, ()) hp => by
  obtain ⟨p0, p1, p2, -⟩ := hp
  have C2 : ∀ i : Int, 0 ≤ i → i ≤ 1 → CIn (a0.getD i.toNat zCh) := fun i h1 h2 => by
    rcases Int.lt_or_le i 1 with h | h
    · rw [show i.toNat = 0 by omega]; exact p1
    · rw [show i.toNat = 1 by omega]; exact p2
  have W2 : Z0.S a0 = true → ∀ i j : Int, 0 ≤ i → i ≤ 1 → j = 1 - i → ¬ ((a0.getD i.toNat zCh).knows.length : Int) = 0 → ∀ k : Int, k = ((a0.getD i.toNat zCh).knows.length : Int) - 1 → 1 ≤ (a0.getD i.toNat zCh).knows.getD k.toNat 0 ∧ (a0.getD i.toNat zCh).knows.getD k.toNat 0 ≤ ((a0.getD j.toNat zCh).past.length : Int) := fun hw i j h1 h2 hj h3 k hk => by
    have c := C2 i h1 h2
    refine ⟨c.2.2.2.2.2 _ (by omega), ?_⟩
    have := worldOk_last (fun k hk => by have := C2 k (by omega) (by omega); exact this.2.2.2.2.1) hw i.toNat (by omega) (by omega)
    rw [show k.toNat = (a0.getD i.toNat zCh).knows.length - 1 by omega, show j.toNat = 1 - i.toNat by omega]
    exact this
  dsimp only [Zav]
  refine May.lp (B.or (B.not (Iff.rfl)) (B.not (in_iff))) fun x1 e1 => May.lwi fun x2 e2 => May.chk (fun hπ => have g1 := B.neg (e1) hπ.1; ?_) fun c1 => May.lp (B.or (e1) (B.eq)) fun x3 e3 => May.iff (e3) (fun h1 => ?_) (fun h1 => ?_); rotate_left 1
  refine May.ret ⟨?_, trivial⟩; rotate_left 1
  refine May.chk ?_ fun c2 => May.lw ⟨?_, ?_⟩ fun x4 e4 => May.chk ?_ fun c3 => May.lw ⟨?_, ?_⟩ fun x5 e5 => have W3 := W2 (by grind) x2 x5 (by omega) (by omega) (by grind) (by grind) x4 (by omega); have W4 := (C2 x5 (by grind) (by grind)).2.2.1; May.chk ?_ fun c4 => May.lw ⟨?_, ?_⟩ fun x6 e6 => ?_; rotate_left 9
  refine May.chk ?_ fun c5 => May.loop ⟨?_, ?_, ?_, ?_, ?_, ?_, trivial⟩ fun x11 q11 => have q11 := q11.1; May.loop ⟨?_, ?_, ?_, ?_, ?_, ?_, ?_, ?_, trivial⟩ fun x20 q20 => have q20 := q20.1; May.ret ⟨?_, trivial⟩
  all_goals try dsimp only
  all_goals first | with_reducible assumption | omega | (exact C2 _ (by omega) (by omega); done) | (have := (C2 x2 (by grind) (by grind)).2.2.2.2.1; grind; done) | (have := (C2 x5 (by omega) (by omega)).2.2.1; omega; done) | (have := (sin_get (C2 x5 (by omega) (by omega)) (i := x6) (by omega) (by omega)).1; omega; done) | (have := (C2 x2 (by omega) (by omega)).2.1.1; omega; done) | (exact sin_get (C2 x5 (by omega) (by omega)) (by omega) (by omega); done) | rfl | assumption | (simp only [List.length_append, List.length_cons, List.length_nil, List.length_set, List.length_replicate, Int.natCast_add, Int.natCast_one] at *; omega) | grind
abbrev Zav.S := Classical.choose Zav.X
def Zav.c : Ctr := fc 136 [true, false] Zav.L Zav Zav.S
theorem Zav.good : Good Try.prog Zav.c := mkFG (fn := Try.f136) {LL := [Zaw.k, Zax.k], sh := [[some (.ev, 153)]]} Zav.X Zav.G (by kernel_rfl) (by kernel_rfl) (lG (by kernel_rfl) (consL (by kernel_rfl) Zaw.g (consL (by kernel_rfl) Zax.g (noL rfl)))) (c0 (by kernel_rfl)) fun s K => by kernel_rfl
end
end Hw
end Go.Proofs.Ytceihgojdnkfiaa
