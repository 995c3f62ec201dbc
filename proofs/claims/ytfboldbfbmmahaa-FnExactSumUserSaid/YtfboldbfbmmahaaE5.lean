/- Draws, 6: made by gen.py. -/
import Derived.Test.YtfboldbfbmmahaaE4
set_option linter.unusedVariables false
set_option linter.unusedSimpArgs false
set_option maxRecDepth 100000
set_option maxHeartbeats 400000
namespace Go.Proofs.Ytfboldbfbmmahaa
namespace Hw
open Go
noncomputable section
attribute [local irreducible] evFn evBody wrap wxor
theorem nn {p : Prop} (h : ¬¬p) : p := Classical.byContradiction h
def St.lt (s : St) : Prop := s.sent.length ≤ 1000000 ∧ s.live.length ≤ 1000000 ∧ s.back.length ≤ 1000000 ∧ s.got.length ≤ 1000000
def Ch.lt (c : Ch) : Prop := (c.bank.own.length ≤ 1000000 ∧ c.bank.notes.length ≤ 1000000 ∧ inI c.bank.locked) ∧ c.st.lt ∧ (c.past.length ≤ 1000000 ∧ ∀ k, (c.past.getD k zSt).lt) ∧ c.knows.length ≤ 1000000
theorem sin_lt {s : St} (h : SIn s) : s.lt := by
  unfold SIn at h
  unfold St.lt
  omega
theorem st_fact {s : St} (h : s.lt) : s.fact := by
  unfold St.lt at h
  unfold St.fact big
  omega
theorem lt_fact {c : Ch} (h : c.lt) : c.fact := by
  obtain ⟨⟨b1, b2, b3⟩, s, ⟨p1, p2⟩, k⟩ := h
  refine ⟨⟨by unfold big; omega, by unfold big; omega⟩, st_fact s, ⟨by unfold big; omega, fun x hx => ?_⟩, by unfold big; omega⟩
  obtain ⟨i, hi, rfl⟩ := List.getElem_of_mem hx
  have := p2 i
  rw [List.getD_eq_getElem?_getD, List.getElem?_eq_getElem hi] at this
  exact st_fact this
theorem specChL {c : Ch} (h : c.lt) : ZV.S c = true ↔ ChOk c := specCh (lt_fact h) h.1.2.2
def Ch.rng (c : Ch) : Prop := inI c.bank.locked
def chsRng (l : List Ch) : Prop := ∀ k, k < l.length → (l.getD k zCh).rng
def EndOk (l : List Ch) (k : Nat) : Prop := ChOk (l.getD k zCh) ∧ (l.getD k zCh).id = k + 1 ∧ (0 < (l.getD k zCh).knows.length → (l.getD k zCh).knows.getD ((l.getD k zCh).knows.length - 1) 0 ≤ ((l.getD (1 - k) zCh).past.length : Int))
def WOk (l : List Ch) : Prop := l.length = 2 ∧ ∀ k, k < 2 → EndOk l k
theorem toNat_sub (k : Nat) (hk : k < 2) : (1 - (k : Int)).toNat = 1 - k := by omega
theorem specW {l : List Ch} (hf : chsFact l) (hr : chsRng l) : Z0.S l = true ↔ WOk l := by
  by_cases hl : l.length = 2
  · have e : (Nat.beq (ZZ.R l false 0).1 0 = true ∧ (ZZ.R l false 0).2.1 = false ∧ ¬ ∀ k, k < 2 → EndOk l k) ∨ (Nat.beq (ZZ.R l false 0).1 0 = false ∧ ∀ k, k < 2 → EndOk l k) := by
      rcases ZZ.law l false () 2 rfl (by decide) with ⟨h1, h2⟩ | ⟨k, r, hk, h1, -, h2⟩
      · rw [h2]
        refine .inr ⟨rfl, fun k hk => ?_⟩
        have h3 := h1 k hk
        have hk' : ((l.getD k zCh).knows.length : Int) ≤ 9223372036854775807 := (chs_get hf k).2.2.2
        have hc := specCh (chs_get hf k) (hr k (by omega))
        simp only [ZZ.E, E_none, reduceCtorEq, and_false, false_or, and_true] at h3
        rw [wrap_id (n := (k : Int) + 1) (by omega) (by omega), wrap_id (n := 1 - (k : Int)) (by omega) (by omega), wrap_id (n := ((l.getD k zCh).knows.length : Int) - 1) (by omega) (by omega), toNat_sub k hk,
          show (((l.getD k zCh).knows.length : Int) - 1).toNat = (l.getD k zCh).knows.length - 1 by omega] at h3
        unfold EndOk
        generalize (l.getD k zCh).knows.getD ((l.getD k zCh).knows.length - 1) 0 = q at *
        grind
      · rw [h2]
        have hk' : ((l.getD k zCh).knows.length : Int) ≤ 9223372036854775807 := (chs_get hf k).2.2.2
        have hc := specCh (chs_get hf k) (hr k (by omega))
        simp only [ZZ.E, E_some, reduceCtorEq, and_false, or_false, Option.some.injEq] at h1
        obtain ⟨h3, rfl⟩ := h1
        refine .inl ⟨rfl, rfl, fun h => ?_⟩
        have h4 := h k hk
        unfold EndOk at h4
        rw [wrap_id (n := (k : Int) + 1) (by omega) (by omega), wrap_id (n := 1 - (k : Int)) (by omega) (by omega), wrap_id (n := ((l.getD k zCh).knows.length : Int) - 1) (by omega) (by omega), toNat_sub k hk,
          show (((l.getD k zCh).knows.length : Int) - 1).toNat = (l.getD k zCh).knows.length - 1 by omega] at h3
        generalize (l.getD k zCh).knows.getD ((l.getD k zCh).knows.length - 1) 0 = q at *
        grind
    unfold Z0.S WOk
    rw [show ((l.length : Int) != 2) = false by simp [hl]]
    rw [cond_false, loopB e]
    simp [hl]
  · unfold Z0.S WOk
    rw [show ((l.length : Int) != 2) = true by simp; omega]
    simp [hl]
theorem zst_lt' : zSt.lt := ⟨by decide, by decide, by decide, by decide⟩
theorem cin_lt {c : Ch} (h : CIn c) : c.lt := by
  obtain ⟨⟨b1, b2, b3⟩, s, k1, k2, k3, _⟩ := h
  refine ⟨⟨by omega, by omega, b3⟩, sin_lt s, ⟨by omega, fun k => ?_⟩, k3⟩
  rcases Nat.lt_or_ge k c.past.length with h | h
  · exact sin_lt (k2 k h)
  · rw [getD_ge h]
    exact zst_lt'
theorem chOk_in {c : Ch} (h : ChOk c) (hl : c.lt) : CIn c := by
  obtain ⟨h1, ⟨⟨b1, _⟩, ⟨b2, _⟩, b3, b4, b5⟩, h3, h4, h5, h6⟩ := h
  exact ⟨⟨b1, b2, hl.1.2.2⟩, stOk_in h3, h4, fun k hk => stOk_in (h5 k hk), hl.2.2.2, fun k hk => (h6 k hk).1.1⟩
theorem chs_lt {l : List Ch} (hl : l.length ≤ 2) (h : ∀ k, (l.getD k zCh).lt) : chsFact l ∧ chsRng l := by
  refine ⟨⟨by unfold big; omega, fun c hc => ?_⟩, fun k _ => (h k).1.2.2⟩
  obtain ⟨i, hi, rfl⟩ := List.getElem_of_mem hc
  have := h i
  rw [List.getD_eq_getElem?_getD, List.getElem?_eq_getElem hi] at this
  exact lt_fact this
theorem specWL {l : List Ch} (hl : l.length ≤ 2) (h : ∀ k, (l.getD k zCh).lt) : Z0.S l = true ↔ WOk l := specW (chs_lt hl h).1 (chs_lt hl h).2
theorem two_lt {l : List Ch} (hl : l.length = 2) (h0 : CIn (l.getD 0 zCh)) (h1 : CIn (l.getD 1 zCh)) : ∀ k, (l.getD k zCh).lt := fun k => by
  match k with
  | 0 => exact cin_lt h0
  | 1 => exact cin_lt h1
  | k + 2 =>
    rw [getD_ge (by omega)]
    exact ⟨⟨by decide, by decide, by decide, by decide⟩, zst_lt', ⟨by decide, fun k => by rw [getD_ge (Nat.zero_le k)]; exact zst_lt'⟩, by decide⟩
def PlanH (l : List Ev) (h : Int) : Prop := ∀ k, k < l.length → (l.getD k zEv).height = h
theorem planH_nil {h : Int} : PlanH [] h := fun k hk => absurd hk (Nat.not_lt_zero k)
theorem planH_app {l : List Ev} {e : Ev} {h : Int} (p : PlanH l h) (he : e.height = h) : PlanH (l ++ [e]) h := fun k hk => by
  rw [List.length_append, List.length_singleton] at hk
  rcases Nat.lt_or_ge k l.length with g | g
  · rw [getD_lt g]
    exact p k g
  · rw [show k = l.length by omega, getD_at rfl]
    exact he
abbrev PlanQ (w : List Ch) (n : Int) (l : List Ev) : Prop := ∀ k, k < l.length → WOk w ∧ (1 ≤ n ∧ n ≤ 2) ∧ 1 ≤ (l.getD k zEv).height ∧ (l.getD k zEv).height ≤ ((w.getD (2 - n).toNat zCh).past.length : Int)
theorem planQ_nil {w : List Ch} {n : Int} : PlanQ w n [] := fun k hk => absurd hk (Nat.not_lt_zero k)
theorem planQ_of {w : List Ch} {n h : Int} {l : List Ev} (hw : WOk w) (hn : 1 ≤ n ∧ n ≤ 2) (hh : 1 ≤ h ∧ h ≤ ((w.getD (2 - n).toNat zCh).past.length : Int)) (p : PlanH l h) : PlanQ w n l := fun k hk => by
  rw [p k hk]
  exact ⟨hw, hn, hh⟩

theorem Zav.G : GG [Z0.c, Zi.c, Zm.c, Zak.c, Zam.c, Zan.c] := (consG Z0.good (consG Zi.good (consG Zm.good (consG Zak.good (consG Zam.good (consG Zan.good noG))))))
def Zaw.L : FL := fCons (fC cInt) (fCons (fC (cOwn kEvs 130)) (fCons (fC (cPtr 1 (cChE false) rfl)) (fCons (fC cInt) (fCons (fC (cPtr 1 (cStE false) rfl)) (fCons (fC cInt) (fNil))))))
def Zaw : Int × List Ev × Ch × Int × St × Int × Unit → LR (Int × List Ev × Ch × Int × St × Int × Unit) (Nat × (List Ev) × Unit) := fun (y0, y1, y2, y3, y4, y5, ()) => ⟨(0 ≤ y5) ∧ ((y4.sent.length : Int) ≤ 9223372036854775807) ∧ (CIn y2) ∧ (SIn y4) ∧ ((y1.length : Int) ≤ y5) ∧ (y5 ≤ (y4.sent.length : Int)) ∧ (PlanH y1 y3) ∧ True, ((y4.sent.length : Int) - y5).toNat, fun X => And (Imp ((decide (y5 < (y4.sent.length : Int))) = true) (Call Zm.X (y2, ()) fun x7 => And ((0 : Int) ≤ y5 ∧ y5 < (y4.sent.length : Int)) (Call Zak.X (x7, y4, (y4.sent.getD (y5).toNat zPkt), ()) fun x8 => And (Imp (x8.2 = true) (And ((0 : Int) ≤ y5 ∧ y5 < (y4.sent.length : Int)) (And ((y1 ++ ([(⟨4, y0, y3, 0, (y4.sent.getD (y5).toNat zPkt)⟩ : Ev)])).length ≤ 4294967296) (Lt (wrap (y5 + 1)) fun x9 => X (.inl (y0, (y1 ++ ([(⟨4, y0, y3, 0, (y4.sent.getD (y5).toNat zPkt)⟩ : Ev)])), y2, y3, y4, x9, ())))))) (Imp (x8.2 = false) (Lt (wrap (y5 + 1)) fun x10 => X (.inl (y0, y1, y2, y3, y4, x10, ()))))))) (Imp ((decide (y5 < (y4.sent.length : Int))) = false) (X (.inr (0, y1, ())))), fun r => (r.2.1.length ≤ 8) ∧ (PlanH r.2.1 y3) ∧ True, fun r => [], fun r => (.exit 0, [.c (.int y0), .c (.own 0 11 130), .c (.ptr 1 0), .c (.int y3), .c (.ptr 2 0)], [.arr (.evs r.2.1), .raw 1 [.int y2.id, .arr false (.ints y2.bank.own), .arr false (.ints y2.bank.notes), .int y2.bank.locked, .int y2.st.way, .int y2.st.ver, .int y2.st.want, .arr false (.pkts y2.st.sent), .arr false (.bools y2.st.live), .arr false (.bools y2.st.back), .arr false (.ints y2.st.got), .arr false (.sts y2.past), .arr false (.ints y2.knows)], .raw 1 [.int y4.way, .int y4.ver, .int y4.want, .arr false (.pkts y4.sent), .arr false (.bools y4.live), .arr false (.bools y4.back), .arr false (.ints y4.got)]])⟩
theorem Zaw.X : XL Zaw := mkL (0, [], ()) fun (y0, y1, y2, y3, y4, y5, ()) hp => by
  obtain ⟨p0, p1, p2, p3, p4, p5, p6, -⟩ := hp
  obtain ⟨p31, p32, p33, p34, p35⟩ := id p3
  unfold ML; dsimp only [Zaw]
  refine May.iff (B.dec) (fun h1 => ?_) (fun h1 => ?_)
  refine May.call ⟨?_, trivial⟩ fun x7 q7 => have q7 := q7.1; May.chk ?_ fun c1 => May.call ⟨?_, ?_, ?_, trivial⟩ fun x8 q8 => have q8_0 := q8.1; have q8_1 := q8.2.1; have q8_2 := q8.2.2.1; May.iff (Iff.rfl) (fun h2 => ?_) (fun h2 => ?_); rotate_left 5
  refine May.chk ?_ fun c2 => May.chk ?_ fun c3 => May.lw ⟨?_, ?_⟩ fun x9 e9 => May.nx ⟨?_, ?_, ?_, ?_, ?_, ?_, ?_, trivial⟩ ?_ ?_ fun r => rfl; rotate_left 13
  refine May.lw ⟨?_, ?_⟩ fun x10 e10 => May.nx ⟨?_, ?_, ?_, ?_, ?_, ?_, ?_, trivial⟩ ?_ ?_ fun r => rfl; rotate_left 11
  refine May.ex ⟨?_, ?_, trivial⟩
  all_goals try dsimp only [Zaw]
  all_goals first | with_reducible assumption | omega | exact fun _ q => q | (exact C2 hw _ (by omega) (by omega); done) | ((have := W1 hw; omega); done) | (exact sin_get (C2 hw x5 (by omega) (by omega)) (by omega) (by omega); done) | (exact planH_nil; done) | (exact planQ_nil; done) | (exact planQ_of (W0.1 hw) hn (by rw [← e5]; exact W3) q20_1; done) | ((have := W1 (nn fun g => h1 (.inl (.inl g))); have := nn fun g => h1 (.inl (.inr g)); omega); done) | ((have := W1 (nn fun g => g1 (.inl g)); have := nn fun g => g1 (.inr g); omega); done) | ((have := (C2 (nn fun g => h1 (.inl (.inl g))) x2 (by have := nn fun g => h1 (.inl (.inr g)); omega) (by have := nn fun g => h1 (.inl (.inr g)); omega)).2.2.2.2.1; omega); done) | ((have := (sin_get (C2 hw x5 (by omega) (by omega)) (i := x6) (by omega) (by omega)).1; omega); done) | ((have := (C2 hw x2 (by omega) (by omega)).2.1.1; omega); done) | ((simp only [List.length_nil]; omega); done) | (exact Nat.zero_le _; done) | (exact cin_sm p2; done) | (rw [q7]; exact p2; done) | (exact pin_get p3 (by omega) (by omega); done) | (exact planH_app p6 rfl; done) | ((simp only [List.length_append, List.length_singleton, Int.natCast_add, Int.natCast_one]; omega); done) | ((rw [e15]; simp only [List.length_append, List.length_singleton, Int.natCast_add, Int.natCast_one]; omega); done)
abbrev Zaw.R := Classical.choose Zaw.X
def Zaw.k : LCtr := (ld 8 [1, 5, 6, 7, 8, 9] [] Zaw.L Zaw 0 (fun _ => [1, 5, 6, 7, 8]) (fun _ => []) Zaw.R).ctr
theorem Zaw.g : LGood Try.prog Try.f106.ntmps Zaw.k (bodyAt Try.f106 0) := mkLG {} Zaw.X Zav.G (by kernel_rfl) (l0 (by kernel_rfl)) (c0 (by kernel_rfl)) fun S s => by kernel_rfl
def Zax.L : FL := fCons (fC cInt) (fCons (fC (cOwn kEvs 130)) (fCons (fC (cPtr 1 (cChE false) rfl)) (fCons (fC cInt) (fCons (fC (cPtr 1 (cStE false) rfl)) (fCons (fC cInt) (fNil))))))
def Zax : Int × List Ev × Ch × Int × St × Int × Unit → LR (Int × List Ev × Ch × Int × St × Int × Unit) (Nat × (List Ev) × Unit) := fun (y0, y1, y2, y3, y4, y5, ()) => ⟨(0 ≤ y5) ∧ ((y2.st.sent.length : Int) ≤ 9223372036854775807) ∧ (CIn y2) ∧ (SIn y4) ∧ ((y1.length : Int) ≤ 8 + 2 * y5) ∧ (1 ≤ y5) ∧ ((y1.length : Int) + 2 ≤ 8 + 2 * y5) ∧ (y5 ≤ (y2.st.sent.length : Int) + 1) ∧ (PlanH y1 y3) ∧ True, ((y2.st.sent.length : Int) + 1 - y5).toNat, fun X => And (Imp ((decide (y5 ≤ (y2.st.sent.length : Int))) = true) (Call Zm.X (y2, ()) fun x12 => Call Zam.X (x12, y4, y5, ()) fun x13 => And ((Zm (y2, ())).P) (Call Zan.X (x12, y4, y3, y5, ()) fun x14 => And (Imp (x13.2 = true) (And ((y1 ++ ([(⟨5, y0, y3, y5, (⟨0, 0, 0, 0, 0, 0, 0⟩ : Pkt)⟩ : Ev)])).length ≤ 4294967296) (And (Imp (x14.2 = true) (And (((y1 ++ ([(⟨5, y0, y3, y5, (⟨0, 0, 0, 0, 0, 0, 0⟩ : Pkt)⟩ : Ev)])) ++ ([(⟨6, y0, y3, y5, (⟨0, 0, 0, 0, 0, 0, 0⟩ : Pkt)⟩ : Ev)])).length ≤ 4294967296) (Lt (((y1 ++ ([(⟨5, y0, y3, y5, (⟨0, 0, 0, 0, 0, 0, 0⟩ : Pkt)⟩ : Ev)])) ++ ([(⟨6, y0, y3, y5, (⟨0, 0, 0, 0, 0, 0, 0⟩ : Pkt)⟩ : Ev)]))) fun x15 => Lt (wrap (y5 + 1)) fun x16 => X (.inl (y0, x15, y2, y3, y4, x16, ()))))) (Imp (x14.2 = false) (Lt (wrap (y5 + 1)) fun x17 => X (.inl (y0, (y1 ++ ([(⟨5, y0, y3, y5, (⟨0, 0, 0, 0, 0, 0, 0⟩ : Pkt)⟩ : Ev)])), y2, y3, y4, x17, ()))))))) (Imp (x13.2 = false) (And (Imp (x14.2 = true) (And ((y1 ++ ([(⟨6, y0, y3, y5, (⟨0, 0, 0, 0, 0, 0, 0⟩ : Pkt)⟩ : Ev)])).length ≤ 4294967296) (Lt (wrap (y5 + 1)) fun x18 => X (.inl (y0, (y1 ++ ([(⟨6, y0, y3, y5, (⟨0, 0, 0, 0, 0, 0, 0⟩ : Pkt)⟩ : Ev)])), y2, y3, y4, x18, ()))))) (Imp (x14.2 = false) (Lt (wrap (y5 + 1)) fun x19 => X (.inl (y0, y1, y2, y3, y4, x19, ()))))))))) (Imp ((decide (y5 ≤ (y2.st.sent.length : Int))) = false) (X (.inr (0, y1, ())))), fun r => (r.2.1.length ≤ 24) ∧ (PlanH r.2.1 y3) ∧ True, fun r => [], fun r => (.exit 2, [.c (.own 0 11 130)], [.arr (.evs r.2.1)])⟩
theorem Zax.X : XL Zax := mkL (0, [], ()) fun (y0, y1, y2, y3, y4, y5, ()) hp => by
  obtain ⟨p0, p1, p2, p3, p4, p5, p6, p7, p8, -⟩ := hp
  obtain ⟨p2b, p2s, p2l, p2p, p2k, p2q⟩ := id p2
  obtain ⟨p2s1, p2s2, p2s3, p2s4, p2s5⟩ := id p2s
  unfold ML; dsimp only [Zax]
  refine May.iff (B.dec) (fun h1 => ?_) (fun h1 => ?_)
  refine May.call ⟨?_, trivial⟩ fun x12 q12 => have q12 := q12.1; May.call ⟨?_, ?_, trivial⟩ fun x13 q13 => have q13_0 := q13.1; have q13_1 := q13.2.1; have q13_2 := q13.2.2.1; May.chk ⟨?_, trivial⟩ fun c1 => May.call ⟨?_, ?_, trivial⟩ fun x14 q14 => have q14_0 := q14.1; have q14_1 := q14.2.1; have q14_2 := q14.2.2.1; May.iff (Iff.rfl) (fun h2 => ?_) (fun h2 => ?_); rotate_left 6
  refine May.chk ?_ fun c2 => May.iff (Iff.rfl) (fun h3 => ?_) (fun h3 => ?_); rotate_left 1
  refine May.chk ?_ fun c3 => May.lt fun x15 e15 => May.lw ⟨?_, ?_⟩ fun x16 e16 => May.nx ⟨?_, ?_, ?_, ?_, ?_, ?_, ?_, ?_, ?_, trivial⟩ ?_ ?_ fun r => rfl; rotate_left 14
  refine May.lw ⟨?_, ?_⟩ fun x17 e17 => May.nx ⟨?_, ?_, ?_, ?_, ?_, ?_, ?_, ?_, ?_, trivial⟩ ?_ ?_ fun r => rfl; rotate_left 13
  refine May.iff (Iff.rfl) (fun h3 => ?_) (fun h3 => ?_)
  refine May.chk ?_ fun c4 => May.lw ⟨?_, ?_⟩ fun x18 e18 => May.nx ⟨?_, ?_, ?_, ?_, ?_, ?_, ?_, ?_, ?_, trivial⟩ ?_ ?_ fun r => rfl; rotate_left 14
  refine May.lw ⟨?_, ?_⟩ fun x19 e19 => May.nx ⟨?_, ?_, ?_, ?_, ?_, ?_, ?_, ?_, ?_, trivial⟩ ?_ ?_ fun r => rfl; rotate_left 13
  refine May.ex ⟨?_, ?_, trivial⟩
  all_goals try dsimp only [Zax]
  all_goals first | with_reducible assumption | omega | exact fun _ q => q | (exact C2 hw _ (by omega) (by omega); done) | ((have := W1 hw; omega); done) | (exact sin_get (C2 hw x5 (by omega) (by omega)) (by omega) (by omega); done) | (exact planH_nil; done) | (exact planQ_nil; done) | (exact planQ_of (W0.1 hw) hn (by rw [← e5]; exact W3) q20_1; done) | ((have := W1 (nn fun g => h1 (.inl (.inl g))); have := nn fun g => h1 (.inl (.inr g)); omega); done) | ((have := W1 (nn fun g => g1 (.inl g)); have := nn fun g => g1 (.inr g); omega); done) | ((have := (C2 (nn fun g => h1 (.inl (.inl g))) x2 (by have := nn fun g => h1 (.inl (.inr g)); omega) (by have := nn fun g => h1 (.inl (.inr g)); omega)).2.2.2.2.1; omega); done) | ((have := (sin_get (C2 hw x5 (by omega) (by omega)) (i := x6) (by omega) (by omega)).1; omega); done) | ((have := (C2 hw x2 (by omega) (by omega)).2.1.1; omega); done) | ((simp only [List.length_nil]; omega); done) | (exact Nat.zero_le _; done) | (exact cin_sm p2; done) | (rw [q12]; exact p2; done) | (exact planH_app p8 rfl; done) | ((rw [e15]; exact planH_app (planH_app p8 rfl) rfl); done) | ((simp only [List.length_append, List.length_singleton, Int.natCast_add, Int.natCast_one]; omega); done) | ((rw [e15]; simp only [List.length_append, List.length_singleton, Int.natCast_add, Int.natCast_one]; omega); done)
abbrev Zax.R := Classical.choose Zax.X
def Zax.k : LCtr := (ld 14 [1, 5, 6, 7, 8, 12] [] Zax.L Zax 0 (fun _ => [5]) (fun _ => []) Zax.R).ctr
theorem Zax.g : LGood Try.prog Try.f106.ntmps Zax.k (bodyAt Try.f106 1) := mkLG {} Zax.X Zav.G (by kernel_rfl) (l0 (by kernel_rfl)) (c0 (by kernel_rfl)) fun S s => by kernel_rfl
def Zav.L : FL := fCons (fSh sW) (fCons (fSh sInt) (fNil))
def Zav : List Ch × Int × Unit → FR ((List Ev)) := fun (a0, a1, ()) => ⟨(a0.length ≤ 2) ∧ (∀ k, (a0.getD k zCh).lt) ∧ True, fun X => Lt (bif !(Z0.S a0) then true else !(Zi.S a1 1 2)) fun x1 => Lt (wrap (a1 - 1)) fun x2 => And (Imp (And (x1 = false) (True)) ((0 : Int) ≤ x2 ∧ x2 < (a0.length : Int))) (Lt (bif x1 then true else ((a0.getD (x2).toNat zCh).knows.length : Int) == 0) fun x3 => And (Imp (x3 = true) (X [])) (Imp (x3 = false) (And ((0 : Int) ≤ x2 ∧ x2 < (a0.length : Int)) (Lt (wrap (((a0.getD (x2).toNat zCh).knows.length : Int) - 1)) fun x4 => And ((0 : Int) ≤ x4 ∧ x4 < ((a0.getD (x2).toNat zCh).knows.length : Int)) (Lt (wrap (2 - a1)) fun x5 => And ((0 : Int) ≤ x5 ∧ x5 < (a0.length : Int)) (Lt (wrap (((a0.getD (x2).toNat zCh).knows.getD (x4).toNat 0) - 1)) fun x6 => And ((0 : Int) ≤ x6 ∧ x6 < ((a0.getD (x5).toNat zCh).past.length : Int)) (CallL Zaw.X (a1, [], (a0.getD (x2).toNat zCh), (a0.getD (x2).toNat zCh).knows.getD (x4).toNat 0, ((a0.getD (x5).toNat zCh).past.getD (x6).toNat zSt), 0, ()) fun x11 => CallL Zax.X (a1, x11.2.1, (a0.getD (x2).toNat zCh), ((a0.getD (x2).toNat zCh).knows.getD (x4).toNat 0), ((a0.getD (x5).toNat zCh).past.getD (x6).toNat zSt), 1, ()) fun x20 => X x20.2.1))))))), fun r => (r.length ≤ 24) ∧ (PlanQ a0 a1 r) ∧ True, fun r => (.v (.c (.own 0 11 130)), [.arr (.evs r)])⟩
theorem Zav.X : XF Zav := mkF ([]) fun (a0, a1, ()) hp => by
  obtain ⟨p0, p1, -⟩ := hp
  have W0 := specWL p0 p1
  have C2 : Z0.S a0 = true → ∀ i : Int, 0 ≤ i → i ≤ 1 → CIn (a0.getD i.toNat zCh) := fun hw i h1 h2 => chOk_in ((W0.1 hw).2 i.toNat (by omega)).1 (p1 _)
  have W1 : Z0.S a0 = true → a0.length = 2 := fun hw => (W0.1 hw).1
  have W2 : Z0.S a0 = true → ∀ i j : Int, 0 ≤ i → i ≤ 1 → j = 1 - i → ¬ ((a0.getD i.toNat zCh).knows.length : Int) = 0 → ∀ k : Int, k = ((a0.getD i.toNat zCh).knows.length : Int) - 1 → 1 ≤ (a0.getD i.toNat zCh).knows.getD k.toNat 0 ∧ (a0.getD i.toNat zCh).knows.getD k.toNat 0 ≤ ((a0.getD j.toNat zCh).past.length : Int) := fun hw i j h1 h2 hj h3 k hk => by
    have c := C2 hw i h1 h2
    refine ⟨c.2.2.2.2.2 _ (by omega), ?_⟩
    have := ((W0.1 hw).2 i.toNat (by omega)).2.2 (by omega)
    rw [show k.toNat = (a0.getD i.toNat zCh).knows.length - 1 by omega, show j.toNat = 1 - i.toNat by omega]
    exact this
  dsimp only [Zav]
  refine May.lp (B.or (B.not (Iff.rfl)) (B.not (in_iff))) fun x1 e1 => May.lwi fun x2 e2 => May.chk (fun hπ => have g1 := B.neg (e1) hπ.1; ?_) fun c1 => May.lp (B.or (e1) (B.eq)) fun x3 e3 => May.iff (e3) (fun h1 => ?_) (fun h1 => ?_); rotate_left 1
  refine May.ret ⟨?_, ?_, trivial⟩; rotate_left 2
  refine May.chk ?_ fun c2 => May.lw ⟨?_, ?_⟩ fun x4 e4 => May.chk ?_ fun c3 => May.lw ⟨?_, ?_⟩ fun x5 e5 => have hw := nn fun g => h1 (.inl (.inl g)); have hn := nn fun g => h1 (.inl (.inr g)); have W3 := W2 hw x2 x5 (by omega) (by omega) (by omega) (fun g => h1 (.inr g)) x4 (by omega); have W4 := (C2 hw x5 (by omega) (by omega)).2.2.1; May.chk ?_ fun c4 => May.lw ⟨?_, ?_⟩ fun x6 e6 => ?_; rotate_left 9
  refine May.chk ?_ fun c5 => May.loop ⟨?_, ?_, ?_, ?_, ?_, ?_, ?_, trivial⟩ fun x11 q11 => have q11_0 := q11.1; have q11_1 := q11.2.1; May.loop ⟨?_, ?_, ?_, ?_, ?_, ?_, ?_, ?_, ?_, trivial⟩ fun x20 q20 => have q20_0 := q20.1; have q20_1 := q20.2.1; May.ret ⟨?_, ?_, trivial⟩
  all_goals try dsimp only
  all_goals first | with_reducible assumption | omega | (exact C2 hw _ (by omega) (by omega); done) | ((have := W1 hw; omega); done) | (exact sin_get (C2 hw x5 (by omega) (by omega)) (by omega) (by omega); done) | (exact planH_nil; done) | (exact planQ_nil; done) | (exact planQ_of (W0.1 hw) hn (by rw [← e5]; exact W3) q20_1; done) | ((have := W1 (nn fun g => h1 (.inl (.inl g))); have := nn fun g => h1 (.inl (.inr g)); omega); done) | ((have := W1 (nn fun g => g1 (.inl g)); have := nn fun g => g1 (.inr g); omega); done) | ((have := (C2 (nn fun g => h1 (.inl (.inl g))) x2 (by have := nn fun g => h1 (.inl (.inr g)); omega) (by have := nn fun g => h1 (.inl (.inr g)); omega)).2.2.2.2.1; omega); done) | ((have := (sin_get (C2 hw x5 (by omega) (by omega)) (i := x6) (by omega) (by omega)).1; omega); done) | ((have := (C2 hw x2 (by omega) (by omega)).2.1.1; omega); done) | ((simp only [List.length_nil]; omega); done) | (exact Nat.zero_le _; done)
abbrev Zav.S := Classical.choose Zav.X
def Zav.c : Ctr := fc 106 [true, false] Zav.L Zav Zav.S
theorem Zav.good : Good Try.prog Zav.c := mkFG (fn := Try.f106) {LL := [Zaw.k, Zax.k], sh := [[some (.ev, 130)]]} Zav.X Zav.G (by kernel_rfl) (by kernel_rfl) (lG (by kernel_rfl) (consL (by kernel_rfl) Zaw.g (consL (by kernel_rfl) Zax.g (noL rfl)))) (c0 (by kernel_rfl)) fun s K => by kernel_rfl
end
end Hw
end Go.Proofs.Ytfboldbfbmmahaa
