/- Draws, 1: made by gen.py. -/
import Derived.Test.YtmhighcagpbmeaaZ0
import Derived.Test.YtmhighcagpbmeaaX27
set_option linter.unusedVariables false
set_option linter.unusedSimpArgs false
set_option maxRecDepth 100000
set_option maxHeartbeats 400000
namespace Go.Proofs.Ytmhighcagpbmeaa
namespace Hw
open Go
attribute [local irreducible] evFn evBody wrap wxor
def PIn (p : Pkt) : Prop := (1 ≤ p.frm ∧ p.frm ≤ 3) ∧ (0 ≤ p.to ∧ p.to ≤ 3)
def SIn (s : St) : Prop := s.sent.length ≤ 8 ∧ s.live.length = s.sent.length ∧ s.back.length = s.sent.length ∧ s.got.length = 8 ∧ ∀ k, k < s.sent.length → PIn (s.sent.getD k zPkt)
def BIn (b : Bk) : Prop := b.own.length = 3 ∧ b.notes.length = 3
def CIn (c : Ch) : Prop := BIn c.bank ∧ SIn c.st ∧ c.past.length ≤ 90 ∧ (∀ k, k < c.past.length → SIn (c.past.getD k zSt)) ∧ c.knows.length ≤ 1000000 ∧ ∀ k, k < c.knows.length → 1 ≤ c.knows.getD k 0
theorem user_iff {n : Int} : spec_l1User.S n = true ↔ 1 ≤ n ∧ n ≤ 3 := in_iff
/-- A code that a reader has. -/
def BY (l : List Int) : Prop := l.length ≤ 2000 ∧ ∀ k, 0 ≤ l.getD k 0 ∧ l.getD k 0 ≤ 255
theorem u8_rng {l : List Int} {k : Nat} (h : BY l) : 0 ≤ wrap (l.getD k 0) ∧ wrap (l.getD k 0) ≤ 255 := by
  have := h.2 k
  rw [wrap_id (by omega) (by omega)]
  exact this
theorem by_all {l : List Int} (h : ∀ k, 0 ≤ l.getD k 0 ∧ l.getD k 0 ≤ 255) (hl : l.length ≤ 2000) : BY l := ⟨hl, h⟩
theorem getD_take {l : List Int} {n k : Nat} : (l.take n).getD k 0 = if k < n then l.getD k 0 else 0 := by
  simp only [List.getD_eq_getElem?_getD, List.getElem?_take]
  split <;> simp
theorem by_take {l : List Int} (h : ∀ k, 0 ≤ l.getD k 0 ∧ l.getD k 0 ≤ 255) : BY ((l.take 2000).drop 0) := by
  rw [List.drop_zero]
  refine ⟨List.length_take_le _ _, fun k => ?_⟩
  rw [getD_take]
  split
  · exact h k
  · omega
theorem wrap_nat {n : Nat} (h : n < 2 ^ 63) : wrap (n : Int) = n := wrap_id (by omega) (by omega)
theorem wxor_nn {a b : Int} (ha : 0 ≤ a) (ha' : a < 9223372036854775808) (hb : 0 ≤ b) (hb' : b < 9223372036854775808) : 0 ≤ wxor a b := by
  obtain ⟨x, rfl⟩ := Int.eq_ofNat_of_zero_le ha
  obtain ⟨y, rfl⟩ := Int.eq_ofNat_of_zero_le hb
  unfold wxor
  rw [show BitVec.ofInt 64 (x : Int) = BitVec.ofNat 64 x from by simp, show BitVec.ofInt 64 (y : Int) = BitVec.ofNat 64 y from by simp, BitVec.toNat_xor, BitVec.toNat_ofNat, BitVec.toNat_ofNat, Nat.mod_eq_of_lt (by omega), Nat.mod_eq_of_lt (by omega)]
  have hx : x < 2 ^ 63 := by omega
  have hy : y < 2 ^ 63 := by omega
  rw [wrap_nat (Nat.xor_lt_two_pow hx hy)]
  omega
theorem take_snoc {α : Type} {l : List α} {d : α} {i : Int} (h0 : 0 ≤ i) (h : i < (l.length : Int)) : l.take i.toNat ++ [l.getD i.toNat d] = l.take (i + 1).toNat := by
  have h' : i.toNat < l.length := by omega
  rw [show (i + 1).toNat = i.toNat + 1 by omega, List.take_add_one, List.getD_eq_getElem?_getD, List.getElem?_eq_getElem h']
  rfl
theorem take_all {α : Type} {l : List α} {i : Int} (h : ¬ i < (l.length : Int)) : l.take i.toNat = l := List.take_of_length_le (by omega)

/-! ### (*spec.l6Rd).pick -/
def spec_l6Rd_pick.enc (a0 : List Int) (a1 : Int) (a2 : Int) (r : Int × Int) : AV × List Blk := (.v (.c (.int r.1)), [.raw 1 [.arr true (.u8s a0), .int r.2]])
abbrev spec_l6Rd_pick.P (a0 : List Int) (a1 : Int) (a2 : Int) : Prop := (BY a0) ∧ (0 ≤ a1) ∧ (a1 ≤ 1000000000000)
abbrev spec_l6Rd_pick.Q (a0 : List Int) (a1 : Int) (a2 : Int) (r : Int × Int) : Prop := (0 ≤ r.1) ∧ (1 ≤ a2 → r.1 < a2) ∧ (r.2 = a1 + 1)
def spec_l6Rd_pick.L : FL := fCons (fC (cPtr 1 (cCons (cArrE true kU8s) (cCons cInt (cNil))) rfl)) (fCons (fSh sInt) (fNil))
def spec_l6Rd_pick.f (a0 : List Int) (a1 : Int) (a2 : Int) (X : AV × List Blk → Prop) : Prop := Lt (wrap (a1 + 1)) fun x1 => Lt (bif decide (a2 < 1) then true else (a0.length : Int) == 0) fun x2 => And (Imp (x2 = true) (X (.v (.c (.int 0)), [.raw 1 [.arr true (.u8s a0), .int x1]]))) (Imp (x2 = false) (Lt (wrap (x1 - 1)) fun x3 => And (Imp ((decide (x3 < (a0.length : Int))) = true) (And ((0 : Int) ≤ x3 ∧ x3 < (a0.length : Int)) (Lt (wrap (a0.getD (x3).toNat 0)) fun x4 => And ((a2 : Int) ≠ 0) (Lt (x4.tmod a2) fun x5 => X (.v (.c (.int x5)), [.raw 1 [.arr true (.u8s a0), .int x1]]))))) (Imp ((decide (x3 < (a0.length : Int))) = false) (And (((a0.length : Int) : Int) ≠ 0) (Lt (x3.tmod (a0.length : Int)) fun x6 => And ((0 : Int) ≤ x6 ∧ x6 < (a0.length : Int)) (Lt (wrap (a0.getD (x6).toNat 0)) fun x7 => Lt (wrap (x7 * 131)) fun x8 => Lt (wrap (x3 * 7)) fun x9 => Lt (wrap (x9 + 3)) fun x10 => And (((a0.length : Int) : Int) ≠ 0) (Lt (x10.tmod (a0.length : Int)) fun x11 => And ((0 : Int) ≤ x11 ∧ x11 < (a0.length : Int)) (Lt (wrap (a0.getD (x11).toNat 0)) fun x12 => Lt (wrap (x12 * 1117)) fun x13 => Lt (wrap (x8 + x13)) fun x14 => Lt (wrap (x3 * 29)) fun x15 => Lt (wrap (x14 + x15)) fun x16 => And (((a0.length : Int) : Int) ≠ 0) (Lt (wrap (x3.tdiv (a0.length : Int))) fun x17 => Lt (wrap (x17 * 53)) fun x18 => Lt (wrap (x16 + x18)) fun x19 => And ((64 : Int) ≠ 0) (Lt (wrap (x19.tdiv 64)) fun x20 => And ((a2 : Int) ≠ 0) (Lt ((wxor x19 x20).tmod a2) fun x21 => X (.v (.c (.int x21)), [.raw 1 [.arr true (.u8s a0), .int x1]]))))))))))))
theorem spec_l6Rd_pick.w (a0 : List Int) (a1 : Int) (a2 : Int) (K : AV → List Blk → Prop) : evFn (envC [] [] []) [] [] [] Try.f51 (spec_l6Rd_pick.L.inp ((a0, (a1, ())), (a2, ()))).1 (spec_l6Rd_pick.L.inp ((a0, (a1, ())), (a2, ()))).2 K = spec_l6Rd_pick.f a0 a1 a2 (fun v => K v.1 v.2) := by kernel_rfl
theorem spec_l6Rd_pick.x (a0 : List Int) (a1 : Int) (a2 : Int) (hp : spec_l6Rd_pick.P a0 a1 a2) : May (spec_l6Rd_pick.Q a0 a1 a2) (spec_l6Rd_pick.enc a0 a1 a2) (spec_l6Rd_pick.f a0 a1 a2) := by
  obtain ⟨p0, p1, p2⟩ := hp
  delta spec_l6Rd_pick.f
  refine May.lw ⟨?_, ?_⟩ fun x1 e1 => May.lp (B.or (B.dec) (B.eq)) fun x2 e2 => May.iff (e2) (fun h1 => ?_) (fun h1 => ?_); rotate_left 2
  refine ⟨(0, x1), ⟨?_, ?_, ?_⟩, fun X h => h⟩; rotate_left 3
  refine May.lw ⟨?_, ?_⟩ fun x3 e3 => May.iff (B.dec) (fun h2 => ?_) (fun h2 => ?_); rotate_left 2
  refine May.chk ?_ fun c1 => May.lq (fun x => 0 ≤ x ∧ x ≤ 255) (u8_rng p0) fun x4 e4 => May.chk ?_ fun c2 => May.lm ?_ fun x5 e5 => ⟨(x5, x1), ⟨?_, ?_, ?_⟩, fun X h => h⟩; rotate_left 6
  refine May.chk ?_ fun c3 => May.lm ?_ fun x6 e6 => May.chk ?_ fun c4 => May.lq (fun x => 0 ≤ x ∧ x ≤ 255) (u8_rng p0) fun x7 e7 => May.lw ⟨?_, ?_⟩ fun x8 e8 => May.lw ⟨?_, ?_⟩ fun x9 e9 => May.lw ⟨?_, ?_⟩ fun x10 e10 => May.chk ?_ fun c5 => ?_; rotate_left 10
  refine May.lm ?_ fun x11 e11 => May.chk ?_ fun c6 => May.lq (fun x => 0 ≤ x ∧ x ≤ 255) (u8_rng p0) fun x12 e12 => May.lw ⟨?_, ?_⟩ fun x13 e13 => May.lw ⟨?_, ?_⟩ fun x14 e14 => May.lw ⟨?_, ?_⟩ fun x15 e15 => May.lw ⟨?_, ?_⟩ fun x16 e16 => May.chk ?_ fun c7 => ?_; rotate_left 11
  refine May.ld ⟨?_, ?_, ?_⟩ fun x17 e17 => May.lw ⟨?_, ?_⟩ fun x18 e18 => May.lw ⟨?_, ?_⟩ fun x19 e19 => May.chk ?_ fun c8 => May.ld ⟨?_, ?_, ?_⟩ fun x20 e20 => May.chk ?_ fun c9 => May.lm ?_ fun x21 e21 => ⟨(x21, x1), ⟨?_, ?_, ?_⟩, fun X h => h⟩
  all_goals try dsimp only
  all_goals first | with_reducible assumption | omega | (exact p0.1; done) | (exact wxor_nn (by omega) (by omega) (by omega) (by omega); done) | rfl | assumption | (simp only [List.length_append, List.length_cons, List.length_nil, List.length_set, List.length_replicate, Int.natCast_add, Int.natCast_one] at *; omega) | grind
theorem spec_l6Rd_pick.X : ∃ S : spec_l6Rd_pick.L.α → Int × Int, ∀ s, spec_l6Rd_pick.P s.1.1 s.1.2.1 s.2.1 → spec_l6Rd_pick.Q s.1.1 s.1.2.1 s.2.1 (S s) ∧ ∀ X, X (spec_l6Rd_pick.enc s.1.1 s.1.2.1 s.2.1 (S s)) → spec_l6Rd_pick.f s.1.1 s.1.2.1 s.2.1 X := mayS (0, 0) fun s => spec_l6Rd_pick.x s.1.1 s.1.2.1 s.2.1
noncomputable def spec_l6Rd_pick.S (a0 : List Int) (a1 : Int) (a2 : Int) : Int × Int := Classical.choose spec_l6Rd_pick.X ((a0, (a1, ())), (a2, ()))
theorem spec_l6Rd_pick.q (a0 : List Int) (a1 : Int) (a2 : Int) (hp : spec_l6Rd_pick.P a0 a1 a2) : spec_l6Rd_pick.Q a0 a1 a2 (spec_l6Rd_pick.S a0 a1 a2) := (Classical.choose_spec spec_l6Rd_pick.X ((a0, (a1, ())), (a2, ())) hp).1
noncomputable def spec_l6Rd_pick.c : Ctr := hctr 51 [false, false] spec_l6Rd_pick.L (some fun s => spec_l6Rd_pick.P s.1.1 s.1.2.1 s.2.1) (fun s => spec_l6Rd_pick.enc s.1.1 s.1.2.1 s.2.1 (spec_l6Rd_pick.S s.1.1 s.1.2.1 s.2.1))
theorem spec_l6Rd_pick.good : Good Try.prog spec_l6Rd_pick.c :=
  hgoodC (sh := []) (tk := []) (sp := []) (ct := []) (LL := []) noG (fn := Try.f51) (by kernel_rfl) (by kernel_rfl) (by rw [show loopsOf (bodyOf Try.f51) = [] from by kernel_rfl]; exact noL rfl) (consC' (bs := []) (by kernel_rfl) noC) fun s hp => Eq.mpr (spec_l6Rd_pick.w s.1.1 s.1.2.1 s.2.1 (fun r bs' => And (r = (spec_l6Rd_pick.c.out s).1) (bs' = (spec_l6Rd_pick.c.out s).2))) ((Classical.choose_spec spec_l6Rd_pick.X s (hp _ rfl)).2 _ ⟨rfl, rfl⟩)
/-! ### spec.l6Open -/
def spec_l6Open.enc (a0 : List Int) (r : (List Int)) : AV × List Blk := (.v (.c (.ptr 0 0)), [.raw 1 [.arr true (.u8s r), .int 0]])
abbrev spec_l6Open.P (a0 : List Int) : Prop := (∀ k, 0 ≤ a0.getD k 0 ∧ a0.getD k 0 ≤ 255)
abbrev spec_l6Open.Q (a0 : List Int) (r : (List Int)) : Prop := (BY r)
def spec_l6Open.L : FL := fCons (fC (cArr true kU8s)) (fNil)
def spec_l6Open.f (a0 : List Int) (X : AV × List Blk → Prop) : Prop := And (Imp ((decide ((a0.length : Int) > 2000)) = true) (And ((0 : Int) ≤ 2000 ∧ 2000 ≤ (a0.length : Int)) (X (.v (.c (.ptr 0 0)), [.raw 1 [.arr true (.u8s ((a0.take 2000).drop 0)), .int 0]])))) (Imp ((decide ((a0.length : Int) > 2000)) = false) (X (.v (.c (.ptr 0 0)), [.raw 1 [.arr true (.u8s a0), .int 0]])))
theorem spec_l6Open.w (a0 : List Int) (K : AV → List Blk → Prop) : evFn (envC [] [] []) [] [] [] Try.f49 (spec_l6Open.L.inp (a0, ())).1 (spec_l6Open.L.inp (a0, ())).2 K = spec_l6Open.f a0 (fun v => K v.1 v.2) := by kernel_rfl
theorem spec_l6Open.x (a0 : List Int) (hp : spec_l6Open.P a0) : May (spec_l6Open.Q a0) (spec_l6Open.enc a0) (spec_l6Open.f a0) := by
  have p0 := hp
  delta spec_l6Open.f
  refine May.iff (B.dec) (fun h1 => ?_) (fun h1 => ?_)
  refine May.chk ?_ fun c1 => ⟨((a0.take 2000).drop 0), ?_, fun X h => h⟩; rotate_left 2
  refine ⟨(a0), ?_, fun X h => h⟩
  all_goals try dsimp only
  all_goals first | with_reducible assumption | omega | (exact by_all p0 (by omega); done) | (exact by_take p0; done) | rfl | assumption | (simp only [List.length_append, List.length_cons, List.length_nil, List.length_set, List.length_replicate, Int.natCast_add, Int.natCast_one] at *; omega) | grind
theorem spec_l6Open.X : ∃ S : spec_l6Open.L.α → (List Int), ∀ s, spec_l6Open.P s.1 → spec_l6Open.Q s.1 (S s) ∧ ∀ X, X (spec_l6Open.enc s.1 (S s)) → spec_l6Open.f s.1 X := mayS ([]) fun s => spec_l6Open.x s.1
noncomputable def spec_l6Open.S (a0 : List Int) : (List Int) := Classical.choose spec_l6Open.X (a0, ())
theorem spec_l6Open.q (a0 : List Int) (hp : spec_l6Open.P a0) : spec_l6Open.Q a0 (spec_l6Open.S a0) := (Classical.choose_spec spec_l6Open.X (a0, ()) hp).1
noncomputable def spec_l6Open.c : Ctr := hctr 49 [false] spec_l6Open.L (some fun s => spec_l6Open.P s.1) (fun s => spec_l6Open.enc s.1 (spec_l6Open.S s.1))
theorem spec_l6Open.good : Good Try.prog spec_l6Open.c :=
  hgoodC (sh := []) (tk := []) (sp := []) (ct := []) (LL := []) noG (fn := Try.f49) (by kernel_rfl) (by kernel_rfl) (by rw [show loopsOf (bodyOf Try.f49) = [] from by kernel_rfl]; exact noL rfl) (consC' (bs := []) (by kernel_rfl) noC) fun s hp => Eq.mpr (spec_l6Open.w s.1 (fun r bs' => And (r = (spec_l6Open.c.out s).1) (bs' = (spec_l6Open.c.out s).2))) ((Classical.choose_spec spec_l6Open.X s (hp _ rfl)).2 _ ⟨rfl, rfl⟩)
end Hw
end Go.Proofs.Ytmhighcagpbmeaa
