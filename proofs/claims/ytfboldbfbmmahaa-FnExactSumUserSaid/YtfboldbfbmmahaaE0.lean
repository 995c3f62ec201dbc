/- Draws, 1: made by gen.py. -/
import Derived.Test.YtfboldbfbmmahaaZ0
import Derived.Test.YtfboldbfbmmahaaX30
set_option linter.unusedVariables false
set_option linter.unusedSimpArgs false
set_option maxRecDepth 100000
set_option maxHeartbeats 400000
namespace Go.Proofs.Ytfboldbfbmmahaa
namespace Hw
open Go
noncomputable section
attribute [local irreducible] evFn evBody wrap wxor
def PIn (p : Pkt) : Prop := (1 ≤ p.frm ∧ p.frm ≤ 3) ∧ (0 ≤ p.to ∧ p.to ≤ 3)
def SIn (s : St) : Prop := s.sent.length ≤ 8 ∧ s.live.length = s.sent.length ∧ s.back.length = s.sent.length ∧ s.got.length = 8 ∧ ∀ k, k < s.sent.length → PIn (s.sent.getD k zPkt)
def BIn (b : Bk) : Prop := b.own.length = 3 ∧ b.notes.length = 3 ∧ inI b.locked
theorem wrap_inI (n : Int) : inI (wrap n) := by
  have e1 : (2 : Int) ^ IntKind.i64.bits = 18446744073709551616 := by decide
  have e2 : (2 : Int) ^ (IntKind.i64.bits - 1) = 9223372036854775808 := by decide
  unfold inI wrap IntKind.wrap
  simp only [Bool.and_eq_true, decide_eq_true_eq, ge_iff_le]
  simp only [e1, e2, show IntKind.i64.signed = true from rfl, true_and]
  split <;> omega
theorem bin_rows {b c : Bk} (h : BIn b) (h' : BIn c) : BIn ⟨b.own, b.notes, c.locked⟩ := ⟨h.1, h.2.1, h'.2.2⟩
theorem bin_mk {o n : List Int} {l : Int} (ho : o.length = 3) (hn : n.length = 3) (hl : inI l) : BIn ⟨o, n, l⟩ := ⟨ho, hn, hl⟩
def CIn (c : Ch) : Prop := BIn c.bank ∧ SIn c.st ∧ c.past.length ≤ 90 ∧ (∀ k, k < c.past.length → SIn (c.past.getD k zSt)) ∧ c.knows.length ≤ 1000000 ∧ ∀ k, k < c.knows.length → 1 ≤ c.knows.getD k 0
theorem user_iff {n : Int} : Zc.S n = true ↔ 1 ≤ n ∧ n ≤ 3 := in_iff
def BY (l : List Int) : Prop := l.length ≤ 2000 ∧ ∀ k, 0 ≤ l.getD k 0 ∧ l.getD k 0 ≤ 255
theorem u8_rng {l : List Int} {k : Nat} (h : BY l) : 0 ≤ wrap (l.getD k 0) ∧ wrap (l.getD k 0) ≤ 255 := by
  have := h.2 k
  rw [wrap_id (by omega) (by omega)]
  exact this
theorem by_all {l : List Int} (h : ∀ k, 0 ≤ l.getD k 0 ∧ l.getD k 0 ≤ 255) (hl : l.length ≤ 2000) : BY l := ⟨hl, h⟩
theorem getD_take {l : List Int} {n k : Nat} : (l.take n).getD k 0 = if k < n then l.getD k 0 else 0 := by
  simp only [List.getD_eq_getElem?_getD, List.getElem?_take]
  split <;> simp
theorem by_take {l : List Int} (h : ∀ k, 0 ≤ l.getD k 0 ∧ l.getD k 0 ≤ 255) : BY ((l.take 2000).drop 0) := by
  rw [List.drop_zero]
  refine ⟨List.length_take_le _ _, fun k => ?_⟩
  rw [getD_take]
  split
  · exact h k
  · omega
theorem wrap_nat {n : Nat} (h : n < 2 ^ 63) : wrap (n : Int) = n := wrap_id (by omega) (by omega)
theorem wxor_nn {a b : Int} (ha : 0 ≤ a) (ha' : a < 9223372036854775808) (hb : 0 ≤ b) (hb' : b < 9223372036854775808) : 0 ≤ wxor a b := by
  obtain ⟨x, rfl⟩ := Int.eq_ofNat_of_zero_le ha
  obtain ⟨y, rfl⟩ := Int.eq_ofNat_of_zero_le hb
  unfold wxor
  rw [show BitVec.ofInt 64 (x : Int) = BitVec.ofNat 64 x from by simp, show BitVec.ofInt 64 (y : Int) = BitVec.ofNat 64 y from by simp, BitVec.toNat_xor, BitVec.toNat_ofNat, BitVec.toNat_ofNat, Nat.mod_eq_of_lt (by omega), Nat.mod_eq_of_lt (by omega)]
  have hx : x < 2 ^ 63 := by omega
  have hy : y < 2 ^ 63 := by omega
  rw [wrap_nat (Nat.xor_lt_two_pow hx hy)]
  omega
theorem take_snoc {α : Type} {l : List α} {d : α} {i : Int} (h0 : 0 ≤ i) (h : i < (l.length : Int)) : l.take i.toNat ++ [l.getD i.toNat d] = l.take (i + 1).toNat := by
  have h' : i.toNat < l.length := by omega
  rw [show (i + 1).toNat = i.toNat + 1 by omega, List.take_add_one, List.getD_eq_getElem?_getD, List.getElem?_eq_getElem h']
  rfl
theorem take_all {α : Type} {l : List α} {i : Int} (h : ¬ i < (l.length : Int)) : l.take i.toNat = l := List.take_of_length_le (by omega)

def Zd.L : FL := fCons (fC (cPtr 1 (cCons (cArrE true kU8s) (cCons cInt (cNil))) rfl)) (fCons (fSh sInt) (fNil))
def Zd : (List Int × Int × Unit) × Int × Unit → FR (Int × Int) := fun ((a0, a1, ()), a2, ()) => ⟨(BY a0) ∧ (0 ≤ a1) ∧ (a1 ≤ 1000000000000) ∧ True, fun X => Lt (wrap (a1 + 1)) fun x1 => Lt (bif decide (a2 < 1) then true else (a0.length : Int) == 0) fun x2 => And (Imp (x2 = true) (X (0, x1))) (Imp (x2 = false) (Lt (wrap (x1 - 1)) fun x3 => And (Imp ((decide (x3 < (a0.length : Int))) = true) (And ((0 : Int) ≤ x3 ∧ x3 < (a0.length : Int)) (Lt (wrap (a0.getD (x3).toNat 0)) fun x4 => And ((a2 : Int) ≠ 0) (Lt (x4.tmod a2) fun x5 => X (x5, x1))))) (Imp ((decide (x3 < (a0.length : Int))) = false) (And (((a0.length : Int) : Int) ≠ 0) (Lt (x3.tmod (a0.length : Int)) fun x6 => And ((0 : Int) ≤ x6 ∧ x6 < (a0.length : Int)) (Lt (wrap (a0.getD (x6).toNat 0)) fun x7 => Lt (wrap (x7 * 131)) fun x8 => Lt (wrap (x3 * 7)) fun x9 => Lt (wrap (x9 + 3)) fun x10 => And (((a0.length : Int) : Int) ≠ 0) (Lt (x10.tmod (a0.length : Int)) fun x11 => And ((0 : Int) ≤ x11 ∧ x11 < (a0.length : Int)) (Lt (wrap (a0.getD (x11).toNat 0)) fun x12 => Lt (wrap (x12 * 1117)) fun x13 => Lt (wrap (x8 + x13)) fun x14 => Lt (wrap (x3 * 29)) fun x15 => Lt (wrap (x14 + x15)) fun x16 => And (((a0.length : Int) : Int) ≠ 0) (Lt (wrap (x3.tdiv (a0.length : Int))) fun x17 => Lt (wrap (x17 * 53)) fun x18 => Lt (wrap (x16 + x18)) fun x19 => And ((64 : Int) ≠ 0) (Lt (wrap (x19.tdiv 64)) fun x20 => And ((a2 : Int) ≠ 0) (Lt ((wxor x19 x20).tmod a2) fun x21 => X (x21, x1)))))))))))), fun r => (0 ≤ r.1) ∧ (1 ≤ a2 → r.1 < a2) ∧ (r.2 = a1 + 1) ∧ True, fun r => (.v (.c (.int r.1)), [.raw 1 [.arr true (.u8s a0), .int r.2]])⟩
theorem Zd.X : XF Zd := mkF (0, 0) fun ((a0, a1, ()), a2, ()) hp => by
  obtain ⟨p0, p1, p2, -⟩ := hp
  dsimp only [Zd]
  refine May.lw ⟨?_, ?_⟩ fun x1 e1 => May.lp (B.or (B.dec) (B.eq)) fun x2 e2 => May.iff (e2) (fun h1 => ?_) (fun h1 => ?_); rotate_left 2
  refine May.ret ⟨?_, ?_, ?_, trivial⟩; rotate_left 3
  refine May.lw ⟨?_, ?_⟩ fun x3 e3 => May.iff (B.dec) (fun h2 => ?_) (fun h2 => ?_); rotate_left 2
  refine May.chk ?_ fun c1 => May.lq (fun x => 0 ≤ x ∧ x ≤ 255) (u8_rng p0) fun x4 e4 => May.chk ?_ fun c2 => May.lm ?_ fun x5 e5 => May.ret ⟨?_, ?_, ?_, trivial⟩; rotate_left 6
  refine May.chk ?_ fun c3 => May.lm ?_ fun x6 e6 => May.chk ?_ fun c4 => May.lq (fun x => 0 ≤ x ∧ x ≤ 255) (u8_rng p0) fun x7 e7 => May.lw ⟨?_, ?_⟩ fun x8 e8 => May.lw ⟨?_, ?_⟩ fun x9 e9 => May.lw ⟨?_, ?_⟩ fun x10 e10 => May.chk ?_ fun c5 => ?_; rotate_left 10
  refine May.lm ?_ fun x11 e11 => May.chk ?_ fun c6 => May.lq (fun x => 0 ≤ x ∧ x ≤ 255) (u8_rng p0) fun x12 e12 => May.lw ⟨?_, ?_⟩ fun x13 e13 => May.lw ⟨?_, ?_⟩ fun x14 e14 => May.lw ⟨?_, ?_⟩ fun x15 e15 => May.lw ⟨?_, ?_⟩ fun x16 e16 => May.chk ?_ fun c7 => ?_; rotate_left 11
  refine May.ld ⟨?_, ?_, ?_⟩ fun x17 e17 => May.lw ⟨?_, ?_⟩ fun x18 e18 => May.lw ⟨?_, ?_⟩ fun x19 e19 => May.chk ?_ fun c8 => May.ld ⟨?_, ?_, ?_⟩ fun x20 e20 => May.chk ?_ fun c9 => May.lm ?_ fun x21 e21 => May.ret ⟨?_, ?_, ?_, trivial⟩
  all_goals try dsimp only
  all_goals first | with_reducible assumption | omega | (exact p0.1; done) | (exact wxor_nn (by omega) (by omega) (by omega) (by omega); done) | rfl | assumption | (simp only [List.length_append, List.length_cons, List.length_nil, List.length_set, List.length_replicate, Int.natCast_add, Int.natCast_one] at *; omega) | grind
abbrev Zd.S := Classical.choose Zd.X
def Zd.c : Ctr := fc 60 [false, false] Zd.L Zd Zd.S
theorem Zd.good : Good Try.prog Zd.c := mkFG (fn := Try.f60) {} Zd.X noG (by kernel_rfl) (by kernel_rfl) (l0 (by kernel_rfl)) (c0 (by kernel_rfl)) fun s K => by kernel_rfl
def Ze.L : FL := fCons (fC (cArr true kU8s)) (fNil)
def Ze : List Int × Unit → FR ((List Int)) := fun (a0, ()) => ⟨(∀ k, 0 ≤ a0.getD k 0 ∧ a0.getD k 0 ≤ 255) ∧ True, fun X => And (Imp ((decide ((a0.length : Int) > 2000)) = true) (And ((0 : Int) ≤ 2000 ∧ 2000 ≤ (a0.length : Int)) (X ((a0.take 2000).drop 0)))) (Imp ((decide ((a0.length : Int) > 2000)) = false) (X a0)), fun r => (BY r) ∧ True, fun r => (.v (.c (.ptr 0 0)), [.raw 1 [.arr true (.u8s r), .int 0]])⟩
theorem Ze.X : XF Ze := mkF ([]) fun (a0, ()) hp => by
  obtain ⟨p0, -⟩ := hp
  dsimp only [Ze]
  refine May.iff (B.dec) (fun h1 => ?_) (fun h1 => ?_)
  refine May.chk ?_ fun c1 => May.ret ⟨?_, trivial⟩; rotate_left 2
  refine May.ret ⟨?_, trivial⟩
  all_goals try dsimp only
  all_goals first | with_reducible assumption | omega | (exact by_all p0 (by omega); done) | (exact by_take p0; done) | rfl | assumption | (simp only [List.length_append, List.length_cons, List.length_nil, List.length_set, List.length_replicate, Int.natCast_add, Int.natCast_one] at *; omega) | grind
abbrev Ze.S := Classical.choose Ze.X
def Ze.c : Ctr := fc 58 [false] Ze.L Ze Ze.S
theorem Ze.good : Good Try.prog Ze.c := mkFG (fn := Try.f58) {} Ze.X noG (by kernel_rfl) (by kernel_rfl) (l0 (by kernel_rfl)) (c0 (by kernel_rfl)) fun s K => by kernel_rfl
end
end Hw
end Go.Proofs.Ytfboldbfbmmahaa
