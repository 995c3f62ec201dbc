/- Copies: made by gen.py. -/
import Derived.Test.YtfboldbfbmmahaaY3
set_option linter.unusedVariables false
set_option linter.unusedSimpArgs false
set_option maxRecDepth 100000
set_option maxHeartbeats 4000000
namespace Go.Proofs.Ytfboldbfbmmahaa
namespace Hw
open Go
def St.sm (s : St) : Prop := s.sent.length ≤ 4294967296 ∧ s.live.length ≤ 4294967296 ∧ s.back.length ≤ 4294967296 ∧ s.got.length ≤ 4294967296
def Bk.sm (b : Bk) : Prop := b.own.length ≤ 4294967296 ∧ b.notes.length ≤ 4294967296
def stsSm (l : List St) : Prop := l.length ≤ 4294967296 ∧ ∀ k, (l.getD k zSt).sm
def Ch.sm (c : Ch) : Prop := c.bank.sm ∧ c.st.sm ∧ stsSm c.past ∧ c.knows.length ≤ 4294967296
def chsSm (l : List Ch) : Prop := l.length ≤ 4294967296 ∧ ∀ k, (l.getD k zCh).sm
/-! ### laws.toIntS -/
def laws_toIntS_l3.S : Nat → (List Int) → (List Int) → Int → Nat × (List Int) × Int × Unit
  | 0, _, _, _ => (0, ([], (0, ())))
  | n + 1, x3_0, x3_1, x3_2 => bif decide (x3_2 < (x3_0.length : Int)) then laws_toIntS_l3.S n x3_0 (x3_1.set (x3_2).toNat (x3_0.getD (x3_2).toNat 0)) (wrap (x3_2 + 1)) else (0, (x3_1, (x3_2, ())))
def laws_toIntS_l3.M (x3_0 : List Int) (x3_1 : List Int) (x3_2 : Int) : Nat := ((x3_0.length : Int) - x3_2).toNat
def laws_toIntS_l3.R (x3_0 : List Int) (x3_1 : List Int) (x3_2 : Int) : Nat × (List Int) × Int × Unit := laws_toIntS_l3.S (laws_toIntS_l3.M x3_0 x3_1 x3_2 + 1) x3_0 x3_1 x3_2
def laws_toIntS_l3.P (x3_0 : List Int) (x3_1 : List Int) (x3_2 : Int) : Prop := (0 ≤ x3_2) ∧ ((x3_0.length : Int) ≤ 9223372036854775807) ∧ (x3_1.length = x3_0.length)
def laws_toIntS_l3.L : FL := fCons (fC (cArr false kInts)) (fCons (fC (cOwn kInts 3)) (fCons (fC cInt) (fNil)))
def laws_toIntS_l3.o0 (x3_0 : List Int) (x3_1 : List Int) (x3_2 : Int) (r : Nat × (List Int) × Int × Unit) : Ex × List FV × List Blk := (.exit 0, [.c (.arr false (.ints x3_0)), .c (.own 0 1 3), .c (.int r.2.2.1)], [.arr (.ints r.2.1)])
def laws_toIntS_l3.o (x3_0 : List Int) (x3_1 : List Int) (x3_2 : Int) (r : Nat × (List Int) × Int × Unit) : Ex × List FV × List Blk := pickAlt [] (laws_toIntS_l3.o0 x3_0 x3_1 x3_2 r)
def laws_toIntS_l3.d : LDat := ldat 3 [0, 3, 4] [] laws_toIntS_l3.L (fun s => laws_toIntS_l3.P s.1 s.2.1 s.2.2.1) (fun s => []) (fun s => laws_toIntS_l3.o0 s.1 s.2.1 s.2.2.1 (laws_toIntS_l3.R s.1 s.2.1 s.2.2.1)) (fun s => laws_toIntS_l3.M s.1 s.2.1 s.2.2.1)
def laws_toIntS.S (a0 : List Int) : (List Int) := ((laws_toIntS_l3.R a0 (List.replicate ((a0.length : Int)).toNat 0) 0).2.1)
def laws_toIntS.enc (r : (List Int)) : AV × List Blk := (.v (.c (.own 0 1 3)), [.arr (.ints r)])
def laws_toIntS.P (a0 : List Int) : Prop := (a0.length ≤ 4294967296)
def laws_toIntS.L : ShL := sCons sInts (sNil)
def laws_toIntS.c : Ctr := vctr 86 laws_toIntS.L (some fun s => laws_toIntS.P s.1) (fun s => laws_toIntS.enc (laws_toIntS.S s.1))
theorem laws_toIntS_l3.w (x3_0 : List Int) (x3_1 : List Int) (x3_2 : Int) : evBody (env []) [] (bodyAt Try.f86 0) laws_toIntS_l3.d (x3_0, (x3_1, (x3_2, ()))) = (And (Imp ((decide (x3_2 < (x3_0.length : Int))) = true) (And ((0 : Int) ≤ x3_2 ∧ x3_2 < (x3_0.length : Int)) (And ((0 : Int) ≤ x3_2 ∧ x3_2 < (x3_1.length : Int)) (And ((x3_2).toNat < x3_1.length) (And (laws_toIntS_l3.P x3_0 (x3_1.set (x3_2).toNat (x3_0.getD (x3_2).toNat 0)) (wrap (x3_2 + 1))) (And (laws_toIntS_l3.M x3_0 (x3_1.set (x3_2).toNat (x3_0.getD (x3_2).toNat 0)) (wrap (x3_2 + 1)) < laws_toIntS_l3.M x3_0 x3_1 x3_2) (laws_toIntS_l3.o x3_0 (x3_1.set (x3_2).toNat (x3_0.getD (x3_2).toNat 0)) (wrap (x3_2 + 1)) (laws_toIntS_l3.R x3_0 (x3_1.set (x3_2).toNat (x3_0.getD (x3_2).toNat 0)) (wrap (x3_2 + 1))) = laws_toIntS_l3.o x3_0 x3_1 x3_2 (laws_toIntS_l3.R x3_0 x3_1 x3_2)))))))) (Imp ((decide (x3_2 < (x3_0.length : Int))) = false) (laws_toIntS_l3.o x3_0 x3_1 x3_2 (laws_toIntS_l3.R x3_0 x3_1 x3_2) = (.exit 0, [.c (.arr false (.ints x3_0)), .c (.own 0 1 3), .c (.int x3_2)], [.arr (.ints x3_1)])))) := by kernel_rfl
theorem laws_toIntS_l3.v (x3_0 : List Int) (x3_1 : List Int) (x3_2 : Int) (hp : laws_toIntS_l3.P x3_0 x3_1 x3_2) : And (Imp ((decide (x3_2 < (x3_0.length : Int))) = true) (And ((0 : Int) ≤ x3_2 ∧ x3_2 < (x3_0.length : Int)) (And ((0 : Int) ≤ x3_2 ∧ x3_2 < (x3_1.length : Int)) (And ((x3_2).toNat < x3_1.length) (And (laws_toIntS_l3.P x3_0 (x3_1.set (x3_2).toNat (x3_0.getD (x3_2).toNat 0)) (wrap (x3_2 + 1))) (And (laws_toIntS_l3.M x3_0 (x3_1.set (x3_2).toNat (x3_0.getD (x3_2).toNat 0)) (wrap (x3_2 + 1)) < laws_toIntS_l3.M x3_0 x3_1 x3_2) (laws_toIntS_l3.o x3_0 (x3_1.set (x3_2).toNat (x3_0.getD (x3_2).toNat 0)) (wrap (x3_2 + 1)) (laws_toIntS_l3.R x3_0 (x3_1.set (x3_2).toNat (x3_0.getD (x3_2).toNat 0)) (wrap (x3_2 + 1))) = laws_toIntS_l3.o x3_0 x3_1 x3_2 (laws_toIntS_l3.R x3_0 x3_1 x3_2)))))))) (Imp ((decide (x3_2 < (x3_0.length : Int))) = false) (laws_toIntS_l3.o x3_0 x3_1 x3_2 (laws_toIntS_l3.R x3_0 x3_1 x3_2) = (.exit 0, [.c (.arr false (.ints x3_0)), .c (.own 0 1 3), .c (.int x3_2)], [.arr (.ints x3_1)]))) := by
  simp only [laws_toIntS_l3.P] at hp
  obtain ⟨p0, p1, p2⟩ := hp
  refine ⟨fun h1 => ?_, fun h1 => ?_⟩
  · refine ⟨by first | assumption | omega | grind [wrap_id], ?_⟩
    refine ⟨by first | assumption | omega | grind [wrap_id], ?_⟩
    refine ⟨by first | assumption | omega | grind [wrap_id], ?_⟩
    have hμ : laws_toIntS_l3.M x3_0 x3_1 x3_2 = laws_toIntS_l3.M x3_0 (x3_1.set (x3_2).toNat (x3_0.getD (x3_2).toNat 0)) (wrap (x3_2 + 1)) + 1 := by simp only [laws_toIntS_l3.M]; first | omega | grind [wrap_id]
    refine ⟨by simp only [laws_toIntS_l3.P]; refine ⟨(by first | assumption | omega | grind [wrap_id]), (by first | assumption | omega | grind [wrap_id]), (by first | assumption | omega | grind [wrap_id])⟩, by omega, ?_⟩
    have e : laws_toIntS_l3.R x3_0 x3_1 x3_2 = laws_toIntS_l3.R x3_0 (x3_1.set (x3_2).toNat (x3_0.getD (x3_2).toNat 0)) (wrap (x3_2 + 1)) := by
      have e1 : laws_toIntS_l3.R x3_0 x3_1 x3_2 = laws_toIntS_l3.S (laws_toIntS_l3.M x3_0 x3_1 x3_2) x3_0 (x3_1.set (x3_2).toNat (x3_0.getD (x3_2).toNat 0)) (wrap (x3_2 + 1)) := by simp only [laws_toIntS_l3.R, laws_toIntS_l3.S, h1, cond_true, cond_false]
      rw [e1, hμ]
      rfl
    rw [e]
    rfl
  · have e : laws_toIntS_l3.R x3_0 x3_1 x3_2 = (0, (x3_1, (x3_2, ()))) := by simp only [laws_toIntS_l3.R, laws_toIntS_l3.S, h1, cond_true, cond_false]
    rw [e]
    rfl
theorem laws_toIntS_l3.g (hG : ∀ c ∈ [], Good Try.prog c) : LGood Try.prog Try.f86.ntmps laws_toIntS_l3.d.ctr (bodyAt Try.f86 0) := by
  refine lgood (LL := []) hG (by kernel_rfl) (by rw [show loopsOf (bodyAt Try.f86 0) = [] from by kernel_rfl]; exact noL rfl) fun s hp => ?_
  refine Eq.mpr (laws_toIntS_l3.w s.1 s.2.1 s.2.2.1) ?_
  replace hp : laws_toIntS_l3.P s.1 s.2.1 s.2.2.1 := hp
  exact laws_toIntS_l3.v _ _ _ hp
def laws_toIntS_l3.E (x3_0 : List Int) (k : Nat) (a : (List Int)) : Option (Nat × (List Int) × Int × Unit) := none
def laws_toIntS_l3.A (x3_0 : List Int) (k : Nat) (a : (List Int)) : (List Int) := (a.set k (x3_0.getD k 0))
def laws_toIntS_l3.fin (x3_0 : List Int) (k : Nat) (a : (List Int)) : Nat × (List Int) × Int × Unit := (0, (a, ((k : Int), ())))
def laws_toIntS_l3.acc (x3_0 : List Int) (a : (List Int)) : Nat → (List Int)
  | 0 => a
  | k + 1 => laws_toIntS_l3.A x3_0 k (laws_toIntS_l3.acc x3_0 a k)
theorem laws_toIntS_l3.law (x3_0 : List Int) (a : (List Int)) (n : Nat) (hT : (x3_0.length : Int) = (n : Int)) (hn : (n : Int) ≤ 9223372036854775807) :
    ((∀ k, k < n → laws_toIntS_l3.E x3_0 k (laws_toIntS_l3.acc x3_0 a k) = none) ∧ laws_toIntS_l3.R x3_0 a 0 = laws_toIntS_l3.fin x3_0 n (laws_toIntS_l3.acc x3_0 a n)) ∨ (∃ k r, k < n ∧ laws_toIntS_l3.E x3_0 k (laws_toIntS_l3.acc x3_0 a k) = some r ∧ (∀ j, j < k → laws_toIntS_l3.E x3_0 j (laws_toIntS_l3.acc x3_0 a j) = none) ∧ laws_toIntS_l3.R x3_0 a 0 = r) := by
  have hM : laws_toIntS_l3.M x3_0 a 0 + 1 = n + 1 := by simp only [laws_toIntS_l3.M]; omega
  unfold laws_toIntS_l3.R
  rw [hM]
  refine loopE (fun m i b => laws_toIntS_l3.S m x3_0 b i) n hn (laws_toIntS_l3.acc x3_0 a) (laws_toIntS_l3.E x3_0 ) (laws_toIntS_l3.fin x3_0 ) fun m k hk => ?_
  have ha : laws_toIntS_l3.acc x3_0 a (k + 1) = laws_toIntS_l3.A x3_0 k (laws_toIntS_l3.acc x3_0 a k) := rfl
  rw [ha]
  generalize laws_toIntS_l3.acc x3_0 a k = b
  simp only [laws_toIntS_l3.S, laws_toIntS_l3.E, laws_toIntS_l3.A, laws_toIntS_l3.fin, hT, Int.toNat_natCast]
  all_goals grind
theorem laws_toIntS.w (a0 : List Int) (K : AV → List Blk → Prop) : evFn (env []) [laws_toIntS_l3.d.ctr] [[some (.int, 3)]] Try.f86 [] (laws_toIntS.L.enc (a0, ())) K = (And (((a0.length : Int) : Int) = (a0.length : Int) ∧ 0 ≤ (a0.length : Int) ∧ (a0.length : Int) ≤ 4294967296) (And (laws_toIntS_l3.P a0 (List.replicate ((a0.length : Int)).toNat 0) 0) (K (.v (.c (.own 0 1 3))) ([.arr (.ints (laws_toIntS_l3.R a0 (List.replicate ((a0.length : Int)).toNat 0) 0).2.1)])))) := by kernel_rfl
theorem laws_toIntS.v (a0 : List Int) (hp : laws_toIntS.P a0) (hf : (a0.length : Int) ≤ 9223372036854775807 ∧ True) (K : AV → List Blk → Prop) (hK : K (laws_toIntS.enc (laws_toIntS.S a0)).1 (laws_toIntS.enc (laws_toIntS.S a0)).2) : And (((a0.length : Int) : Int) = (a0.length : Int) ∧ 0 ≤ (a0.length : Int) ∧ (a0.length : Int) ≤ 4294967296) (And (laws_toIntS_l3.P a0 (List.replicate ((a0.length : Int)).toNat 0) 0) (K (.v (.c (.own 0 1 3))) ([.arr (.ints (laws_toIntS_l3.R a0 (List.replicate ((a0.length : Int)).toNat 0) 0).2.1)]))) := by
  simp only [laws_toIntS.P] at hp
  obtain ⟨f0, -⟩ := hf
  try simp only [big] at *
  refine ⟨by first | assumption | omega | grind [wrap_id], ?_⟩
  refine ⟨by simp only [laws_toIntS_l3.P]; refine ⟨(by first | assumption | omega | grind [wrap_id]), (by first | assumption | omega | grind [wrap_id]), (by first | assumption | omega | grind [wrap_id])⟩, ?_⟩
  have e : laws_toIntS.S a0 = ((laws_toIntS_l3.R a0 (List.replicate ((a0.length : Int)).toNat 0) 0).2.1) := by simp only [laws_toIntS.S, cond_true, cond_false]
  rw [e] at hK
  exact hK
theorem laws_toIntS.good : Good Try.prog laws_toIntS.c :=
  vgood (sh := [[some (.int, 3)]]) (LL := [laws_toIntS_l3.d.ctr]) noG (fn := Try.f86) (by kernel_rfl) (by kernel_rfl) (by rw [show loopsOf (bodyOf Try.f86) = [(bodyAt Try.f86 0)] from by kernel_rfl]; exact consL (l := laws_toIntS_l3.d.ctr) (by kernel_rfl) (laws_toIntS_l3.g noG) (noL rfl)) fun s hp hf => by
    refine Eq.mpr (laws_toIntS.w (s.1) _) ?_
    exact laws_toIntS.v _ (hp _ rfl) hf (fun r bs' => And (r = (laws_toIntS.c.out s).1) (bs' = (laws_toIntS.c.out s).2)) ⟨rfl, rfl⟩
/-! ### laws.toBank -/
def laws_toBank.S (a0 : Bk) : Bk := ((⟨(laws_toIntS.S a0.own), (laws_toIntS.S a0.notes), a0.locked⟩ : Bk))
def laws_toBank.enc (r : Bk) : AV × List Blk := (.v (.agg [.own 0 1 3, .own 1 1 3, .int r.locked]), [.arr (.ints r.own), .arr (.ints r.notes)])
def laws_toBank.P (a0 : Bk) : Prop := (a0.sm)
def laws_toBank.L : ShL := sCons sBk (sNil)
def laws_toBank.c : Ctr := vctr 83 laws_toBank.L (some fun s => laws_toBank.P s.1) (fun s => laws_toBank.enc (laws_toBank.S s.1))
theorem laws_toBank.w (a0 : Bk) (K : AV → List Blk → Prop) : evFn (env [laws_toIntS.c]) [] [[some (.int, 3), some (.int, 3), none]] Try.f83 [] (laws_toBank.L.enc (a0, ())) K = (And (laws_toIntS.P a0.own) (And (laws_toIntS.P a0.notes) (K (.v (.agg [.own 0 1 3, .own 1 1 3, .int a0.locked])) ([.arr (.ints (laws_toIntS.S a0.own)), .arr (.ints (laws_toIntS.S a0.notes))])))) := by kernel_rfl
theorem laws_toBank.v (a0 : Bk) (hp : laws_toBank.P a0) (hf : Bk.fact a0 ∧ True) (K : AV → List Blk → Prop) (hK : K (laws_toBank.enc (laws_toBank.S a0)).1 (laws_toBank.enc (laws_toBank.S a0)).2) : And (laws_toIntS.P a0.own) (And (laws_toIntS.P a0.notes) (K (.v (.agg [.own 0 1 3, .own 1 1 3, .int a0.locked])) ([.arr (.ints (laws_toIntS.S a0.own)), .arr (.ints (laws_toIntS.S a0.notes))]))) := by
  simp only [laws_toBank.P] at hp
  obtain ⟨f0, -⟩ := hf
  obtain ⟨f0_0, f0_1⟩ := f0
  try simp only [big] at *
  refine ⟨by first | assumption | omega | grind [wrap_id, Bk.sm, laws_toIntS.P], ?_⟩
  refine ⟨by first | assumption | omega | grind [wrap_id, Bk.sm, laws_toIntS.P], ?_⟩
  have e : laws_toBank.S a0 = ((⟨(laws_toIntS.S a0.own), (laws_toIntS.S a0.notes), a0.locked⟩ : Bk)) := by simp only [laws_toBank.S, cond_true, cond_false]
  rw [e] at hK
  exact hK
theorem laws_toBank.good : Good Try.prog laws_toBank.c :=
  vgood (sh := [[some (.int, 3), some (.int, 3), none]]) (LL := []) (consG laws_toIntS.good noG) (fn := Try.f83) (by kernel_rfl) (by kernel_rfl) (by rw [show loopsOf (bodyOf Try.f83) = [] from by kernel_rfl]; exact noL rfl) fun s hp hf => by
    refine Eq.mpr (laws_toBank.w (s.1) _) ?_
    exact laws_toBank.v _ (hp _ rfl) hf (fun r bs' => And (r = (laws_toBank.c.out s).1) (bs' = (laws_toBank.c.out s).2)) ⟨rfl, rfl⟩
/-! ### laws.toPacket -/
def laws_toPacket.S (a0 : Pkt) : Pkt := (a0)
def laws_toPacket.enc (r : Pkt) : AV × List Blk := (.v (.agg [.int r.seq, .int r.kind, .int r.frm, .int r.to, .int r.sum, .int r.til, .int r.ver]), [])
def laws_toPacket.L : ShL := sCons sPkt (sNil)
def laws_toPacket.c : Ctr := vctr 108 laws_toPacket.L none (fun s => laws_toPacket.enc (laws_toPacket.S s.1))
theorem laws_toPacket.w (a0 : Pkt) (K : AV → List Blk → Prop) : evFn (env []) [] [] Try.f108 [] (laws_toPacket.L.enc (a0, ())) K = (K (.v (.agg [.int a0.seq, .int a0.kind, .int a0.frm, .int a0.to, .int a0.sum, .int a0.til, .int a0.ver])) ([])) := by kernel_rfl
theorem laws_toPacket.v (a0 : Pkt) (hf : True ∧ True) (K : AV → List Blk → Prop) (hK : K (laws_toPacket.enc (laws_toPacket.S a0)).1 (laws_toPacket.enc (laws_toPacket.S a0)).2) : K (.v (.agg [.int a0.seq, .int a0.kind, .int a0.frm, .int a0.to, .int a0.sum, .int a0.til, .int a0.ver])) ([]) := by
  clear hf
  have e : laws_toPacket.S a0 = (a0) := by simp only [laws_toPacket.S, cond_true, cond_false]
  rw [e] at hK
  exact hK
theorem laws_toPacket.good : Good Try.prog laws_toPacket.c :=
  vgood (sh := []) (LL := []) noG (fn := Try.f108) (by kernel_rfl) (by kernel_rfl) (by rw [show loopsOf (bodyOf Try.f108) = [] from by kernel_rfl]; exact noL rfl) fun s hp hf => by
    refine Eq.mpr (laws_toPacket.w (s.1) _) ?_
    exact laws_toPacket.v _ hf (fun r bs' => And (r = (laws_toPacket.c.out s).1) (bs' = (laws_toPacket.c.out s).2)) ⟨rfl, rfl⟩
/-! ### laws.toPacketS -/
def laws_toPacketS_l3.S : Nat → (List Pkt) → (List Pkt) → Int → Nat × (List Pkt) × Int × Unit
  | 0, _, _, _ => (0, ([], (0, ())))
  | n + 1, x3_0, x3_1, x3_2 => bif decide (x3_2 < (x3_0.length : Int)) then laws_toPacketS_l3.S n x3_0 (x3_1.set (x3_2).toNat (laws_toPacket.S (x3_0.getD (x3_2).toNat zPkt))) (wrap (x3_2 + 1)) else (0, (x3_1, (x3_2, ())))
def laws_toPacketS_l3.M (x3_0 : List Pkt) (x3_1 : List Pkt) (x3_2 : Int) : Nat := ((x3_0.length : Int) - x3_2).toNat
def laws_toPacketS_l3.R (x3_0 : List Pkt) (x3_1 : List Pkt) (x3_2 : Int) : Nat × (List Pkt) × Int × Unit := laws_toPacketS_l3.S (laws_toPacketS_l3.M x3_0 x3_1 x3_2 + 1) x3_0 x3_1 x3_2
def laws_toPacketS_l3.P (x3_0 : List Pkt) (x3_1 : List Pkt) (x3_2 : Int) : Prop := (0 ≤ x3_2) ∧ ((x3_0.length : Int) ≤ 9223372036854775807) ∧ (x3_1.length = x3_0.length)
def laws_toPacketS_l3.L : FL := fCons (fC (cArr false kPkts)) (fCons (fC (cOwn kPkts 49)) (fCons (fC cInt) (fNil)))
def laws_toPacketS_l3.o0 (x3_0 : List Pkt) (x3_1 : List Pkt) (x3_2 : Int) (r : Nat × (List Pkt) × Int × Unit) : Ex × List FV × List Blk := (.exit 0, [.c (.arr false (.pkts x3_0)), .c (.own 0 7 49), .c (.int r.2.2.1)], [.arr (.pkts r.2.1)])
def laws_toPacketS_l3.o (x3_0 : List Pkt) (x3_1 : List Pkt) (x3_2 : Int) (r : Nat × (List Pkt) × Int × Unit) : Ex × List FV × List Blk := pickAlt [] (laws_toPacketS_l3.o0 x3_0 x3_1 x3_2 r)
def laws_toPacketS_l3.d : LDat := ldat 3 [0, 3, 4] [] laws_toPacketS_l3.L (fun s => laws_toPacketS_l3.P s.1 s.2.1 s.2.2.1) (fun s => []) (fun s => laws_toPacketS_l3.o0 s.1 s.2.1 s.2.2.1 (laws_toPacketS_l3.R s.1 s.2.1 s.2.2.1)) (fun s => laws_toPacketS_l3.M s.1 s.2.1 s.2.2.1)
def laws_toPacketS.S (a0 : List Pkt) : (List Pkt) := ((laws_toPacketS_l3.R a0 (List.replicate ((a0.length : Int)).toNat zPkt) 0).2.1)
def laws_toPacketS.enc (r : (List Pkt)) : AV × List Blk := (.v (.c (.own 0 7 49)), [.arr (.pkts r)])
def laws_toPacketS.P (a0 : List Pkt) : Prop := (a0.length ≤ 4294967296)
def laws_toPacketS.L : ShL := sCons sPkts (sNil)
def laws_toPacketS.c : Ctr := vctr 99 laws_toPacketS.L (some fun s => laws_toPacketS.P s.1) (fun s => laws_toPacketS.enc (laws_toPacketS.S s.1))
theorem laws_toPacketS_l3.w (x3_0 : List Pkt) (x3_1 : List Pkt) (x3_2 : Int) : evBody (env [laws_toPacket.c]) [] (bodyAt Try.f99 0) laws_toPacketS_l3.d (x3_0, (x3_1, (x3_2, ()))) = (And (Imp ((decide (x3_2 < (x3_0.length : Int))) = true) (And ((0 : Int) ≤ x3_2 ∧ x3_2 < (x3_0.length : Int)) (And ((0 : Int) ≤ x3_2 ∧ x3_2 < (x3_1.length : Int)) (And ((x3_2).toNat < x3_1.length) (And (laws_toPacketS_l3.P x3_0 (x3_1.set (x3_2).toNat (laws_toPacket.S (x3_0.getD (x3_2).toNat zPkt))) (wrap (x3_2 + 1))) (And (laws_toPacketS_l3.M x3_0 (x3_1.set (x3_2).toNat (laws_toPacket.S (x3_0.getD (x3_2).toNat zPkt))) (wrap (x3_2 + 1)) < laws_toPacketS_l3.M x3_0 x3_1 x3_2) (laws_toPacketS_l3.o x3_0 (x3_1.set (x3_2).toNat (laws_toPacket.S (x3_0.getD (x3_2).toNat zPkt))) (wrap (x3_2 + 1)) (laws_toPacketS_l3.R x3_0 (x3_1.set (x3_2).toNat (laws_toPacket.S (x3_0.getD (x3_2).toNat zPkt))) (wrap (x3_2 + 1))) = laws_toPacketS_l3.o x3_0 x3_1 x3_2 (laws_toPacketS_l3.R x3_0 x3_1 x3_2)))))))) (Imp ((decide (x3_2 < (x3_0.length : Int))) = false) (laws_toPacketS_l3.o x3_0 x3_1 x3_2 (laws_toPacketS_l3.R x3_0 x3_1 x3_2) = (.exit 0, [.c (.arr false (.pkts x3_0)), .c (.own 0 7 49), .c (.int x3_2)], [.arr (.pkts x3_1)])))) := by kernel_rfl
theorem laws_toPacketS_l3.v (x3_0 : List Pkt) (x3_1 : List Pkt) (x3_2 : Int) (hp : laws_toPacketS_l3.P x3_0 x3_1 x3_2) : And (Imp ((decide (x3_2 < (x3_0.length : Int))) = true) (And ((0 : Int) ≤ x3_2 ∧ x3_2 < (x3_0.length : Int)) (And ((0 : Int) ≤ x3_2 ∧ x3_2 < (x3_1.length : Int)) (And ((x3_2).toNat < x3_1.length) (And (laws_toPacketS_l3.P x3_0 (x3_1.set (x3_2).toNat (laws_toPacket.S (x3_0.getD (x3_2).toNat zPkt))) (wrap (x3_2 + 1))) (And (laws_toPacketS_l3.M x3_0 (x3_1.set (x3_2).toNat (laws_toPacket.S (x3_0.getD (x3_2).toNat zPkt))) (wrap (x3_2 + 1)) < laws_toPacketS_l3.M x3_0 x3_1 x3_2) (laws_toPacketS_l3.o x3_0 (x3_1.set (x3_2).toNat (laws_toPacket.S (x3_0.getD (x3_2).toNat zPkt))) (wrap (x3_2 + 1)) (laws_toPacketS_l3.R x3_0 (x3_1.set (x3_2).toNat (laws_toPacket.S (x3_0.getD (x3_2).toNat zPkt))) (wrap (x3_2 + 1))) = laws_toPacketS_l3.o x3_0 x3_1 x3_2 (laws_toPacketS_l3.R x3_0 x3_1 x3_2)))))))) (Imp ((decide (x3_2 < (x3_0.length : Int))) = false) (laws_toPacketS_l3.o x3_0 x3_1 x3_2 (laws_toPacketS_l3.R x3_0 x3_1 x3_2) = (.exit 0, [.c (.arr false (.pkts x3_0)), .c (.own 0 7 49), .c (.int x3_2)], [.arr (.pkts x3_1)]))) := by
  simp only [laws_toPacketS_l3.P] at hp
  obtain ⟨p0, p1, p2⟩ := hp
  refine ⟨fun h1 => ?_, fun h1 => ?_⟩
  · refine ⟨by first | assumption | omega | grind [wrap_id], ?_⟩
    refine ⟨by first | assumption | omega | grind [wrap_id], ?_⟩
    refine ⟨by first | assumption | omega | grind [wrap_id], ?_⟩
    have hμ : laws_toPacketS_l3.M x3_0 x3_1 x3_2 = laws_toPacketS_l3.M x3_0 (x3_1.set (x3_2).toNat (laws_toPacket.S (x3_0.getD (x3_2).toNat zPkt))) (wrap (x3_2 + 1)) + 1 := by simp only [laws_toPacketS_l3.M]; first | omega | grind [wrap_id]
    refine ⟨by simp only [laws_toPacketS_l3.P]; refine ⟨(by first | assumption | omega | grind [wrap_id]), (by first | assumption | omega | grind [wrap_id]), (by first | assumption | omega | grind [wrap_id])⟩, by omega, ?_⟩
    have e : laws_toPacketS_l3.R x3_0 x3_1 x3_2 = laws_toPacketS_l3.R x3_0 (x3_1.set (x3_2).toNat (laws_toPacket.S (x3_0.getD (x3_2).toNat zPkt))) (wrap (x3_2 + 1)) := by
      have e1 : laws_toPacketS_l3.R x3_0 x3_1 x3_2 = laws_toPacketS_l3.S (laws_toPacketS_l3.M x3_0 x3_1 x3_2) x3_0 (x3_1.set (x3_2).toNat (laws_toPacket.S (x3_0.getD (x3_2).toNat zPkt))) (wrap (x3_2 + 1)) := by simp only [laws_toPacketS_l3.R, laws_toPacketS_l3.S, h1, cond_true, cond_false]
      rw [e1, hμ]
      rfl
    rw [e]
    rfl
  · have e : laws_toPacketS_l3.R x3_0 x3_1 x3_2 = (0, (x3_1, (x3_2, ()))) := by simp only [laws_toPacketS_l3.R, laws_toPacketS_l3.S, h1, cond_true, cond_false]
    rw [e]
    rfl
theorem laws_toPacketS_l3.g (hG : ∀ c ∈ [laws_toPacket.c], Good Try.prog c) : LGood Try.prog Try.f99.ntmps laws_toPacketS_l3.d.ctr (bodyAt Try.f99 0) := by
  refine lgood (LL := []) hG (by kernel_rfl) (by rw [show loopsOf (bodyAt Try.f99 0) = [] from by kernel_rfl]; exact noL rfl) fun s hp => ?_
  refine Eq.mpr (laws_toPacketS_l3.w s.1 s.2.1 s.2.2.1) ?_
  replace hp : laws_toPacketS_l3.P s.1 s.2.1 s.2.2.1 := hp
  exact laws_toPacketS_l3.v _ _ _ hp
def laws_toPacketS_l3.E (x3_0 : List Pkt) (k : Nat) (a : (List Pkt)) : Option (Nat × (List Pkt) × Int × Unit) := none
def laws_toPacketS_l3.A (x3_0 : List Pkt) (k : Nat) (a : (List Pkt)) : (List Pkt) := (a.set k (laws_toPacket.S (x3_0.getD k zPkt)))
def laws_toPacketS_l3.fin (x3_0 : List Pkt) (k : Nat) (a : (List Pkt)) : Nat × (List Pkt) × Int × Unit := (0, (a, ((k : Int), ())))
def laws_toPacketS_l3.acc (x3_0 : List Pkt) (a : (List Pkt)) : Nat → (List Pkt)
  | 0 => a
  | k + 1 => laws_toPacketS_l3.A x3_0 k (laws_toPacketS_l3.acc x3_0 a k)
theorem laws_toPacketS_l3.law (x3_0 : List Pkt) (a : (List Pkt)) (n : Nat) (hT : (x3_0.length : Int) = (n : Int)) (hn : (n : Int) ≤ 9223372036854775807) :
    ((∀ k, k < n → laws_toPacketS_l3.E x3_0 k (laws_toPacketS_l3.acc x3_0 a k) = none) ∧ laws_toPacketS_l3.R x3_0 a 0 = laws_toPacketS_l3.fin x3_0 n (laws_toPacketS_l3.acc x3_0 a n)) ∨ (∃ k r, k < n ∧ laws_toPacketS_l3.E x3_0 k (laws_toPacketS_l3.acc x3_0 a k) = some r ∧ (∀ j, j < k → laws_toPacketS_l3.E x3_0 j (laws_toPacketS_l3.acc x3_0 a j) = none) ∧ laws_toPacketS_l3.R x3_0 a 0 = r) := by
  have hM : laws_toPacketS_l3.M x3_0 a 0 + 1 = n + 1 := by simp only [laws_toPacketS_l3.M]; omega
  unfold laws_toPacketS_l3.R
  rw [hM]
  refine loopE (fun m i b => laws_toPacketS_l3.S m x3_0 b i) n hn (laws_toPacketS_l3.acc x3_0 a) (laws_toPacketS_l3.E x3_0 ) (laws_toPacketS_l3.fin x3_0 ) fun m k hk => ?_
  have ha : laws_toPacketS_l3.acc x3_0 a (k + 1) = laws_toPacketS_l3.A x3_0 k (laws_toPacketS_l3.acc x3_0 a k) := rfl
  rw [ha]
  generalize laws_toPacketS_l3.acc x3_0 a k = b
  simp only [laws_toPacketS_l3.S, laws_toPacketS_l3.E, laws_toPacketS_l3.A, laws_toPacketS_l3.fin, hT, Int.toNat_natCast]
  all_goals grind
theorem laws_toPacketS.w (a0 : List Pkt) (K : AV → List Blk → Prop) : evFn (env [laws_toPacket.c]) [laws_toPacketS_l3.d.ctr] [[some (.pkt, 49)]] Try.f99 [] (laws_toPacketS.L.enc (a0, ())) K = (And (((a0.length : Int) : Int) = (a0.length : Int) ∧ 0 ≤ (a0.length : Int) ∧ (a0.length : Int) ≤ 4294967296) (And (laws_toPacketS_l3.P a0 (List.replicate ((a0.length : Int)).toNat zPkt) 0) (K (.v (.c (.own 0 7 49))) ([.arr (.pkts (laws_toPacketS_l3.R a0 (List.replicate ((a0.length : Int)).toNat zPkt) 0).2.1)])))) := by kernel_rfl
theorem laws_toPacketS.v (a0 : List Pkt) (hp : laws_toPacketS.P a0) (hf : (a0.length : Int) ≤ 9223372036854775807 ∧ True) (K : AV → List Blk → Prop) (hK : K (laws_toPacketS.enc (laws_toPacketS.S a0)).1 (laws_toPacketS.enc (laws_toPacketS.S a0)).2) : And (((a0.length : Int) : Int) = (a0.length : Int) ∧ 0 ≤ (a0.length : Int) ∧ (a0.length : Int) ≤ 4294967296) (And (laws_toPacketS_l3.P a0 (List.replicate ((a0.length : Int)).toNat zPkt) 0) (K (.v (.c (.own 0 7 49))) ([.arr (.pkts (laws_toPacketS_l3.R a0 (List.replicate ((a0.length : Int)).toNat zPkt) 0).2.1)]))) := by
  simp only [laws_toPacketS.P] at hp
  obtain ⟨f0, -⟩ := hf
  try simp only [big] at *
  refine ⟨by first | assumption | omega | grind [wrap_id], ?_⟩
  refine ⟨by simp only [laws_toPacketS_l3.P]; refine ⟨(by first | assumption | omega | grind [wrap_id]), (by first | assumption | omega | grind [wrap_id]), (by first | assumption | omega | grind [wrap_id])⟩, ?_⟩
  have e : laws_toPacketS.S a0 = ((laws_toPacketS_l3.R a0 (List.replicate ((a0.length : Int)).toNat zPkt) 0).2.1) := by simp only [laws_toPacketS.S, cond_true, cond_false]
  rw [e] at hK
  exact hK
theorem laws_toPacketS.good : Good Try.prog laws_toPacketS.c :=
  vgood (sh := [[some (.pkt, 49)]]) (LL := [laws_toPacketS_l3.d.ctr]) (consG laws_toPacket.good noG) (fn := Try.f99) (by kernel_rfl) (by kernel_rfl) (by rw [show loopsOf (bodyOf Try.f99) = [(bodyAt Try.f99 0)] from by kernel_rfl]; exact consL (l := laws_toPacketS_l3.d.ctr) (by kernel_rfl) (laws_toPacketS_l3.g (consG laws_toPacket.good noG)) (noL rfl)) fun s hp hf => by
    refine Eq.mpr (laws_toPacketS.w (s.1) _) ?_
    exact laws_toPacketS.v _ (hp _ rfl) hf (fun r bs' => And (r = (laws_toPacketS.c.out s).1) (bs' = (laws_toPacketS.c.out s).2)) ⟨rfl, rfl⟩
/-! ### laws.toBoolS -/
def laws_toBoolS_l3.S : Nat → (List Bool) → (List Bool) → Int → Nat × (List Bool) × Int × Unit
  | 0, _, _, _ => (0, ([], (0, ())))
  | n + 1, x3_0, x3_1, x3_2 => bif decide (x3_2 < (x3_0.length : Int)) then laws_toBoolS_l3.S n x3_0 (x3_1.set (x3_2).toNat (x3_0.getD (x3_2).toNat false)) (wrap (x3_2 + 1)) else (0, (x3_1, (x3_2, ())))
def laws_toBoolS_l3.M (x3_0 : List Bool) (x3_1 : List Bool) (x3_2 : Int) : Nat := ((x3_0.length : Int) - x3_2).toNat
def laws_toBoolS_l3.R (x3_0 : List Bool) (x3_1 : List Bool) (x3_2 : Int) : Nat × (List Bool) × Int × Unit := laws_toBoolS_l3.S (laws_toBoolS_l3.M x3_0 x3_1 x3_2 + 1) x3_0 x3_1 x3_2
def laws_toBoolS_l3.P (x3_0 : List Bool) (x3_1 : List Bool) (x3_2 : Int) : Prop := (0 ≤ x3_2) ∧ ((x3_0.length : Int) ≤ 9223372036854775807) ∧ (x3_1.length = x3_0.length)
def laws_toBoolS_l3.L : FL := fCons (fC (cArr false kBools)) (fCons (fC (cOwn kBools 4)) (fCons (fC cInt) (fNil)))
def laws_toBoolS_l3.o0 (x3_0 : List Bool) (x3_1 : List Bool) (x3_2 : Int) (r : Nat × (List Bool) × Int × Unit) : Ex × List FV × List Blk := (.exit 0, [.c (.arr false (.bools x3_0)), .c (.own 0 1 4), .c (.int r.2.2.1)], [.arr (.bools r.2.1)])
def laws_toBoolS_l3.o (x3_0 : List Bool) (x3_1 : List Bool) (x3_2 : Int) (r : Nat × (List Bool) × Int × Unit) : Ex × List FV × List Blk := pickAlt [] (laws_toBoolS_l3.o0 x3_0 x3_1 x3_2 r)
def laws_toBoolS_l3.d : LDat := ldat 3 [0, 3, 4] [] laws_toBoolS_l3.L (fun s => laws_toBoolS_l3.P s.1 s.2.1 s.2.2.1) (fun s => []) (fun s => laws_toBoolS_l3.o0 s.1 s.2.1 s.2.2.1 (laws_toBoolS_l3.R s.1 s.2.1 s.2.2.1)) (fun s => laws_toBoolS_l3.M s.1 s.2.1 s.2.2.1)
def laws_toBoolS.S (a0 : List Bool) : (List Bool) := ((laws_toBoolS_l3.R a0 (List.replicate ((a0.length : Int)).toNat false) 0).2.1)
def laws_toBoolS.enc (r : (List Bool)) : AV × List Blk := (.v (.c (.own 0 1 4)), [.arr (.bools r)])
def laws_toBoolS.P (a0 : List Bool) : Prop := (a0.length ≤ 4294967296)
def laws_toBoolS.L : ShL := sCons sBools (sNil)
def laws_toBoolS.c : Ctr := vctr 100 laws_toBoolS.L (some fun s => laws_toBoolS.P s.1) (fun s => laws_toBoolS.enc (laws_toBoolS.S s.1))
theorem laws_toBoolS_l3.w (x3_0 : List Bool) (x3_1 : List Bool) (x3_2 : Int) : evBody (env []) [] (bodyAt Try.f100 0) laws_toBoolS_l3.d (x3_0, (x3_1, (x3_2, ()))) = (And (Imp ((decide (x3_2 < (x3_0.length : Int))) = true) (And ((0 : Int) ≤ x3_2 ∧ x3_2 < (x3_0.length : Int)) (And ((0 : Int) ≤ x3_2 ∧ x3_2 < (x3_1.length : Int)) (And ((x3_2).toNat < x3_1.length) (And (laws_toBoolS_l3.P x3_0 (x3_1.set (x3_2).toNat (x3_0.getD (x3_2).toNat false)) (wrap (x3_2 + 1))) (And (laws_toBoolS_l3.M x3_0 (x3_1.set (x3_2).toNat (x3_0.getD (x3_2).toNat false)) (wrap (x3_2 + 1)) < laws_toBoolS_l3.M x3_0 x3_1 x3_2) (laws_toBoolS_l3.o x3_0 (x3_1.set (x3_2).toNat (x3_0.getD (x3_2).toNat false)) (wrap (x3_2 + 1)) (laws_toBoolS_l3.R x3_0 (x3_1.set (x3_2).toNat (x3_0.getD (x3_2).toNat false)) (wrap (x3_2 + 1))) = laws_toBoolS_l3.o x3_0 x3_1 x3_2 (laws_toBoolS_l3.R x3_0 x3_1 x3_2)))))))) (Imp ((decide (x3_2 < (x3_0.length : Int))) = false) (laws_toBoolS_l3.o x3_0 x3_1 x3_2 (laws_toBoolS_l3.R x3_0 x3_1 x3_2) = (.exit 0, [.c (.arr false (.bools x3_0)), .c (.own 0 1 4), .c (.int x3_2)], [.arr (.bools x3_1)])))) := by kernel_rfl
theorem laws_toBoolS_l3.v (x3_0 : List Bool) (x3_1 : List Bool) (x3_2 : Int) (hp : laws_toBoolS_l3.P x3_0 x3_1 x3_2) : And (Imp ((decide (x3_2 < (x3_0.length : Int))) = true) (And ((0 : Int) ≤ x3_2 ∧ x3_2 < (x3_0.length : Int)) (And ((0 : Int) ≤ x3_2 ∧ x3_2 < (x3_1.length : Int)) (And ((x3_2).toNat < x3_1.length) (And (laws_toBoolS_l3.P x3_0 (x3_1.set (x3_2).toNat (x3_0.getD (x3_2).toNat false)) (wrap (x3_2 + 1))) (And (laws_toBoolS_l3.M x3_0 (x3_1.set (x3_2).toNat (x3_0.getD (x3_2).toNat false)) (wrap (x3_2 + 1)) < laws_toBoolS_l3.M x3_0 x3_1 x3_2) (laws_toBoolS_l3.o x3_0 (x3_1.set (x3_2).toNat (x3_0.getD (x3_2).toNat false)) (wrap (x3_2 + 1)) (laws_toBoolS_l3.R x3_0 (x3_1.set (x3_2).toNat (x3_0.getD (x3_2).toNat false)) (wrap (x3_2 + 1))) = laws_toBoolS_l3.o x3_0 x3_1 x3_2 (laws_toBoolS_l3.R x3_0 x3_1 x3_2)))))))) (Imp ((decide (x3_2 < (x3_0.length : Int))) = false) (laws_toBoolS_l3.o x3_0 x3_1 x3_2 (laws_toBoolS_l3.R x3_0 x3_1 x3_2) = (.exit 0, [.c (.arr false (.bools x3_0)), .c (.own 0 1 4), .c (.int x3_2)], [.arr (.bools x3_1)]))) := by
  simp only [laws_toBoolS_l3.P] at hp
  obtain ⟨p0, p1, p2⟩ := hp
  refine ⟨fun h1 => ?_, fun h1 => ?_⟩
  · refine ⟨by first | assumption | omega | grind [wrap_id], ?_⟩
    refine ⟨by first | assumption | omega | grind [wrap_id], ?_⟩
    refine ⟨by first | assumption | omega | grind [wrap_id], ?_⟩
    have hμ : laws_toBoolS_l3.M x3_0 x3_1 x3_2 = laws_toBoolS_l3.M x3_0 (x3_1.set (x3_2).toNat (x3_0.getD (x3_2).toNat false)) (wrap (x3_2 + 1)) + 1 := by simp only [laws_toBoolS_l3.M]; first | omega | grind [wrap_id]
    refine ⟨by simp only [laws_toBoolS_l3.P]; refine ⟨(by first | assumption | omega | grind [wrap_id]), (by first | assumption | omega | grind [wrap_id]), (by first | assumption | omega | grind [wrap_id])⟩, by omega, ?_⟩
    have e : laws_toBoolS_l3.R x3_0 x3_1 x3_2 = laws_toBoolS_l3.R x3_0 (x3_1.set (x3_2).toNat (x3_0.getD (x3_2).toNat false)) (wrap (x3_2 + 1)) := by
      have e1 : laws_toBoolS_l3.R x3_0 x3_1 x3_2 = laws_toBoolS_l3.S (laws_toBoolS_l3.M x3_0 x3_1 x3_2) x3_0 (x3_1.set (x3_2).toNat (x3_0.getD (x3_2).toNat false)) (wrap (x3_2 + 1)) := by simp only [laws_toBoolS_l3.R, laws_toBoolS_l3.S, h1, cond_true, cond_false]
      rw [e1, hμ]
      rfl
    rw [e]
    rfl
  · have e : laws_toBoolS_l3.R x3_0 x3_1 x3_2 = (0, (x3_1, (x3_2, ()))) := by simp only [laws_toBoolS_l3.R, laws_toBoolS_l3.S, h1, cond_true, cond_false]
    rw [e]
    rfl
theorem laws_toBoolS_l3.g (hG : ∀ c ∈ [], Good Try.prog c) : LGood Try.prog Try.f100.ntmps laws_toBoolS_l3.d.ctr (bodyAt Try.f100 0) := by
  refine lgood (LL := []) hG (by kernel_rfl) (by rw [show loopsOf (bodyAt Try.f100 0) = [] from by kernel_rfl]; exact noL rfl) fun s hp => ?_
  refine Eq.mpr (laws_toBoolS_l3.w s.1 s.2.1 s.2.2.1) ?_
  replace hp : laws_toBoolS_l3.P s.1 s.2.1 s.2.2.1 := hp
  exact laws_toBoolS_l3.v _ _ _ hp
def laws_toBoolS_l3.E (x3_0 : List Bool) (k : Nat) (a : (List Bool)) : Option (Nat × (List Bool) × Int × Unit) := none
def laws_toBoolS_l3.A (x3_0 : List Bool) (k : Nat) (a : (List Bool)) : (List Bool) := (a.set k (x3_0.getD k false))
def laws_toBoolS_l3.fin (x3_0 : List Bool) (k : Nat) (a : (List Bool)) : Nat × (List Bool) × Int × Unit := (0, (a, ((k : Int), ())))
def laws_toBoolS_l3.acc (x3_0 : List Bool) (a : (List Bool)) : Nat → (List Bool)
  | 0 => a
  | k + 1 => laws_toBoolS_l3.A x3_0 k (laws_toBoolS_l3.acc x3_0 a k)
theorem laws_toBoolS_l3.law (x3_0 : List Bool) (a : (List Bool)) (n : Nat) (hT : (x3_0.length : Int) = (n : Int)) (hn : (n : Int) ≤ 9223372036854775807) :
    ((∀ k, k < n → laws_toBoolS_l3.E x3_0 k (laws_toBoolS_l3.acc x3_0 a k) = none) ∧ laws_toBoolS_l3.R x3_0 a 0 = laws_toBoolS_l3.fin x3_0 n (laws_toBoolS_l3.acc x3_0 a n)) ∨ (∃ k r, k < n ∧ laws_toBoolS_l3.E x3_0 k (laws_toBoolS_l3.acc x3_0 a k) = some r ∧ (∀ j, j < k → laws_toBoolS_l3.E x3_0 j (laws_toBoolS_l3.acc x3_0 a j) = none) ∧ laws_toBoolS_l3.R x3_0 a 0 = r) := by
  have hM : laws_toBoolS_l3.M x3_0 a 0 + 1 = n + 1 := by simp only [laws_toBoolS_l3.M]; omega
  unfold laws_toBoolS_l3.R
  rw [hM]
  refine loopE (fun m i b => laws_toBoolS_l3.S m x3_0 b i) n hn (laws_toBoolS_l3.acc x3_0 a) (laws_toBoolS_l3.E x3_0 ) (laws_toBoolS_l3.fin x3_0 ) fun m k hk => ?_
  have ha : laws_toBoolS_l3.acc x3_0 a (k + 1) = laws_toBoolS_l3.A x3_0 k (laws_toBoolS_l3.acc x3_0 a k) := rfl
  rw [ha]
  generalize laws_toBoolS_l3.acc x3_0 a k = b
  simp only [laws_toBoolS_l3.S, laws_toBoolS_l3.E, laws_toBoolS_l3.A, laws_toBoolS_l3.fin, hT, Int.toNat_natCast]
  all_goals grind
theorem laws_toBoolS.w (a0 : List Bool) (K : AV → List Blk → Prop) : evFn (env []) [laws_toBoolS_l3.d.ctr] [[some (.bool, 4)]] Try.f100 [] (laws_toBoolS.L.enc (a0, ())) K = (And (((a0.length : Int) : Int) = (a0.length : Int) ∧ 0 ≤ (a0.length : Int) ∧ (a0.length : Int) ≤ 4294967296) (And (laws_toBoolS_l3.P a0 (List.replicate ((a0.length : Int)).toNat false) 0) (K (.v (.c (.own 0 1 4))) ([.arr (.bools (laws_toBoolS_l3.R a0 (List.replicate ((a0.length : Int)).toNat false) 0).2.1)])))) := by kernel_rfl
theorem laws_toBoolS.v (a0 : List Bool) (hp : laws_toBoolS.P a0) (hf : (a0.length : Int) ≤ 9223372036854775807 ∧ True) (K : AV → List Blk → Prop) (hK : K (laws_toBoolS.enc (laws_toBoolS.S a0)).1 (laws_toBoolS.enc (laws_toBoolS.S a0)).2) : And (((a0.length : Int) : Int) = (a0.length : Int) ∧ 0 ≤ (a0.length : Int) ∧ (a0.length : Int) ≤ 4294967296) (And (laws_toBoolS_l3.P a0 (List.replicate ((a0.length : Int)).toNat false) 0) (K (.v (.c (.own 0 1 4))) ([.arr (.bools (laws_toBoolS_l3.R a0 (List.replicate ((a0.length : Int)).toNat false) 0).2.1)]))) := by
  simp only [laws_toBoolS.P] at hp
  obtain ⟨f0, -⟩ := hf
  try simp only [big] at *
  refine ⟨by first | assumption | omega | grind [wrap_id], ?_⟩
  refine ⟨by simp only [laws_toBoolS_l3.P]; refine ⟨(by first | assumption | omega | grind [wrap_id]), (by first | assumption | omega | grind [wrap_id]), (by first | assumption | omega | grind [wrap_id])⟩, ?_⟩
  have e : laws_toBoolS.S a0 = ((laws_toBoolS_l3.R a0 (List.replicate ((a0.length : Int)).toNat false) 0).2.1) := by simp only [laws_toBoolS.S, cond_true, cond_false]
  rw [e] at hK
  exact hK
theorem laws_toBoolS.good : Good Try.prog laws_toBoolS.c :=
  vgood (sh := [[some (.bool, 4)]]) (LL := [laws_toBoolS_l3.d.ctr]) noG (fn := Try.f100) (by kernel_rfl) (by kernel_rfl) (by rw [show loopsOf (bodyOf Try.f100) = [(bodyAt Try.f100 0)] from by kernel_rfl]; exact consL (l := laws_toBoolS_l3.d.ctr) (by kernel_rfl) (laws_toBoolS_l3.g noG) (noL rfl)) fun s hp hf => by
    refine Eq.mpr (laws_toBoolS.w (s.1) _) ?_
    exact laws_toBoolS.v _ (hp _ rfl) hf (fun r bs' => And (r = (laws_toBoolS.c.out s).1) (bs' = (laws_toBoolS.c.out s).2)) ⟨rfl, rfl⟩
/-! ### laws.toState -/
def laws_toState.S (a0 : St) : St := ((⟨a0.way, a0.ver, a0.want, (laws_toPacketS.S a0.sent), (laws_toBoolS.S a0.live), (laws_toBoolS.S a0.back), (laws_toIntS.S a0.got)⟩ : St))
def laws_toState.enc (r : St) : AV × List Blk := (.v (.agg [.int r.way, .int r.ver, .int r.want, .own 0 7 49, .own 1 1 4, .own 2 1 4, .own 3 1 3]), [.arr (.pkts r.sent), .arr (.bools r.live), .arr (.bools r.back), .arr (.ints r.got)])
def laws_toState.P (a0 : St) : Prop := (a0.sm)
def laws_toState.L : ShL := sCons sSt (sNil)
def laws_toState.c : Ctr := vctr 84 laws_toState.L (some fun s => laws_toState.P s.1) (fun s => laws_toState.enc (laws_toState.S s.1))
theorem laws_toState.w (a0 : St) (K : AV → List Blk → Prop) : evFn (env [laws_toPacketS.c, laws_toBoolS.c, laws_toIntS.c]) [] [[none, none, none, some (.pkt, 49), some (.bool, 4), some (.bool, 4), some (.int, 3)]] Try.f84 [] (laws_toState.L.enc (a0, ())) K = (And (laws_toPacketS.P a0.sent) (And (laws_toBoolS.P a0.live) (And (laws_toBoolS.P a0.back) (And (laws_toIntS.P a0.got) (K (.v (.agg [.int a0.way, .int a0.ver, .int a0.want, .own 0 7 49, .own 1 1 4, .own 2 1 4, .own 3 1 3])) ([.arr (.pkts (laws_toPacketS.S a0.sent)), .arr (.bools (laws_toBoolS.S a0.live)), .arr (.bools (laws_toBoolS.S a0.back)), .arr (.ints (laws_toIntS.S a0.got))])))))) := by kernel_rfl
theorem laws_toState.v (a0 : St) (hp : laws_toState.P a0) (hf : St.fact a0 ∧ True) (K : AV → List Blk → Prop) (hK : K (laws_toState.enc (laws_toState.S a0)).1 (laws_toState.enc (laws_toState.S a0)).2) : And (laws_toPacketS.P a0.sent) (And (laws_toBoolS.P a0.live) (And (laws_toBoolS.P a0.back) (And (laws_toIntS.P a0.got) (K (.v (.agg [.int a0.way, .int a0.ver, .int a0.want, .own 0 7 49, .own 1 1 4, .own 2 1 4, .own 3 1 3])) ([.arr (.pkts (laws_toPacketS.S a0.sent)), .arr (.bools (laws_toBoolS.S a0.live)), .arr (.bools (laws_toBoolS.S a0.back)), .arr (.ints (laws_toIntS.S a0.got))]))))) := by
  simp only [laws_toState.P] at hp
  obtain ⟨f0, -⟩ := hf
  obtain ⟨f0_0, f0_1, f0_2, f0_3⟩ := f0
  try simp only [big] at *
  refine ⟨by first | assumption | omega | grind [wrap_id, St.sm, laws_toPacketS.P, laws_toBoolS.P, laws_toIntS.P], ?_⟩
  refine ⟨by first | assumption | omega | grind [wrap_id, St.sm, laws_toPacketS.P, laws_toBoolS.P, laws_toIntS.P], ?_⟩
  refine ⟨by first | assumption | omega | grind [wrap_id, St.sm, laws_toPacketS.P, laws_toBoolS.P, laws_toIntS.P], ?_⟩
  refine ⟨by first | assumption | omega | grind [wrap_id, St.sm, laws_toPacketS.P, laws_toBoolS.P, laws_toIntS.P], ?_⟩
  have e : laws_toState.S a0 = ((⟨a0.way, a0.ver, a0.want, (laws_toPacketS.S a0.sent), (laws_toBoolS.S a0.live), (laws_toBoolS.S a0.back), (laws_toIntS.S a0.got)⟩ : St)) := by simp only [laws_toState.S, cond_true, cond_false]
  rw [e] at hK
  exact hK
theorem laws_toState.good : Good Try.prog laws_toState.c :=
  vgood (sh := [[none, none, none, some (.pkt, 49), some (.bool, 4), some (.bool, 4), some (.int, 3)]]) (LL := []) (consG laws_toPacketS.good (consG laws_toBoolS.good (consG laws_toIntS.good noG))) (fn := Try.f84) (by kernel_rfl) (by kernel_rfl) (by rw [show loopsOf (bodyOf Try.f84) = [] from by kernel_rfl]; exact noL rfl) fun s hp hf => by
    refine Eq.mpr (laws_toState.w (s.1) _) ?_
    exact laws_toState.v _ (hp _ rfl) hf (fun r bs' => And (r = (laws_toState.c.out s).1) (bs' = (laws_toState.c.out s).2)) ⟨rfl, rfl⟩
/-! ### laws.toStateS -/
def laws_toStateS_l3.S : Nat → (List St) → (List St) → Int → Nat × (List St) × Int × Unit
  | 0, _, _, _ => (0, ([], (0, ())))
  | n + 1, x3_0, x3_1, x3_2 => bif decide (x3_2 < (x3_0.length : Int)) then laws_toStateS_l3.S n x3_0 (x3_1.set (x3_2).toNat (laws_toState.S (x3_0.getD (x3_2).toNat zSt))) (wrap (x3_2 + 1)) else (0, (x3_1, (x3_2, ())))
def laws_toStateS_l3.M (x3_0 : List St) (x3_1 : List St) (x3_2 : Int) : Nat := ((x3_0.length : Int) - x3_2).toNat
def laws_toStateS_l3.R (x3_0 : List St) (x3_1 : List St) (x3_2 : Int) : Nat × (List St) × Int × Unit := laws_toStateS_l3.S (laws_toStateS_l3.M x3_0 x3_1 x3_2 + 1) x3_0 x3_1 x3_2
def laws_toStateS_l3.P (x3_0 : List St) (x3_1 : List St) (x3_2 : Int) : Prop := (0 ≤ x3_2) ∧ ((x3_0.length : Int) ≤ 9223372036854775807) ∧ (stsFact x3_0) ∧ (x3_1.length = x3_0.length) ∧ (stsSm x3_0)
def laws_toStateS_l3.L : FL := fCons (fC (cArr false kSts)) (fCons (fC (cOwn kSts 45)) (fCons (fC cInt) (fNil)))
def laws_toStateS_l3.o0 (x3_0 : List St) (x3_1 : List St) (x3_2 : Int) (r : Nat × (List St) × Int × Unit) : Ex × List FV × List Blk := (.exit 0, [.c (.arr false (.sts x3_0)), .c (.own 0 7 45), .c (.int r.2.2.1)], [.arr (.sts r.2.1)])
def laws_toStateS_l3.o (x3_0 : List St) (x3_1 : List St) (x3_2 : Int) (r : Nat × (List St) × Int × Unit) : Ex × List FV × List Blk := pickAlt [] (laws_toStateS_l3.o0 x3_0 x3_1 x3_2 r)
def laws_toStateS_l3.d : LDat := ldat 3 [0, 3, 4] [] laws_toStateS_l3.L (fun s => laws_toStateS_l3.P s.1 s.2.1 s.2.2.1) (fun s => []) (fun s => laws_toStateS_l3.o0 s.1 s.2.1 s.2.2.1 (laws_toStateS_l3.R s.1 s.2.1 s.2.2.1)) (fun s => laws_toStateS_l3.M s.1 s.2.1 s.2.2.1)
def laws_toStateS.S (a0 : List St) : (List St) := ((laws_toStateS_l3.R a0 (List.replicate ((a0.length : Int)).toNat zSt) 0).2.1)
def laws_toStateS.enc (r : (List St)) : AV × List Blk := (.v (.c (.own 0 7 45)), [.arr (.sts r)])
def laws_toStateS.P (a0 : List St) : Prop := (stsSm a0)
def laws_toStateS.L : ShL := sCons sSts (sNil)
def laws_toStateS.c : Ctr := vctr 85 laws_toStateS.L (some fun s => laws_toStateS.P s.1) (fun s => laws_toStateS.enc (laws_toStateS.S s.1))
theorem laws_toStateS_l3.w (x3_0 : List St) (x3_1 : List St) (x3_2 : Int) : evBody (env [laws_toState.c]) [] (bodyAt Try.f85 0) laws_toStateS_l3.d (x3_0, (x3_1, (x3_2, ()))) = (And (Imp ((decide (x3_2 < (x3_0.length : Int))) = true) (And ((0 : Int) ≤ x3_2 ∧ x3_2 < (x3_0.length : Int)) (And (laws_toState.P (x3_0.getD (x3_2).toNat zSt)) (And ((0 : Int) ≤ x3_2 ∧ x3_2 < (x3_1.length : Int)) (And ((x3_2).toNat < x3_1.length) (And (laws_toStateS_l3.P x3_0 (x3_1.set (x3_2).toNat (laws_toState.S (x3_0.getD (x3_2).toNat zSt))) (wrap (x3_2 + 1))) (And (laws_toStateS_l3.M x3_0 (x3_1.set (x3_2).toNat (laws_toState.S (x3_0.getD (x3_2).toNat zSt))) (wrap (x3_2 + 1)) < laws_toStateS_l3.M x3_0 x3_1 x3_2) (laws_toStateS_l3.o x3_0 (x3_1.set (x3_2).toNat (laws_toState.S (x3_0.getD (x3_2).toNat zSt))) (wrap (x3_2 + 1)) (laws_toStateS_l3.R x3_0 (x3_1.set (x3_2).toNat (laws_toState.S (x3_0.getD (x3_2).toNat zSt))) (wrap (x3_2 + 1))) = laws_toStateS_l3.o x3_0 x3_1 x3_2 (laws_toStateS_l3.R x3_0 x3_1 x3_2))))))))) (Imp ((decide (x3_2 < (x3_0.length : Int))) = false) (laws_toStateS_l3.o x3_0 x3_1 x3_2 (laws_toStateS_l3.R x3_0 x3_1 x3_2) = (.exit 0, [.c (.arr false (.sts x3_0)), .c (.own 0 7 45), .c (.int x3_2)], [.arr (.sts x3_1)])))) := by kernel_rfl
theorem laws_toStateS_l3.v (x3_0 : List St) (x3_1 : List St) (x3_2 : Int) (hp : laws_toStateS_l3.P x3_0 x3_1 x3_2) : And (Imp ((decide (x3_2 < (x3_0.length : Int))) = true) (And ((0 : Int) ≤ x3_2 ∧ x3_2 < (x3_0.length : Int)) (And (laws_toState.P (x3_0.getD (x3_2).toNat zSt)) (And ((0 : Int) ≤ x3_2 ∧ x3_2 < (x3_1.length : Int)) (And ((x3_2).toNat < x3_1.length) (And (laws_toStateS_l3.P x3_0 (x3_1.set (x3_2).toNat (laws_toState.S (x3_0.getD (x3_2).toNat zSt))) (wrap (x3_2 + 1))) (And (laws_toStateS_l3.M x3_0 (x3_1.set (x3_2).toNat (laws_toState.S (x3_0.getD (x3_2).toNat zSt))) (wrap (x3_2 + 1)) < laws_toStateS_l3.M x3_0 x3_1 x3_2) (laws_toStateS_l3.o x3_0 (x3_1.set (x3_2).toNat (laws_toState.S (x3_0.getD (x3_2).toNat zSt))) (wrap (x3_2 + 1)) (laws_toStateS_l3.R x3_0 (x3_1.set (x3_2).toNat (laws_toState.S (x3_0.getD (x3_2).toNat zSt))) (wrap (x3_2 + 1))) = laws_toStateS_l3.o x3_0 x3_1 x3_2 (laws_toStateS_l3.R x3_0 x3_1 x3_2))))))))) (Imp ((decide (x3_2 < (x3_0.length : Int))) = false) (laws_toStateS_l3.o x3_0 x3_1 x3_2 (laws_toStateS_l3.R x3_0 x3_1 x3_2) = (.exit 0, [.c (.arr false (.sts x3_0)), .c (.own 0 7 45), .c (.int x3_2)], [.arr (.sts x3_1)]))) := by
  simp only [laws_toStateS_l3.P] at hp
  obtain ⟨p0, p1, p2, p3, p4⟩ := hp
  refine ⟨fun h1 => ?_, fun h1 => ?_⟩
  · refine ⟨by first | assumption | omega | grind [wrap_id, sts_1, sts_2, stsSm, laws_toState.P], ?_⟩
    refine ⟨by first | assumption | omega | grind [wrap_id, sts_1, sts_2, stsSm, laws_toState.P], ?_⟩
    refine ⟨by first | assumption | omega | grind [wrap_id, sts_1, sts_2, stsSm, laws_toState.P], ?_⟩
    refine ⟨by first | assumption | omega | grind [wrap_id, sts_1, sts_2, stsSm, laws_toState.P], ?_⟩
    have hμ : laws_toStateS_l3.M x3_0 x3_1 x3_2 = laws_toStateS_l3.M x3_0 (x3_1.set (x3_2).toNat (laws_toState.S (x3_0.getD (x3_2).toNat zSt))) (wrap (x3_2 + 1)) + 1 := by simp only [laws_toStateS_l3.M]; first | omega | grind [wrap_id]
    refine ⟨by simp only [laws_toStateS_l3.P]; refine ⟨(by first | assumption | omega | grind [wrap_id, sts_1, sts_2, stsSm, laws_toState.P]), (by first | assumption | omega | grind [wrap_id, sts_1, sts_2, stsSm, laws_toState.P]), (by first | assumption | omega | grind [wrap_id, sts_1, sts_2, stsSm, laws_toState.P]), (by first | assumption | omega | grind [wrap_id, sts_1, sts_2, stsSm, laws_toState.P]), (by first | assumption | omega | grind [wrap_id, sts_1, sts_2, stsSm, laws_toState.P])⟩, by omega, ?_⟩
    have e : laws_toStateS_l3.R x3_0 x3_1 x3_2 = laws_toStateS_l3.R x3_0 (x3_1.set (x3_2).toNat (laws_toState.S (x3_0.getD (x3_2).toNat zSt))) (wrap (x3_2 + 1)) := by
      have e1 : laws_toStateS_l3.R x3_0 x3_1 x3_2 = laws_toStateS_l3.S (laws_toStateS_l3.M x3_0 x3_1 x3_2) x3_0 (x3_1.set (x3_2).toNat (laws_toState.S (x3_0.getD (x3_2).toNat zSt))) (wrap (x3_2 + 1)) := by simp only [laws_toStateS_l3.R, laws_toStateS_l3.S, h1, cond_true, cond_false]
      rw [e1, hμ]
      rfl
    rw [e]
    rfl
  · have e : laws_toStateS_l3.R x3_0 x3_1 x3_2 = (0, (x3_1, (x3_2, ()))) := by simp only [laws_toStateS_l3.R, laws_toStateS_l3.S, h1, cond_true, cond_false]
    rw [e]
    rfl
theorem laws_toStateS_l3.g (hG : ∀ c ∈ [laws_toState.c], Good Try.prog c) : LGood Try.prog Try.f85.ntmps laws_toStateS_l3.d.ctr (bodyAt Try.f85 0) := by
  refine lgood (LL := []) hG (by kernel_rfl) (by rw [show loopsOf (bodyAt Try.f85 0) = [] from by kernel_rfl]; exact noL rfl) fun s hp => ?_
  refine Eq.mpr (laws_toStateS_l3.w s.1 s.2.1 s.2.2.1) ?_
  replace hp : laws_toStateS_l3.P s.1 s.2.1 s.2.2.1 := hp
  exact laws_toStateS_l3.v _ _ _ hp
def laws_toStateS_l3.E (x3_0 : List St) (k : Nat) (a : (List St)) : Option (Nat × (List St) × Int × Unit) := none
def laws_toStateS_l3.A (x3_0 : List St) (k : Nat) (a : (List St)) : (List St) := (a.set k (laws_toState.S (x3_0.getD k zSt)))
def laws_toStateS_l3.fin (x3_0 : List St) (k : Nat) (a : (List St)) : Nat × (List St) × Int × Unit := (0, (a, ((k : Int), ())))
def laws_toStateS_l3.acc (x3_0 : List St) (a : (List St)) : Nat → (List St)
  | 0 => a
  | k + 1 => laws_toStateS_l3.A x3_0 k (laws_toStateS_l3.acc x3_0 a k)
theorem laws_toStateS_l3.law (x3_0 : List St) (a : (List St)) (n : Nat) (hT : (x3_0.length : Int) = (n : Int)) (hn : (n : Int) ≤ 9223372036854775807) :
    ((∀ k, k < n → laws_toStateS_l3.E x3_0 k (laws_toStateS_l3.acc x3_0 a k) = none) ∧ laws_toStateS_l3.R x3_0 a 0 = laws_toStateS_l3.fin x3_0 n (laws_toStateS_l3.acc x3_0 a n)) ∨ (∃ k r, k < n ∧ laws_toStateS_l3.E x3_0 k (laws_toStateS_l3.acc x3_0 a k) = some r ∧ (∀ j, j < k → laws_toStateS_l3.E x3_0 j (laws_toStateS_l3.acc x3_0 a j) = none) ∧ laws_toStateS_l3.R x3_0 a 0 = r) := by
  have hM : laws_toStateS_l3.M x3_0 a 0 + 1 = n + 1 := by simp only [laws_toStateS_l3.M]; omega
  unfold laws_toStateS_l3.R
  rw [hM]
  refine loopE (fun m i b => laws_toStateS_l3.S m x3_0 b i) n hn (laws_toStateS_l3.acc x3_0 a) (laws_toStateS_l3.E x3_0 ) (laws_toStateS_l3.fin x3_0 ) fun m k hk => ?_
  have ha : laws_toStateS_l3.acc x3_0 a (k + 1) = laws_toStateS_l3.A x3_0 k (laws_toStateS_l3.acc x3_0 a k) := rfl
  rw [ha]
  generalize laws_toStateS_l3.acc x3_0 a k = b
  simp only [laws_toStateS_l3.S, laws_toStateS_l3.E, laws_toStateS_l3.A, laws_toStateS_l3.fin, hT, Int.toNat_natCast]
  all_goals grind
theorem laws_toStateS.w (a0 : List St) (K : AV → List Blk → Prop) : evFn (env [laws_toState.c]) [laws_toStateS_l3.d.ctr] [[some (.st, 45)]] Try.f85 [] (laws_toStateS.L.enc (a0, ())) K = (And (((a0.length : Int) : Int) = (a0.length : Int) ∧ 0 ≤ (a0.length : Int) ∧ (a0.length : Int) ≤ 4294967296) (And (laws_toStateS_l3.P a0 (List.replicate ((a0.length : Int)).toNat zSt) 0) (K (.v (.c (.own 0 7 45))) ([.arr (.sts (laws_toStateS_l3.R a0 (List.replicate ((a0.length : Int)).toNat zSt) 0).2.1)])))) := by kernel_rfl
theorem laws_toStateS.v (a0 : List St) (hp : laws_toStateS.P a0) (hf : stsFact a0 ∧ True) (K : AV → List Blk → Prop) (hK : K (laws_toStateS.enc (laws_toStateS.S a0)).1 (laws_toStateS.enc (laws_toStateS.S a0)).2) : And (((a0.length : Int) : Int) = (a0.length : Int) ∧ 0 ≤ (a0.length : Int) ∧ (a0.length : Int) ≤ 4294967296) (And (laws_toStateS_l3.P a0 (List.replicate ((a0.length : Int)).toNat zSt) 0) (K (.v (.c (.own 0 7 45))) ([.arr (.sts (laws_toStateS_l3.R a0 (List.replicate ((a0.length : Int)).toNat zSt) 0).2.1)]))) := by
  simp only [laws_toStateS.P] at hp
  obtain ⟨f0, -⟩ := hf
  try simp only [big] at *
  refine ⟨by first | assumption | omega | grind [wrap_id, sts_1, sts_2, stsSm, laws_toState.P], ?_⟩
  refine ⟨by simp only [laws_toStateS_l3.P]; refine ⟨(by first | assumption | omega | grind [wrap_id, sts_1, sts_2, stsSm, laws_toState.P]), (by first | assumption | omega | grind [wrap_id, sts_1, sts_2, stsSm, laws_toState.P]), (by first | assumption | omega | grind [wrap_id, sts_1, sts_2, stsSm, laws_toState.P]), (by first | assumption | omega | grind [wrap_id, sts_1, sts_2, stsSm, laws_toState.P]), (by first | assumption | omega | grind [wrap_id, sts_1, sts_2, stsSm, laws_toState.P])⟩, ?_⟩
  have e : laws_toStateS.S a0 = ((laws_toStateS_l3.R a0 (List.replicate ((a0.length : Int)).toNat zSt) 0).2.1) := by simp only [laws_toStateS.S, cond_true, cond_false]
  rw [e] at hK
  exact hK
theorem laws_toStateS.good : Good Try.prog laws_toStateS.c :=
  vgood (sh := [[some (.st, 45)]]) (LL := [laws_toStateS_l3.d.ctr]) (consG laws_toState.good noG) (fn := Try.f85) (by kernel_rfl) (by kernel_rfl) (by rw [show loopsOf (bodyOf Try.f85) = [(bodyAt Try.f85 0)] from by kernel_rfl]; exact consL (l := laws_toStateS_l3.d.ctr) (by kernel_rfl) (laws_toStateS_l3.g (consG laws_toState.good noG)) (noL rfl)) fun s hp hf => by
    refine Eq.mpr (laws_toStateS.w (s.1) _) ?_
    exact laws_toStateS.v _ (hp _ rfl) hf (fun r bs' => And (r = (laws_toStateS.c.out s).1) (bs' = (laws_toStateS.c.out s).2)) ⟨rfl, rfl⟩
end Hw
end Go.Proofs.Ytfboldbfbmmahaa
