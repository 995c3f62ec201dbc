/- Draws, 3: made by gen.py. -/
import Derived.Test.YtfboldbfbmmahaaE1
set_option linter.unusedVariables false
set_option linter.unusedSimpArgs false
set_option maxRecDepth 100000
set_option maxHeartbeats 400000
namespace Go.Proofs.Ytfboldbfbmmahaa
namespace Hw
open Go
noncomputable section
attribute [local irreducible] evFn evBody wrap wxor
def lstK (b : Bk) (k : Int) : List Int := if k = 1 then b.own else b.notes
def awayW (b : Bk) (k f s : Int) : Bk := if k = 1 then ⟨b.own.set (f - 1).toNat (wrap (b.own.getD (f - 1).toNat 0 - s)), b.notes, wrap (b.locked + s)⟩ else ⟨b.own, b.notes.set (f - 1).toNat (wrap (b.notes.getD (f - 1).toNat 0 - s)), b.locked⟩
abbrev AwW (b : Bk) (k f s : Int) (r : Bk) (t : Bool) : Prop := (t = true ↔ ¬ (lstK b k).getD (f - 1).toNat 0 < s) ∧ (t = true → r = awayW b k f s) ∧ (¬ t = true → r = b)
def backW (b : Bk) (k f s : Int) : Bk := if k = 1 then ⟨b.own.set (f - 1).toNat (wrap (b.own.getD (f - 1).toNat 0 + s)), b.notes, wrap (b.locked - s)⟩ else ⟨b.own, b.notes.set (f - 1).toNat (wrap (b.notes.getD (f - 1).toNat 0 + s)), b.locked⟩
abbrev BkW (b : Bk) (k f s : Int) (r : Bk) (t : Bool) : Prop := (t = true ↔ ¬ (k = 1 ∧ b.locked < s ∨ k = 2 ∧ wrap (Zu.S b.notes + s) > 30)) ∧ (t = true → r = backW b k f s) ∧ (¬ t = true → r = b)
theorem aww_f1 {k f s i : Int} {b : Bk} {n : List Int} (hk : k = 1) (e : i = f - 1) (h : b.own.getD i.toNat 0 < s) (hn : n = b.notes) : AwW b k f s ⟨b.own, n, b.locked⟩ false := by
  subst hn
  refine ⟨⟨fun g => (by cases g), fun g => ?_⟩, fun g => (by cases g), fun _ => rfl⟩
  unfold lstK at g
  rw [if_pos hk, ← e] at g
  exact absurd h g
theorem aww_f2 {k f s i : Int} {b : Bk} {n : List Int} (hk : ¬ k = 1) (e : i = f - 1) (h : b.notes.getD i.toNat 0 < s) (hn : n = b.own) : AwW b k f s ⟨n, b.notes, b.locked⟩ false := by
  subst hn
  refine ⟨⟨fun g => (by cases g), fun g => ?_⟩, fun g => (by cases g), fun _ => rfl⟩
  unfold lstK at g
  rw [if_neg hk, ← e] at g
  exact absurd h g
theorem aww_t1 {k f s i : Int} {b : Bk} {n : List Int} (hk : k = 1) (e : i = f - 1) (h : ¬ b.own.getD i.toNat 0 < s) (hn : n = b.notes) : AwW b k f s ⟨b.own.set i.toNat (wrap (b.own.getD i.toNat 0 - s)), n, wrap (b.locked + s)⟩ true := by
  subst hn e
  refine ⟨⟨fun _ => ?_, fun _ => rfl⟩, fun _ => ?_, fun g => absurd rfl g⟩
  · unfold lstK
    rw [if_pos hk]
    exact h
  · unfold awayW
    rw [if_pos hk]
theorem aww_t2 {k f s i : Int} {b : Bk} {n : List Int} (hk : ¬ k = 1) (e : i = f - 1) (h : ¬ b.notes.getD i.toNat 0 < s) (hn : n = b.own) : AwW b k f s ⟨n, b.notes.set i.toNat (wrap (b.notes.getD i.toNat 0 - s)), b.locked⟩ true := by
  subst hn e
  refine ⟨⟨fun _ => ?_, fun _ => rfl⟩, fun _ => ?_, fun g => absurd rfl g⟩
  · unfold lstK
    rw [if_neg hk]
    exact h
  · unfold awayW
    rw [if_neg hk]
theorem bkw_f {k f s : Int} {b : Bk} (h : k = 1 ∧ b.locked < s ∨ k = 2 ∧ wrap (Zu.S b.notes + s) > 30) : BkW b k f s b false := ⟨⟨fun g => (by cases g), fun g => absurd h g⟩, fun g => (by cases g), fun _ => rfl⟩
theorem bkw_t1 {k f s i : Int} {b : Bk} {n : List Int} (h : ¬ (k = 1 ∧ b.locked < s ∨ k = 2 ∧ wrap (Zu.S b.notes + s) > 30)) (hk : k = 1) (e : i = f - 1) (hn : n = b.notes) : BkW b k f s ⟨b.own.set i.toNat (wrap (b.own.getD i.toNat 0 + s)), n, wrap (b.locked - s)⟩ true := by
  subst hn e
  refine ⟨⟨fun _ => h, fun _ => rfl⟩, fun _ => ?_, fun g => absurd rfl g⟩
  unfold backW
  rw [if_pos hk]
theorem bkw_t2 {k f s i : Int} {b : Bk} {n : List Int} (h : ¬ (k = 1 ∧ b.locked < s ∨ k = 2 ∧ wrap (Zu.S b.notes + s) > 30)) (hk : ¬ k = 1) (e : i = f - 1) (hn : n = b.own) : BkW b k f s ⟨n, b.notes.set i.toNat (wrap (b.notes.getD i.toNat 0 + s)), b.locked⟩ true := by
  subst hn e
  refine ⟨⟨fun _ => h, fun _ => rfl⟩, fun _ => ?_, fun g => absurd rfl g⟩
  unfold backW
  rw [if_neg hk]

def Zo.S (a0 : Bk) (a1 : Int) : (List Int) := (a0.notes)
def Zo.enc (a0 : Bk) (a1 : Int) (r : (List Int)) : AV × List Blk := (.v (.c (.own 0 1 3)), [.arr (.ints a0.own), .arr (.ints r)])
def Zo.P (a0 : Bk) (a1 : Int) : Prop := (a1 = 1)
def Zo.L : FL := fCons (fAgg cBkO) (fCons (fSh sInt) (fNil))
def Zo.c : Ctr := hctr 126 [false, false] Zo.L (some fun s => Zo.P s.1 s.2.1) (fun s => Zo.enc s.1 s.2.1 (Zo.S s.1 s.2.1))
theorem Zo.w (a0 : Bk) (a1 : Int) (K : AV → List Blk → Prop) : evFn (envS [] []) [] [[some (.int, 3)]] [] Try.f126 (Zo.L.inp (a0, (a1, ()))).1 (Zo.L.inp (a0, (a1, ()))).2 K = (And (Imp ((a1 == 1) = true) (K (.v (.c (.own 0 1 3))) ([.arr (.ints a0.own), .arr (.ints a0.notes)]))) (Imp ((a1 == 1) = false) (K (.v (.c (.own 1 1 3))) ([.arr (.ints a0.own), .arr (.ints a0.notes)])))) := by kernel_rfl
theorem Zo.v (a0 : Bk) (a1 : Int) (hp : Zo.P a0 a1) (K : AV → List Blk → Prop) (hK : K (Zo.enc a0 a1 (Zo.S a0 a1)).1 (Zo.enc a0 a1 (Zo.S a0 a1)).2) : And (Imp ((a1 == 1) = true) (K (.v (.c (.own 0 1 3))) ([.arr (.ints a0.own), .arr (.ints a0.notes)]))) (Imp ((a1 == 1) = false) (K (.v (.c (.own 1 1 3))) ([.arr (.ints a0.own), .arr (.ints a0.notes)]))) := by
  simp only [Zo.P] at hp
  refine ⟨fun h1 => ?_, fun h1 => ?_⟩
  · have e : Zo.S a0 a1 = (a0.notes) := by unfold Zo.S; exact rfl
    rw [e] at hK
    exact hK
  · exfalso; grind
theorem Zo.good : Good Try.prog Zo.c :=
  hgood (sh := [[some (.int, 3)]]) (tk := []) (sp := []) (LL := []) noG (fn := Try.f126) (by kernel_rfl) (by kernel_rfl) (by rw [show loopsOf (bodyOf Try.f126) = [] from by kernel_rfl]; exact noL rfl) fun s hp => by
    exact Eq.mpr (Zo.w s.1 s.2.1 (fun r bs' => And (r = (Zo.c.out s).1) (bs' = (Zo.c.out s).2))) (Zo.v s.1 s.2.1 (hp _ rfl) (fun r bs' => And (r = (Zo.c.out s).1) (bs' = (Zo.c.out s).2)) ⟨rfl, rfl⟩)
def Zp.S (a0 : Bk) (a1 : Int) : (List Int) := (a0.own)
def Zp.enc (a0 : Bk) (a1 : Int) (r : (List Int)) : AV × List Blk := (.v (.c (.own 1 1 3)), [.arr (.ints r), .arr (.ints a0.notes)])
def Zp.P (a0 : Bk) (a1 : Int) : Prop := (a1 ≠ 1)
def Zp.L : FL := fCons (fAgg cBkO) (fCons (fSh sInt) (fNil))
def Zp.c : Ctr := hctr 126 [false, false] Zp.L (some fun s => Zp.P s.1 s.2.1) (fun s => Zp.enc s.1 s.2.1 (Zp.S s.1 s.2.1))
theorem Zp.w (a0 : Bk) (a1 : Int) (K : AV → List Blk → Prop) : evFn (envS [] []) [] [[some (.int, 3)]] [] Try.f126 (Zp.L.inp (a0, (a1, ()))).1 (Zp.L.inp (a0, (a1, ()))).2 K = (And (Imp ((a1 == 1) = true) (K (.v (.c (.own 0 1 3))) ([.arr (.ints a0.own), .arr (.ints a0.notes)]))) (Imp ((a1 == 1) = false) (K (.v (.c (.own 1 1 3))) ([.arr (.ints a0.own), .arr (.ints a0.notes)])))) := by kernel_rfl
theorem Zp.v (a0 : Bk) (a1 : Int) (hp : Zp.P a0 a1) (K : AV → List Blk → Prop) (hK : K (Zp.enc a0 a1 (Zp.S a0 a1)).1 (Zp.enc a0 a1 (Zp.S a0 a1)).2) : And (Imp ((a1 == 1) = true) (K (.v (.c (.own 0 1 3))) ([.arr (.ints a0.own), .arr (.ints a0.notes)]))) (Imp ((a1 == 1) = false) (K (.v (.c (.own 1 1 3))) ([.arr (.ints a0.own), .arr (.ints a0.notes)]))) := by
  simp only [Zp.P] at hp
  refine ⟨fun h1 => ?_, fun h1 => ?_⟩
  · exfalso; grind
  · have e : Zp.S a0 a1 = (a0.own) := by unfold Zp.S; exact rfl
    rw [e] at hK
    exact hK
theorem Zp.good : Good Try.prog Zp.c :=
  hgood (sh := [[some (.int, 3)]]) (tk := []) (sp := []) (LL := []) noG (fn := Try.f126) (by kernel_rfl) (by kernel_rfl) (by rw [show loopsOf (bodyOf Try.f126) = [] from by kernel_rfl]; exact noL rfl) fun s hp => by
    exact Eq.mpr (Zp.w s.1 s.2.1 (fun r bs' => And (r = (Zp.c.out s).1) (bs' = (Zp.c.out s).2))) (Zp.v s.1 s.2.1 (hp _ rfl) (fun r bs' => And (r = (Zp.c.out s).1) (bs' = (Zp.c.out s).2)) ⟨rfl, rfl⟩)
def Zq.S (a0 : Bk) (a1 : Int) : (List Int) := (a0.own)
def Zq.enc (a0 : Bk) (a1 : Int) (r : (List Int)) : AV × List Blk := (.v (.c (.arr false (.ints r))), [])
def Zq.P (a0 : Bk) (a1 : Int) : Prop := (a1 = 1)
def Zq.L : FL := fCons (fAgg (cBk false)) (fCons (fSh sInt) (fNil))
def Zq.c : Ctr := hctr 126 [false, false] Zq.L (some fun s => Zq.P s.1 s.2.1) (fun s => Zq.enc s.1 s.2.1 (Zq.S s.1 s.2.1))
theorem Zq.w (a0 : Bk) (a1 : Int) (K : AV → List Blk → Prop) : evFn (envS [] []) [] [] [] Try.f126 (Zq.L.inp (a0, (a1, ()))).1 (Zq.L.inp (a0, (a1, ()))).2 K = (And (Imp ((a1 == 1) = true) (K (.v (.c (.arr false (.ints a0.own)))) ([]))) (Imp ((a1 == 1) = false) (K (.v (.c (.arr false (.ints a0.notes)))) ([])))) := by kernel_rfl
theorem Zq.v (a0 : Bk) (a1 : Int) (hp : Zq.P a0 a1) (K : AV → List Blk → Prop) (hK : K (Zq.enc a0 a1 (Zq.S a0 a1)).1 (Zq.enc a0 a1 (Zq.S a0 a1)).2) : And (Imp ((a1 == 1) = true) (K (.v (.c (.arr false (.ints a0.own)))) ([]))) (Imp ((a1 == 1) = false) (K (.v (.c (.arr false (.ints a0.notes)))) ([]))) := by
  simp only [Zq.P] at hp
  refine ⟨fun h1 => ?_, fun h1 => ?_⟩
  · have e : Zq.S a0 a1 = (a0.own) := by unfold Zq.S; exact rfl
    rw [e] at hK
    exact hK
  · exfalso; grind
theorem Zq.good : Good Try.prog Zq.c :=
  hgood (sh := []) (tk := []) (sp := []) (LL := []) noG (fn := Try.f126) (by kernel_rfl) (by kernel_rfl) (by rw [show loopsOf (bodyOf Try.f126) = [] from by kernel_rfl]; exact noL rfl) fun s hp => by
    exact Eq.mpr (Zq.w s.1 s.2.1 (fun r bs' => And (r = (Zq.c.out s).1) (bs' = (Zq.c.out s).2))) (Zq.v s.1 s.2.1 (hp _ rfl) (fun r bs' => And (r = (Zq.c.out s).1) (bs' = (Zq.c.out s).2)) ⟨rfl, rfl⟩)
def Zr.S (a0 : Bk) (a1 : Int) : (List Int) := (a0.notes)
def Zr.enc (a0 : Bk) (a1 : Int) (r : (List Int)) : AV × List Blk := (.v (.c (.arr false (.ints r))), [])
def Zr.P (a0 : Bk) (a1 : Int) : Prop := (a1 ≠ 1)
def Zr.L : FL := fCons (fAgg (cBk false)) (fCons (fSh sInt) (fNil))
def Zr.c : Ctr := hctr 126 [false, false] Zr.L (some fun s => Zr.P s.1 s.2.1) (fun s => Zr.enc s.1 s.2.1 (Zr.S s.1 s.2.1))
theorem Zr.w (a0 : Bk) (a1 : Int) (K : AV → List Blk → Prop) : evFn (envS [] []) [] [] [] Try.f126 (Zr.L.inp (a0, (a1, ()))).1 (Zr.L.inp (a0, (a1, ()))).2 K = (And (Imp ((a1 == 1) = true) (K (.v (.c (.arr false (.ints a0.own)))) ([]))) (Imp ((a1 == 1) = false) (K (.v (.c (.arr false (.ints a0.notes)))) ([])))) := by kernel_rfl
theorem Zr.v (a0 : Bk) (a1 : Int) (hp : Zr.P a0 a1) (K : AV → List Blk → Prop) (hK : K (Zr.enc a0 a1 (Zr.S a0 a1)).1 (Zr.enc a0 a1 (Zr.S a0 a1)).2) : And (Imp ((a1 == 1) = true) (K (.v (.c (.arr false (.ints a0.own)))) ([]))) (Imp ((a1 == 1) = false) (K (.v (.c (.arr false (.ints a0.notes)))) ([]))) := by
  simp only [Zr.P] at hp
  refine ⟨fun h1 => ?_, fun h1 => ?_⟩
  · exfalso; grind
  · have e : Zr.S a0 a1 = (a0.notes) := by unfold Zr.S; exact rfl
    rw [e] at hK
    exact hK
theorem Zr.good : Good Try.prog Zr.c :=
  hgood (sh := []) (tk := []) (sp := []) (LL := []) noG (fn := Try.f126) (by kernel_rfl) (by kernel_rfl) (by rw [show loopsOf (bodyOf Try.f126) = [] from by kernel_rfl]; exact noL rfl) fun s hp => by
    exact Eq.mpr (Zr.w s.1 s.2.1 (fun r bs' => And (r = (Zr.c.out s).1) (bs' = (Zr.c.out s).2))) (Zr.v s.1 s.2.1 (hp _ rfl) (fun r bs' => And (r = (Zr.c.out s).1) (bs' = (Zr.c.out s).2)) ⟨rfl, rfl⟩)
def Zs.L : FL := fCons (fAgg cBkO) (fCons (fSh sInt) (fCons (fSh sInt) (fCons (fSh sInt) (fNil))))
def Zs : Bk × Int × Int × Int × Unit → FR (Bk × Bool) := fun (a0, a1, a2, a3, ()) => ⟨(BIn a0) ∧ (1 ≤ a2 ∧ a2 ≤ 3) ∧ True, fun X => Or (And (Zo.P a0 a1) (Lt (wrap (a2 - 1)) fun x1 => And ((0 : Int) ≤ x1 ∧ x1 < (a0.own.length : Int)) (And ((x1).toNat < a0.own.length) (And (Imp ((decide ((a0.own.getD (x1).toNat 0) < a3)) = true) (X ((⟨a0.own, (Zo.S a0 a1), a0.locked⟩ : Bk), false))) (Imp ((decide ((a0.own.getD (x1).toNat 0) < a3)) = false) (And ((0 : Int) ≤ x1 ∧ x1 < (a0.own.length : Int)) (And ((x1).toNat < a0.own.length) (And ((0 : Int) ≤ x1 ∧ x1 < (a0.own.length : Int)) (And ((x1).toNat < a0.own.length) (And (Imp ((a1 == 1) = true) (X ((⟨a0.own.set (x1).toNat (wrap ((a0.own.getD (x1).toNat 0) - a3)), (Zo.S a0 a1), wrap (a0.locked + a3)⟩ : Bk), true))) (Imp ((a1 == 1) = false) (X ((⟨a0.own.set (x1).toNat (wrap ((a0.own.getD (x1).toNat 0) - a3)), (Zo.S a0 a1), a0.locked⟩ : Bk), true))))))))))))) (And (Zp.P a0 a1) (Lt (wrap (a2 - 1)) fun x2 => And ((0 : Int) ≤ x2 ∧ x2 < (a0.notes.length : Int)) (And ((x2).toNat < a0.notes.length) (And (Imp ((decide ((a0.notes.getD (x2).toNat 0) < a3)) = true) (X ((⟨(Zp.S a0 a1), a0.notes, a0.locked⟩ : Bk), false))) (Imp ((decide ((a0.notes.getD (x2).toNat 0) < a3)) = false) (And ((0 : Int) ≤ x2 ∧ x2 < (a0.notes.length : Int)) (And ((x2).toNat < a0.notes.length) (And ((0 : Int) ≤ x2 ∧ x2 < (a0.notes.length : Int)) (And ((x2).toNat < a0.notes.length) (And (Imp ((a1 == 1) = true) (X ((⟨(Zp.S a0 a1), a0.notes.set (x2).toNat (wrap ((a0.notes.getD (x2).toNat 0) - a3)), wrap (a0.locked + a3)⟩ : Bk), true))) (Imp ((a1 == 1) = false) (X ((⟨(Zp.S a0 a1), a0.notes.set (x2).toNat (wrap ((a0.notes.getD (x2).toNat 0) - a3)), a0.locked⟩ : Bk), true))))))))))))), fun r => (BIn r.1) ∧ (AwW a0 a1 a2 a3 r.1 r.2) ∧ True, fun r => (.tup [.agg [.own 0 1 3, .own 1 1 3, .int r.1.locked], .c (.bool r.2)], [.arr (.ints r.1.own), .arr (.ints r.1.notes)])⟩
theorem Zs.X : XF Zs := mkF (zBk, false) fun (a0, a1, a2, a3, ()) hp => by
  obtain ⟨p0, p1, -⟩ := hp
  have p2 := p0.1
  have p3 := p0.2.1
  have p4 := p0.2.2
  have p5 := @wrap_inI
  dsimp only [Zs]
  refine May.alt (c := (a1 == 1)) (B.eq) (fun h1 => ?_) (fun h1 => ?_)
  refine May.chk ?_ fun c1 => May.lw ⟨?_, ?_⟩ fun x1 e1 => May.chk ?_ fun c2 => May.chk ?_ fun c3 => May.iff (B.dec) (fun h2 => ?_) (fun h2 => ?_); rotate_left 5
  refine May.ret ⟨?_, ?_, trivial⟩; rotate_left 2
  refine May.chk ?_ fun c4 => May.chk ?_ fun c5 => May.chk ?_ fun c6 => May.chk ?_ fun c7 => May.iff (B.eq) (fun h3 => ?_) (fun h3 => ?_); rotate_left 4
  refine May.ret ⟨?_, ?_, trivial⟩; rotate_left 2
  refine May.no ?_; rotate_left 1
  refine May.chk ?_ fun c8 => May.lw ⟨?_, ?_⟩ fun x2 e2 => May.chk ?_ fun c9 => May.chk ?_ fun c10 => May.iff (B.dec) (fun h2 => ?_) (fun h2 => ?_); rotate_left 5
  refine May.ret ⟨?_, ?_, trivial⟩; rotate_left 2
  refine May.chk ?_ fun c11 => May.chk ?_ fun c12 => May.chk ?_ fun c13 => May.chk ?_ fun c14 => May.iff (B.eq) (fun h3 => ?_) (fun h3 => ?_); rotate_left 4
  refine May.no ?_; rotate_left 1
  refine May.ret ⟨?_, ?_, trivial⟩
  all_goals try dsimp only
  all_goals first | with_reducible assumption | omega | (exact bin_mk (by (try simp only [List.length_set]); assumption) (by (try simp only [List.length_set]); assumption) (by first | exact wrap_inI _ | assumption); done) | (exact h1; done) | (exact aww_f1 h1 e1 h2 rfl; done) | (exact aww_f2 h1 e2 h2 rfl; done) | (exact aww_t1 h1 e1 h2 rfl; done) | (exact aww_t2 h1 e2 h2 rfl; done) | ((simp only [List.length_set]; omega); done) | ((show List.length (_ : List Int) = 3; assumption); done) | (exact absurd h1 h3; done) | (exact absurd h3 h1; done) | (exact absurd h2 h3; done) | (exact absurd h3 h2; done)
abbrev Zs.S := Classical.choose Zs.X
def Zs.c : Ctr := fc 125 [false, false, false, false] Zs.L Zs Zs.S
theorem Zs.good : Good Try.prog Zs.c := mkFG (fn := Try.f125) {sp := [(1, [[(13, 0)], [(13, 1)]])], sh := [[some (.int, 3), some (.int, 3), none], []]} Zs.X (consG Zo.good (consG Zp.good (consG Zq.good (consG Zr.good noG)))) (by kernel_rfl) (by kernel_rfl) (l0 (by kernel_rfl)) (c0 (by kernel_rfl)) fun s K => by kernel_rfl
def Zt.L : FL := fCons (fAgg cBkO) (fCons (fSh sInt) (fCons (fSh sInt) (fCons (fSh sInt) (fNil))))
def Zt : Bk × Int × Int × Int × Unit → FR (Bk × Bool) := fun (a0, a1, a2, a3, ()) => ⟨(BIn a0) ∧ (1 ≤ a2 ∧ a2 ≤ 3) ∧ True, fun X => Lt (bif a1 == 1 then decide (a0.locked < a3) else false) fun x1 => Lt (decide ((wrap ((Zu.S a0.notes) + a3)) > 30)) fun x2 => Lt (bif x1 then true else bif a1 == 2 then x2 else false) fun x3 => And (Imp (x3 = true) (X (a0, false))) (Imp (x3 = false) (Or (And (Zo.P a0 a1) (Lt (wrap (a2 - 1)) fun x4 => And ((0 : Int) ≤ x4 ∧ x4 < (a0.own.length : Int)) (And ((x4).toNat < a0.own.length) (And ((0 : Int) ≤ x4 ∧ x4 < (a0.own.length : Int)) (And ((x4).toNat < a0.own.length) (And (Imp ((a1 == 1) = true) (X ((⟨a0.own.set (x4).toNat (wrap ((a0.own.getD (x4).toNat 0) + a3)), (Zo.S a0 a1), wrap (a0.locked - a3)⟩ : Bk), true))) (Imp ((a1 == 1) = false) (X ((⟨a0.own.set (x4).toNat (wrap ((a0.own.getD (x4).toNat 0) + a3)), (Zo.S a0 a1), a0.locked⟩ : Bk), true))))))))) (And (Zp.P a0 a1) (Lt (wrap (a2 - 1)) fun x5 => And ((0 : Int) ≤ x5 ∧ x5 < (a0.notes.length : Int)) (And ((x5).toNat < a0.notes.length) (And ((0 : Int) ≤ x5 ∧ x5 < (a0.notes.length : Int)) (And ((x5).toNat < a0.notes.length) (And (Imp ((a1 == 1) = true) (X ((⟨(Zp.S a0 a1), a0.notes.set (x5).toNat (wrap ((a0.notes.getD (x5).toNat 0) + a3)), wrap (a0.locked - a3)⟩ : Bk), true))) (Imp ((a1 == 1) = false) (X ((⟨(Zp.S a0 a1), a0.notes.set (x5).toNat (wrap ((a0.notes.getD (x5).toNat 0) + a3)), a0.locked⟩ : Bk), true))))))))))), fun r => (BIn r.1) ∧ (BkW a0 a1 a2 a3 r.1 r.2) ∧ True, fun r => (.tup [.agg [.own 0 1 3, .own 1 1 3, .int r.1.locked], .c (.bool r.2)], [.arr (.ints r.1.own), .arr (.ints r.1.notes)])⟩
theorem Zt.X : XF Zt := mkF (zBk, false) fun (a0, a1, a2, a3, ()) hp => by
  obtain ⟨p0, p1, -⟩ := hp
  have p2 := p0.1
  have p3 := p0.2.1
  have p4 := p0.2.2
  have p5 := @wrap_inI
  dsimp only [Zt]
  refine May.lp (B.and (B.eq) (B.dec)) fun x1 e1 => May.lp (B.dec) fun x2 e2 => May.lp (B.or (e1) (B.and (B.eq) (e2))) fun x3 e3 => May.iff (e3) (fun h1 => ?_) (fun h1 => ?_)
  refine May.ret ⟨?_, ?_, trivial⟩; rotate_left 2
  refine May.alt (c := (a1 == 1)) (B.eq) (fun h2 => ?_) (fun h2 => ?_)
  refine May.chk ?_ fun c1 => May.lw ⟨?_, ?_⟩ fun x4 e4 => May.chk ?_ fun c2 => May.chk ?_ fun c3 => May.chk ?_ fun c4 => May.chk ?_ fun c5 => May.iff (B.eq) (fun h3 => ?_) (fun h3 => ?_); rotate_left 7
  refine May.ret ⟨?_, ?_, trivial⟩; rotate_left 2
  refine May.no ?_; rotate_left 1
  refine May.chk ?_ fun c6 => May.lw ⟨?_, ?_⟩ fun x5 e5 => May.chk ?_ fun c7 => May.chk ?_ fun c8 => May.chk ?_ fun c9 => May.chk ?_ fun c10 => May.iff (B.eq) (fun h3 => ?_) (fun h3 => ?_); rotate_left 7
  refine May.no ?_; rotate_left 1
  refine May.ret ⟨?_, ?_, trivial⟩
  all_goals try dsimp only
  all_goals first | with_reducible assumption | omega | (exact bin_mk (by (try simp only [List.length_set]); assumption) (by (try simp only [List.length_set]); assumption) (by first | exact wrap_inI _ | assumption); done) | (exact h2; done) | (exact bkw_f h1; done) | (exact bkw_t1 h1 h2 e4 rfl; done) | (exact bkw_t2 h1 h2 e5 rfl; done) | ((simp only [List.length_set]; omega); done) | ((show List.length (_ : List Int) = 3; assumption); done) | (exact absurd h1 h3; done) | (exact absurd h3 h1; done) | (exact absurd h2 h3; done) | (exact absurd h3 h2; done)
abbrev Zt.S := Classical.choose Zt.X
def Zt.c : Ctr := fc 134 [false, false, false, false] Zt.L Zt Zt.S
theorem Zt.good : Good Try.prog Zt.c := mkFG (fn := Try.f134) {sp := [(3, [[(34, 0)], [(34, 1)]])], sh := [[some (.int, 3), some (.int, 3), none], []]} Zt.X (consG Zu.good (consG Zo.good (consG Zp.good (consG Zq.good (consG Zr.good noG))))) (by kernel_rfl) (by kernel_rfl) (l0 (by kernel_rfl)) (c0 (by kernel_rfl)) fun s K => by kernel_rfl
def Zv.L : FL := fCons (fSh sBk) (fCons (fSh sInt) (fCons (fSh sInt) (fCons (fSh sInt) (fCons (fSh sInt) (fNil)))))
def Zv : Bk × Int × Int × Int × Int × Unit → FR (Bk × Bool) := fun (a0, a1, a2, a3, a4, ()) => ⟨(BIn a0) ∧ True, fun X => Or (Lt (bif !(Zw.S a0) then true else !(Zi.S a1 1 2)) fun x1 => Lt (bif bif x1 then true else !(Zc.S a2) then true else !(Zc.S a3)) fun x2 => And (Imp (And ((bif x2 then true else decide (a4 < 0)) = false) (True)) (Zq.P a0 a1)) (Lt (wrap (a2 - 1)) fun x3 => And (Imp (And ((bif x2 then true else decide (a4 < 0)) = false) (True)) ((0 : Int) ≤ x3 ∧ x3 < ((Zq.S a0 a1).length : Int))) (Lt (decide (((Zq.S a0 a1).getD (x3).toNat 0) < a4)) fun x4 => Lt (bif bif x2 then true else decide (a4 < 0) then true else x4) fun x5 => And (Imp (x5 = true) (X ((⟨[], [], 0⟩ : Bk), false))) (Imp (x5 = false) (Call Zl.X (a0, ()) fun x6 => Or (And (Zo.P x6 a1) (And ((0 : Int) ≤ x3 ∧ x3 < (x6.own.length : Int)) (And ((x3).toNat < x6.own.length) (And ((0 : Int) ≤ x3 ∧ x3 < (x6.own.length : Int)) (And ((x3).toNat < x6.own.length) (Lt (wrap (a3 - 1)) fun x7 => And ((0 : Int) ≤ x7 ∧ x7 < ((x6.own.set (x3).toNat (wrap ((x6.own.getD (x3).toNat 0) - a4))).length : Int)) (And ((x7).toNat < (x6.own.set (x3).toNat (wrap ((x6.own.getD (x3).toNat 0) - a4))).length) (Lt ((x6.own.set (x3).toNat (wrap ((x6.own.getD (x3).toNat 0) - a4))).getD (x7).toNat 0) fun x8 => And ((0 : Int) ≤ x7 ∧ x7 < ((x6.own.set (x3).toNat (wrap ((x6.own.getD (x3).toNat 0) - a4))).length : Int)) (And ((x7).toNat < (x6.own.set (x3).toNat (wrap ((x6.own.getD (x3).toNat 0) - a4))).length) (Lt ((x6.own.set (x3).toNat (wrap ((x6.own.getD (x3).toNat 0) - a4))).set (x7).toNat (wrap (x8 + a4))) fun x9 => X ((⟨x9, (Zo.S x6 a1), x6.locked⟩ : Bk), true))))))))))) (And (Zp.P x6 a1) (And ((0 : Int) ≤ x3 ∧ x3 < (x6.notes.length : Int)) (And ((x3).toNat < x6.notes.length) (And ((0 : Int) ≤ x3 ∧ x3 < (x6.notes.length : Int)) (And ((x3).toNat < x6.notes.length) (Lt (wrap (a3 - 1)) fun x10 => And ((0 : Int) ≤ x10 ∧ x10 < ((x6.notes.set (x3).toNat (wrap ((x6.notes.getD (x3).toNat 0) - a4))).length : Int)) (And ((x10).toNat < (x6.notes.set (x3).toNat (wrap ((x6.notes.getD (x3).toNat 0) - a4))).length) (Lt ((x6.notes.set (x3).toNat (wrap ((x6.notes.getD (x3).toNat 0) - a4))).getD (x10).toNat 0) fun x11 => And ((0 : Int) ≤ x10 ∧ x10 < ((x6.notes.set (x3).toNat (wrap ((x6.notes.getD (x3).toNat 0) - a4))).length : Int)) (And ((x10).toNat < (x6.notes.set (x3).toNat (wrap ((x6.notes.getD (x3).toNat 0) - a4))).length) (Lt ((x6.notes.set (x3).toNat (wrap ((x6.notes.getD (x3).toNat 0) - a4))).set (x10).toNat (wrap (x11 + a4))) fun x12 => X ((⟨(Zp.S x6 a1), x12, x6.locked⟩ : Bk), true)))))))))))))))) (Lt (bif !(Zw.S a0) then true else !(Zi.S a1 1 2)) fun x13 => Lt (bif bif x13 then true else !(Zc.S a2) then true else !(Zc.S a3)) fun x14 => And (Imp (And ((bif x14 then true else decide (a4 < 0)) = false) (True)) (Zr.P a0 a1)) (Lt (wrap (a2 - 1)) fun x15 => And (Imp (And ((bif x14 then true else decide (a4 < 0)) = false) (True)) ((0 : Int) ≤ x15 ∧ x15 < ((Zr.S a0 a1).length : Int))) (Lt (decide (((Zr.S a0 a1).getD (x15).toNat 0) < a4)) fun x16 => Lt (bif bif x14 then true else decide (a4 < 0) then true else x16) fun x17 => And (Imp (x17 = true) (X ((⟨[], [], 0⟩ : Bk), false))) (Imp (x17 = false) (Call Zl.X (a0, ()) fun x18 => Or (And (Zo.P x18 a1) (And ((0 : Int) ≤ x15 ∧ x15 < (x18.own.length : Int)) (And ((x15).toNat < x18.own.length) (And ((0 : Int) ≤ x15 ∧ x15 < (x18.own.length : Int)) (And ((x15).toNat < x18.own.length) (Lt (wrap (a3 - 1)) fun x19 => And ((0 : Int) ≤ x19 ∧ x19 < ((x18.own.set (x15).toNat (wrap ((x18.own.getD (x15).toNat 0) - a4))).length : Int)) (And ((x19).toNat < (x18.own.set (x15).toNat (wrap ((x18.own.getD (x15).toNat 0) - a4))).length) (Lt ((x18.own.set (x15).toNat (wrap ((x18.own.getD (x15).toNat 0) - a4))).getD (x19).toNat 0) fun x20 => And ((0 : Int) ≤ x19 ∧ x19 < ((x18.own.set (x15).toNat (wrap ((x18.own.getD (x15).toNat 0) - a4))).length : Int)) (And ((x19).toNat < (x18.own.set (x15).toNat (wrap ((x18.own.getD (x15).toNat 0) - a4))).length) (Lt ((x18.own.set (x15).toNat (wrap ((x18.own.getD (x15).toNat 0) - a4))).set (x19).toNat (wrap (x20 + a4))) fun x21 => X ((⟨x21, (Zo.S x18 a1), x18.locked⟩ : Bk), true))))))))))) (And (Zp.P x18 a1) (And ((0 : Int) ≤ x15 ∧ x15 < (x18.notes.length : Int)) (And ((x15).toNat < x18.notes.length) (And ((0 : Int) ≤ x15 ∧ x15 < (x18.notes.length : Int)) (And ((x15).toNat < x18.notes.length) (Lt (wrap (a3 - 1)) fun x22 => And ((0 : Int) ≤ x22 ∧ x22 < ((x18.notes.set (x15).toNat (wrap ((x18.notes.getD (x15).toNat 0) - a4))).length : Int)) (And ((x22).toNat < (x18.notes.set (x15).toNat (wrap ((x18.notes.getD (x15).toNat 0) - a4))).length) (Lt ((x18.notes.set (x15).toNat (wrap ((x18.notes.getD (x15).toNat 0) - a4))).getD (x22).toNat 0) fun x23 => And ((0 : Int) ≤ x22 ∧ x22 < ((x18.notes.set (x15).toNat (wrap ((x18.notes.getD (x15).toNat 0) - a4))).length : Int)) (And ((x22).toNat < (x18.notes.set (x15).toNat (wrap ((x18.notes.getD (x15).toNat 0) - a4))).length) (Lt ((x18.notes.set (x15).toNat (wrap ((x18.notes.getD (x15).toNat 0) - a4))).set (x22).toNat (wrap (x23 + a4))) fun x24 => X ((⟨(Zp.S x18 a1), x24, x18.locked⟩ : Bk), true)))))))))))))))), fun r => (r.2 = true → BIn r.1) ∧ True, fun r => (.tup [.agg [.own 0 1 3, .own 1 1 3, .int r.1.locked], .c (.bool r.2)], [.arr (.ints r.1.own), .arr (.ints r.1.notes)])⟩
theorem Zv.X : XF Zv := mkF (zBk, false) fun (a0, a1, a2, a3, a4, ()) hp => by
  obtain ⟨p0, -⟩ := hp
  have p1 := p0.1
  have p2 := p0.2.1
  have p4 := p0.2.2
  dsimp only [Zv]
  refine May.alt (c := (a1 == 1)) (B.eq) (fun h1 => ?_) (fun h1 => ?_)
  refine May.lp (B.or (B.not (Iff.rfl)) (B.not (in_iff))) fun x1 e1 => May.lp (B.or (B.or (e1) (B.not (user_iff))) (B.not (user_iff))) fun x2 e2 => May.chk (fun hπ => have g1 := B.neg (B.or (e2) (B.dec)) hπ.1; ?_) fun c1 => May.lwi fun x3 e3 => May.chk (fun hπ => have g1 := B.neg (B.or (e2) (B.dec)) hπ.1; ?_) fun c2 => May.lp (B.dec) fun x4 e4 => May.lp (B.or (B.or (e2) (B.dec)) (e4)) fun x5 e5 => May.iff (e5) (fun h2 => ?_) (fun h2 => ?_); rotate_left 2
  refine May.ret ⟨?_, trivial⟩; rotate_left 1
  refine May.call ⟨?_, trivial⟩ fun x6 q6 => have q6 := q6.1; May.alt (c := (a1 == 1)) (B.eq) (fun h3 => ?_) (fun h3 => ?_); rotate_left 1
  refine May.chk ?_ fun c3 => May.chk ?_ fun c4 => May.chk ?_ fun c5 => May.chk ?_ fun c6 => May.chk ?_ fun c7 => May.lw ⟨?_, ?_⟩ fun x7 e7 => May.chk ?_ fun c8 => May.chk ?_ fun c9 => ?_; rotate_left 9
  refine May.lt fun x8 e8 => May.chk ?_ fun c10 => May.chk ?_ fun c11 => May.lt fun x9 e9 => May.ret ⟨?_, trivial⟩; rotate_left 3
  refine May.chk ?_ fun c12 => May.chk ?_ fun c13 => May.chk ?_ fun c14 => May.chk ?_ fun c15 => May.chk ?_ fun c16 => May.lw ⟨?_, ?_⟩ fun x10 e10 => May.chk ?_ fun c17 => May.chk ?_ fun c18 => ?_; rotate_left 9
  refine May.lt fun x11 e11 => May.chk ?_ fun c19 => May.chk ?_ fun c20 => May.lt fun x12 e12 => May.ret ⟨?_, trivial⟩; rotate_left 3
  refine May.lp (B.or (B.not (Iff.rfl)) (B.not (in_iff))) fun x13 e13 => May.lp (B.or (B.or (e13) (B.not (user_iff))) (B.not (user_iff))) fun x14 e14 => May.chk (fun hπ => have g1 := B.neg (B.or (e14) (B.dec)) hπ.1; ?_) fun c21 => May.lwi fun x15 e15 => May.chk (fun hπ => have g1 := B.neg (B.or (e14) (B.dec)) hπ.1; ?_) fun c22 => May.lp (B.dec) fun x16 e16 => May.lp (B.or (B.or (e14) (B.dec)) (e16)) fun x17 e17 => May.iff (e17) (fun h2 => ?_) (fun h2 => ?_); rotate_left 2
  refine May.ret ⟨?_, trivial⟩; rotate_left 1
  refine May.call ⟨?_, trivial⟩ fun x18 q18 => have q18 := q18.1; May.alt (c := (a1 == 1)) (B.eq) (fun h3 => ?_) (fun h3 => ?_); rotate_left 1
  refine May.chk ?_ fun c23 => May.chk ?_ fun c24 => May.chk ?_ fun c25 => May.chk ?_ fun c26 => May.chk ?_ fun c27 => May.lw ⟨?_, ?_⟩ fun x19 e19 => May.chk ?_ fun c28 => May.chk ?_ fun c29 => ?_; rotate_left 9
  refine May.lt fun x20 e20 => May.chk ?_ fun c30 => May.chk ?_ fun c31 => May.lt fun x21 e21 => May.ret ⟨?_, trivial⟩; rotate_left 3
  refine May.chk ?_ fun c32 => May.chk ?_ fun c33 => May.chk ?_ fun c34 => May.chk ?_ fun c35 => May.chk ?_ fun c36 => May.lw ⟨?_, ?_⟩ fun x22 e22 => May.chk ?_ fun c37 => May.chk ?_ fun c38 => ?_; rotate_left 9
  refine May.lt fun x23 e23 => May.chk ?_ fun c39 => May.chk ?_ fun c40 => May.lt fun x24 e24 => May.ret ⟨?_, trivial⟩
  all_goals try dsimp only
  all_goals first | with_reducible assumption | omega | rfl | assumption | (simp only [List.length_append, List.length_cons, List.length_nil, List.length_set, List.length_replicate, Int.natCast_add, Int.natCast_one] at *; omega) | grind [BIn, Bk.sm, Zo.S, Zp.S, Zq.S, Zr.S]
abbrev Zv.S := Classical.choose Zv.X
def Zv.c : Ctr := fc 115 [true, false, false, false, false] Zv.L Zv Zv.S
theorem Zv.good : Good Try.prog Zv.c := mkFG (fn := Try.f115) {sp := [(1, [[(39, 2)], [(39, 3)]]), (4, [[(52, 0)], [(52, 1)]])], sh := [[some (.int, 3), some (.int, 3), none], []]} Zv.X (consG Zw.good (consG Zi.good (consG Zc.good (consG Zo.good (consG Zp.good (consG Zq.good (consG Zr.good (consG Zl.good noG)))))))) (by kernel_rfl) (by kernel_rfl) (l0 (by kernel_rfl)) (c0 (by kernel_rfl)) fun s K => by kernel_rfl
end
end Hw
end Go.Proofs.Ytfboldbfbmmahaa
