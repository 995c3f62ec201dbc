/- Laws of sums, 2: made by gen.py. -/
import Derived.Test.YtjcacgainbjopaaVA
import Derived.Test.YtjcacgainbjopaaUC
import Derived.Test.YtjcacgainbjopaaVC
set_option linter.unusedVariables false
set_option linter.unusedSimpArgs false
set_option maxRecDepth 100000
set_option maxHeartbeats 400000
namespace Go.Proofs.Ytjcacgainbjopaa
namespace Hw
open Go
noncomputable section
attribute [local irreducible] evFn evBody wrap wxor
theorem nts_1 {w : List Ch} {n x y z : Int} (hw : WOk w) (hn : 1 ≤ n ∧ n ≤ 2) (ex : x = 2 - n) (q : AllQ (w.getD x.toNat zCh).bank y z) : z = tot (w.getD (2 - n).toNat zCh).bank.notes ∧ 0 ≤ z ∧ z ≤ 30 := by
  subst ex
  have hb := (wok_ch hw (i := 2 - n) (by omega) (by omega)).2.1
  have e := (q.1 hb).2
  have h := tot_notes hb
  exact ⟨e, by omega, by omega⟩
theorem nts_2 {w : List Ch} {n k r : Int} (hw : WOk w) (hn : 1 ≤ n ∧ n ≤ 2) (hk : k = 1 ∨ k = 2) (q : AwQ w n k r) : r = awaysW w n k ∧ 0 ≤ r ∧ r ≤ 72 := by
  have e := q.1 ⟨hw, hn, hk⟩
  have h := awaysW_rng (k := k) hw hn
  exact ⟨e, by omega, by omega⟩
theorem nts_fin {w : List Ch} {n m x y z a b r : Int} (hw : WOk w) (hn : 1 ≤ n ∧ n ≤ 2) (ex : x = 2 - n) (em : m = 3 - n) (q : AllQ (w.getD x.toNat zCh).bank y z) (qa : AwQ w n 1 a) (qb : AwQ w m 2 b) (qr : NtQ w n r) : r = z + a + b := by
  subst em
  have h1 := nts_1 hw hn ex q
  have h2 := nts_2 hw hn (.inl rfl) qa
  have h3 := nts_2 hw (by omega) (.inr rfl) qb
  rw [qr.1 ⟨hw, hn⟩, h1.1, h2.1, h3.1]
  rfl

def Zef.L : FL := fCons (fC (cArr true kU8s)) (fNil)
def Zef : List Int × Unit → FR (Bool) := fun (a0, ()) => ⟨(∀ k, 0 ≤ a0.getD k 0 ∧ a0.getD k 0 ≤ 255) ∧ True, fun X => And (Imp ((decide ((a0.length : Int) > 1048576)) = true) (X true)) (Imp ((decide ((a0.length : Int) > 1048576)) = false) (Call Zd9.X (a0, ()) fun x1 => Call Zdm.X (x1.1, x1.2, ()) fun x2 => Call Zdf.X (x1.1, x1.2, ()) fun x3 => Lt (bif bif x2 != x3 then true else !(Z0.S x1.1) then true else decide (x1.2 > 2)) fun x4 => And (Imp (x4 = true) (And ((Zdf (x1.1, x1.2, ())).P) (X (x2 == x3)))) (Imp (x4 = false) (Lt (wrap (2 - x1.2)) fun x5 => And ((0 : Int) ≤ x5 ∧ x5 < (x1.1.length : Int)) (Call0 Zc1.X ((x1.1.getD (x5).toNat zCh).bank, ()) fun x6 => Call Zdl.X (x1.1, x1.2, 1, ()) fun x7 => Lt (wrap (x6.2 + x7)) fun x8 => Lt (wrap (3 - x1.2)) fun x9 => Call Zdl.X (x1.1, x9, 2, ()) fun x10 => Lt (wrap (x8 + x10)) fun x11 => X (x2 == x11)))))), fun r => (r = true) ∧ True, fun r => (.v (.c (.bool r)), [])⟩
theorem Zef.X : XF Zef := mkF (false) fun (a0, ()) hp => by
  obtain ⟨p0, -⟩ := hp
  dsimp only [Zef]
  refine May.iff (B.dec) (fun h1 => ?_) (fun h1 => ?_)
  refine May.ret ⟨?_, trivial⟩; rotate_left 1
  refine May.call ⟨?_, trivial⟩ fun x1 q1 => have q1_0 := q1.1; have q1_1 := q1.2.1; have q1_2 := q1.2.2.1; May.call ⟨?_, ?_, trivial⟩ fun x2 q2 => have q2 := q2.1; May.call ⟨?_, ?_, trivial⟩ fun x3 q3 => have q3 := q3.1; May.lp (B.or (B.or (B.ne) (B.not (Iff.rfl))) (B.dec)) fun x4 e4 => May.iff (e4) (fun h2 => ?_) (fun h2 => ?_); rotate_left 5
  refine May.chk ⟨?_, ?_, trivial⟩ fun c1 => May.ret ⟨?_, trivial⟩; rotate_left 3
  refine May.lw ⟨?_, ?_⟩ fun x5 e5 => May.chk ?_ fun c2 => May.call0 trivial fun x6 q6 => have q6 := q6.1; May.call ⟨?_, ?_, trivial⟩ fun x7 q7 => have q7 := q7.1; May.lw ⟨?_, ?_⟩ fun x8 e8 => May.lw ⟨?_, ?_⟩ fun x9 e9 => May.call ⟨?_, ?_, trivial⟩ fun x10 q10 => have q10 := q10.1; May.lw ⟨?_, ?_⟩ fun x11 e11 => May.ret ⟨?_, trivial⟩
  all_goals try dsimp only
  all_goals first | with_reducible assumption | omega | (with_reducible rfl; done) | (exact beq_iff_eq.2 (ntQ_eq q2 q3); done) | ((have W := (specW q1_0 q1_1).1 (nn fun g => h2 (.inl (.inr g))); have g : ¬ x1.2 > 2 := fun g => h2 (.inr g); have N : 1 ≤ x1.2 ∧ x1.2 ≤ 2 := ⟨q1_2, by omega⟩; omega); done) | ((have W := (specW q1_0 q1_1).1 (nn fun g => h2 (.inl (.inr g))); have g : ¬ x1.2 > 2 := fun g => h2 (.inr g); have N : 1 ≤ x1.2 ∧ x1.2 ≤ 2 := ⟨q1_2, by omega⟩; have := wok_len W; omega); done) | ((have W := (specW q1_0 q1_1).1 (nn fun g => h2 (.inl (.inr g))); have g : ¬ x1.2 > 2 := fun g => h2 (.inr g); have N : 1 ≤ x1.2 ∧ x1.2 ≤ 2 := ⟨q1_2, by omega⟩; have a := nts_1 W N e5 q6; have b := nts_2 W N (.inl rfl) q7; omega); done) | ((have W := (specW q1_0 q1_1).1 (nn fun g => h2 (.inl (.inr g))); have g : ¬ x1.2 > 2 := fun g => h2 (.inr g); have N : 1 ≤ x1.2 ∧ x1.2 ≤ 2 := ⟨q1_2, by omega⟩; have a := nts_1 W N e5 q6; have b := nts_2 W N (.inl rfl) q7; have c := nts_2 W (by omega) (.inr rfl) q10; omega); done) | ((have W := (specW q1_0 q1_1).1 (nn fun g => h2 (.inl (.inr g))); have g : ¬ x1.2 > 2 := fun g => h2 (.inr g); have N : 1 ≤ x1.2 ∧ x1.2 ≤ 2 := ⟨q1_2, by omega⟩; exact beq_iff_eq.2 (by rw [e11, e8]; exact nts_fin W N e5 e9 q6 q7 q10 q2)); done)
abbrev Zef.S := Classical.choose Zef.X
def Zef.c : Ctr := fc 5 [false] Zef.L Zef Zef.S
theorem Zef.good : Good Try.prog Zef.c := mkFG (fn := Try.f5) {} Zef.X (consG Zd9.good (consG Zdm.good (consG Zdf.good (consG Z0.good (consG Zc1.good (consG Zdl.good noG)))))) (by kernel_rfl) (by kernel_rfl) (l0 (by kernel_rfl)) (c0 (by kernel_rfl)) fun s K => by kernel_rfl
end
end Hw
end Go.Proofs.Ytjcacgainbjopaa
