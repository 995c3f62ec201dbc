/- Laws of states, 5: made by gen.py. -/
import Derived.Test.YtmhighcagpbmeaaF4
set_option linter.unusedVariables false
set_option linter.unusedSimpArgs false
set_option maxRecDepth 100000
set_option maxHeartbeats 200000
namespace Go.Proofs.Ytmhighcagpbmeaa
namespace Hw
open Go
attribute [local irreducible] evFn evBody wrap wxor
/-! ### laws.FnSettled -/
def laws_FnSettled.enc (a0 : List Int) (r : Bool) : AV × List Blk := (.v (.c (.bool r)), [])
abbrev laws_FnSettled.P (a0 : List Int) : Prop := (∀ k, 0 ≤ a0.getD k 0 ∧ a0.getD k 0 ≤ 255)
abbrev laws_FnSettled.Q (a0 : List Int) (r : Bool) : Prop := (r = true)
def laws_FnSettled.L : FL := fCons (fC (cArr true kU8s)) (fNil)
def laws_FnSettled.f (a0 : List Int) (X : AV × List Blk → Prop) : Prop := And (Imp ((decide ((a0.length : Int) > 1048576)) = true) (X (.v (.c (.bool true)), []))) (Imp ((decide ((a0.length : Int) > 1048576)) = false) (And (spec_DrawStateSettled.P a0) (Lt ((spec_DrawStateSettled.S a0)) fun x1 => Lt ((impl_StateSettled.S x1.1 x1.2)) fun x2 => Lt ((spec_StateSettled.S x1.1 x1.2)) fun x3 => And (Imp ((bif x2 != x3 then true else !(spec_StateOk.S x1.1)) = true) (X (.v (.c (.bool (x2 == x3))), []))) (Imp ((bif x2 != x3 then true else !(spec_StateOk.S x1.1)) = false) (Lt (bif decide (x1.2 < 1) then true else decide (x1.2 > (x1.1.sent.length : Int))) fun x4 => And (Imp (x4 = true) (X (.v (.c (.bool (x2 == 0))), []))) (Imp (x4 = false) (Lt ((impl_StateLive.S x1.1)) fun x5 => And (laws_lwAmong.P x5 x1.2) (Lt ((laws_lwAmong.S x5 x1.2)) fun x6 => And (Imp (x6 = true) (Lt (wrap (x1.2 - 1)) fun x7 => And (Imp (And ((x2 == 1) = true) (True)) ((0 : Int) ≤ x7 ∧ x7 < (x1.1.back.length : Int))) (Lt (bif x2 == 1 then !(x1.1.back.getD (x7).toNat false) else false) fun x8 => X (.v (.c (.bool x8)), [])))) (Imp (x6 = false) (Lt (wrap (x1.2 - 1)) fun x9 => And (Imp (And ((x2 == 3) = true) (True)) ((0 : Int) ≤ x9 ∧ x9 < (x1.1.back.length : Int))) (Lt (bif x2 == 3 then x1.1.back.getD (x9).toNat false else false) fun x10 => And (Imp (And ((x2 == 2) = true) (And (x10 = false) (True))) ((0 : Int) ≤ x9 ∧ x9 < (x1.1.back.length : Int))) (Lt (bif x2 == 2 then !(x1.1.back.getD (x9).toNat false) else false) fun x11 => X (.v (.c (.bool (bif x10 then true else x11))), [])))))))))))))
theorem laws_FnSettled.w (a0 : List Int) (K : AV → List Blk → Prop) : evFn (envC [spec_DrawStateSettled.c, impl_StateSettled.c, spec_StateSettled.c, spec_StateOk.c, impl_StateLive.c, laws_lwAmong.c] [] []) [] [] [] Try.f5 (laws_FnSettled.L.inp (a0, ())).1 (laws_FnSettled.L.inp (a0, ())).2 K = laws_FnSettled.f a0 (fun v => K v.1 v.2) := by kernel_rfl
theorem laws_FnSettled.x (a0 : List Int) (hp : laws_FnSettled.P a0) : May (laws_FnSettled.Q a0) (laws_FnSettled.enc a0) (laws_FnSettled.f a0) := by
  have p0 := hp
  delta laws_FnSettled.f
  refine May.iff (B.dec) (fun h1 => ?_) (fun h1 => ?_)
  refine ⟨(true), ?_, fun X h => h⟩; rotate_left 1
  refine May.chk ?_ fun c1 => May.lq (spec_DrawStateSettled.Q a0) (spec_DrawStateSettled.q a0 ?_) fun x1 q1 => May.lq (impl_StateSettled.Q x1.1 x1.2) (impl_StateSettled.q x1.1 x1.2) fun x2 q2 => May.lq (spec_StateSettled.Q x1.1 x1.2) (spec_StateSettled.q x1.1 x1.2) fun x3 q3 => May.iff (B.or (B.ne) (B.not (specSt))) (fun h2 => ?_) (fun h2 => ?_); rotate_left 2
  refine ⟨(x2 == x3), ?_, fun X h => h⟩; rotate_left 1
  refine May.lp (B.or (B.dec) (B.dec)) fun x4 e4 => May.iff (e4) (fun h3 => ?_) (fun h3 => ?_)
  refine ⟨(x2 == 0), ?_, fun X h => h⟩; rotate_left 1
  refine May.lq (impl_StateLive.Q x1.1) (impl_StateLive.q x1.1) fun x5 q5 => have q5_0 := q5.1; have q5_1 := q5.2; May.chk ?_ fun c2 => May.lq (laws_lwAmong.Q x5 x1.2) (laws_lwAmong.q x5 x1.2 ?_) fun x6 q6 => May.iff (Iff.rfl) (fun h4 => ?_) (fun h4 => ?_); rotate_left 2
  refine May.lwi fun x7 e7 => May.chk (fun hπ => have g1 := Iff.mp (B.eq) hπ.1; ?_) fun c3 => May.lp (B.and (B.eq) (B.not (Iff.rfl))) fun x8 e8 => ⟨(x8), ?_, fun X h => h⟩; rotate_left 2
  refine May.lwi fun x9 e9 => May.chk (fun hπ => have g1 := Iff.mp (B.eq) hπ.1; ?_) fun c4 => May.lp (B.and (B.eq) (Iff.rfl)) fun x10 e10 => May.chk (fun hπ => have g1 := Iff.mp (B.eq) hπ.1; have g2 := B.neg (e10) hπ.2.1; ?_) fun c5 => May.lp (B.and (B.eq) (B.not (Iff.rfl))) fun x11 e11 => ⟨(bif x10 then true else x11), ?_, fun X h => h⟩
  all_goals try dsimp only
  all_goals first | with_reducible assumption | omega | (with_reducible rfl; done) | (exact B.eq.2 (setQ_eq q2 q3); done) | (exact B.eq.2 (set_out q2 h3); done) | (exact Nat.le_trans (live_le q5_0 q5_1) (by decide); done) | (exact setB (okOf h2) h3 e7; done) | (exact setB (okOf h2) h3 e9; done) | (exact e8.2 (set_live (okOf h2) h3 e7 q2 q5_0 (q6.1 h4)); done) | (exact set_rest (okOf h2) h3 e9 q2 q5_0 (fun h => h4 (q6.2 h)) e10 e11; done)
theorem laws_FnSettled.X : ∃ S : laws_FnSettled.L.α → Bool, ∀ s, laws_FnSettled.P s.1 → laws_FnSettled.Q s.1 (S s) ∧ ∀ X, X (laws_FnSettled.enc s.1 (S s)) → laws_FnSettled.f s.1 X := mayS (false) fun s => laws_FnSettled.x s.1
noncomputable def laws_FnSettled.S (a0 : List Int) : Bool := Classical.choose laws_FnSettled.X (a0, ())
theorem laws_FnSettled.q (a0 : List Int) (hp : laws_FnSettled.P a0) : laws_FnSettled.Q a0 (laws_FnSettled.S a0) := (Classical.choose_spec laws_FnSettled.X (a0, ()) hp).1
noncomputable def laws_FnSettled.c : Ctr := hctr 5 [false] laws_FnSettled.L (some fun s => laws_FnSettled.P s.1) (fun s => laws_FnSettled.enc s.1 (laws_FnSettled.S s.1))
theorem laws_FnSettled.good : Good Try.prog laws_FnSettled.c :=
  hgoodC (sh := []) (tk := []) (sp := []) (ct := []) (LL := []) (consG spec_DrawStateSettled.good (consG impl_StateSettled.good (consG spec_StateSettled.good (consG spec_StateOk.good (consG impl_StateLive.good (consG laws_lwAmong.good noG)))))) (fn := Try.f5) (by kernel_rfl) (by kernel_rfl) (by rw [show loopsOf (bodyOf Try.f5) = [] from by kernel_rfl]; exact noL rfl) (consC' (bs := []) (by kernel_rfl) noC) fun s hp => Eq.mpr (laws_FnSettled.w s.1 (fun r bs' => And (r = (laws_FnSettled.c.out s).1) (bs' = (laws_FnSettled.c.out s).2))) ((Classical.choose_spec laws_FnSettled.X s (hp _ rfl)).2 _ ⟨rfl, rfl⟩)
end Hw
end Go.Proofs.Ytmhighcagpbmeaa
