/- Laws of ways, 2: made by gen.py. -/
import Derived.Test.YtmhighcagpbmeaaW0
import Derived.Test.YtmhighcagpbmeaaW2
import Derived.Test.YtmhighcagpbmeaaG2
set_option linter.unusedVariables false
set_option linter.unusedSimpArgs false
set_option maxRecDepth 100000
set_option maxHeartbeats 400000
namespace Go.Proofs.Ytmhighcagpbmeaa
namespace Hw
open Go
attribute [local irreducible] evFn evBody wrap wxor
/-! ### laws.FnWayFresh -/
def laws_FnWayFresh.enc (a0 : List Int) (r : Bool) : AV × List Blk := (.v (.c (.bool r)), [])
abbrev laws_FnWayFresh.P (a0 : List Int) : Prop := (∀ k, 0 ≤ a0.getD k 0 ∧ a0.getD k 0 ≤ 255)
abbrev laws_FnWayFresh.Q (a0 : List Int) (r : Bool) : Prop := (r = true)
def laws_FnWayFresh.L : FL := fCons (fC (cArr true kU8s)) (fNil)
def laws_FnWayFresh.f (a0 : List Int) (X : AV × List Blk → Prop) : Prop := And (Imp ((decide ((a0.length : Int) > 1048576)) = true) (X (.v (.c (.bool true)), []))) (Imp ((decide ((a0.length : Int) > 1048576)) = false) (And (spec_DrawWayMay.P a0) (Lt ((spec_DrawWayMay.S a0)) fun x1 => Lt ((impl_WayMay.S x1.1 x1.2.1 x1.2.2)) fun x2 => Lt ((spec_WayMay.S x1.1 x1.2.1 x1.2.2)) fun x3 => Lt (bif !((x2 : Bool) == x3) then true else !(spec_StateOk.S x1.1)) fun x4 => And (Imp ((bif x4 then true else !(spec_StateOk.S x1.2.1)) = true) (X (.v (.c (.bool ((x2 : Bool) == x3))), []))) (Imp ((bif x4 then true else !(spec_StateOk.S x1.2.1)) = false) (Lt ((impl_WayMay.S x1.1 x1.2.1 7)) fun x5 => Lt (bif x1.2.1.way == 4 then x1.2.1.want == x1.1.want else false) fun x6 => Lt ((impl_StateLive.S x1.2.1)) fun x7 => Lt ((impl_StateLive.S x1.1)) fun x8 => Lt (bif x1.1.way == 4 then (x8.length : Int) == 0 else false) fun x9 => Lt (bif bif x6 then (x7.length : Int) == 0 else false then true else x1.2.1.ver == x1.1.want) fun x10 => X (.v (.c (.bool ((x5 : Bool) == (bif x9 then x10 else false)))), []))))))
theorem laws_FnWayFresh.w (a0 : List Int) (K : AV → List Blk → Prop) : evFn (envC [spec_DrawWayMay.c, impl_WayMay.c, spec_WayMay.c, spec_StateOk.c, impl_StateLive.c] [] []) [] [] [] Try.f10 (laws_FnWayFresh.L.inp (a0, ())).1 (laws_FnWayFresh.L.inp (a0, ())).2 K = laws_FnWayFresh.f a0 (fun v => K v.1 v.2) := by kernel_rfl
theorem laws_FnWayFresh.x (a0 : List Int) (hp : laws_FnWayFresh.P a0) : May (laws_FnWayFresh.Q a0) (laws_FnWayFresh.enc a0) (laws_FnWayFresh.f a0) := by
  have p0 := hp
  delta laws_FnWayFresh.f
  refine May.iff (B.dec) (fun h1 => ?_) (fun h1 => ?_)
  refine ⟨(true), ?_, fun X h => h⟩; rotate_left 1
  refine May.chk ?_ fun c1 => May.lq (spec_DrawWayMay.Q a0) (spec_DrawWayMay.q a0 ?_) fun x1 q1 => have q1_0 := q1.1; have q1_1 := q1.2; May.lq (impl_WayMay.Q x1.1 x1.2.1 x1.2.2) (impl_WayMay.q x1.1 x1.2.1 x1.2.2) fun x2 q2 => May.lq (spec_WayMay.Q x1.1 x1.2.1 x1.2.2) (spec_WayMay.q x1.1 x1.2.1 x1.2.2) fun x3 q3 => May.lp (B.or (B.not (B.beq)) (B.not (specSt))) fun x4 e4 => May.iff (B.or (e4) (B.not (specSt))) (fun h2 => ?_) (fun h2 => ?_); rotate_left 2
  refine ⟨((x2 : Bool) == x3), ?_, fun X h => h⟩; rotate_left 1
  refine May.lq (impl_WayMay.Q x1.1 x1.2.1 7) (impl_WayMay.q x1.1 x1.2.1 7) fun x5 q5 => May.lp (B.and (B.eq) (B.eq)) fun x6 e6 => May.lq (impl_StateLive.Q x1.2.1) (impl_StateLive.q x1.2.1) fun x7 q7 => have q7_0 := q7.1; have q7_1 := q7.2; May.lq (impl_StateLive.Q x1.1) (impl_StateLive.q x1.1) fun x8 q8 => have q8_0 := q8.1; have q8_1 := q8.2; May.lp (B.and (B.eq) (B.eq)) fun x9 e9 => May.lp (B.or (B.and (e6) (B.eq)) (B.eq)) fun x10 e10 => ⟨((x5 : Bool) == (bif x9 then x10 else false)), ?_, fun X h => h⟩
  all_goals try dsimp only
  all_goals first | with_reducible assumption | omega | (with_reducible rfl; done) | (exact beq_iff_eq.2 (Bool.eq_iff_iff.2 (q2.trans q3.symm)); done) | (exact beq_iff_eq.2 (fresh_fin (Classical.byContradiction fun h => h2 (.inl (.inr h))) (Classical.byContradiction fun h => h2 (.inr h)) q5 q7_0 q8_0 e9 e10); done)
theorem laws_FnWayFresh.X : ∃ S : laws_FnWayFresh.L.α → Bool, ∀ s, laws_FnWayFresh.P s.1 → laws_FnWayFresh.Q s.1 (S s) ∧ ∀ X, X (laws_FnWayFresh.enc s.1 (S s)) → laws_FnWayFresh.f s.1 X := mayS (false) fun s => laws_FnWayFresh.x s.1
noncomputable def laws_FnWayFresh.S (a0 : List Int) : Bool := Classical.choose laws_FnWayFresh.X (a0, ())
theorem laws_FnWayFresh.q (a0 : List Int) (hp : laws_FnWayFresh.P a0) : laws_FnWayFresh.Q a0 (laws_FnWayFresh.S a0) := (Classical.choose_spec laws_FnWayFresh.X (a0, ()) hp).1
noncomputable def laws_FnWayFresh.c : Ctr := hctr 10 [false] laws_FnWayFresh.L (some fun s => laws_FnWayFresh.P s.1) (fun s => laws_FnWayFresh.enc s.1 (laws_FnWayFresh.S s.1))
theorem laws_FnWayFresh.good : Good Try.prog laws_FnWayFresh.c :=
  hgoodC (sh := []) (tk := []) (sp := []) (ct := []) (LL := []) (consG spec_DrawWayMay.good (consG impl_WayMay.good (consG spec_WayMay.good (consG spec_StateOk.good (consG impl_StateLive.good noG))))) (fn := Try.f10) (by kernel_rfl) (by kernel_rfl) (by rw [show loopsOf (bodyOf Try.f10) = [] from by kernel_rfl]; exact noL rfl) (consC' (bs := []) (by kernel_rfl) noC) fun s hp => Eq.mpr (laws_FnWayFresh.w s.1 (fun r bs' => And (r = (laws_FnWayFresh.c.out s).1) (bs' = (laws_FnWayFresh.c.out s).2))) ((Classical.choose_spec laws_FnWayFresh.X s (hp _ rfl)).2 _ ⟨rfl, rfl⟩)
end Hw
end Go.Proofs.Ytmhighcagpbmeaa
