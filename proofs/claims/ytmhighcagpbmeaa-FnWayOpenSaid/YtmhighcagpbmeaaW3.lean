/- Laws of ways: made by gen.py. -/
import Derived.Test.YtmhighcagpbmeaaW0
import Derived.Test.YtmhighcagpbmeaaW2
set_option linter.unusedVariables false
set_option linter.unusedSimpArgs false
set_option maxRecDepth 100000
set_option maxHeartbeats 400000
namespace Go.Proofs.Ytmhighcagpbmeaa
namespace Hw
open Go
attribute [local irreducible] evFn evBody wrap wxor
/-! ### laws.FnWayOpen -/
def laws_FnWayOpen.enc (a0 : List Int) (r : Bool) : AV × List Blk := (.v (.c (.bool r)), [])
abbrev laws_FnWayOpen.P (a0 : List Int) : Prop := (∀ k, 0 ≤ a0.getD k 0 ∧ a0.getD k 0 ≤ 255)
abbrev laws_FnWayOpen.Q (a0 : List Int) (r : Bool) : Prop := (r = true)
def laws_FnWayOpen.L : FL := fCons (fC (cArr true kU8s)) (fNil)
def laws_FnWayOpen.f (a0 : List Int) (X : AV × List Blk → Prop) : Prop := And (Imp ((decide ((a0.length : Int) > 1048576)) = true) (X (.v (.c (.bool true)), []))) (Imp ((decide ((a0.length : Int) > 1048576)) = false) (And (spec_DrawWayMay.P a0) (Lt ((spec_DrawWayMay.S a0)) fun x1 => Lt ((impl_WayMay.S x1.1 x1.2.1 x1.2.2)) fun x2 => Lt ((spec_WayMay.S x1.1 x1.2.1 x1.2.2)) fun x3 => And (Imp ((bif !((x2 : Bool) == x3) then true else !x2) = true) (X (.v (.c (.bool ((x2 : Bool) == x3))), []))) (Imp ((bif !((x2 : Bool) == x3) then true else !x2) = false) (And (Imp ((x1.2.2 == 1) = true) (X (.v (.c (.bool (x1.1.way == 0))), []))) (Imp ((x1.2.2 == 1) = false) (And (Imp ((x1.2.2 == 2) = true) (Lt (bif decide (x1.1.way ≤ 1) then decide (x1.2.1.way ≥ 1) else false) fun x4 => X (.v (.c (.bool x4)), []))) (Imp ((x1.2.2 == 2) = false) (And (Imp ((x1.2.2 == 3) = true) (Lt (bif x1.1.way == 1 then decide (x1.2.1.way ≥ 2) else false) fun x5 => X (.v (.c (.bool x5)), []))) (Imp ((x1.2.2 == 3) = false) (And (Imp ((x1.2.2 == 4) = true) (Lt (bif x1.1.way == 2 then decide (x1.2.1.way ≥ 2) else false) fun x6 => X (.v (.c (.bool x6)), []))) (Imp ((x1.2.2 == 4) = false) (X (.v (.c (.bool (decide (x1.1.way ≥ 3)))), []))))))))))))))
theorem laws_FnWayOpen.w (a0 : List Int) (K : AV → List Blk → Prop) : evFn (envC [spec_DrawWayMay.c, impl_WayMay.c, spec_WayMay.c] [] []) [] [] [] Try.f9 (laws_FnWayOpen.L.inp (a0, ())).1 (laws_FnWayOpen.L.inp (a0, ())).2 K = laws_FnWayOpen.f a0 (fun v => K v.1 v.2) := by kernel_rfl
theorem laws_FnWayOpen.x (a0 : List Int) (hp : laws_FnWayOpen.P a0) : May (laws_FnWayOpen.Q a0) (laws_FnWayOpen.enc a0) (laws_FnWayOpen.f a0) := by
  have p0 := hp
  delta laws_FnWayOpen.f
  refine May.iff (B.dec) (fun h1 => ?_) (fun h1 => ?_)
  refine ⟨(true), ?_, fun X h => h⟩; rotate_left 1
  refine May.chk ?_ fun c1 => May.lq (spec_DrawWayMay.Q a0) (spec_DrawWayMay.q a0 ?_) fun x1 q1 => have q1_0 := q1.1; have q1_1 := q1.2; May.lq (impl_WayMay.Q x1.1 x1.2.1 x1.2.2) (impl_WayMay.q x1.1 x1.2.1 x1.2.2) fun x2 q2 => May.lq (spec_WayMay.Q x1.1 x1.2.1 x1.2.2) (spec_WayMay.q x1.1 x1.2.1 x1.2.2) fun x3 q3 => May.iff (B.or (B.not (B.beq)) (B.not (Iff.rfl))) (fun h2 => ?_) (fun h2 => ?_); rotate_left 2
  refine ⟨((x2 : Bool) == x3), ?_, fun X h => h⟩; rotate_left 1
  refine May.iff (B.eq) (fun h3 => ?_) (fun h3 => ?_)
  refine ⟨(x1.1.way == 0), ?_, fun X h => h⟩; rotate_left 1
  refine May.iff (B.eq) (fun h4 => ?_) (fun h4 => ?_)
  refine May.lp (B.and (B.dec) (B.dec)) fun x4 e4 => ⟨(x4), ?_, fun X h => h⟩; rotate_left 1
  refine May.iff (B.eq) (fun h5 => ?_) (fun h5 => ?_)
  refine May.lp (B.and (B.eq) (B.dec)) fun x5 e5 => ⟨(x5), ?_, fun X h => h⟩; rotate_left 1
  refine May.iff (B.eq) (fun h6 => ?_) (fun h6 => ?_)
  refine May.lp (B.and (B.eq) (B.dec)) fun x6 e6 => ⟨(x6), ?_, fun X h => h⟩; rotate_left 1
  refine ⟨(decide (x1.1.way ≥ 3)), ?_, fun X h => h⟩
  all_goals try dsimp only
  all_goals first | with_reducible assumption | omega | (with_reducible rfl; done) | (exact beq_iff_eq.2 (Bool.eq_iff_iff.2 (q2.trans q3.symm)); done) | (have m := (q2.1 (hasOf' h2)).2; rw [h3] at m; exact B.eq.2 (mayK1.1 m); done) | (have m := (q2.1 (hasOf' h2)).2; rw [h4] at m; exact e4.2 (by have m2 := (mayK2 (q2.1 (hasOf' h2)).1.1).1 m; omega); done) | (have m := (q2.1 (hasOf' h2)).2; rw [h5] at m; exact e5.2 (mayK3.1 m); done) | (have m := (q2.1 (hasOf' h2)).2; rw [h6] at m; exact e6.2 (mayK4.1 m); done) | (exact decide_eq_true (mayK_open (q2.1 (hasOf' h2)).2 h3 h4 h5 h6); done)
theorem laws_FnWayOpen.X : ∃ S : laws_FnWayOpen.L.α → Bool, ∀ s, laws_FnWayOpen.P s.1 → laws_FnWayOpen.Q s.1 (S s) ∧ ∀ X, X (laws_FnWayOpen.enc s.1 (S s)) → laws_FnWayOpen.f s.1 X := mayS (false) fun s => laws_FnWayOpen.x s.1
noncomputable def laws_FnWayOpen.S (a0 : List Int) : Bool := Classical.choose laws_FnWayOpen.X (a0, ())
theorem laws_FnWayOpen.q (a0 : List Int) (hp : laws_FnWayOpen.P a0) : laws_FnWayOpen.Q a0 (laws_FnWayOpen.S a0) := (Classical.choose_spec laws_FnWayOpen.X (a0, ()) hp).1
noncomputable def laws_FnWayOpen.c : Ctr := hctr 9 [false] laws_FnWayOpen.L (some fun s => laws_FnWayOpen.P s.1) (fun s => laws_FnWayOpen.enc s.1 (laws_FnWayOpen.S s.1))
theorem laws_FnWayOpen.good : Good Try.prog laws_FnWayOpen.c :=
  hgoodC (sh := []) (tk := []) (sp := []) (ct := []) (LL := []) (consG spec_DrawWayMay.good (consG impl_WayMay.good (consG spec_WayMay.good noG))) (fn := Try.f9) (by kernel_rfl) (by kernel_rfl) (by rw [show loopsOf (bodyOf Try.f9) = [] from by kernel_rfl]; exact noL rfl) (consC' (bs := []) (by kernel_rfl) noC) fun s hp => Eq.mpr (laws_FnWayOpen.w s.1 (fun r bs' => And (r = (laws_FnWayOpen.c.out s).1) (bs' = (laws_FnWayOpen.c.out s).2))) ((Classical.choose_spec laws_FnWayOpen.X s (hp _ rfl)).2 _ ⟨rfl, rfl⟩)
end Hw
end Go.Proofs.Ytmhighcagpbmeaa
