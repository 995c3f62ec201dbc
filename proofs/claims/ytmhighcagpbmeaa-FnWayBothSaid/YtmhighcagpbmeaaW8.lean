/- Laws of ways, 4: made by gen.py. -/
import Derived.Test.YtmhighcagpbmeaaW7
import Derived.Test.YtmhighcagpbmeaaW2
import Derived.Test.YtmhighcagpbmeaaN0
set_option linter.unusedVariables false
set_option linter.unusedSimpArgs false
set_option maxRecDepth 100000
set_option maxHeartbeats 400000
namespace Go.Proofs.Ytmhighcagpbmeaa
namespace Hw
open Go
attribute [local irreducible] evFn evBody wrap wxor
/-- New states, by how far the way is open. -/
def nst (w : Int) : St := ⟨w, 1, 0, [], [], [], List.replicate 8 0⟩
theorem nst_ok {w : Int} (h0 : 0 ≤ w) (h1 : w ≤ 3) : StOk (nst w) := by
  obtain ⟨a1, a2, a3, a4, a5, a6, a7, a8, a9⟩ := stNew
  refine ⟨⟨h0, by show w ≤ 4; omega⟩, a2, a3, a4, a5, a6, a7, a8, ?_⟩
  rw [if_neg (show ¬ (nst w).way = 4 by show ¬ w = 4; omega)]
  rfl
theorem do_step {s o r : St} {k : Int} {b : Bool} (q : DoQ s o k r b) (h : MayW s o k) : b = true ∧ r = after s k := by
  have hb := q.1.2 h
  exact ⟨hb, q.2.1 hb⟩
theorem both_fin {x4 x5 x6 x7 x8 x9 x10 : St} {b5 b6 b7 b8 b9 b10 : Bool} (q4 : x4 = nst 0) (q5 : DoQ x4 x4 1 x5 b5) (q6 : DoQ x4 x5 2 x6 b6) (q7 : DoQ x5 x6 3 x7 b7) (q8 : DoQ x6 x7 4 x8 b8) (q9 : DoQ x5 x5 2 x9 b9) (q10 : DoQ x9 x9 4 x10 b10) :
    (((((((b5 = true ∧ b6 = true) ∧ b7 = true) ∧ b8 = true) ∧ b9 = true) ∧ b10 = true) ∧ x7.way = 3) ∧ x8.way = 3) ∧ x10.way = 3 := by
  have o0 := nst_ok (w := 0) (by omega) (by omega)
  have o1 := nst_ok (w := 1) (by omega) (by omega)
  have o2 := nst_ok (w := 2) (by omega) (by omega)
  have o3 := nst_ok (w := 3) (by omega) (by omega)
  subst q4
  obtain ⟨rfl, h5⟩ := do_step q5 ⟨⟨o0, o0⟩, mayK1.2 rfl⟩
  have h5 : x5 = nst 1 := h5
  subst h5
  obtain ⟨rfl, h6⟩ := do_step q6 ⟨⟨o0, o1⟩, (mayK2 o0).2 ⟨.inl rfl, .inl rfl⟩⟩
  have h6 : x6 = nst 2 := h6
  subst h6
  obtain ⟨rfl, h7⟩ := do_step q7 ⟨⟨o1, o2⟩, mayK3.2 ⟨rfl, Int.le_refl 2⟩⟩
  have h7 : x7 = nst 3 := h7
  subst h7
  obtain ⟨rfl, h8⟩ := do_step q8 ⟨⟨o2, o3⟩, mayK4.2 ⟨rfl, by decide⟩⟩
  have h8 : x8 = nst 3 := h8
  subst h8
  obtain ⟨rfl, h9⟩ := do_step q9 ⟨⟨o1, o1⟩, (mayK2 o1).2 ⟨.inr rfl, .inl rfl⟩⟩
  have h9 : x9 = nst 2 := h9
  subst h9
  obtain ⟨rfl, h10⟩ := do_step q10 ⟨⟨o2, o2⟩, mayK4.2 ⟨rfl, Int.le_refl 2⟩⟩
  have h10 : x10 = nst 3 := h10
  subst h10
  exact ⟨⟨⟨⟨⟨⟨⟨⟨rfl, rfl⟩, rfl⟩, rfl⟩, rfl⟩, rfl⟩, rfl⟩, rfl⟩, rfl⟩

/-! ### laws.FnWayBoth -/
def laws_FnWayBoth.enc (a0 : List Int) (r : Bool) : AV × List Blk := (.v (.c (.bool r)), [])
abbrev laws_FnWayBoth.P (a0 : List Int) : Prop := (∀ k, 0 ≤ a0.getD k 0 ∧ a0.getD k 0 ≤ 255)
abbrev laws_FnWayBoth.Q (a0 : List Int) (r : Bool) : Prop := (r = true)
def laws_FnWayBoth.L : FL := fCons (fC (cArr true kU8s)) (fNil)
def laws_FnWayBoth.f (a0 : List Int) (X : AV × List Blk → Prop) : Prop := And (Imp ((decide ((a0.length : Int) > 1048576)) = true) (X (.v (.c (.bool true)), []))) (Imp ((decide ((a0.length : Int) > 1048576)) = false) (And (spec_DrawWayMay.P a0) (Lt ((spec_DrawWayMay.S a0)) fun x1 => Lt ((impl_WayMay.S x1.1 x1.2.1 x1.2.2)) fun x2 => Lt ((spec_WayMay.S x1.1 x1.2.1 x1.2.2)) fun x3 => And (Imp ((!((x2 : Bool) == x3)) = true) (X (.v (.c (.bool false)), []))) (Imp ((!((x2 : Bool) == x3)) = false) (Lt (impl_StateNew.S) fun x4 => Lt ((impl_WayDo.S x4 x4 1)) fun x5 => Lt ((impl_WayDo.S x4 x5.1 2)) fun x6 => Lt ((impl_WayDo.S x5.1 x6.1 3)) fun x7 => Lt ((impl_WayDo.S x6.1 x7.1 4)) fun x8 => Lt ((impl_WayDo.S x5.1 x5.1 2)) fun x9 => Lt ((impl_WayDo.S x9.1 x9.1 4)) fun x10 => Lt (bif bif x5.2 then x6.2 else false then x7.2 else false) fun x11 => Lt (bif bif x11 then x8.2 else false then x9.2 else false) fun x12 => Lt (bif bif x12 then x10.2 else false then x7.1.way == 3 else false) fun x13 => Lt (bif bif x13 then x8.1.way == 3 else false then x10.1.way == 3 else false) fun x14 => X (.v (.c (.bool x14)), []))))))
theorem laws_FnWayBoth.w (a0 : List Int) (K : AV → List Blk → Prop) : evFn (envC [spec_DrawWayMay.c, impl_WayMay.c, spec_WayMay.c, impl_StateNew.c, impl_WayDo.c] [] []) [] [] [] Try.f14 (laws_FnWayBoth.L.inp (a0, ())).1 (laws_FnWayBoth.L.inp (a0, ())).2 K = laws_FnWayBoth.f a0 (fun v => K v.1 v.2) := by kernel_rfl
theorem laws_FnWayBoth.x (a0 : List Int) (hp : laws_FnWayBoth.P a0) : May (laws_FnWayBoth.Q a0) (laws_FnWayBoth.enc a0) (laws_FnWayBoth.f a0) := by
  have p0 := hp
  delta laws_FnWayBoth.f
  refine May.iff (B.dec) (fun h1 => ?_) (fun h1 => ?_)
  refine ⟨(true), ?_, fun X h => h⟩; rotate_left 1
  refine May.chk ?_ fun c1 => May.lq (spec_DrawWayMay.Q a0) (spec_DrawWayMay.q a0 ?_) fun x1 q1 => have q1_0 := q1.1; have q1_1 := q1.2; May.lq (impl_WayMay.Q x1.1 x1.2.1 x1.2.2) (impl_WayMay.q x1.1 x1.2.1 x1.2.2) fun x2 q2 => May.lq (spec_WayMay.Q x1.1 x1.2.1 x1.2.2) (spec_WayMay.q x1.1 x1.2.1 x1.2.2) fun x3 q3 => May.iff (B.not (B.beq)) (fun h2 => ?_) (fun h2 => ?_); rotate_left 2
  refine ⟨(false), ?_, fun X h => h⟩; rotate_left 1
  refine May.lq (impl_StateNew.Q ) (impl_StateNew.q ) fun x4 q4 => May.lq (impl_WayDo.Q x4 x4 1) (impl_WayDo.q x4 x4 1) fun x5 q5 => May.lq (impl_WayDo.Q x4 x5.1 2) (impl_WayDo.q x4 x5.1 2) fun x6 q6 => May.lq (impl_WayDo.Q x5.1 x6.1 3) (impl_WayDo.q x5.1 x6.1 3) fun x7 q7 => May.lq (impl_WayDo.Q x6.1 x7.1 4) (impl_WayDo.q x6.1 x7.1 4) fun x8 q8 => May.lq (impl_WayDo.Q x5.1 x5.1 2) (impl_WayDo.q x5.1 x5.1 2) fun x9 q9 => May.lq (impl_WayDo.Q x9.1 x9.1 4) (impl_WayDo.q x9.1 x9.1 4) fun x10 q10 => May.lp (B.and (B.and (Iff.rfl) (Iff.rfl)) (Iff.rfl)) fun x11 e11 => ?_
  refine May.lp (B.and (B.and (e11) (Iff.rfl)) (Iff.rfl)) fun x12 e12 => May.lp (B.and (B.and (e12) (Iff.rfl)) (B.eq)) fun x13 e13 => May.lp (B.and (B.and (e13) (B.eq)) (B.eq)) fun x14 e14 => ⟨(x14), ?_, fun X h => h⟩
  all_goals try dsimp only
  all_goals first | with_reducible assumption | omega | (with_reducible rfl; done) | (exact absurd (Bool.eq_iff_iff.2 (q2.trans q3.symm)) h2; done) | (exact e14.2 (both_fin q4 q5 q6 q7 q8 q9 q10); done)
theorem laws_FnWayBoth.X : ∃ S : laws_FnWayBoth.L.α → Bool, ∀ s, laws_FnWayBoth.P s.1 → laws_FnWayBoth.Q s.1 (S s) ∧ ∀ X, X (laws_FnWayBoth.enc s.1 (S s)) → laws_FnWayBoth.f s.1 X := mayS (false) fun s => laws_FnWayBoth.x s.1
noncomputable def laws_FnWayBoth.S (a0 : List Int) : Bool := Classical.choose laws_FnWayBoth.X (a0, ())
theorem laws_FnWayBoth.q (a0 : List Int) (hp : laws_FnWayBoth.P a0) : laws_FnWayBoth.Q a0 (laws_FnWayBoth.S a0) := (Classical.choose_spec laws_FnWayBoth.X (a0, ()) hp).1
noncomputable def laws_FnWayBoth.c : Ctr := hctr 14 [false] laws_FnWayBoth.L (some fun s => laws_FnWayBoth.P s.1) (fun s => laws_FnWayBoth.enc s.1 (laws_FnWayBoth.S s.1))
theorem laws_FnWayBoth.good : Good Try.prog laws_FnWayBoth.c :=
  hgoodC (sh := []) (tk := []) (sp := []) (ct := []) (LL := []) (consG spec_DrawWayMay.good (consG impl_WayMay.good (consG spec_WayMay.good (consG impl_StateNew.good (consG impl_WayDo.good noG))))) (fn := Try.f14) (by kernel_rfl) (by kernel_rfl) (by rw [show loopsOf (bodyOf Try.f14) = [] from by kernel_rfl]; exact noL rfl) (consC' (bs := []) (by kernel_rfl) noC) fun s hp => Eq.mpr (laws_FnWayBoth.w s.1 (fun r bs' => And (r = (laws_FnWayBoth.c.out s).1) (bs' = (laws_FnWayBoth.c.out s).2))) ((Classical.choose_spec laws_FnWayBoth.X s (hp _ rfl)).2 _ ⟨rfl, rfl⟩)
end Hw
end Go.Proofs.Ytmhighcagpbmeaa
