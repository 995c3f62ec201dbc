/- What a step does: made by gen.py. -/
import Derived.Test.YtmhighcagpbmeaaW0
import Derived.Test.YtmhighcagpbmeaaS0
set_option linter.unusedVariables false
set_option linter.unusedSimpArgs false
set_option maxRecDepth 100000
set_option maxHeartbeats 400000
namespace Go.Proofs.Ytmhighcagpbmeaa
namespace Hw
open Go
attribute [local irreducible] evFn evBody wrap wxor
/-! ### impl.waySteps$2 -/
def impl_waySteps_2.enc (a0 : St) (r : St) : AV × List Blk := (.tup [], [.raw 1 [.int r.way, .int r.ver, .int r.want, .own 1 7 44, .own 2 1 4, .own 3 1 4, .own 4 1 3], .arr (.pkts r.sent), .arr (.bools r.live), .arr (.bools r.back), .arr (.ints r.got)])
abbrev impl_waySteps_2.P (a0 : St) : Prop := True
abbrev impl_waySteps_2.Q (a0 : St) (r : St) : Prop := (r = ⟨1, a0.ver, a0.want, a0.sent, a0.live, a0.back, a0.got⟩)
def impl_waySteps_2.L : FL := fCons (fC (cPtr 1 cStO rfl)) (fNil)
def impl_waySteps_2.f (a0 : St) (X : AV × List Blk → Prop) : Prop := X (.tup [], [.raw 1 [.int 1, .int a0.ver, .int a0.want, .own 1 7 44, .own 2 1 4, .own 3 1 4, .own 4 1 3], .arr (.pkts a0.sent), .arr (.bools a0.live), .arr (.bools a0.back), .arr (.ints a0.got)])
theorem impl_waySteps_2.w (a0 : St) (K : AV → List Blk → Prop) : evFn (envC [] [] []) [] [] [] Try.f90 (impl_waySteps_2.L.inp (a0, ())).1 (impl_waySteps_2.L.inp (a0, ())).2 K = impl_waySteps_2.f a0 (fun v => K v.1 v.2) := by kernel_rfl
theorem impl_waySteps_2.x (a0 : St) (hp : impl_waySteps_2.P a0) : May (impl_waySteps_2.Q a0) (impl_waySteps_2.enc a0) (impl_waySteps_2.f a0) := by
  delta impl_waySteps_2.f
  refine ⟨((⟨1, a0.ver, a0.want, a0.sent, a0.live, a0.back, a0.got⟩ : St)), ?_, fun X h => h⟩
  all_goals try dsimp only
  all_goals first | with_reducible assumption | omega | rfl | assumption | (simp only [List.length_append, List.length_cons, List.length_nil, List.length_set, List.length_replicate, Int.natCast_add, Int.natCast_one] at *; omega) | grind
theorem impl_waySteps_2.X : ∃ S : impl_waySteps_2.L.α → St, ∀ s, impl_waySteps_2.P s.1 → impl_waySteps_2.Q s.1 (S s) ∧ ∀ X, X (impl_waySteps_2.enc s.1 (S s)) → impl_waySteps_2.f s.1 X := mayS (zSt) fun s => impl_waySteps_2.x s.1
noncomputable def impl_waySteps_2.S (a0 : St) : St := Classical.choose impl_waySteps_2.X (a0, ())
theorem impl_waySteps_2.q (a0 : St) : impl_waySteps_2.Q a0 (impl_waySteps_2.S a0) := (Classical.choose_spec impl_waySteps_2.X (a0, ()) trivial).1
noncomputable def impl_waySteps_2.c : Ctr := hctr 90 [false] impl_waySteps_2.L none (fun s => impl_waySteps_2.enc s.1 (impl_waySteps_2.S s.1))
theorem impl_waySteps_2.good : Good Try.prog impl_waySteps_2.c :=
  hgoodC (sh := []) (tk := []) (sp := []) (ct := []) (LL := []) noG (fn := Try.f90) (by kernel_rfl) (by kernel_rfl) (by rw [show loopsOf (bodyOf Try.f90) = [] from by kernel_rfl]; exact noL rfl) (consC' (bs := []) (by kernel_rfl) noC) fun s hp => Eq.mpr (impl_waySteps_2.w s.1 (fun r bs' => And (r = (impl_waySteps_2.c.out s).1) (bs' = (impl_waySteps_2.c.out s).2))) ((Classical.choose_spec impl_waySteps_2.X s trivial).2 _ ⟨rfl, rfl⟩)
/-! ### impl.waySteps$3 -/
def impl_waySteps_3.enc (a0 : St) (r : St) : AV × List Blk := (.tup [], [.raw 1 [.int r.way, .int r.ver, .int r.want, .own 1 7 44, .own 2 1 4, .own 3 1 4, .own 4 1 3], .arr (.pkts r.sent), .arr (.bools r.live), .arr (.bools r.back), .arr (.ints r.got)])
abbrev impl_waySteps_3.P (a0 : St) : Prop := True
abbrev impl_waySteps_3.Q (a0 : St) (r : St) : Prop := (r = ⟨2, a0.ver, a0.want, a0.sent, a0.live, a0.back, a0.got⟩)
def impl_waySteps_3.L : FL := fCons (fC (cPtr 1 cStO rfl)) (fNil)
def impl_waySteps_3.f (a0 : St) (X : AV × List Blk → Prop) : Prop := X (.tup [], [.raw 1 [.int 2, .int a0.ver, .int a0.want, .own 1 7 44, .own 2 1 4, .own 3 1 4, .own 4 1 3], .arr (.pkts a0.sent), .arr (.bools a0.live), .arr (.bools a0.back), .arr (.ints a0.got)])
theorem impl_waySteps_3.w (a0 : St) (K : AV → List Blk → Prop) : evFn (envC [] [] []) [] [] [] Try.f92 (impl_waySteps_3.L.inp (a0, ())).1 (impl_waySteps_3.L.inp (a0, ())).2 K = impl_waySteps_3.f a0 (fun v => K v.1 v.2) := by kernel_rfl
theorem impl_waySteps_3.x (a0 : St) (hp : impl_waySteps_3.P a0) : May (impl_waySteps_3.Q a0) (impl_waySteps_3.enc a0) (impl_waySteps_3.f a0) := by
  delta impl_waySteps_3.f
  refine ⟨((⟨2, a0.ver, a0.want, a0.sent, a0.live, a0.back, a0.got⟩ : St)), ?_, fun X h => h⟩
  all_goals try dsimp only
  all_goals first | with_reducible assumption | omega | rfl | assumption | (simp only [List.length_append, List.length_cons, List.length_nil, List.length_set, List.length_replicate, Int.natCast_add, Int.natCast_one] at *; omega) | grind
theorem impl_waySteps_3.X : ∃ S : impl_waySteps_3.L.α → St, ∀ s, impl_waySteps_3.P s.1 → impl_waySteps_3.Q s.1 (S s) ∧ ∀ X, X (impl_waySteps_3.enc s.1 (S s)) → impl_waySteps_3.f s.1 X := mayS (zSt) fun s => impl_waySteps_3.x s.1
noncomputable def impl_waySteps_3.S (a0 : St) : St := Classical.choose impl_waySteps_3.X (a0, ())
theorem impl_waySteps_3.q (a0 : St) : impl_waySteps_3.Q a0 (impl_waySteps_3.S a0) := (Classical.choose_spec impl_waySteps_3.X (a0, ()) trivial).1
noncomputable def impl_waySteps_3.c : Ctr := hctr 92 [false] impl_waySteps_3.L none (fun s => impl_waySteps_3.enc s.1 (impl_waySteps_3.S s.1))
theorem impl_waySteps_3.good : Good Try.prog impl_waySteps_3.c :=
  hgoodC (sh := []) (tk := []) (sp := []) (ct := []) (LL := []) noG (fn := Try.f92) (by kernel_rfl) (by kernel_rfl) (by rw [show loopsOf (bodyOf Try.f92) = [] from by kernel_rfl]; exact noL rfl) (consC' (bs := []) (by kernel_rfl) noC) fun s hp => Eq.mpr (impl_waySteps_3.w s.1 (fun r bs' => And (r = (impl_waySteps_3.c.out s).1) (bs' = (impl_waySteps_3.c.out s).2))) ((Classical.choose_spec impl_waySteps_3.X s trivial).2 _ ⟨rfl, rfl⟩)
/-! ### impl.waySteps$5 -/
def impl_waySteps_5.enc (a0 : St) (r : St) : AV × List Blk := (.tup [], [.raw 1 [.int r.way, .int r.ver, .int r.want, .own 1 7 44, .own 2 1 4, .own 3 1 4, .own 4 1 3], .arr (.pkts r.sent), .arr (.bools r.live), .arr (.bools r.back), .arr (.ints r.got)])
abbrev impl_waySteps_5.P (a0 : St) : Prop := True
abbrev impl_waySteps_5.Q (a0 : St) (r : St) : Prop := (r = ⟨3, a0.ver, a0.want, a0.sent, a0.live, a0.back, a0.got⟩)
def impl_waySteps_5.L : FL := fCons (fC (cPtr 1 cStO rfl)) (fNil)
def impl_waySteps_5.f (a0 : St) (X : AV × List Blk → Prop) : Prop := X (.tup [], [.raw 1 [.int 3, .int a0.ver, .int a0.want, .own 1 7 44, .own 2 1 4, .own 3 1 4, .own 4 1 3], .arr (.pkts a0.sent), .arr (.bools a0.live), .arr (.bools a0.back), .arr (.ints a0.got)])
theorem impl_waySteps_5.w (a0 : St) (K : AV → List Blk → Prop) : evFn (envC [] [] []) [] [] [] Try.f94 (impl_waySteps_5.L.inp (a0, ())).1 (impl_waySteps_5.L.inp (a0, ())).2 K = impl_waySteps_5.f a0 (fun v => K v.1 v.2) := by kernel_rfl
theorem impl_waySteps_5.x (a0 : St) (hp : impl_waySteps_5.P a0) : May (impl_waySteps_5.Q a0) (impl_waySteps_5.enc a0) (impl_waySteps_5.f a0) := by
  delta impl_waySteps_5.f
  refine ⟨((⟨3, a0.ver, a0.want, a0.sent, a0.live, a0.back, a0.got⟩ : St)), ?_, fun X h => h⟩
  all_goals try dsimp only
  all_goals first | with_reducible assumption | omega | rfl | assumption | (simp only [List.length_append, List.length_cons, List.length_nil, List.length_set, List.length_replicate, Int.natCast_add, Int.natCast_one] at *; omega) | grind
theorem impl_waySteps_5.X : ∃ S : impl_waySteps_5.L.α → St, ∀ s, impl_waySteps_5.P s.1 → impl_waySteps_5.Q s.1 (S s) ∧ ∀ X, X (impl_waySteps_5.enc s.1 (S s)) → impl_waySteps_5.f s.1 X := mayS (zSt) fun s => impl_waySteps_5.x s.1
noncomputable def impl_waySteps_5.S (a0 : St) : St := Classical.choose impl_waySteps_5.X (a0, ())
theorem impl_waySteps_5.q (a0 : St) : impl_waySteps_5.Q a0 (impl_waySteps_5.S a0) := (Classical.choose_spec impl_waySteps_5.X (a0, ()) trivial).1
noncomputable def impl_waySteps_5.c : Ctr := hctr 94 [false] impl_waySteps_5.L none (fun s => impl_waySteps_5.enc s.1 (impl_waySteps_5.S s.1))
theorem impl_waySteps_5.good : Good Try.prog impl_waySteps_5.c :=
  hgoodC (sh := []) (tk := []) (sp := []) (ct := []) (LL := []) noG (fn := Try.f94) (by kernel_rfl) (by kernel_rfl) (by rw [show loopsOf (bodyOf Try.f94) = [] from by kernel_rfl]; exact noL rfl) (consC' (bs := []) (by kernel_rfl) noC) fun s hp => Eq.mpr (impl_waySteps_5.w s.1 (fun r bs' => And (r = (impl_waySteps_5.c.out s).1) (bs' = (impl_waySteps_5.c.out s).2))) ((Classical.choose_spec impl_waySteps_5.X s trivial).2 _ ⟨rfl, rfl⟩)
/-! ### impl.waySteps$7 -/
def impl_waySteps_7.enc (a0 : St) (r : St) : AV × List Blk := (.tup [], [.raw 1 [.int r.way, .int r.ver, .int r.want, .own 1 7 44, .own 2 1 4, .own 3 1 4, .own 4 1 3], .arr (.pkts r.sent), .arr (.bools r.live), .arr (.bools r.back), .arr (.ints r.got)])
abbrev impl_waySteps_7.P (a0 : St) : Prop := True
abbrev impl_waySteps_7.Q (a0 : St) (r : St) : Prop := (r = ⟨3, a0.ver, a0.want, a0.sent, a0.live, a0.back, a0.got⟩)
def impl_waySteps_7.L : FL := fCons (fC (cPtr 1 cStO rfl)) (fNil)
def impl_waySteps_7.f (a0 : St) (X : AV × List Blk → Prop) : Prop := X (.tup [], [.raw 1 [.int 3, .int a0.ver, .int a0.want, .own 1 7 44, .own 2 1 4, .own 3 1 4, .own 4 1 3], .arr (.pkts a0.sent), .arr (.bools a0.live), .arr (.bools a0.back), .arr (.ints a0.got)])
theorem impl_waySteps_7.w (a0 : St) (K : AV → List Blk → Prop) : evFn (envC [] [] []) [] [] [] Try.f96 (impl_waySteps_7.L.inp (a0, ())).1 (impl_waySteps_7.L.inp (a0, ())).2 K = impl_waySteps_7.f a0 (fun v => K v.1 v.2) := by kernel_rfl
theorem impl_waySteps_7.x (a0 : St) (hp : impl_waySteps_7.P a0) : May (impl_waySteps_7.Q a0) (impl_waySteps_7.enc a0) (impl_waySteps_7.f a0) := by
  delta impl_waySteps_7.f
  refine ⟨((⟨3, a0.ver, a0.want, a0.sent, a0.live, a0.back, a0.got⟩ : St)), ?_, fun X h => h⟩
  all_goals try dsimp only
  all_goals first | with_reducible assumption | omega | rfl | assumption | (simp only [List.length_append, List.length_cons, List.length_nil, List.length_set, List.length_replicate, Int.natCast_add, Int.natCast_one] at *; omega) | grind
theorem impl_waySteps_7.X : ∃ S : impl_waySteps_7.L.α → St, ∀ s, impl_waySteps_7.P s.1 → impl_waySteps_7.Q s.1 (S s) ∧ ∀ X, X (impl_waySteps_7.enc s.1 (S s)) → impl_waySteps_7.f s.1 X := mayS (zSt) fun s => impl_waySteps_7.x s.1
noncomputable def impl_waySteps_7.S (a0 : St) : St := Classical.choose impl_waySteps_7.X (a0, ())
theorem impl_waySteps_7.q (a0 : St) : impl_waySteps_7.Q a0 (impl_waySteps_7.S a0) := (Classical.choose_spec impl_waySteps_7.X (a0, ()) trivial).1
noncomputable def impl_waySteps_7.c : Ctr := hctr 96 [false] impl_waySteps_7.L none (fun s => impl_waySteps_7.enc s.1 (impl_waySteps_7.S s.1))
theorem impl_waySteps_7.good : Good Try.prog impl_waySteps_7.c :=
  hgoodC (sh := []) (tk := []) (sp := []) (ct := []) (LL := []) noG (fn := Try.f96) (by kernel_rfl) (by kernel_rfl) (by rw [show loopsOf (bodyOf Try.f96) = [] from by kernel_rfl]; exact noL rfl) (consC' (bs := []) (by kernel_rfl) noC) fun s hp => Eq.mpr (impl_waySteps_7.w s.1 (fun r bs' => And (r = (impl_waySteps_7.c.out s).1) (bs' = (impl_waySteps_7.c.out s).2))) ((Classical.choose_spec impl_waySteps_7.X s trivial).2 _ ⟨rfl, rfl⟩)
/-! ### impl.wayFlush -/
def impl_wayFlush.enc (a0 : St) (r : St) : AV × List Blk := (.tup [], [.raw 1 [.int r.way, .int r.ver, .int r.want, .own 1 7 44, .own 2 1 4, .own 3 1 4, .own 4 1 3], .arr (.pkts r.sent), .arr (.bools r.live), .arr (.bools r.back), .arr (.ints r.got)])
abbrev impl_wayFlush.P (a0 : St) : Prop := True
abbrev impl_wayFlush.Q (a0 : St) (r : St) : Prop := (r = ⟨4, a0.ver, wrap (a0.ver + 1), a0.sent, a0.live, a0.back, a0.got⟩)
def impl_wayFlush.L : FL := fCons (fC (cPtr 1 cStO rfl)) (fNil)
def impl_wayFlush.f (a0 : St) (X : AV × List Blk → Prop) : Prop := X (.tup [], [.raw 1 [.int 4, .int a0.ver, .int (wrap (a0.ver + 1)), .own 1 7 44, .own 2 1 4, .own 3 1 4, .own 4 1 3], .arr (.pkts a0.sent), .arr (.bools a0.live), .arr (.bools a0.back), .arr (.ints a0.got)])
theorem impl_wayFlush.w (a0 : St) (K : AV → List Blk → Prop) : evFn (envC [] [] []) [] [] [] Try.f98 (impl_wayFlush.L.inp (a0, ())).1 (impl_wayFlush.L.inp (a0, ())).2 K = impl_wayFlush.f a0 (fun v => K v.1 v.2) := by kernel_rfl
theorem impl_wayFlush.x (a0 : St) (hp : impl_wayFlush.P a0) : May (impl_wayFlush.Q a0) (impl_wayFlush.enc a0) (impl_wayFlush.f a0) := by
  delta impl_wayFlush.f
  refine ⟨((⟨4, a0.ver, wrap (a0.ver + 1), a0.sent, a0.live, a0.back, a0.got⟩ : St)), ?_, fun X h => h⟩
  all_goals try dsimp only
  all_goals first | with_reducible assumption | omega | rfl | assumption | (simp only [List.length_append, List.length_cons, List.length_nil, List.length_set, List.length_replicate, Int.natCast_add, Int.natCast_one] at *; omega) | grind
theorem impl_wayFlush.X : ∃ S : impl_wayFlush.L.α → St, ∀ s, impl_wayFlush.P s.1 → impl_wayFlush.Q s.1 (S s) ∧ ∀ X, X (impl_wayFlush.enc s.1 (S s)) → impl_wayFlush.f s.1 X := mayS (zSt) fun s => impl_wayFlush.x s.1
noncomputable def impl_wayFlush.S (a0 : St) : St := Classical.choose impl_wayFlush.X (a0, ())
theorem impl_wayFlush.q (a0 : St) : impl_wayFlush.Q a0 (impl_wayFlush.S a0) := (Classical.choose_spec impl_wayFlush.X (a0, ()) trivial).1
noncomputable def impl_wayFlush.c : Ctr := hctr 98 [false] impl_wayFlush.L none (fun s => impl_wayFlush.enc s.1 (impl_wayFlush.S s.1))
theorem impl_wayFlush.good : Good Try.prog impl_wayFlush.c :=
  hgoodC (sh := []) (tk := []) (sp := []) (ct := []) (LL := []) noG (fn := Try.f98) (by kernel_rfl) (by kernel_rfl) (by rw [show loopsOf (bodyOf Try.f98) = [] from by kernel_rfl]; exact noL rfl) (consC' (bs := []) (by kernel_rfl) noC) fun s hp => Eq.mpr (impl_wayFlush.w s.1 (fun r bs' => And (r = (impl_wayFlush.c.out s).1) (bs' = (impl_wayFlush.c.out s).2))) ((Classical.choose_spec impl_wayFlush.X s trivial).2 _ ⟨rfl, rfl⟩)
/-! ### impl.waySteps$10 -/
def impl_waySteps_10.enc (a0 : St) (r : St) : AV × List Blk := (.tup [], [.raw 1 [.int r.way, .int r.ver, .int r.want, .own 1 7 44, .own 2 1 4, .own 3 1 4, .own 4 1 3], .arr (.pkts r.sent), .arr (.bools r.live), .arr (.bools r.back), .arr (.ints r.got)])
abbrev impl_waySteps_10.P (a0 : St) : Prop := True
abbrev impl_waySteps_10.Q (a0 : St) (r : St) : Prop := (r = ⟨3, a0.want, 0, a0.sent, a0.live, a0.back, a0.got⟩)
def impl_waySteps_10.L : FL := fCons (fC (cPtr 1 cStO rfl)) (fNil)
def impl_waySteps_10.f (a0 : St) (X : AV × List Blk → Prop) : Prop := X (.tup [], [.raw 1 [.int 3, .int a0.want, .int 0, .own 1 7 44, .own 2 1 4, .own 3 1 4, .own 4 1 3], .arr (.pkts a0.sent), .arr (.bools a0.live), .arr (.bools a0.back), .arr (.ints a0.got)])
theorem impl_waySteps_10.w (a0 : St) (K : AV → List Blk → Prop) : evFn (envC [] [] []) [] [] [] Try.f101 (impl_waySteps_10.L.inp (a0, ())).1 (impl_waySteps_10.L.inp (a0, ())).2 K = impl_waySteps_10.f a0 (fun v => K v.1 v.2) := by kernel_rfl
theorem impl_waySteps_10.x (a0 : St) (hp : impl_waySteps_10.P a0) : May (impl_waySteps_10.Q a0) (impl_waySteps_10.enc a0) (impl_waySteps_10.f a0) := by
  delta impl_waySteps_10.f
  refine ⟨((⟨3, a0.want, 0, a0.sent, a0.live, a0.back, a0.got⟩ : St)), ?_, fun X h => h⟩
  all_goals try dsimp only
  all_goals first | with_reducible assumption | omega | rfl | assumption | (simp only [List.length_append, List.length_cons, List.length_nil, List.length_set, List.length_replicate, Int.natCast_add, Int.natCast_one] at *; omega) | grind
theorem impl_waySteps_10.X : ∃ S : impl_waySteps_10.L.α → St, ∀ s, impl_waySteps_10.P s.1 → impl_waySteps_10.Q s.1 (S s) ∧ ∀ X, X (impl_waySteps_10.enc s.1 (S s)) → impl_waySteps_10.f s.1 X := mayS (zSt) fun s => impl_waySteps_10.x s.1
noncomputable def impl_waySteps_10.S (a0 : St) : St := Classical.choose impl_waySteps_10.X (a0, ())
theorem impl_waySteps_10.q (a0 : St) : impl_waySteps_10.Q a0 (impl_waySteps_10.S a0) := (Classical.choose_spec impl_waySteps_10.X (a0, ()) trivial).1
noncomputable def impl_waySteps_10.c : Ctr := hctr 101 [false] impl_waySteps_10.L none (fun s => impl_waySteps_10.enc s.1 (impl_waySteps_10.S s.1))
theorem impl_waySteps_10.good : Good Try.prog impl_waySteps_10.c :=
  hgoodC (sh := []) (tk := []) (sp := []) (ct := []) (LL := []) noG (fn := Try.f101) (by kernel_rfl) (by kernel_rfl) (by rw [show loopsOf (bodyOf Try.f101) = [] from by kernel_rfl]; exact noL rfl) (consC' (bs := []) (by kernel_rfl) noC) fun s hp => Eq.mpr (impl_waySteps_10.w s.1 (fun r bs' => And (r = (impl_waySteps_10.c.out s).1) (bs' = (impl_waySteps_10.c.out s).2))) ((Classical.choose_spec impl_waySteps_10.X s trivial).2 _ ⟨rfl, rfl⟩)
end Hw
end Go.Proofs.Ytmhighcagpbmeaa
