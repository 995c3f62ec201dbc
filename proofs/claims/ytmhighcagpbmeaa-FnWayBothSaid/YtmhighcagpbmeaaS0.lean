/- Copies: made by gen.py. -/
import Derived.Test.YtmhighcagpbmeaaE1
set_option linter.unusedVariables false
set_option linter.unusedSimpArgs false
set_option maxRecDepth 100000
set_option maxHeartbeats 400000
namespace Go.Proofs.Ytmhighcagpbmeaa
namespace Hw
open Go
attribute [local irreducible] evFn evBody wrap wxor
/-! ### impl.fresh[int] -/
def impl_fresh_int.enc (a0 : List Int) (r : Unit) : AV × List Blk := (.v (.c (.own 0 1 3)), [.arr (.ints a0)])
abbrev impl_fresh_int.P (a0 : List Int) : Prop := (a0.length ≤ 4294967296)
abbrev impl_fresh_int.Q (a0 : List Int) (r : Unit) : Prop := True
def impl_fresh_int.L : FL := fCons (fSh sInts) (fNil)
def impl_fresh_int.f (a0 : List Int) (X : AV × List Blk → Prop) : Prop := And (((a0.length : Int) : Int) = (a0.length : Int) ∧ (0 : Int) ≤ (a0.length : Int) ∧ ((a0.length : Int) : Int) ≤ 4294967296) (And ((Arr.rep .int ((a0.length : Int)).toNat).len = a0.length) (X (.v (.c (.own 0 1 3)), [.arr (.ints a0)])))
theorem impl_fresh_int.w (a0 : List Int) (K : AV → List Blk → Prop) : evFn (envC [] [] []) [] [[some (.int, 3)]] [] Try.f87 (impl_fresh_int.L.inp (a0, ())).1 (impl_fresh_int.L.inp (a0, ())).2 K = impl_fresh_int.f a0 (fun v => K v.1 v.2) := by kernel_rfl
theorem impl_fresh_int.x (a0 : List Int) (hp : impl_fresh_int.P a0) : May (impl_fresh_int.Q a0) (impl_fresh_int.enc a0) (impl_fresh_int.f a0) := by
  have p0 := hp
  delta impl_fresh_int.f
  refine May.chk ?_ fun c1 => May.chk ?_ fun c2 => ⟨(), trivial, fun X h => h⟩
  all_goals try dsimp only
  all_goals first | with_reducible assumption | omega | (exact (rep_spec _ _).1.trans (by omega); done) | rfl | assumption | (simp only [List.length_append, List.length_cons, List.length_nil, List.length_set, List.length_replicate, Int.natCast_add, Int.natCast_one] at *; omega) | grind
theorem impl_fresh_int.X : ∃ S : impl_fresh_int.L.α → Unit, ∀ s, impl_fresh_int.P s.1 → impl_fresh_int.Q s.1 (S s) ∧ ∀ X, X (impl_fresh_int.enc s.1 (S s)) → impl_fresh_int.f s.1 X := mayS () fun s => impl_fresh_int.x s.1
noncomputable def impl_fresh_int.S (a0 : List Int) : Unit := Classical.choose impl_fresh_int.X (a0, ())
theorem impl_fresh_int.q (a0 : List Int) (hp : impl_fresh_int.P a0) : impl_fresh_int.Q a0 (impl_fresh_int.S a0) := (Classical.choose_spec impl_fresh_int.X (a0, ()) hp).1
noncomputable def impl_fresh_int.c : Ctr := hctr 87 [true] impl_fresh_int.L (some fun s => impl_fresh_int.P s.1) (fun s => impl_fresh_int.enc s.1 (impl_fresh_int.S s.1))
theorem impl_fresh_int.good : Good Try.prog impl_fresh_int.c :=
  hgoodC (sh := [[some (.int, 3)]]) (tk := []) (sp := []) (ct := []) (LL := []) noG (fn := Try.f87) (by kernel_rfl) (by kernel_rfl) (by rw [show loopsOf (bodyOf Try.f87) = [] from by kernel_rfl]; exact noL rfl) (consC' (bs := []) (by kernel_rfl) noC) fun s hp => Eq.mpr (impl_fresh_int.w s.1 (fun r bs' => And (r = (impl_fresh_int.c.out s).1) (bs' = (impl_fresh_int.c.out s).2))) ((Classical.choose_spec impl_fresh_int.X s (hp _ rfl)).2 _ ⟨rfl, rfl⟩)
/-! ### impl.fresh[bool] -/
def impl_fresh_bool.enc (a0 : List Bool) (r : Unit) : AV × List Blk := (.v (.c (.own 0 1 4)), [.arr (.bools a0)])
abbrev impl_fresh_bool.P (a0 : List Bool) : Prop := (a0.length ≤ 4294967296)
abbrev impl_fresh_bool.Q (a0 : List Bool) (r : Unit) : Prop := True
def impl_fresh_bool.L : FL := fCons (fSh sBools) (fNil)
def impl_fresh_bool.f (a0 : List Bool) (X : AV × List Blk → Prop) : Prop := And (((a0.length : Int) : Int) = (a0.length : Int) ∧ (0 : Int) ≤ (a0.length : Int) ∧ ((a0.length : Int) : Int) ≤ 4294967296) (And ((Arr.rep .bool ((a0.length : Int)).toNat).len = a0.length) (X (.v (.c (.own 0 1 4)), [.arr (.bools a0)])))
theorem impl_fresh_bool.w (a0 : List Bool) (K : AV → List Blk → Prop) : evFn (envC [] [] []) [] [[some (.bool, 4)]] [] Try.f103 (impl_fresh_bool.L.inp (a0, ())).1 (impl_fresh_bool.L.inp (a0, ())).2 K = impl_fresh_bool.f a0 (fun v => K v.1 v.2) := by kernel_rfl
theorem impl_fresh_bool.x (a0 : List Bool) (hp : impl_fresh_bool.P a0) : May (impl_fresh_bool.Q a0) (impl_fresh_bool.enc a0) (impl_fresh_bool.f a0) := by
  have p0 := hp
  delta impl_fresh_bool.f
  refine May.chk ?_ fun c1 => May.chk ?_ fun c2 => ⟨(), trivial, fun X h => h⟩
  all_goals try dsimp only
  all_goals first | with_reducible assumption | omega | (exact (rep_spec _ _).1.trans (by omega); done) | rfl | assumption | (simp only [List.length_append, List.length_cons, List.length_nil, List.length_set, List.length_replicate, Int.natCast_add, Int.natCast_one] at *; omega) | grind
theorem impl_fresh_bool.X : ∃ S : impl_fresh_bool.L.α → Unit, ∀ s, impl_fresh_bool.P s.1 → impl_fresh_bool.Q s.1 (S s) ∧ ∀ X, X (impl_fresh_bool.enc s.1 (S s)) → impl_fresh_bool.f s.1 X := mayS () fun s => impl_fresh_bool.x s.1
noncomputable def impl_fresh_bool.S (a0 : List Bool) : Unit := Classical.choose impl_fresh_bool.X (a0, ())
theorem impl_fresh_bool.q (a0 : List Bool) (hp : impl_fresh_bool.P a0) : impl_fresh_bool.Q a0 (impl_fresh_bool.S a0) := (Classical.choose_spec impl_fresh_bool.X (a0, ()) hp).1
noncomputable def impl_fresh_bool.c : Ctr := hctr 103 [true] impl_fresh_bool.L (some fun s => impl_fresh_bool.P s.1) (fun s => impl_fresh_bool.enc s.1 (impl_fresh_bool.S s.1))
theorem impl_fresh_bool.good : Good Try.prog impl_fresh_bool.c :=
  hgoodC (sh := [[some (.bool, 4)]]) (tk := []) (sp := []) (ct := []) (LL := []) noG (fn := Try.f103) (by kernel_rfl) (by kernel_rfl) (by rw [show loopsOf (bodyOf Try.f103) = [] from by kernel_rfl]; exact noL rfl) (consC' (bs := []) (by kernel_rfl) noC) fun s hp => Eq.mpr (impl_fresh_bool.w s.1 (fun r bs' => And (r = (impl_fresh_bool.c.out s).1) (bs' = (impl_fresh_bool.c.out s).2))) ((Classical.choose_spec impl_fresh_bool.X s (hp _ rfl)).2 _ ⟨rfl, rfl⟩)
/-! ### impl.fresh[impl.Packet] -/
def impl_fresh_impl_Packet.enc (a0 : List Pkt) (r : Unit) : AV × List Blk := (.v (.c (.own 0 7 44)), [.arr (.pkts a0)])
abbrev impl_fresh_impl_Packet.P (a0 : List Pkt) : Prop := (a0.length ≤ 4294967296)
abbrev impl_fresh_impl_Packet.Q (a0 : List Pkt) (r : Unit) : Prop := True
def impl_fresh_impl_Packet.L : FL := fCons (fSh sPkts) (fNil)
def impl_fresh_impl_Packet.f (a0 : List Pkt) (X : AV × List Blk → Prop) : Prop := And (((a0.length : Int) : Int) = (a0.length : Int) ∧ (0 : Int) ≤ (a0.length : Int) ∧ ((a0.length : Int) : Int) ≤ 4294967296) (And ((Arr.rep .pkt ((a0.length : Int)).toNat).len = a0.length) (X (.v (.c (.own 0 7 44)), [.arr (.pkts a0)])))
theorem impl_fresh_impl_Packet.w (a0 : List Pkt) (K : AV → List Blk → Prop) : evFn (envC [] [] []) [] [[some (.pkt, 44)]] [] Try.f102 (impl_fresh_impl_Packet.L.inp (a0, ())).1 (impl_fresh_impl_Packet.L.inp (a0, ())).2 K = impl_fresh_impl_Packet.f a0 (fun v => K v.1 v.2) := by kernel_rfl
theorem impl_fresh_impl_Packet.x (a0 : List Pkt) (hp : impl_fresh_impl_Packet.P a0) : May (impl_fresh_impl_Packet.Q a0) (impl_fresh_impl_Packet.enc a0) (impl_fresh_impl_Packet.f a0) := by
  have p0 := hp
  delta impl_fresh_impl_Packet.f
  refine May.chk ?_ fun c1 => May.chk ?_ fun c2 => ⟨(), trivial, fun X h => h⟩
  all_goals try dsimp only
  all_goals first | with_reducible assumption | omega | (exact (rep_spec _ _).1.trans (by omega); done) | rfl | assumption | (simp only [List.length_append, List.length_cons, List.length_nil, List.length_set, List.length_replicate, Int.natCast_add, Int.natCast_one] at *; omega) | grind
theorem impl_fresh_impl_Packet.X : ∃ S : impl_fresh_impl_Packet.L.α → Unit, ∀ s, impl_fresh_impl_Packet.P s.1 → impl_fresh_impl_Packet.Q s.1 (S s) ∧ ∀ X, X (impl_fresh_impl_Packet.enc s.1 (S s)) → impl_fresh_impl_Packet.f s.1 X := mayS () fun s => impl_fresh_impl_Packet.x s.1
noncomputable def impl_fresh_impl_Packet.S (a0 : List Pkt) : Unit := Classical.choose impl_fresh_impl_Packet.X (a0, ())
theorem impl_fresh_impl_Packet.q (a0 : List Pkt) (hp : impl_fresh_impl_Packet.P a0) : impl_fresh_impl_Packet.Q a0 (impl_fresh_impl_Packet.S a0) := (Classical.choose_spec impl_fresh_impl_Packet.X (a0, ()) hp).1
noncomputable def impl_fresh_impl_Packet.c : Ctr := hctr 102 [true] impl_fresh_impl_Packet.L (some fun s => impl_fresh_impl_Packet.P s.1) (fun s => impl_fresh_impl_Packet.enc s.1 (impl_fresh_impl_Packet.S s.1))
theorem impl_fresh_impl_Packet.good : Good Try.prog impl_fresh_impl_Packet.c :=
  hgoodC (sh := [[some (.pkt, 44)]]) (tk := []) (sp := []) (ct := []) (LL := []) noG (fn := Try.f102) (by kernel_rfl) (by kernel_rfl) (by rw [show loopsOf (bodyOf Try.f102) = [] from by kernel_rfl]; exact noL rfl) (consC' (bs := []) (by kernel_rfl) noC) fun s hp => Eq.mpr (impl_fresh_impl_Packet.w s.1 (fun r bs' => And (r = (impl_fresh_impl_Packet.c.out s).1) (bs' = (impl_fresh_impl_Packet.c.out s).2))) ((Classical.choose_spec impl_fresh_impl_Packet.X s (hp _ rfl)).2 _ ⟨rfl, rfl⟩)
/-! ### impl.stateCopy -/
def impl_stateCopy.enc (a0 : St) (r : Unit) : AV × List Blk := (.v (.agg [.int a0.way, .int a0.ver, .int a0.want, .own 0 7 44, .own 1 1 4, .own 2 1 4, .own 3 1 3]), [.arr (.pkts a0.sent), .arr (.bools a0.live), .arr (.bools a0.back), .arr (.ints a0.got)])
abbrev impl_stateCopy.P (a0 : St) : Prop := (a0.sm)
abbrev impl_stateCopy.Q (a0 : St) (r : Unit) : Prop := True
def impl_stateCopy.L : FL := fCons (fSh sSt) (fNil)
def impl_stateCopy.f (a0 : St) (X : AV × List Blk → Prop) : Prop := And (impl_fresh_impl_Packet.P a0.sent) (And (impl_fresh_bool.P a0.live) (And (impl_fresh_bool.P a0.back) (And (impl_fresh_int.P a0.got) (X (.v (.agg [.int a0.way, .int a0.ver, .int a0.want, .own 0 7 44, .own 1 1 4, .own 2 1 4, .own 3 1 3]), [.arr (.pkts a0.sent), .arr (.bools a0.live), .arr (.bools a0.back), .arr (.ints a0.got)])))))
theorem impl_stateCopy.w (a0 : St) (K : AV → List Blk → Prop) : evFn (envC [impl_fresh_impl_Packet.c, impl_fresh_bool.c, impl_fresh_int.c] [] []) [] [[none, none, none, some (.pkt, 44), some (.bool, 4), some (.bool, 4), some (.int, 3)]] [] Try.f78 (impl_stateCopy.L.inp (a0, ())).1 (impl_stateCopy.L.inp (a0, ())).2 K = impl_stateCopy.f a0 (fun v => K v.1 v.2) := by kernel_rfl
theorem impl_stateCopy.x (a0 : St) (hp : impl_stateCopy.P a0) : May (impl_stateCopy.Q a0) (impl_stateCopy.enc a0) (impl_stateCopy.f a0) := by
  have p0 := hp
  delta impl_stateCopy.f
  refine May.chk ?_ fun c1 => May.chk ?_ fun c2 => May.chk ?_ fun c3 => May.chk ?_ fun c4 => ⟨(), trivial, fun X h => h⟩
  all_goals try dsimp only
  all_goals first | with_reducible assumption | omega | rfl | assumption | (simp only [List.length_append, List.length_cons, List.length_nil, List.length_set, List.length_replicate, Int.natCast_add, Int.natCast_one] at *; omega) | grind [St.sm]
theorem impl_stateCopy.X : ∃ S : impl_stateCopy.L.α → Unit, ∀ s, impl_stateCopy.P s.1 → impl_stateCopy.Q s.1 (S s) ∧ ∀ X, X (impl_stateCopy.enc s.1 (S s)) → impl_stateCopy.f s.1 X := mayS () fun s => impl_stateCopy.x s.1
noncomputable def impl_stateCopy.S (a0 : St) : Unit := Classical.choose impl_stateCopy.X (a0, ())
theorem impl_stateCopy.q (a0 : St) (hp : impl_stateCopy.P a0) : impl_stateCopy.Q a0 (impl_stateCopy.S a0) := (Classical.choose_spec impl_stateCopy.X (a0, ()) hp).1
noncomputable def impl_stateCopy.c : Ctr := hctr 78 [true] impl_stateCopy.L (some fun s => impl_stateCopy.P s.1) (fun s => impl_stateCopy.enc s.1 (impl_stateCopy.S s.1))
theorem impl_stateCopy.good : Good Try.prog impl_stateCopy.c :=
  hgoodC (sh := [[none, none, none, some (.pkt, 44), some (.bool, 4), some (.bool, 4), some (.int, 3)]]) (tk := []) (sp := []) (ct := []) (LL := []) (consG impl_fresh_impl_Packet.good (consG impl_fresh_bool.good (consG impl_fresh_int.good noG))) (fn := Try.f78) (by kernel_rfl) (by kernel_rfl) (by rw [show loopsOf (bodyOf Try.f78) = [] from by kernel_rfl]; exact noL rfl) (consC' (bs := []) (by kernel_rfl) noC) fun s hp => Eq.mpr (impl_stateCopy.w s.1 (fun r bs' => And (r = (impl_stateCopy.c.out s).1) (bs' = (impl_stateCopy.c.out s).2))) ((Classical.choose_spec impl_stateCopy.X s (hp _ rfl)).2 _ ⟨rfl, rfl⟩)
end Hw
end Go.Proofs.Ytmhighcagpbmeaa
