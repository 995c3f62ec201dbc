/- The new state: made by gen.py. -/
import Derived.Test.YtmhighcagpbmeaaG0
set_option linter.unusedVariables false
set_option linter.unusedSimpArgs false
set_option maxRecDepth 100000
set_option maxHeartbeats 400000
namespace Go.Proofs.Ytmhighcagpbmeaa
namespace Hw
open Go
attribute [local irreducible] evFn evBody wrap wxor
/-! ### impl.StateNew -/
def impl_StateNew.enc  (r : St) : AV × List Blk := (.v (.agg [.int r.way, .int r.ver, .int r.want, .own 0 7 44, .own 1 1 4, .own 2 1 4, .own 3 1 3]), [.arr (.pkts r.sent), .arr (.bools r.live), .arr (.bools r.back), .arr (.ints r.got)])
abbrev impl_StateNew.P  : Prop := True
abbrev impl_StateNew.Q  (r : St) : Prop := (r = ⟨0, 1, 0, [], [], [], List.replicate 8 0⟩)
def impl_StateNew.L : FL := fNil
def impl_StateNew.f  (X : AV × List Blk → Prop) : Prop := And ((8 : Int) = 8 ∧ (0 : Int) ≤ 8 ∧ (8 : Int) ≤ 4294967296) (X (.v (.agg [.int 0, .int 1, .int 0, .own 0 7 44, .own 1 1 4, .own 2 1 4, .own 3 1 3]), [.arr (.pkts []), .arr (.bools []), .arr (.bools []), .arr (.ints (List.replicate 8 0))]))
theorem impl_StateNew.w  (K : AV → List Blk → Prop) : evFn (envC [] [] []) [] [[none, none, none, some (.pkt, 44), some (.bool, 4), some (.bool, 4), some (.int, 3)]] [] Try.f47 (impl_StateNew.L.inp ()).1 (impl_StateNew.L.inp ()).2 K = impl_StateNew.f  (fun v => K v.1 v.2) := by kernel_rfl
theorem impl_StateNew.x  (hp : impl_StateNew.P ) : May (impl_StateNew.Q ) (impl_StateNew.enc ) (impl_StateNew.f ) := by
  delta impl_StateNew.f
  refine May.chk ?_ fun c1 => ⟨((⟨0, 1, 0, [], [], [], List.replicate 8 0⟩ : St)), ?_, fun X h => h⟩
  all_goals try dsimp only
  all_goals first | with_reducible assumption | omega | rfl | assumption | (simp only [List.length_append, List.length_cons, List.length_nil, List.length_set, List.length_replicate, Int.natCast_add, Int.natCast_one] at *; omega) | grind
theorem impl_StateNew.X : ∃ S : impl_StateNew.L.α → St, ∀ s, impl_StateNew.P  → impl_StateNew.Q  (S s) ∧ ∀ X, X (impl_StateNew.enc  (S s)) → impl_StateNew.f  X := mayS (zSt) fun s => impl_StateNew.x 
noncomputable def impl_StateNew.S  : St := Classical.choose impl_StateNew.X ()
theorem impl_StateNew.q  : impl_StateNew.Q  (impl_StateNew.S ) := (Classical.choose_spec impl_StateNew.X () trivial).1
noncomputable def impl_StateNew.c : Ctr := hctr 47 [] impl_StateNew.L none (fun s => impl_StateNew.enc  (impl_StateNew.S ))
theorem impl_StateNew.good : Good Try.prog impl_StateNew.c :=
  hgoodC (sh := [[none, none, none, some (.pkt, 44), some (.bool, 4), some (.bool, 4), some (.int, 3)]]) (tk := []) (sp := []) (ct := []) (LL := []) noG (fn := Try.f47) (by kernel_rfl) (by kernel_rfl) (by rw [show loopsOf (bodyOf Try.f47) = [] from by kernel_rfl]; exact noL rfl) (consC' (bs := []) (by kernel_rfl) noC) fun s hp => Eq.mpr (impl_StateNew.w  (fun r bs' => And (r = (impl_StateNew.c.out s).1) (bs' = (impl_StateNew.c.out s).2))) ((Classical.choose_spec impl_StateNew.X s trivial).2 _ ⟨rfl, rfl⟩)
end Hw
end Go.Proofs.Ytmhighcagpbmeaa
