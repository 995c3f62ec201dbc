/- Draws, 2: made by gen.py. -/
import Derived.Test.YtmhighcagpbmeaaE0
set_option linter.unusedVariables false
set_option linter.unusedSimpArgs false
set_option maxRecDepth 100000
set_option maxHeartbeats 400000
namespace Go.Proofs.Ytmhighcagpbmeaa
namespace Hw
open Go
attribute [local irreducible] evFn evBody wrap wxor
/-! ### spec.BankNew -/
def spec_BankNew.enc  (r : Bk) : AV × List Blk := (.v (.agg [.own 0 1 3, .own 1 1 3, .int r.locked]), [.arr (.ints r.own), .arr (.ints r.notes)])
abbrev spec_BankNew.P  : Prop := True
abbrev spec_BankNew.Q  (r : Bk) : Prop := (BIn r)
def spec_BankNew.L : FL := fNil
def spec_BankNew.f  (X : AV × List Blk → Prop) : Prop := X (.v (.agg [.own 0 1 3, .own 1 1 3, .int 0]), [.arr (.ints ([10, 10, 10])), .arr (.ints ([0, 0, 0]))])
theorem spec_BankNew.w  (K : AV → List Blk → Prop) : evFn (envC [] [] []) [] [[some (.int, 3), some (.int, 3), none]] [] Try.f114 (spec_BankNew.L.inp ()).1 (spec_BankNew.L.inp ()).2 K = spec_BankNew.f  (fun v => K v.1 v.2) := by kernel_rfl
theorem spec_BankNew.x  (hp : spec_BankNew.P ) : May (spec_BankNew.Q ) (spec_BankNew.enc ) (spec_BankNew.f ) := by
  delta spec_BankNew.f
  refine ⟨((⟨[10, 10, 10], [0, 0, 0], 0⟩ : Bk)), ?_, fun X h => h⟩
  all_goals try dsimp only
  all_goals first | with_reducible assumption | omega | rfl | assumption | (simp only [List.length_append, List.length_cons, List.length_nil, List.length_set, List.length_replicate, Int.natCast_add, Int.natCast_one] at *; omega) | grind [BIn]
theorem spec_BankNew.X : ∃ S : spec_BankNew.L.α → Bk, ∀ s, spec_BankNew.P  → spec_BankNew.Q  (S s) ∧ ∀ X, X (spec_BankNew.enc  (S s)) → spec_BankNew.f  X := mayS (zBk) fun s => spec_BankNew.x 
noncomputable def spec_BankNew.S  : Bk := Classical.choose spec_BankNew.X ()
theorem spec_BankNew.q  : spec_BankNew.Q  (spec_BankNew.S ) := (Classical.choose_spec spec_BankNew.X () trivial).1
noncomputable def spec_BankNew.c : Ctr := hctr 114 [] spec_BankNew.L none (fun s => spec_BankNew.enc  (spec_BankNew.S ))
theorem spec_BankNew.good : Good Try.prog spec_BankNew.c :=
  hgoodC (sh := [[some (.int, 3), some (.int, 3), none]]) (tk := []) (sp := []) (ct := []) (LL := []) noG (fn := Try.f114) (by kernel_rfl) (by kernel_rfl) (by rw [show loopsOf (bodyOf Try.f114) = [] from by kernel_rfl]; exact noL rfl) (consC' (bs := []) (by kernel_rfl) noC) fun s hp => Eq.mpr (spec_BankNew.w  (fun r bs' => And (r = (spec_BankNew.c.out s).1) (bs' = (spec_BankNew.c.out s).2))) ((Classical.choose_spec spec_BankNew.X s trivial).2 _ ⟨rfl, rfl⟩)
/-! ### spec.StateNew -/
def spec_StateNew.enc  (r : St) : AV × List Blk := (.v (.agg [.int r.way, .int r.ver, .int r.want, .own 0 7 44, .own 1 1 4, .own 2 1 4, .own 3 1 3]), [.arr (.pkts r.sent), .arr (.bools r.live), .arr (.bools r.back), .arr (.ints r.got)])
abbrev spec_StateNew.P  : Prop := True
abbrev spec_StateNew.Q  (r : St) : Prop := (SIn r)
def spec_StateNew.L : FL := fNil
def spec_StateNew.f  (X : AV × List Blk → Prop) : Prop := And ((8 : Int) = 8 ∧ (0 : Int) ≤ 8 ∧ (8 : Int) ≤ 4294967296) (X (.v (.agg [.int 0, .int 1, .int 0, .own 0 7 44, .own 1 1 4, .own 2 1 4, .own 3 1 3]), [.arr (.pkts []), .arr (.bools []), .arr (.bools []), .arr (.ints (List.replicate 8 0))]))
theorem spec_StateNew.w  (K : AV → List Blk → Prop) : evFn (envC [] [] []) [] [[none, none, none, some (.pkt, 44), some (.bool, 4), some (.bool, 4), some (.int, 3)]] [] Try.f115 (spec_StateNew.L.inp ()).1 (spec_StateNew.L.inp ()).2 K = spec_StateNew.f  (fun v => K v.1 v.2) := by kernel_rfl
theorem spec_StateNew.x  (hp : spec_StateNew.P ) : May (spec_StateNew.Q ) (spec_StateNew.enc ) (spec_StateNew.f ) := by
  delta spec_StateNew.f
  refine May.chk ?_ fun c1 => ⟨((⟨0, 1, 0, [], [], [], List.replicate 8 0⟩ : St)), ?_, fun X h => h⟩
  all_goals try dsimp only
  all_goals first | with_reducible assumption | omega | (refine ⟨by decide, by decide, by decide, by decide, fun k hk => ?_⟩; exact absurd hk (Nat.not_lt_zero k); done) | rfl | assumption | (simp only [List.length_append, List.length_cons, List.length_nil, List.length_set, List.length_replicate, Int.natCast_add, Int.natCast_one] at *; omega) | grind
theorem spec_StateNew.X : ∃ S : spec_StateNew.L.α → St, ∀ s, spec_StateNew.P  → spec_StateNew.Q  (S s) ∧ ∀ X, X (spec_StateNew.enc  (S s)) → spec_StateNew.f  X := mayS (zSt) fun s => spec_StateNew.x 
noncomputable def spec_StateNew.S  : St := Classical.choose spec_StateNew.X ()
theorem spec_StateNew.q  : spec_StateNew.Q  (spec_StateNew.S ) := (Classical.choose_spec spec_StateNew.X () trivial).1
noncomputable def spec_StateNew.c : Ctr := hctr 115 [] spec_StateNew.L none (fun s => spec_StateNew.enc  (spec_StateNew.S ))
theorem spec_StateNew.good : Good Try.prog spec_StateNew.c :=
  hgoodC (sh := [[none, none, none, some (.pkt, 44), some (.bool, 4), some (.bool, 4), some (.int, 3)]]) (tk := []) (sp := []) (ct := []) (LL := []) noG (fn := Try.f115) (by kernel_rfl) (by kernel_rfl) (by rw [show loopsOf (bodyOf Try.f115) = [] from by kernel_rfl]; exact noL rfl) (consC' (bs := []) (by kernel_rfl) noC) fun s hp => Eq.mpr (spec_StateNew.w  (fun r bs' => And (r = (spec_StateNew.c.out s).1) (bs' = (spec_StateNew.c.out s).2))) ((Classical.choose_spec spec_StateNew.X s trivial).2 _ ⟨rfl, rfl⟩)
/-! ### spec.ChainNew -/
def spec_ChainNew.enc (a0 : Int) (r : Ch × Bool) : AV × List Blk := (.tup [.agg [.int r.1.id, .own 0 1 3, .own 1 1 3, .int r.1.bank.locked, .int r.1.st.way, .int r.1.st.ver, .int r.1.st.want, .own 2 7 44, .own 3 1 4, .own 4 1 4, .own 5 1 3, .own 6 7 29, .own 7 1 3], .c (.bool r.2)], [.arr (.ints r.1.bank.own), .arr (.ints r.1.bank.notes), .arr (.pkts r.1.st.sent), .arr (.bools r.1.st.live), .arr (.bools r.1.st.back), .arr (.ints r.1.st.got), .arr (.sts r.1.past), .arr (.ints r.1.knows)])
abbrev spec_ChainNew.P (a0 : Int) : Prop := True
abbrev spec_ChainNew.Q (a0 : Int) (r : Ch × Bool) : Prop := (1 ≤ a0 ∧ a0 ≤ 2 → CIn r.1) ∧ (r.1.knows.length = 0)
def spec_ChainNew.L : FL := fCons (fSh sInt) (fNil)
def spec_ChainNew.f (a0 : Int) (X : AV × List Blk → Prop) : Prop := And (Imp ((!(spec_l6In.S a0 1 2)) = true) (X (.tup [.agg [.int 0, .own 0 1 3, .own 1 1 3, .int 0, .int 0, .int 0, .int 0, .own 2 7 44, .own 3 1 4, .own 4 1 4, .own 5 1 3, .own 6 7 29, .own 7 1 3], .c (.bool false)], [.arr (.ints []), .arr (.ints []), .arr (.pkts []), .arr (.bools []), .arr (.bools []), .arr (.ints []), .arr (.sts []), .arr (.ints [])]))) (Imp ((!(spec_l6In.S a0 1 2)) = false) (Lt (spec_BankNew.S) fun x1 => Lt (spec_StateNew.S) fun x2 => X (.tup [.agg [.int a0, .own 0 1 3, .own 1 1 3, .int x1.locked, .int x2.way, .int x2.ver, .int x2.want, .own 2 7 44, .own 3 1 4, .own 4 1 4, .own 5 1 3, .own 6 7 29, .own 7 1 3], .c (.bool true)], [.arr (.ints x1.own), .arr (.ints x1.notes), .arr (.pkts x2.sent), .arr (.bools x2.live), .arr (.bools x2.back), .arr (.ints x2.got), .arr (.sts []), .arr (.ints [])])))
theorem spec_ChainNew.w (a0 : Int) (K : AV → List Blk → Prop) : evFn (envC [spec_l6In.c, spec_BankNew.c, spec_StateNew.c] [] []) [] [[none, some (.int, 3), some (.int, 3), none, none, none, none, some (.pkt, 44), some (.bool, 4), some (.bool, 4), some (.int, 3), some (.st, 29), some (.int, 3)], []] [] Try.f111 (spec_ChainNew.L.inp (a0, ())).1 (spec_ChainNew.L.inp (a0, ())).2 K = spec_ChainNew.f a0 (fun v => K v.1 v.2) := by kernel_rfl
theorem spec_ChainNew.x (a0 : Int) (hp : spec_ChainNew.P a0) : May (spec_ChainNew.Q a0) (spec_ChainNew.enc a0) (spec_ChainNew.f a0) := by
  delta spec_ChainNew.f
  refine May.iff (B.not (in_iff)) (fun h1 => ?_) (fun h1 => ?_)
  refine ⟨((⟨0, (⟨[], [], 0⟩ : Bk), (⟨0, 0, 0, [], [], [], []⟩ : St), [], []⟩ : Ch), false), ⟨?_, ?_⟩, fun X h => h⟩; rotate_left 2
  refine May.lq (spec_BankNew.Q ) (spec_BankNew.q ) fun x1 q1 => May.lq (spec_StateNew.Q ) (spec_StateNew.q ) fun x2 q2 => ⟨((⟨a0, x1, x2, [], []⟩ : Ch), true), ⟨?_, ?_⟩, fun X h => h⟩
  all_goals try dsimp only
  all_goals first | with_reducible assumption | omega | rfl | assumption | (simp only [List.length_append, List.length_cons, List.length_nil, List.length_set, List.length_replicate, Int.natCast_add, Int.natCast_one] at *; omega) | grind [CIn]
theorem spec_ChainNew.X : ∃ S : spec_ChainNew.L.α → Ch × Bool, ∀ s, spec_ChainNew.P s.1 → spec_ChainNew.Q s.1 (S s) ∧ ∀ X, X (spec_ChainNew.enc s.1 (S s)) → spec_ChainNew.f s.1 X := mayS (zCh, false) fun s => spec_ChainNew.x s.1
noncomputable def spec_ChainNew.S (a0 : Int) : Ch × Bool := Classical.choose spec_ChainNew.X (a0, ())
theorem spec_ChainNew.q (a0 : Int) : spec_ChainNew.Q a0 (spec_ChainNew.S a0) := (Classical.choose_spec spec_ChainNew.X (a0, ()) trivial).1
noncomputable def spec_ChainNew.c : Ctr := hctr 111 [false] spec_ChainNew.L none (fun s => spec_ChainNew.enc s.1 (spec_ChainNew.S s.1))
theorem spec_ChainNew.good : Good Try.prog spec_ChainNew.c :=
  hgoodC (sh := [[none, some (.int, 3), some (.int, 3), none, none, none, none, some (.pkt, 44), some (.bool, 4), some (.bool, 4), some (.int, 3), some (.st, 29), some (.int, 3)], []]) (tk := []) (sp := []) (ct := []) (LL := []) (consG spec_l6In.good (consG spec_BankNew.good (consG spec_StateNew.good noG))) (fn := Try.f111) (by kernel_rfl) (by kernel_rfl) (by rw [show loopsOf (bodyOf Try.f111) = [] from by kernel_rfl]; exact noL rfl) (consC' (bs := []) (by kernel_rfl) noC) fun s hp => Eq.mpr (spec_ChainNew.w s.1 (fun r bs' => And (r = (spec_ChainNew.c.out s).1) (bs' = (spec_ChainNew.c.out s).2))) ((Classical.choose_spec spec_ChainNew.X s trivial).2 _ ⟨rfl, rfl⟩)
/-! ### spec.WorldNew -/
def spec_WorldNew.enc  (r : Ch × Ch) : AV × List Blk := (.v (.agg [.own 0 13 32]), [.raw 2 [.int r.1.id, .own 1 1 3, .own 2 1 3, .int r.1.bank.locked, .int r.1.st.way, .int r.1.st.ver, .int r.1.st.want, .own 3 7 44, .own 4 1 4, .own 5 1 4, .own 6 1 3, .own 7 7 29, .own 8 1 3, .int r.2.id, .own 9 1 3, .own 10 1 3, .int r.2.bank.locked, .int r.2.st.way, .int r.2.st.ver, .int r.2.st.want, .own 11 7 44, .own 12 1 4, .own 13 1 4, .own 14 1 3, .own 15 7 29, .own 16 1 3], .arr (.ints r.1.bank.own), .arr (.ints r.1.bank.notes), .arr (.pkts r.1.st.sent), .arr (.bools r.1.st.live), .arr (.bools r.1.st.back), .arr (.ints r.1.st.got), .arr (.sts r.1.past), .arr (.ints r.1.knows), .arr (.ints r.2.bank.own), .arr (.ints r.2.bank.notes), .arr (.pkts r.2.st.sent), .arr (.bools r.2.st.live), .arr (.bools r.2.st.back), .arr (.ints r.2.st.got), .arr (.sts r.2.past), .arr (.ints r.2.knows)])
abbrev spec_WorldNew.P  : Prop := True
abbrev spec_WorldNew.Q  (r : Ch × Ch) : Prop := (CIn r.1) ∧ (CIn r.2) ∧ (r.1.knows.length = 0) ∧ (r.2.knows.length = 0)
def spec_WorldNew.L : FL := fNil
def spec_WorldNew.f  (X : AV × List Blk → Prop) : Prop := Lt ((spec_ChainNew.S 1)) fun x1 => Lt ((spec_ChainNew.S 2)) fun x2 => X (.v (.agg [.own 0 13 32]), [.raw 2 [.int x1.1.id, .own 1 1 3, .own 2 1 3, .int x1.1.bank.locked, .int x1.1.st.way, .int x1.1.st.ver, .int x1.1.st.want, .own 3 7 44, .own 4 1 4, .own 5 1 4, .own 6 1 3, .own 7 7 29, .own 8 1 3, .int x2.1.id, .own 9 1 3, .own 10 1 3, .int x2.1.bank.locked, .int x2.1.st.way, .int x2.1.st.ver, .int x2.1.st.want, .own 11 7 44, .own 12 1 4, .own 13 1 4, .own 14 1 3, .own 15 7 29, .own 16 1 3], .arr (.ints x1.1.bank.own), .arr (.ints x1.1.bank.notes), .arr (.pkts x1.1.st.sent), .arr (.bools x1.1.st.live), .arr (.bools x1.1.st.back), .arr (.ints x1.1.st.got), .arr (.sts x1.1.past), .arr (.ints x1.1.knows), .arr (.ints x2.1.bank.own), .arr (.ints x2.1.bank.notes), .arr (.pkts x2.1.st.sent), .arr (.bools x2.1.st.live), .arr (.bools x2.1.st.back), .arr (.ints x2.1.st.got), .arr (.sts x2.1.past), .arr (.ints x2.1.knows)])
theorem spec_WorldNew.w  (K : AV → List Blk → Prop) : evFn (envC [spec_ChainNew.c] [] []) [] [[some (.ch, 32)]] [] Try.f106 (spec_WorldNew.L.inp ()).1 (spec_WorldNew.L.inp ()).2 K = spec_WorldNew.f  (fun v => K v.1 v.2) := by kernel_rfl
theorem spec_WorldNew.x  (hp : spec_WorldNew.P ) : May (spec_WorldNew.Q ) (spec_WorldNew.enc ) (spec_WorldNew.f ) := by
  delta spec_WorldNew.f
  refine May.lq (spec_ChainNew.Q 1) (spec_ChainNew.q 1) fun x1 q1 => have q1_0 := q1.1; have q1_1 := q1.2; May.lq (spec_ChainNew.Q 2) (spec_ChainNew.q 2) fun x2 q2 => have q2_0 := q2.1; have q2_1 := q2.2; ⟨(x1.1, x2.1), ⟨?_, ?_, ?_, ?_⟩, fun X h => h⟩
  all_goals try dsimp only
  all_goals first | with_reducible assumption | omega | rfl | assumption | (simp only [List.length_append, List.length_cons, List.length_nil, List.length_set, List.length_replicate, Int.natCast_add, Int.natCast_one] at *; omega) | grind
theorem spec_WorldNew.X : ∃ S : spec_WorldNew.L.α → Ch × Ch, ∀ s, spec_WorldNew.P  → spec_WorldNew.Q  (S s) ∧ ∀ X, X (spec_WorldNew.enc  (S s)) → spec_WorldNew.f  X := mayS (zCh, zCh) fun s => spec_WorldNew.x 
noncomputable def spec_WorldNew.S  : Ch × Ch := Classical.choose spec_WorldNew.X ()
theorem spec_WorldNew.q  : spec_WorldNew.Q  (spec_WorldNew.S ) := (Classical.choose_spec spec_WorldNew.X () trivial).1
noncomputable def spec_WorldNew.c : Ctr := hctr 106 [] spec_WorldNew.L none (fun s => spec_WorldNew.enc  (spec_WorldNew.S ))
theorem spec_WorldNew.good : Good Try.prog spec_WorldNew.c :=
  hgoodC (sh := [[some (.ch, 32)]]) (tk := []) (sp := []) (ct := []) (LL := []) (consG spec_ChainNew.good noG) (fn := Try.f106) (by kernel_rfl) (by kernel_rfl) (by rw [show loopsOf (bodyOf Try.f106) = [] from by kernel_rfl]; exact noL rfl) (consC' (bs := []) (by kernel_rfl) noC) fun s hp => Eq.mpr (spec_WorldNew.w  (fun r bs' => And (r = (spec_WorldNew.c.out s).1) (bs' = (spec_WorldNew.c.out s).2))) ((Classical.choose_spec spec_WorldNew.X s trivial).2 _ ⟨rfl, rfl⟩)
/-! ### spec.l3Copy -/
def spec_l3Copy.enc (a0 : St) (r : St) : AV × List Blk := (.v (.agg [.int r.way, .int r.ver, .int r.want, .own 0 7 44, .own 1 1 4, .own 2 1 4, .own 3 1 3]), [.arr (.pkts r.sent), .arr (.bools r.live), .arr (.bools r.back), .arr (.ints r.got)])
abbrev spec_l3Copy.P (a0 : St) : Prop := (a0.sm)
abbrev spec_l3Copy.Q (a0 : St) (r : St) : Prop := (r = a0)
def spec_l3Copy.L : FL := fCons (fSh sSt) (fNil)
def spec_l3Copy.f (a0 : St) (X : AV × List Blk → Prop) : Prop := And (([] ++ a0.sent).length ≤ 4294967296) (And (([] ++ a0.live).length ≤ 4294967296) (And (([] ++ a0.back).length ≤ 4294967296) (And (([] ++ a0.got).length ≤ 4294967296) (X (.v (.agg [.int a0.way, .int a0.ver, .int a0.want, .own 0 7 44, .own 1 1 4, .own 2 1 4, .own 3 1 3]), [.arr (.pkts ([] ++ a0.sent)), .arr (.bools ([] ++ a0.live)), .arr (.bools ([] ++ a0.back)), .arr (.ints ([] ++ a0.got))])))))
theorem spec_l3Copy.w (a0 : St) (K : AV → List Blk → Prop) : evFn (envC [] [] []) [] [[none, none, none, some (.pkt, 44), some (.bool, 4), some (.bool, 4), some (.int, 3)]] [] Try.f126 (spec_l3Copy.L.inp (a0, ())).1 (spec_l3Copy.L.inp (a0, ())).2 K = spec_l3Copy.f a0 (fun v => K v.1 v.2) := by kernel_rfl
theorem spec_l3Copy.x (a0 : St) (hp : spec_l3Copy.P a0) : May (spec_l3Copy.Q a0) (spec_l3Copy.enc a0) (spec_l3Copy.f a0) := by
  have p0 := hp
  delta spec_l3Copy.f
  refine May.chk ?_ fun c1 => May.chk ?_ fun c2 => May.chk ?_ fun c3 => May.chk ?_ fun c4 => ⟨((⟨a0.way, a0.ver, a0.want, ([] ++ a0.sent), ([] ++ a0.live), ([] ++ a0.back), ([] ++ a0.got)⟩ : St)), ?_, fun X h => h⟩
  all_goals try dsimp only
  all_goals first | with_reducible assumption | omega | rfl | assumption | (simp only [List.length_append, List.length_cons, List.length_nil, List.length_set, List.length_replicate, Int.natCast_add, Int.natCast_one] at *; omega) | grind [St.sm]
theorem spec_l3Copy.X : ∃ S : spec_l3Copy.L.α → St, ∀ s, spec_l3Copy.P s.1 → spec_l3Copy.Q s.1 (S s) ∧ ∀ X, X (spec_l3Copy.enc s.1 (S s)) → spec_l3Copy.f s.1 X := mayS (zSt) fun s => spec_l3Copy.x s.1
noncomputable def spec_l3Copy.S (a0 : St) : St := Classical.choose spec_l3Copy.X (a0, ())
theorem spec_l3Copy.q (a0 : St) (hp : spec_l3Copy.P a0) : spec_l3Copy.Q a0 (spec_l3Copy.S a0) := (Classical.choose_spec spec_l3Copy.X (a0, ()) hp).1
noncomputable def spec_l3Copy.c : Ctr := hctr 126 [true] spec_l3Copy.L (some fun s => spec_l3Copy.P s.1) (fun s => spec_l3Copy.enc s.1 (spec_l3Copy.S s.1))
theorem spec_l3Copy.good : Good Try.prog spec_l3Copy.c :=
  hgoodC (sh := [[none, none, none, some (.pkt, 44), some (.bool, 4), some (.bool, 4), some (.int, 3)]]) (tk := []) (sp := []) (ct := []) (LL := []) noG (fn := Try.f126) (by kernel_rfl) (by kernel_rfl) (by rw [show loopsOf (bodyOf Try.f126) = [] from by kernel_rfl]; exact noL rfl) (consC' (bs := []) (by kernel_rfl) noC) fun s hp => Eq.mpr (spec_l3Copy.w s.1 (fun r bs' => And (r = (spec_l3Copy.c.out s).1) (bs' = (spec_l3Copy.c.out s).2))) ((Classical.choose_spec spec_l3Copy.X s (hp _ rfl)).2 _ ⟨rfl, rfl⟩)
/-! ### spec.l1Copy -/
def spec_l1Copy.enc (a0 : Bk) (r : Bk) : AV × List Blk := (.v (.agg [.own 0 1 3, .own 1 1 3, .int r.locked]), [.arr (.ints r.own), .arr (.ints r.notes)])
abbrev spec_l1Copy.P (a0 : Bk) : Prop := (a0.sm)
abbrev spec_l1Copy.Q (a0 : Bk) (r : Bk) : Prop := (r = a0)
def spec_l1Copy.L : FL := fCons (fSh sBk) (fNil)
def spec_l1Copy.f (a0 : Bk) (X : AV × List Blk → Prop) : Prop := And (([] ++ a0.own).length ≤ 4294967296) (And (([] ++ a0.notes).length ≤ 4294967296) (X (.v (.agg [.own 0 1 3, .own 1 1 3, .int a0.locked]), [.arr (.ints ([] ++ a0.own)), .arr (.ints ([] ++ a0.notes))])))
theorem spec_l1Copy.w (a0 : Bk) (K : AV → List Blk → Prop) : evFn (envC [] [] []) [] [[some (.int, 3), some (.int, 3), none]] [] Try.f130 (spec_l1Copy.L.inp (a0, ())).1 (spec_l1Copy.L.inp (a0, ())).2 K = spec_l1Copy.f a0 (fun v => K v.1 v.2) := by kernel_rfl
theorem spec_l1Copy.x (a0 : Bk) (hp : spec_l1Copy.P a0) : May (spec_l1Copy.Q a0) (spec_l1Copy.enc a0) (spec_l1Copy.f a0) := by
  have p0 := hp
  delta spec_l1Copy.f
  refine May.chk ?_ fun c1 => May.chk ?_ fun c2 => ⟨((⟨([] ++ a0.own), ([] ++ a0.notes), a0.locked⟩ : Bk)), ?_, fun X h => h⟩
  all_goals try dsimp only
  all_goals first | with_reducible assumption | omega | rfl | assumption | (simp only [List.length_append, List.length_cons, List.length_nil, List.length_set, List.length_replicate, Int.natCast_add, Int.natCast_one] at *; omega) | grind [Bk.sm]
theorem spec_l1Copy.X : ∃ S : spec_l1Copy.L.α → Bk, ∀ s, spec_l1Copy.P s.1 → spec_l1Copy.Q s.1 (S s) ∧ ∀ X, X (spec_l1Copy.enc s.1 (S s)) → spec_l1Copy.f s.1 X := mayS (zBk) fun s => spec_l1Copy.x s.1
noncomputable def spec_l1Copy.S (a0 : Bk) : Bk := Classical.choose spec_l1Copy.X (a0, ())
theorem spec_l1Copy.q (a0 : Bk) (hp : spec_l1Copy.P a0) : spec_l1Copy.Q a0 (spec_l1Copy.S a0) := (Classical.choose_spec spec_l1Copy.X (a0, ()) hp).1
noncomputable def spec_l1Copy.c : Ctr := hctr 130 [true] spec_l1Copy.L (some fun s => spec_l1Copy.P s.1) (fun s => spec_l1Copy.enc s.1 (spec_l1Copy.S s.1))
theorem spec_l1Copy.good : Good Try.prog spec_l1Copy.c :=
  hgoodC (sh := [[some (.int, 3), some (.int, 3), none]]) (tk := []) (sp := []) (ct := []) (LL := []) noG (fn := Try.f130) (by kernel_rfl) (by kernel_rfl) (by rw [show loopsOf (bodyOf Try.f130) = [] from by kernel_rfl]; exact noL rfl) (consC' (bs := []) (by kernel_rfl) noC) fun s hp => Eq.mpr (spec_l1Copy.w s.1 (fun r bs' => And (r = (spec_l1Copy.c.out s).1) (bs' = (spec_l1Copy.c.out s).2))) ((Classical.choose_spec spec_l1Copy.X s (hp _ rfl)).2 _ ⟨rfl, rfl⟩)
/-! ### spec.l12Copy -/
abbrev spec_l12Copy_l3.P (x3_0 : Ch) (x3_1 : Int) (x3_2 : Int) (x3_3 : Int) (x3_4 : Int) (x3_5 : Int) (x3_6 : List St) (x3_7 : Int) : Prop := (0 ≤ x3_7) ∧ ((x3_0.past.length : Int) ≤ 9223372036854775807) ∧ (stsSm x3_0.past) ∧ (x3_6 = x3_0.past.take x3_7.toNat)
abbrev spec_l12Copy_l3.Q (x3_0 : Ch) (x3_1 : Int) (x3_2 : Int) (x3_3 : Int) (x3_4 : Int) (x3_5 : Int) (x3_6 : List St) (x3_7 : Int) (r : Nat × (List St) × Unit) : Prop := (r.2.1 = x3_0.past)
def spec_l12Copy_l3.M (x3_0 : Ch) (x3_1 : Int) (x3_2 : Int) (x3_3 : Int) (x3_4 : Int) (x3_5 : Int) (x3_6 : List St) (x3_7 : Int) : Nat := ((x3_0.past.length : Int) - x3_7).toNat
def spec_l12Copy_l3.L : FL := fCons (fC (cPtr 1 (cChE false) rfl)) (fCons (fC (cPtr 1 (cCons cInt (cCons cNilS (cCons cNilS (cCons cInt (cCons cInt (cCons cInt (cCons cInt (cCons cNilS (cCons cNilS (cCons cNilS (cCons cNilS (cCons cNilS (cCons cNilS (cNil)))))))))))))) rfl)) (fCons (fC (cOwn kSts 29)) (fCons (fC cInt) (fNil))))
def spec_l12Copy_l3.o0 (x3_0 : Ch) (x3_1 : Int) (x3_2 : Int) (x3_3 : Int) (x3_4 : Int) (x3_5 : Int) (x3_6 : List St) (x3_7 : Int) (r : Nat × (List St) × Unit) : Ex × List FV × List Blk := (.exit 0, [.c (.ptr 0 0), .c (.ptr 1 0), .c (.own 2 7 29)], [.raw 1 [.int x3_0.id, .arr false (.ints x3_0.bank.own), .arr false (.ints x3_0.bank.notes), .int x3_0.bank.locked, .int x3_0.st.way, .int x3_0.st.ver, .int x3_0.st.want, .arr false (.pkts x3_0.st.sent), .arr false (.bools x3_0.st.live), .arr false (.bools x3_0.st.back), .arr false (.ints x3_0.st.got), .arr false (.sts x3_0.past), .arr false (.ints x3_0.knows)], .raw 1 [.int x3_1, .nilS, .nilS, .int x3_2, .int x3_3, .int x3_4, .int x3_5, .nilS, .nilS, .nilS, .nilS, .nilS, .nilS], .arr (.sts r.2.1)])
def spec_l12Copy_l3.o (x3_0 : Ch) (x3_1 : Int) (x3_2 : Int) (x3_3 : Int) (x3_4 : Int) (x3_5 : Int) (x3_6 : List St) (x3_7 : Int) (r : Nat × (List St) × Unit) : Ex × List FV × List Blk := pickAlt [] (spec_l12Copy_l3.o0 x3_0 x3_1 x3_2 x3_3 x3_4 x3_5 x3_6 x3_7 r)
def spec_l12Copy_l3.f (x3_0 : Ch) (x3_1 : Int) (x3_2 : Int) (x3_3 : Int) (x3_4 : Int) (x3_5 : Int) (x3_6 : List St) (x3_7 : Int) (X : (spec_l12Copy_l3.L.α ⊕ (Ex × List FV × List Blk) → Prop)) : Prop := And (Imp ((decide (x3_7 < (x3_0.past.length : Int))) = true) (And ((0 : Int) ≤ x3_7 ∧ x3_7 < (x3_0.past.length : Int)) (And (spec_l3Copy.P (x3_0.past.getD (x3_7).toNat zSt)) (Lt ((spec_l3Copy.S (x3_0.past.getD (x3_7).toNat zSt))) fun x1 => And ((x3_6 ++ ([x1])).length ≤ 4294967296) (Lt (wrap (x3_7 + 1)) fun x2 => X (.inl (x3_0, ((x3_1, ((), ((), (x3_2, (x3_3, (x3_4, (x3_5, ((), ((), ((), ((), ((), ((), ()))))))))))))), ((x3_6 ++ ([x1])), (x2, ())))))))))) (Imp ((decide (x3_7 < (x3_0.past.length : Int))) = false) (X (.inr (.exit 0, [.c (.ptr 0 0), .c (.ptr 1 0), .c (.own 2 7 29)], [.raw 1 [.int x3_0.id, .arr false (.ints x3_0.bank.own), .arr false (.ints x3_0.bank.notes), .int x3_0.bank.locked, .int x3_0.st.way, .int x3_0.st.ver, .int x3_0.st.want, .arr false (.pkts x3_0.st.sent), .arr false (.bools x3_0.st.live), .arr false (.bools x3_0.st.back), .arr false (.ints x3_0.st.got), .arr false (.sts x3_0.past), .arr false (.ints x3_0.knows)], .raw 1 [.int x3_1, .nilS, .nilS, .int x3_2, .int x3_3, .int x3_4, .int x3_5, .nilS, .nilS, .nilS, .nilS, .nilS, .nilS], .arr (.sts x3_6)]))))
def spec_l12Copy_l3.d (S : spec_l12Copy_l3.L.α → Nat × (List St) × Unit) : LDat := ldat 3 [1, 2, 3, 4] [] spec_l12Copy_l3.L (fun s => spec_l12Copy_l3.P s.1 s.2.1.1 s.2.1.2.2.2.1 s.2.1.2.2.2.2.1 s.2.1.2.2.2.2.2.1 s.2.1.2.2.2.2.2.2.1 s.2.2.1 s.2.2.2.1) (fun s => []) (fun s => spec_l12Copy_l3.o0 s.1 s.2.1.1 s.2.1.2.2.2.1 s.2.1.2.2.2.2.1 s.2.1.2.2.2.2.2.1 s.2.1.2.2.2.2.2.2.1 s.2.2.1 s.2.2.2.1 (S s)) (fun s => spec_l12Copy_l3.M s.1 s.2.1.1 s.2.1.2.2.2.1 s.2.1.2.2.2.2.1 s.2.1.2.2.2.2.2.1 s.2.1.2.2.2.2.2.2.1 s.2.2.1 s.2.2.2.1) 0 (fun _ => [1, 2, 3]) (fun _ => [])
theorem spec_l12Copy_l3.w (S : spec_l12Copy_l3.L.α → Nat × (List St) × Unit) (x3_0 : Ch) (x3_1 : Int) (x3_2 : Int) (x3_3 : Int) (x3_4 : Int) (x3_5 : Int) (x3_6 : List St) (x3_7 : Int) : evBody (envC [spec_l3Copy.c, spec_l1Copy.c] [] []) [] (bodyAt Try.f123 0) (spec_l12Copy_l3.d S) (x3_0, ((x3_1, ((), ((), (x3_2, (x3_3, (x3_4, (x3_5, ((), ((), ((), ((), ((), ((), ()))))))))))))), (x3_6, (x3_7, ())))) = spec_l12Copy_l3.f x3_0 x3_1 x3_2 x3_3 x3_4 x3_5 x3_6 x3_7 (lpx (spec_l12Copy_l3.d S).pre (spec_l12Copy_l3.d S).μ (spec_l12Copy_l3.d S).out (x3_0, ((x3_1, ((), ((), (x3_2, (x3_3, (x3_4, (x3_5, ((), ((), ((), ((), ((), ((), ()))))))))))))), (x3_6, (x3_7, ()))))) := by kernel_rfl
theorem spec_l12Copy_l3.x (x3_0 : Ch) (x3_1 : Int) (x3_2 : Int) (x3_3 : Int) (x3_4 : Int) (x3_5 : Int) (x3_6 : List St) (x3_7 : Int) (hp : spec_l12Copy_l3.P x3_0 x3_1 x3_2 x3_3 x3_4 x3_5 x3_6 x3_7) : May (R := spec_l12Copy_l3.L.α ⊕ (Nat × (List St) × Unit)) (lpq (fun s => spec_l12Copy_l3.P s.1 s.2.1.1 s.2.1.2.2.2.1 s.2.1.2.2.2.2.1 s.2.1.2.2.2.2.2.1 s.2.1.2.2.2.2.2.2.1 s.2.2.1 s.2.2.2.1) (fun s => spec_l12Copy_l3.M s.1 s.2.1.1 s.2.1.2.2.2.1 s.2.1.2.2.2.2.1 s.2.1.2.2.2.2.2.1 s.2.1.2.2.2.2.2.2.1 s.2.2.1 s.2.2.2.1) (fun s => spec_l12Copy_l3.Q s.1 s.2.1.1 s.2.1.2.2.2.1 s.2.1.2.2.2.2.1 s.2.1.2.2.2.2.2.1 s.2.1.2.2.2.2.2.2.1 s.2.2.1 s.2.2.2.1) (fun s => spec_l12Copy_l3.o s.1 s.2.1.1 s.2.1.2.2.2.1 s.2.1.2.2.2.2.1 s.2.1.2.2.2.2.2.1 s.2.1.2.2.2.2.2.2.1 s.2.2.1 s.2.2.2.1) (x3_0, ((x3_1, ((), ((), (x3_2, (x3_3, (x3_4, (x3_5, ((), ((), ((), ((), ((), ((), ()))))))))))))), (x3_6, (x3_7, ()))))) (lpo (fun s => spec_l12Copy_l3.o s.1 s.2.1.1 s.2.1.2.2.2.1 s.2.1.2.2.2.2.1 s.2.1.2.2.2.2.2.1 s.2.1.2.2.2.2.2.2.1 s.2.2.1 s.2.2.2.1) (x3_0, ((x3_1, ((), ((), (x3_2, (x3_3, (x3_4, (x3_5, ((), ((), ((), ((), ((), ((), ()))))))))))))), (x3_6, (x3_7, ()))))) (spec_l12Copy_l3.f x3_0 x3_1 x3_2 x3_3 x3_4 x3_5 x3_6 x3_7) := by
  obtain ⟨p0, p1, p2, p3⟩ := hp
  delta spec_l12Copy_l3.f
  refine May.iff (B.dec) (fun h1 => ?_) (fun h1 => ?_)
  refine May.chk ?_ fun c1 => May.chk ?_ fun c2 => May.lq (spec_l3Copy.Q (x3_0.past.getD (x3_7).toNat zSt)) (spec_l3Copy.q (x3_0.past.getD (x3_7).toNat zSt) ?_) fun x1 q1 => May.chk ?_ fun c3 => May.lw ⟨?_, ?_⟩ fun x2 e2 => ⟨.inl (x3_0, ((x3_1, ((), ((), (x3_2, (x3_3, (x3_4, (x3_5, ((), ((), ((), ((), ((), ((), ()))))))))))))), ((x3_6 ++ ([x1])), (x2, ())))), ⟨⟨?_, ?_, ?_, ?_⟩, ?_, ?_, fun r => rfl⟩, fun X h => h⟩; rotate_left 12
  refine ⟨.inr (0, (x3_6, ())), (show spec_l12Copy_l3.Q x3_0 x3_1 x3_2 x3_3 x3_4 x3_5 x3_6 x3_7 (0, (x3_6, ())) from ?_), fun X h => h⟩
  all_goals try dsimp only
  all_goals first | with_reducible assumption | omega | exact fun _ q => q | (unfold spec_l12Copy_l3.M; omega) | (rw [q3, q4, q5]; rfl; done) | rfl | assumption | (simp only [List.length_append, List.length_cons, List.length_nil, List.length_set, List.length_replicate, Int.natCast_add, Int.natCast_one] at *; omega) | grind [Ch.sm, stsSm, take_snoc, take_all]
theorem spec_l12Copy_l3.X : ∃ S : spec_l12Copy_l3.L.α → Nat × (List St) × Unit, ∀ s, spec_l12Copy_l3.P s.1 s.2.1.1 s.2.1.2.2.2.1 s.2.1.2.2.2.2.1 s.2.1.2.2.2.2.2.1 s.2.1.2.2.2.2.2.2.1 s.2.2.1 s.2.2.2.1 → spec_l12Copy_l3.Q s.1 s.2.1.1 s.2.1.2.2.2.1 s.2.1.2.2.2.2.1 s.2.1.2.2.2.2.2.1 s.2.1.2.2.2.2.2.2.1 s.2.2.1 s.2.2.2.1 (S s) ∧ spec_l12Copy_l3.f s.1 s.2.1.1 s.2.1.2.2.2.1 s.2.1.2.2.2.2.1 s.2.1.2.2.2.2.2.1 s.2.1.2.2.2.2.2.2.1 s.2.2.1 s.2.2.2.1 (lpx (fun s => spec_l12Copy_l3.P s.1 s.2.1.1 s.2.1.2.2.2.1 s.2.1.2.2.2.2.1 s.2.1.2.2.2.2.2.1 s.2.1.2.2.2.2.2.2.1 s.2.2.1 s.2.2.2.1) (fun s => spec_l12Copy_l3.M s.1 s.2.1.1 s.2.1.2.2.2.1 s.2.1.2.2.2.2.1 s.2.1.2.2.2.2.2.1 s.2.1.2.2.2.2.2.2.1 s.2.2.1 s.2.2.2.1) (fun s => spec_l12Copy_l3.o s.1 s.2.1.1 s.2.1.2.2.2.1 s.2.1.2.2.2.2.1 s.2.1.2.2.2.2.2.1 s.2.1.2.2.2.2.2.2.1 s.2.2.1 s.2.2.2.1 (S s)) s) := loopS (0, ([], ())) fun s => spec_l12Copy_l3.x s.1 s.2.1.1 s.2.1.2.2.2.1 s.2.1.2.2.2.2.1 s.2.1.2.2.2.2.2.1 s.2.1.2.2.2.2.2.2.1 s.2.2.1 s.2.2.2.1
noncomputable def spec_l12Copy_l3.R (x3_0 : Ch) (x3_1 : Int) (x3_2 : Int) (x3_3 : Int) (x3_4 : Int) (x3_5 : Int) (x3_6 : List St) (x3_7 : Int) : Nat × (List St) × Unit := Classical.choose spec_l12Copy_l3.X (x3_0, ((x3_1, ((), ((), (x3_2, (x3_3, (x3_4, (x3_5, ((), ((), ((), ((), ((), ((), ()))))))))))))), (x3_6, (x3_7, ()))))
theorem spec_l12Copy_l3.q (x3_0 : Ch) (x3_1 : Int) (x3_2 : Int) (x3_3 : Int) (x3_4 : Int) (x3_5 : Int) (x3_6 : List St) (x3_7 : Int) (hp : spec_l12Copy_l3.P x3_0 x3_1 x3_2 x3_3 x3_4 x3_5 x3_6 x3_7) : spec_l12Copy_l3.Q x3_0 x3_1 x3_2 x3_3 x3_4 x3_5 x3_6 x3_7 (spec_l12Copy_l3.R x3_0 x3_1 x3_2 x3_3 x3_4 x3_5 x3_6 x3_7) := (Classical.choose_spec spec_l12Copy_l3.X (x3_0, ((x3_1, ((), ((), (x3_2, (x3_3, (x3_4, (x3_5, ((), ((), ((), ((), ((), ((), ()))))))))))))), (x3_6, (x3_7, ())))) hp).1
noncomputable def spec_l12Copy_l3.k : LCtr := (spec_l12Copy_l3.d (fun s => spec_l12Copy_l3.R s.1 s.2.1.1 s.2.1.2.2.2.1 s.2.1.2.2.2.2.1 s.2.1.2.2.2.2.2.1 s.2.1.2.2.2.2.2.2.1 s.2.2.1 s.2.2.2.1)).ctr
theorem spec_l12Copy_l3.g (hG : ∀ c ∈ [spec_l3Copy.c, spec_l1Copy.c], Good Try.prog c) : LGood Try.prog Try.f123.ntmps spec_l12Copy_l3.k (bodyAt Try.f123 0) := lgoodC (sp := []) (ct := []) (LL := []) hG (by kernel_rfl) (by rw [show loopsOf (bodyAt Try.f123 0) = [] from by kernel_rfl]; exact noL rfl) (consC' (bs := []) (by kernel_rfl) noC) fun s hp => Eq.mpr (spec_l12Copy_l3.w (fun s => spec_l12Copy_l3.R s.1 s.2.1.1 s.2.1.2.2.2.1 s.2.1.2.2.2.2.1 s.2.1.2.2.2.2.2.1 s.2.1.2.2.2.2.2.2.1 s.2.2.1 s.2.2.2.1) s.1 s.2.1.1 s.2.1.2.2.2.1 s.2.1.2.2.2.2.1 s.2.1.2.2.2.2.2.1 s.2.1.2.2.2.2.2.2.1 s.2.2.1 s.2.2.2.1) (Classical.choose_spec spec_l12Copy_l3.X s hp).2
def spec_l12Copy.enc (a0 : Ch) (r : Ch) : AV × List Blk := (.v (.agg [.int r.id, .own 0 1 3, .own 1 1 3, .int r.bank.locked, .int r.st.way, .int r.st.ver, .int r.st.want, .own 2 7 44, .own 3 1 4, .own 4 1 4, .own 5 1 3, .own 6 7 29, .own 7 1 3]), [.arr (.ints r.bank.own), .arr (.ints r.bank.notes), .arr (.pkts r.st.sent), .arr (.bools r.st.live), .arr (.bools r.st.back), .arr (.ints r.st.got), .arr (.sts r.past), .arr (.ints r.knows)])
abbrev spec_l12Copy.P (a0 : Ch) : Prop := (a0.sm)
abbrev spec_l12Copy.Q (a0 : Ch) (r : Ch) : Prop := (r = a0)
def spec_l12Copy.L : FL := fCons (fSh sCh) (fNil)
def spec_l12Copy.f (a0 : Ch) (X : AV × List Blk → Prop) : Prop := And (spec_l12Copy_l3.P a0 0 0 0 0 0 [] 0) (Lt (spec_l12Copy_l3.R a0 0 0 0 0 0 [] 0) fun x3 => And (spec_l1Copy.P a0.bank) (Lt ((spec_l1Copy.S a0.bank)) fun x4 => And (spec_l3Copy.P a0.st) (Lt ((spec_l3Copy.S a0.st)) fun x5 => And (([] ++ a0.knows).length ≤ 4294967296) (X (.v (.agg [.int a0.id, .own 0 1 3, .own 1 1 3, .int x4.locked, .int x5.way, .int x5.ver, .int x5.want, .own 2 7 44, .own 3 1 4, .own 4 1 4, .own 5 1 3, .own 6 7 29, .own 7 1 3]), [.arr (.ints x4.own), .arr (.ints x4.notes), .arr (.pkts x5.sent), .arr (.bools x5.live), .arr (.bools x5.back), .arr (.ints x5.got), .arr (.sts x3.2.1), .arr (.ints ([] ++ a0.knows))])))))
theorem spec_l12Copy.w (a0 : Ch) (K : AV → List Blk → Prop) : evFn (envC [spec_l3Copy.c, spec_l1Copy.c] [] []) [spec_l12Copy_l3.k] [[none, some (.int, 3), some (.int, 3), none, none, none, none, some (.pkt, 44), some (.bool, 4), some (.bool, 4), some (.int, 3), some (.st, 29), some (.int, 3)]] [] Try.f123 (spec_l12Copy.L.inp (a0, ())).1 (spec_l12Copy.L.inp (a0, ())).2 K = spec_l12Copy.f a0 (fun v => K v.1 v.2) := by kernel_rfl
theorem spec_l12Copy.x (a0 : Ch) (hp : spec_l12Copy.P a0) : May (spec_l12Copy.Q a0) (spec_l12Copy.enc a0) (spec_l12Copy.f a0) := by
  have p0 := hp
  delta spec_l12Copy.f
  refine May.chk ⟨?_, ?_, ?_, ?_⟩ fun c1 => May.lq (spec_l12Copy_l3.Q a0 0 0 0 0 0 [] 0) (spec_l12Copy_l3.q a0 0 0 0 0 0 [] 0 c1) fun x3 q3 => May.chk ?_ fun c2 => May.lq (spec_l1Copy.Q a0.bank) (spec_l1Copy.q a0.bank ?_) fun x4 q4 => May.chk ?_ fun c3 => May.lq (spec_l3Copy.Q a0.st) (spec_l3Copy.q a0.st ?_) fun x5 q5 => May.chk ?_ fun c4 => ⟨((⟨a0.id, x4, x5, x3.2.1, ([] ++ a0.knows)⟩ : Ch)), ?_, fun X h => h⟩
  all_goals try dsimp only
  all_goals first | with_reducible assumption | omega | (rw [q3, q4, q5]; rfl; done) | rfl | assumption | (simp only [List.length_append, List.length_cons, List.length_nil, List.length_set, List.length_replicate, Int.natCast_add, Int.natCast_one] at *; omega) | grind [Ch.sm, stsSm, take_snoc, take_all]
theorem spec_l12Copy.X : ∃ S : spec_l12Copy.L.α → Ch, ∀ s, spec_l12Copy.P s.1 → spec_l12Copy.Q s.1 (S s) ∧ ∀ X, X (spec_l12Copy.enc s.1 (S s)) → spec_l12Copy.f s.1 X := mayS (zCh) fun s => spec_l12Copy.x s.1
noncomputable def spec_l12Copy.S (a0 : Ch) : Ch := Classical.choose spec_l12Copy.X (a0, ())
theorem spec_l12Copy.q (a0 : Ch) (hp : spec_l12Copy.P a0) : spec_l12Copy.Q a0 (spec_l12Copy.S a0) := (Classical.choose_spec spec_l12Copy.X (a0, ()) hp).1
noncomputable def spec_l12Copy.c : Ctr := hctr 123 [true] spec_l12Copy.L (some fun s => spec_l12Copy.P s.1) (fun s => spec_l12Copy.enc s.1 (spec_l12Copy.S s.1))
theorem spec_l12Copy.good : Good Try.prog spec_l12Copy.c :=
  hgoodC (sh := [[none, some (.int, 3), some (.int, 3), none, none, none, none, some (.pkt, 44), some (.bool, 4), some (.bool, 4), some (.int, 3), some (.st, 29), some (.int, 3)]]) (tk := []) (sp := []) (ct := []) (LL := [spec_l12Copy_l3.k]) (consG spec_l3Copy.good (consG spec_l1Copy.good noG)) (fn := Try.f123) (by kernel_rfl) (by kernel_rfl) (by rw [show loopsOf (bodyOf Try.f123) = [(bodyAt Try.f123 0)] from by kernel_rfl]; exact consL (l := spec_l12Copy_l3.k) (by kernel_rfl) (spec_l12Copy_l3.g (consG spec_l3Copy.good (consG spec_l1Copy.good noG))) (noL rfl)) (consC' (bs := []) (by kernel_rfl) noC) fun s hp => Eq.mpr (spec_l12Copy.w s.1 (fun r bs' => And (r = (spec_l12Copy.c.out s).1) (bs' = (spec_l12Copy.c.out s).2))) ((Classical.choose_spec spec_l12Copy.X s (hp _ rfl)).2 _ ⟨rfl, rfl⟩)
end Hw
end Go.Proofs.Ytmhighcagpbmeaa
