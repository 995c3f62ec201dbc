/- What the abstract values say of memory, and that it is kept while other memory turns. -/
import Derived.Test.YtceihgojdnkfiaaX0
import Derived.Tactics
import Derived.Laws.World
set_option linter.unusedVariables false
namespace Go.Proofs.Ytceihgojdnkfiaa
namespace Hw
open Go

structure Cx where
  w : World
  frz : Nat → Prop
  vis : Nat → Prop
  ρ : Nat → Option (Option Nat × Nat)
def big : Int := 9223372036854775807
def fnVal (f : Option Nat) : Value := match f with
  | none => .nilFunc
  | some f => .func (.func f) #[] #[]
def elC (R : Arr → Value → Prop) : Cell → Value → Prop
  | .int n, v => v = .int .i64 n
  | .u8 n, v => v = .int .u8 n
  | .bool b, v => v = .bool b
  | .fnv f, v => v = fnVal f
  | .arr _ a, v => R a v
  | _, _ => False
def rowR (w : World) (S : Nat → Prop) (a : Arr) (A : Option Addr) (R : Arr → Value → Prop) : Prop :=
  ∀ k : Nat, k < a.len → ∃ ad, A = some ad ∧ S ad.block ∧ ∀ (j : Nat) (x : Cell), ((a.get k).cells true)[j]? = some x → ∃ u, w.cell? (ad.add (k * a.esz + j)) = some u ∧ elC R x u
def arrR (w : World) (S : Nat → Prop) : Nat → Arr → Value → Prop
  | 0, _, _ => False
  | d + 1, a, v => ∃ A c, v = .slice A a.len c ∧ a.len ≤ c ∧ (a.len : Int) ≤ big ∧ rowR w S a A (arrR w S d)
def Cx.S (C : Cx) (z : Bool) : Nat → Prop := fun b => match z with | true => C.frz b | false => C.vis b
def ifcVal (n : Nat) : Value := if n = 0 then .nilIface else .iface n (.agg #[])
def mkR (w : World) (S : Nat → Prop) : List St → Nat → Value → Prop
  | [], _, v => v = .pointer none
  | s :: r, o, v => ∃ ad : Addr, v = .pointer (some (ad.add o)) ∧ S ad.block ∧ (∀ (j : Nat) (x : Cell), (stCells true s)[j]? = some x → ∃ u, w.cell? (ad.add j) = some u ∧ elC (arrR w S 3) x u) ∧ ∃ u, w.cell? (ad.add 7) = some u ∧ mkR w S r 0 u
def cellR (C : Cx) : Cell → Value → Prop
  | .int n, v => v = .int .i64 n
  | .u8 n, v => v = .int .u8 n
  | .bool b, v => v = .bool b
  | .nilS, v => v = .slice none 0 0
  | .nilP, v => v = .pointer none
  | .ifc n, v => v = ifcVal n
  | .fnv f, v => v = fnVal f
  | .lit x, v => v = x ∧ oneC x = true
  | .arr z a, v => arrR C.w (C.S z) 4 a v
  | .own i sz e, v => (C.ρ i = some (none, 0) ∧ v = .slice none 0 0) ∨ ∃ (b n c : Nat) (vs : Array Value), C.ρ i = some (some b, n) ∧ v = .slice (some ⟨b, 0, none⟩) n c ∧ n ≤ c ∧ C.w.heap[b]? = some (Obj.cells vs e (0, 0)) ∧ vs.size = c * sz ∧ c ≤ 9223372036854775807
  | .tail i sz e t, v => ∃ (b n c : Nat) (vs : Array Value), C.ρ i = some (some b, n) ∧ v = .slice (some ⟨b, t * sz, none⟩) (n - t) c ∧ t ≤ n ∧ n - t ≤ c ∧ C.w.heap[b]? = some (Obj.cells vs e (0, 0)) ∧ vs.size = (t + c) * sz ∧ ((t + c : Nat) : Int) ≤ 9223372036854775807
  | .mk l o, v => mkR C.w C.frz l o v
  | .ptr i o, v => ∃ b n, C.ρ i = some (some b, n) ∧ v = .pointer (some ⟨b, o, none⟩)
  | .ep i sz k o, v => ∃ b n, C.ρ i = some (some b, n) ∧ v = .pointer (some ⟨b, k * sz + o, none⟩)
  | .rp z e o, v => ∃ ad, v = .pointer (some ad) ∧ C.S z ad.block ∧ ∀ (j : Nat) (x : Cell), (e.cells z)[o + j]? = some x → ∃ u, C.w.cell? (ad.add j) = some u ∧ elC (arrR C.w (C.S z) 3) x u
def OwnAt (C : Cx) (i : Nat) : Blk → Prop
  | .dead => True
  | .raw m cs => ∃ (b : Nat) (vs : Array Value) (e : TypeId), C.ρ i = some (some b, m) ∧ ¬ C.frz b ∧ ¬ C.vis b ∧ C.w.heap[b]? = some (Obj.cells vs e (0, 0)) ∧ vs.size = cs.length ∧ ∀ (j : Nat) (x : Cell), cs[j]? = some x → ∃ u, vs[j]? = some u ∧ cellR C x u
  | .arr a => (a.len = 0 ∧ C.ρ i = some (none, 0)) ∨ ∃ (b : Nat) (vs : Array Value) (e : TypeId), C.ρ i = some (some b, a.len) ∧ ¬ C.frz b ∧ ¬ C.vis b ∧ C.w.heap[b]? = some (Obj.cells vs e (0, 0)) ∧ a.len * a.esz ≤ vs.size ∧ (a.len : Int) ≤ big ∧
      ∀ k : Nat, k < a.len → ∀ (j : Nat) (x : Cell), ((a.get k).cells true)[j]? = some x → ∃ u, vs[k * a.esz + j]? = some u ∧ elC (arrR C.w C.frz 3) x u
def Blk.live : Blk → Prop
  | .dead => False
  | _ => True
structure Inv (C : Cx) (H : Hp) : Prop where
  own : ∀ i, OwnAt C i (H i)
  inj : ∀ i j b n m, (H i).live → (H j).live → C.ρ i = some (some b, n) → C.ρ j = some (some b, m) → i = j
  frz : ∀ b, C.frz b → b < C.w.heap.size
  vis : ∀ b, C.vis b → b < C.w.heap.size
structure Ext (T : Nat → Prop) (C C' : Cx) : Prop where
  os : C'.w.os = C.w.os
  tape : C'.w.tape = C.w.tape
  output : C'.w.output = C.w.output
  size : C.w.heap.size ≤ C'.w.heap.size
  blk : ∀ b, b < C.w.heap.size → ¬ T b → C'.w.heap[b]? = C.w.heap[b]?
  shp : ∀ (b : Nat) (vs : Array Value) (e : TypeId), C.w.heap[b]? = some (Obj.cells vs e (0, 0)) → ∃ vs' : Array Value, C'.w.heap[b]? = some (Obj.cells vs' e (0, 0)) ∧ vs'.size = vs.size
  frz : ∀ b, C.frz b → C'.frz b
  new : ∀ b, C'.frz b → C.frz b ∨ T b ∨ C.w.heap.size ≤ b
  vis : C'.vis = C.vis
  rho : ∀ i p, C.ρ i = some p → C'.ρ i = some p

def fvR (C : Cx) : FV → Value → Prop
  | .c x, v => cellR C x v
  | .agg cs, v => ∃ vs : Array Value, v = .agg vs ∧ vs.size = cs.length ∧ ∀ (j : Nat) (x : Cell), cs[j]? = some x → ∃ u, vs[j]? = some u ∧ cellR C x u
def avR (C : Cx) : AV → Value → Prop
  | .v x, v => fvR C x v
  | .tup xs, v => ∃ vs : Array Value, v = .tuple vs ∧ vs.size = xs.length ∧ ∀ (j : Nat) (x : FV), xs[j]? = some x → ∃ u, vs[j]? = some u ∧ fvR C x u
  | .top, _ => True
def argsR (C : Cx) (xs : List FV) (vs : Array Value) : Prop := vs.size = xs.length ∧ ∀ (j : Nat) (x : FV), xs[j]? = some x → ∃ u, vs[j]? = some u ∧ fvR C x u

def Arr.rk : Arr → Nat
  | .sts _ => 1
  | .chs _ => 2
  | _ => 0
theorem get_of_mem {α : Type} {l : List α} {j : Nat} {x : α} (h : l[j]? = some x) : x ∈ l := List.mem_of_getElem? h
theorem cells_rk {a : Arr} {k : Nat} {z y : Bool} {b : Arr} (h : Cell.arr y b ∈ (a.get k).cells z) : b.rk < a.rk := by
  cases a <;> simp [Arr.get, El.cells, pktCells, stCells, chCells, evCells, wsCells, Arr.rk] at h ⊢
  · rcases h with h | h | h | h
    all_goals (obtain ⟨_, rfl⟩ := h; rfl)
  · rcases h with h | h | h | h | h | h | h | h
    all_goals (obtain ⟨_, rfl⟩ := h; first | exact (by decide : (0 : Nat) < 2) | exact (by decide : (1 : Nat) < 2))
theorem elC_imp {R R' : Arr → Value → Prop} {x : Cell} {u : Value} (h : elC R x u) (hR : ∀ y a, x = .arr y a → R a u → R' a u) : elC R' x u := by
  cases x <;> simp only [elC] at h ⊢ <;> first | exact h | exact hR _ _ rfl h
theorem arrR_any {w : World} {S : Nat → Prop} : ∀ (r : Nat) (a : Arr), a.rk ≤ r → ∀ (d d' : Nat) (v : Value), r ≤ d → r ≤ d' → arrR w S (d + 1) a v → arrR w S (d' + 1) a v := by
  intro r
  induction r with
  | zero =>
    intro a ha d d' v _ _ h
    obtain ⟨A, c, rfl, hc, hb, hr⟩ := h
    refine ⟨A, c, rfl, hc, hb, fun k hk => ?_⟩
    obtain ⟨ad, e, hS, hx⟩ := hr k hk
    refine ⟨ad, e, hS, fun j x hj => ?_⟩
    obtain ⟨u, h1, h2⟩ := hx j x hj
    refine ⟨u, h1, elC_imp h2 fun y b hb' _ => ?_⟩
    subst hb'
    have := cells_rk (get_of_mem hj)
    omega
  | succ r ih =>
    intro a ha d d' v hd hd' h
    obtain ⟨A, c, rfl, hc, hb, hr⟩ := h
    refine ⟨A, c, rfl, hc, hb, fun k hk => ?_⟩
    obtain ⟨ad, e, hS, hx⟩ := hr k hk
    refine ⟨ad, e, hS, fun j x hj => ?_⟩
    obtain ⟨u, h1, h2⟩ := hx j x hj
    refine ⟨u, h1, elC_imp h2 fun y b hb' h3 => ?_⟩
    subst hb'
    have hlt := cells_rk (get_of_mem hj)
    obtain ⟨d, rfl⟩ : ∃ m, d = m + 1 := ⟨d - 1, by omega⟩
    obtain ⟨d', rfl⟩ : ∃ m, d' = m + 1 := ⟨d' - 1, by omega⟩
    exact ih b (by omega) d d' u (by omega) (by omega) h3
theorem rk_le (a : Arr) : a.rk ≤ 2 := by cases a <;> simp [Arr.rk]
theorem arrR_34 {w : World} {S : Nat → Prop} {a : Arr} {v : Value} (h : arrR w S 3 a v) : arrR w S 4 a v := arrR_any 2 a (rk_le a) 2 3 v (by decide) (by decide) h
theorem arrR_43 {w : World} {S : Nat → Prop} {a : Arr} {v : Value} (h : arrR w S 4 a v) : arrR w S 3 a v := arrR_any 2 a (rk_le a) 3 2 v (by decide) (by decide) h

theorem cell?_same {w w' : World} {ad : Addr} (h : w'.heap[ad.block]? = w.heap[ad.block]?) : w'.cell? ad = w.cell? ad := by
  unfold World.cell?
  rw [h]
theorem add_block (ad : Addr) (n : Nat) : (ad.add n).block = ad.block := by unfold Addr.add; split <;> rfl
theorem arrR_ext {w w' : World} {S S' : Nat → Prop} (hS : ∀ b, S b → S' b) (hb : ∀ b, S b → w'.heap[b]? = w.heap[b]?) : ∀ (d : Nat) (a : Arr) (v : Value), arrR w S d a v → arrR w' S' d a v := by
  intro d
  induction d with
  | zero => intro a v h; exact h
  | succ d ih =>
    intro a v h
    obtain ⟨A, c, rfl, hc, hg, hr⟩ := h
    refine ⟨A, c, rfl, hc, hg, fun k hk => ?_⟩
    obtain ⟨ad, e, hs, hx⟩ := hr k hk
    refine ⟨ad, e, hS _ hs, fun j x hj => ?_⟩
    obtain ⟨u, h1, h2⟩ := hx j x hj
    refine ⟨u, ?_, elC_imp h2 fun _ b _ h3 => ih b u h3⟩
    exact (cell?_same (w := w) (w' := w') (ad := ad.add (k * a.esz + j)) (by rw [add_block]; exact hb _ hs)).trans h1
theorem mkR_ext {w w' : World} {S S' : Nat → Prop} (hS : ∀ b, S b → S' b) (hb : ∀ b, S b → w'.heap[b]? = w.heap[b]?) : ∀ (l : List St) (o : Nat) (v : Value), mkR w S l o v → mkR w' S' l o v := by
  intro l
  induction l with
  | nil => intro o v h; exact h
  | cons s r ih =>
    intro o v h
    obtain ⟨ad, h1, h2, h3, u, h4, h5⟩ := h
    have key : ∀ j, w'.cell? (ad.add j) = w.cell? (ad.add j) := fun j => cell?_same (by rw [add_block]; exact hb _ h2)
    refine ⟨ad, h1, hS _ h2, fun j x hj => ?_, u, (key 7).trans h4, ih 0 u h5⟩
    obtain ⟨u, h6, h7⟩ := h3 j x hj
    exact ⟨u, (key j).trans h6, elC_imp h7 fun _ b _ h8 => arrR_ext hS hb 3 b u h8⟩
structure Off (T : Nat → Prop) (C : Cx) : Prop where
  frz : ∀ b, C.frz b → ¬ T b
  vis : ∀ b, C.vis b → ¬ T b
  frzl : ∀ b, C.frz b → b < C.w.heap.size
  visl : ∀ b, C.vis b → b < C.w.heap.size
section
variable {T : Nat → Prop} {C C' : Cx}
theorem Ext.S (h : Ext T C C') (z : Bool) : ∀ b, C.S z b → C'.S z b := by
  intro b hb
  cases z
  · simp only [Cx.S] at hb ⊢
    rw [h.vis]
    exact hb
  · exact h.frz b hb
theorem Ext.same (h : Ext T C C') (o : Off T C) (z : Bool) : ∀ b, C.S z b → C'.w.heap[b]? = C.w.heap[b]? := by
  intro b hb
  cases z
  · exact h.blk b (o.visl b hb) (o.vis b hb)
  · exact h.blk b (o.frzl b hb) (o.frz b hb)
theorem cellR_ext (h : Ext T C C') (o : Off T C) {x : Cell} {v : Value} (hx : cellR C x v) : cellR C' x v := by
  cases x with
  | int n => exact hx
  | u8 n => exact hx
  | bool b => exact hx
  | nilS => exact hx
  | nilP => exact hx
  | ifc n => exact hx
  | fnv f => exact hx
  | lit y => exact hx
  | arr z a => exact arrR_ext (h.S z) (h.same o z) 4 a v hx
  | own i sz e =>
    rcases hx with ⟨h1, h2⟩ | ⟨b, n, c, vs, h1, h2, h3, h4, h5⟩
    · exact .inl ⟨h.rho _ _ h1, h2⟩
    obtain ⟨vs', h6, h7⟩ := h.shp b vs e h4
    exact .inr ⟨b, n, c, vs', h.rho _ _ h1, h2, h3, h6, by rw [h7]; exact h5⟩
  | tail i sz e k =>
    obtain ⟨b, n, c, vs, h1, h2, h3, h4, h5, h6⟩ := hx
    obtain ⟨vs', h7, h8⟩ := h.shp b vs e h5
    exact ⟨b, n, c, vs', h.rho _ _ h1, h2, h3, h4, h7, by rw [h8]; exact h6⟩
  | mk l k => exact mkR_ext (h.S true) (h.same o true) l k v hx
  | ptr i k =>
    obtain ⟨b, n, h1, h2⟩ := hx
    exact ⟨b, n, h.rho _ _ h1, h2⟩
  | ep i sz k o =>
    obtain ⟨b, n, h1, h2⟩ := hx
    exact ⟨b, n, h.rho _ _ h1, h2⟩
  | rp z e k =>
    obtain ⟨ad, h1, h2, h3⟩ := hx
    refine ⟨ad, h1, h.S z _ h2, fun j y hj => ?_⟩
    obtain ⟨u, h4, h5⟩ := h3 j y hj
    refine ⟨u, ?_, elC_imp h5 fun _ b _ h6 => arrR_ext (h.S z) (h.same o z) 3 b u h6⟩
    exact (cell?_same (w := C.w) (w' := C'.w) (ad := ad.add j) (by rw [add_block]; exact h.same o z _ h2)).trans h4
theorem fvR_ext (h : Ext T C C') (o : Off T C) {x : FV} {v : Value} (hx : fvR C x v) : fvR C' x v := by
  cases x with
  | c x => exact cellR_ext h o hx
  | agg cs =>
    obtain ⟨vs, h1, h2, h3⟩ := hx
    refine ⟨vs, h1, h2, fun j y hj => ?_⟩
    obtain ⟨u, h4, h5⟩ := h3 j y hj
    exact ⟨u, h4, cellR_ext h o h5⟩
theorem avR_ext (h : Ext T C C') (o : Off T C) {x : AV} {v : Value} (hx : avR C x v) : avR C' x v := by
  cases x with
  | v x => exact fvR_ext h o hx
  | tup xs =>
    obtain ⟨vs, h1, h2, h3⟩ := hx
    refine ⟨vs, h1, h2, fun j y hj => ?_⟩
    obtain ⟨u, h4, h5⟩ := h3 j y hj
    exact ⟨u, h4, fvR_ext h o h5⟩
  | top => trivial
theorem lt_of_block {w : World} {b : Nat} {o : Obj} (h : w.heap[b]? = some o) : b < w.heap.size := (Array.getElem?_eq_some_iff.1 h).1
theorem OwnAt_ext (h : Ext T C C') (o : Off T C) {i : Nat} {x : Blk} (hx : OwnAt C i x) (hT : ∀ b n, C.ρ i = some (some b, n) → ¬ T b) : OwnAt C' i x := by
  cases x with
  | dead => trivial
  | raw m cs =>
    obtain ⟨b, vs, e, h1, h2, h3, h4, h5, h6⟩ := hx
    have hb := lt_of_block h4
    refine ⟨b, vs, e, h.rho _ _ h1, fun hf => ?_, by rw [h.vis]; exact h3, by rw [h.blk b hb (hT b m h1)]; exact h4, h5, fun j y hj => ?_⟩
    · rcases h.new b hf with h7 | h7 | h7
      · exact h2 h7
      · exact hT b m h1 h7
      · omega
    · obtain ⟨u, h7, h8⟩ := h6 j y hj
      exact ⟨u, h7, cellR_ext h o h8⟩
  | arr a =>
    rcases hx with ⟨h1, h2⟩ | ⟨b, vs, e, h1, h2, h3, h4, h5, h5', h6⟩
    · exact .inl ⟨h1, h.rho _ _ h2⟩
    have hb := lt_of_block h4
    refine .inr ⟨b, vs, e, h.rho _ _ h1, fun hf => ?_, by rw [h.vis]; exact h3, by rw [h.blk b hb (hT b _ h1)]; exact h4, h5, h5', fun k hk j y hj => ?_⟩
    · rcases h.new b hf with h7 | h7 | h7
      · exact h2 h7
      · exact hT b _ h1 h7
      · omega
    · obtain ⟨u, h7, h8⟩ := h6 k hk j y hj
      exact ⟨u, h7, elC_imp h8 fun _ b _ h9 => arrR_ext (h.S true) (h.same o true) 3 b u h9⟩
theorem Ext.refl (T : Nat → Prop) (C : Cx) : Ext T C C := ⟨rfl, rfl, rfl, Nat.le_refl _, fun _ _ _ => rfl, fun b vs e h => ⟨vs, h, rfl⟩, fun _ h => h, fun _ h => .inl h, rfl, fun _ _ h => h⟩
theorem Ext.trans {C'' : Cx} {T' : Nat → Prop} (h : Ext T C C') (k : Ext T' C' C'') (hT : ∀ b, T' b → b < C.w.heap.size → T b) : Ext T C C'' where
  os := k.os.trans h.os
  tape := k.tape.trans h.tape
  output := k.output.trans h.output
  size := Nat.le_trans h.size k.size
  blk := fun b hb hn => (k.blk b (Nat.lt_of_lt_of_le hb h.size) (fun ht => hn (hT b ht hb))).trans (h.blk b hb hn)
  shp := fun b vs e hb => by
    obtain ⟨vs', h1, h2⟩ := h.shp b vs e hb
    obtain ⟨vs'', h3, h4⟩ := k.shp b vs' e h1
    exact ⟨vs'', h3, h4.trans h2⟩
  frz := fun b hb => k.frz b (h.frz b hb)
  new := fun b hb => by
    rcases k.new b hb with h1 | h1 | h1
    · exact h.new b h1
    · rcases Nat.lt_or_ge b C.w.heap.size with h2 | h2
      · exact .inr (.inl (hT b h1 h2))
      · exact .inr (.inr h2)
    · exact .inr (.inr (Nat.le_trans h.size h1))
  vis := k.vis.trans h.vis
  rho := fun i p hp => k.rho i p (h.rho i p hp)
end
theorem Inv.off {C : Cx} {H : Hp} (h : Inv C H) {T : Nat → Prop} (hT : ∀ b, T b → ∃ i n, (H i).live ∧ C.ρ i = some (some b, n)) : Off T C := by
  refine ⟨fun b hb ht => ?_, fun b hb ht => ?_, h.frz, h.vis⟩ <;>
  · obtain ⟨i, n, hl, hr⟩ := hT b ht
    have ho := h.own i
    cases hH : H i with
    | dead => rw [hH] at hl; exact hl
    | raw m cs =>
      rw [hH] at ho
      obtain ⟨b', vs, e, h1, h2, h3, _⟩ := ho
      rw [hr] at h1
      cases h1
      first | exact h2 hb | exact h3 hb
    | arr a =>
      rw [hH] at ho
      rcases ho with ⟨_, h1⟩ | ⟨b', vs, e, h1, h2, h3, _⟩
      · rw [hr] at h1; cases h1
      rw [hr] at h1
      cases h1
      first | exact h2 hb | exact h3 hb
theorem Inv.lt {C : Cx} {H : Hp} (h : Inv C H) {i b n : Nat} (hl : (H i).live) (hr : C.ρ i = some (some b, n)) : b < C.w.heap.size := by
  have ho := h.own i
  cases hH : H i with
  | dead => rw [hH] at hl; exact hl.elim
  | raw m cs =>
    rw [hH] at ho
    obtain ⟨b', vs, e, h1, _, _, h4, _⟩ := ho
    rw [hr] at h1
    cases h1
    exact lt_of_block h4
  | arr a =>
    rw [hH] at ho
    rcases ho with ⟨_, h1⟩ | ⟨b', vs, e, h1, _, _, h4, _⟩
    · rw [hr] at h1; cases h1
    rw [hr] at h1
    cases h1
    exact lt_of_block h4

end Hw
end Go.Proofs.Ytceihgojdnkfiaa
