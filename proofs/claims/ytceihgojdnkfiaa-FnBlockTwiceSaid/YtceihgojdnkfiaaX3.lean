/- The operations one by one: what the evaluator says is what the model does. Part 1: types, operands, reads. -/
import Derived.Test.YtceihgojdnkfiaaX2
import Derived.Laws.CopyRow
import Derived.Laws.Cells
import Derived.Laws.Sem
import Derived.Laws.Tables
import Derived.Laws.MakeOwn
import Derived.Great.BuildSlice
import Derived.Maps.AppendAt
import Derived.ChangeKeysEq
set_option linter.unusedVariables false
set_option linter.unusedSimpArgs false
namespace Go.Proofs.Ytceihgojdnkfiaa
namespace Hw
open Go

def isRowD : TypeDesc → Bool
  | .struct _ => true
  | .array _ _ => true
  | _ => false
def isStrD : TypeDesc → Bool
  | .struct _ => true
  | _ => false
def fieldsD (P : Program) : TypeDesc → List (Nat × Nat)
  | .struct fs => fs.toList.map fun f => (f.offset, ((P.info? f.type).map (·.size)).getD 0)
  | _ => []
def elemD : TypeDesc → Nat
  | .slice e => e
  | _ => 0
def zvOf : EK → List Value
  | .int => [.int .i64 0]
  | .u8 => [.int .u8 0]
  | .bool => [.bool false]
  | .pkt => [.int .i64 0, .int .i64 0, .int .i64 0, .int .i64 0, .int .i64 0, .int .i64 0, .int .i64 0]
  | .st => [.int .i64 0, .int .i64 0, .int .i64 0, .slice none 0 0, .slice none 0 0, .slice none 0 0, .slice none 0 0]
  | .ch => [.int .i64 0, .slice none 0 0, .slice none 0 0, .int .i64 0, .int .i64 0, .int .i64 0, .int .i64 0, .slice none 0 0, .slice none 0 0, .slice none 0 0, .slice none 0 0, .slice none 0 0, .slice none 0 0]
  | .ev => [.int .i64 0, .int .i64 0, .int .i64 0, .int .i64 0, .int .i64 0, .int .i64 0, .int .i64 0, .int .i64 0, .int .i64 0, .int .i64 0, .int .i64 0]
  | .ws => [.int .i64 0, .nilFunc, .nilFunc]
structure TIok (P : Program) (t : Nat) (ti : TI) : Prop where
  info : (P.info? t).map (fun i => (i.size, i.bytes, i.zero.map fun z => z.cells.toList)) = some (ti.size, ti.bytes, some ti.zv)
  one : ti.zv.all Value.oneCell' = true
  agg : (P.underlying t).map isRowD = some ti.agg
  str : (P.underlying t).map isStrD = some ti.agg
  fld : (P.underlying t).map (fieldsD P) = some (ti.offs.zip ti.fsz)
  pos : (ti.offs.length == ti.fsz.length && ti.fsz.all fun s => Nat.blt 0 s) = true
  elem : (P.underlying t).map elemD = some ti.elem
  ek : match ti.ek with
    | some k => ti.zv = zvOf k ∧ ti.size = k.size ∧ (Nat.blt 0 ti.bytes && Nat.ble ti.bytes 4096) = true
    | none => True
def TabOK (P : Program) (T : Tab) : Prop := ∀ e ∈ T, TIok P e.1 e.2
theorem Tab.get_mem : ∀ {T : Tab} {t : Nat} {ti : TI}, T.get t = some ti → (t, ti) ∈ T
  | (j, x) :: r, t, ti, h => by
    unfold Tab.get at h
    cases hj : Nat.beq j t with
    | true =>
      rw [hj] at h
      simp only [cond_true, Option.some.injEq] at h
      subst h
      rw [Nat.eq_of_beq_eq_true hj]
      exact List.mem_cons_self
    | false =>
      rw [hj] at h
      exact List.mem_cons_of_mem _ (Tab.get_mem (by simpa using h))
theorem TabOK.get {P : Program} {T : Tab} (h : TabOK P T) {t : Nat} {ti : TI} (ht : T.get t = some ti) : TIok P t ti := h _ (Tab.get_mem ht)
section
variable {P : Program} {t : Nat} {ti : TI}
theorem TIok.i (h : TIok P t ti) : ∃ i z, P.info? t = some i ∧ i.zero = some z ∧ i.size = ti.size ∧ i.bytes = ti.bytes ∧ z.cells.toList = ti.zv := by
  have := h.info
  cases hi : P.info? t with
  | none => rw [hi] at this; cases this
  | some i =>
    rw [hi] at this
    simp only [Option.map_some, Option.some.injEq, Prod.mk.injEq] at this
    obtain ⟨h1, h2, h3⟩ := this
    cases hz : i.zero with
    | none => rw [hz] at h3; cases h3
    | some z =>
      rw [hz] at h3
      exact ⟨i, z, rfl, hz, h1, h2, by simpa using h3⟩
theorem TIok.d (h : TIok P t ti) : ∃ d, P.underlying t = some d ∧ isRowD d = ti.agg ∧ fieldsD P d = ti.offs.zip ti.fsz ∧ elemD d = ti.elem := by
  have h1 := h.agg
  have h2 := h.fld
  have h3 := h.elem
  cases hd : P.underlying t with
  | none => rw [hd] at h1; cases h1
  | some d =>
    rw [hd] at h1 h2 h3
    exact ⟨d, rfl, by simpa using h1, by simpa using h2, by simpa using h3⟩
theorem TIok.run_size (h : TIok P t ti) (w : World) : (sizeOf t).run P w = .ok ti.size w := by
  obtain ⟨i, z, h1, _, h3, _⟩ := h.i
  simp [sizeOf, typeInfo, h1, h3]
theorem TIok.run_zero (h : TIok P t ti) (w : World) : ∃ z, (zeroValue t).run P w = .ok z w ∧ z.cells.toList = ti.zv := by
  obtain ⟨i, z, h1, h2, _, _, h5⟩ := h.i
  exact ⟨z, by simp [zeroValue, typeInfo, h1, h2], h5⟩
theorem TIok.run_agg (h : TIok P t ti) (w : World) : (isAgg t).run P w = .ok ti.agg w := by
  obtain ⟨d, h1, h2, _⟩ := h.d
  unfold isAgg
  rw [Sem.run_bind, run_underlying h1]
  cases d <;> simp [isRowD] at h2 <;> simp [h2]
end

def RunsTo (P : Program) (o : Oper) (a : Act) (w : World) (Φ : Value → World → Prop) : Prop :=
  (∃ v w', (execOp a.eval o).run P w = .ok (.value v) w' ∧ Φ v w') ∨ (∃ w', (execOp a.eval o).run P w = .ok .skip w' ∧ Φ undef w') ∨
    (∃ f args, (execOp a.eval o).run P w = .ok (.enter f args) w ∧ Calls P f args w fun e w' => ∃ v, e = .returned v ∧ Φ v w')
theorem RunsTo.wp {P : Program} {o : Oper} {a : Act} {w : World} {Φ : Value → World → Prop} {K : Act → World → Prop} {Q : Exit → Act → World → Prop}
    (h : RunsTo P o a w Φ) (hK : ∀ v w', Φ v w' → K (a.put o.dst v) w') : o.wp P a w K Q := by
  unfold Oper.wp
  rcases h with ⟨v, w', h1, h2⟩ | ⟨w', h1, h2⟩ | ⟨f, args, h1, h2⟩
  · rw [h1]; exact hK _ _ h2
  · rw [h1]; exact hK _ _ h2
  · rw [h1]
    refine Calls.mono h2 fun e w' he => ?_
    obtain ⟨v, rfl, hv⟩ := he
    exact hK _ _ hv
theorem RunsTo.mono {P : Program} {o : Oper} {a : Act} {w : World} {Φ Ψ : Value → World → Prop} (h : RunsTo P o a w Φ) (hΦ : ∀ v w', Φ v w' → Ψ v w') : RunsTo P o a w Ψ := by
  rcases h with ⟨v, w', h1, h2⟩ | ⟨w', h1, h2⟩ | ⟨f, args, h1, h2⟩
  · exact .inl ⟨v, w', h1, hΦ _ _ h2⟩
  · exact .inr (.inl ⟨w', h1, hΦ _ _ h2⟩)
  · exact .inr (.inr ⟨f, args, h1, Calls.mono h2 fun e w' he => by obtain ⟨v, rfl, hv⟩ := he; exact ⟨v, rfl, hΦ _ _ hv⟩⟩)

structure Left (C : Cx) (H : Hp) (n : Nat) (r : OpR) (v : Value) (w' : World) (C' : Cx) : Prop where
  w : C'.w = w'
  v : avR C' r.v v
  inv : Inv C' (wr H r.ws)
  ext : Ext (fun b => ∃ i m, i ∈ r.ws.map (·.1) ∧ (H i).live ∧ C.ρ i = some (some b, m)) C C'
  new : ∀ i p, C'.ρ i = some p → C.ρ i = some p ∨ (n ≤ i ∧ i < r.nid ∧ ∀ b, p.1 = some b → (∃ j m, j ∈ r.ws.map (·.1) ∧ (H j).live ∧ C.ρ j = some (some b, m)) ∨ C.w.heap.size ≤ b)
def OpOK (P : Program) (o : Oper) (a : Act) (C : Cx) (H : Hp) (n : Nat) (r : OpR) : Prop := RunsTo P o a C.w fun v w' => ∃ C', Left C H n r v w' C'
theorem Inv.refl_left {C : Cx} {H : Hp} {n : Nat} {r : OpR} {v : Value} (h : Inv C H) (hws : r.ws = []) (hv : avR C r.v v) : Left C H n r v C.w C :=
  ⟨rfl, hv, by rw [hws]; exact h, Ext.refl _ _, fun i p hp => .inl hp⟩

def holds (π : List (Nat × Bool)) (tmps : Array Value) : Prop := ∀ e ∈ π, tmps[e.1]? = some (.bool e.2)
structure FrR (C : Cx) (fr : Fr) (tmps : Array Value) : Prop where
  slot : ∀ t, holds (fr t).g tmps → (fr t).v = .top ∨ ∃ v, tmps[t]? = some v ∧ avR C (fr t).v v
  off : ∀ t, ¬ holds (fr t).g tmps → tmps[t]? = some undef ∨ tmps[t]? = none
theorem eqB_true {a b : Bool} (h : eqB a b = true) : a = b := by cases a <;> cases b <;> simp [eqB] at h ⊢
theorem holds_sub : ∀ {π π' : List (Nat × Bool)} {tmps : Array Value}, subPath π π' = true → holds π' tmps → holds π tmps
  | [], _, _, _, _ => fun e he => by cases he
  | (d, b) :: r, π', tmps, h, hp => by
    unfold subPath at h
    rw [Bool.and_eq_true] at h
    intro e he
    rcases List.mem_cons.1 he with rfl | he
    · obtain ⟨e', h1, h2⟩ := List.any_eq_true.1 h.1
      rw [Bool.and_eq_true] at h2
      have := hp e' h1
      rw [Nat.eq_of_beq_eq_true h2.1, eqB_true h2.2] at this
      exact this
    · exact holds_sub h.2 hp e he
theorem cellOfVal_R (C : Cx) (v : Value) (h : oneC v = true) : cellR C (cellOfVal v) v := by
  unfold cellOfVal
  split <;> simp_all [cellR, ifcVal, fnVal]
theorem avOfVal_R (C : Cx) (v : Value) : avR C (avOfVal v) v := by
  unfold avOfVal
  split
  · rename_i cs
    cases h : cs.toList.all oneC with
    | false => trivial
    | true =>
      refine ⟨cs, rfl, by simp, fun j x hj => ?_⟩
      rw [List.getElem?_map] at hj
      cases hc : cs.toList[j]? with
      | none => rw [hc] at hj; cases hj
      | some u =>
        rw [hc] at hj
        simp only [Option.map_some, Option.some.injEq] at hj
        subst hj
        exact ⟨u, by simpa using hc, cellOfVal_R C u (List.all_eq_true.1 h u (List.mem_of_getElem? hc))⟩
  · trivial
  · rename_i h1 h2
    exact cellOfVal_R C v (by cases v <;> simp_all [oneC])
theorem opnd_R {C : Cx} {fr : Fr} {a : Act} {π : List (Nat × Bool)} (h : FrR C fr a.tmps) (hπ : holds π a.tmps) {x : Operand} {v : AV} (hx : opnd fr π x = some v) : v = .top ∨ avR C v (a.eval x) := by
  cases x with
  | tmp t =>
    cases hs : subPath (fr t).g π with
    | false => simp only [opnd, hs, cond_false] at hx; cases hx
    | true =>
      simp only [opnd, hs, cond_true, Option.some.injEq] at hx
      subst hx
      rcases h.slot t (holds_sub hs hπ) with h1 | ⟨u, h1, h2⟩
      · exact .inl h1
      · refine .inr ?_
        have : a.eval (.tmp t) = u := by simp [Act.eval, Array.getD_eq_getD_getElem?, h1]
        rw [this]
        exact h2
  | const v' =>
    simp only [opnd, Option.some.injEq] at hx
    subst hx
    exact .inr (avOfVal_R C v')
  | func f =>
    simp only [opnd, Option.some.injEq] at hx
    subst hx
    exact .inr rfl
  | «global» g => cases hx
theorem asFV_R {C : Cx} {fr : Fr} {a : Act} {π : List (Nat × Bool)} (h : FrR C fr a.tmps) (hπ : holds π a.tmps) {x : Operand} {v : FV} (hx : asFV (opnd fr π x) = some v) : fvR C v (a.eval x) := by
  unfold asFV at hx
  split at hx
  · rename_i y hy
    simp only [Option.some.injEq] at hx
    subst hx
    rcases opnd_R h hπ hy with h1 | h1
    · cases h1
    · exact h1
  · cases hx
theorem asC_R {C : Cx} {fr : Fr} {a : Act} {π : List (Nat × Bool)} (h : FrR C fr a.tmps) (hπ : holds π a.tmps) {x : Operand} {v : Cell} (hx : asC (opnd fr π x) = some v) : cellR C v (a.eval x) := by
  unfold asC at hx
  split at hx
  · rename_i y hy
    simp only [Option.some.injEq] at hx
    subst hx
    rcases opnd_R h hπ hy with h1 | h1
    · cases h1
    · exact h1
  · cases hx
def cellsR (C : Cx) (cs : List Cell) (vs : List Value) : Prop := vs.length = cs.length ∧ ∀ (j : Nat) (x : Cell), cs[j]? = some x → ∃ u, vs[j]? = some u ∧ cellR C x u
theorem oneCell_of {C : Cx} {x : Cell} {u : Value} (h : cellR C x u) : u.oneCell' = true := by
  cases x <;> simp only [cellR] at h
  case lit y =>
    obtain ⟨rfl, h⟩ := h
    cases u <;> simp_all [oneC, Value.oneCell']
  case arr z a => obtain ⟨A, c, rfl, _⟩ := h; rfl
  case own i sz e => rcases h with ⟨_, rfl⟩ | ⟨b, n, c, vs, _, rfl, _⟩ <;> rfl
  case tail i sz e k => obtain ⟨b, n, c, vs, _, rfl, _⟩ := h; rfl
  case mk l o =>
    cases l with
    | nil => have h : u = .pointer none := h; subst h; rfl
    | cons s r => obtain ⟨ad, rfl, _⟩ := h; rfl
  case ptr i o => obtain ⟨b, n, _, rfl⟩ := h; rfl
  case ep i sz k o => obtain ⟨b, n, _, rfl⟩ := h; rfl
  case rp z e o => obtain ⟨ad, rfl, _⟩ := h; rfl
  case ifc n => subst h; unfold ifcVal; split <;> rfl
  case fnv f => subst h; unfold fnVal; split <;> rfl
  all_goals (subst h; rfl)
theorem fv_cells {C : Cx} {x : FV} {v : Value} (h : fvR C x v) : cellsR C x.cells v.cells.toList := by
  cases x with
  | c x =>
    have h1 := oneCell_of h
    have : v.cells.toList = [v] := by cases v <;> simp_all [Value.cells, Value.oneCell']
    rw [this]
    refine ⟨rfl, fun j y hj => ?_⟩
    cases j with
    | zero =>
      simp only [FV.cells, List.getElem?_cons_zero, Option.some.injEq] at hj
      subst hj
      exact ⟨v, rfl, h⟩
    | succ j => simp [FV.cells] at hj
  | agg cs =>
    obtain ⟨vs, rfl, h2, h3⟩ := h
    exact ⟨by simpa [Value.cells, FV.cells] using h2, fun j y hj => by
      obtain ⟨u, h4, h5⟩ := h3 j y hj
      exact ⟨u, by simpa [Value.cells] using h4, h5⟩⟩
theorem cellsR_one {C : Cx} {cs : List Cell} {vs : List Value} (h : cellsR C cs vs) : ∀ u ∈ vs, u.oneCell' = true := by
  intro u hu
  obtain ⟨j, hj, rfl⟩ := List.mem_iff_getElem.1 hu
  have hl : j < cs.length := by rw [← h.1]; exact hj
  obtain ⟨u, h1, h2⟩ := h.2 j _ (List.getElem?_eq_getElem hl)
  rw [List.getElem?_eq_getElem hj, Option.some.injEq] at h1
  rw [h1]
  exact oneCell_of h2
theorem cellsR_ext {T : Nat → Prop} {C C' : Cx} (h : Ext T C C') (o : Off T C) {cs : List Cell} {vs : List Value} (hx : cellsR C cs vs) : cellsR C' cs vs :=
  ⟨hx.1, fun j y hj => by obtain ⟨u, h1, h2⟩ := hx.2 j y hj; exact ⟨u, h1, cellR_ext h o h2⟩⟩
theorem fvOfCells_R {C : Cx} {agg : Bool} {cs : List Cell} {vs : List Value} {v : AV} (h : cellsR C cs vs) (hv : fvOfCells agg cs = some v) : (agg = true ∧ avR C v (.agg vs.toArray)) ∨ (agg = false ∧ ∃ u, vs = [u] ∧ avR C v u) := by
  unfold fvOfCells at hv
  cases agg with
  | true =>
    simp only [cond_true, Option.some.injEq] at hv
    subst hv
    exact .inl ⟨rfl, vs.toArray, rfl, by simpa using h.1, fun j x hj => by obtain ⟨u, h1, h2⟩ := h.2 j x hj; exact ⟨u, by simpa using h1, h2⟩⟩
  | false =>
    simp only [cond_false] at hv
    split at hv
    · rename_i x
      simp only [Option.some.injEq] at hv
      subst hv
      obtain ⟨u, h1, h2⟩ := h.2 0 x rfl
      have : vs.length = 1 := h.1
      match vs, this, h1 with
      | [y], _, h1 =>
        simp only [List.getElem?_cons_zero, Option.some.injEq] at h1
        subst h1
        exact .inr ⟨rfl, y, rfl, h2⟩
    · cases hv

end Hw
end Go.Proofs.Ytceihgojdnkfiaa
