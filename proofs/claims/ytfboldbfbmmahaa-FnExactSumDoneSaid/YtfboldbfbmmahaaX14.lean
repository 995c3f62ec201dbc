/- What holds of a contract; every operation. -/
import Derived.Test.YtfboldbfbmmahaaX13
set_option linter.unusedVariables false
set_option linter.unusedSimpArgs false
namespace Go.Proofs.Ytfboldbfbmmahaa
namespace Hw
open Go
/-- The contract holds of the program's function. -/
structure Good (P : Program) (c : Ctr) : Prop where
  fn : ∃ f : Func, P.funcs[c.fid]? = some f ∧ f.body.isNone = false ∧ (f.name == "runtime.NumGoroutine") = false
  dec : ∀ bs args s, c.dec bs args = some s → (c.inp s).1 = bs ∧ ∀ C vs, valsR C args vs → valsR C (c.inp s).2 vs
  run : ∀ s C vs, Inv C (hpOf (c.inp s).1) → (∀ i, (c.inp s).1.length ≤ i → C.ρ i = none) → valsR C (c.inp s).2 vs → (∀ p, c.pre = some p → p s) →
    Calls P c.fid vs.toArray C.w fun e w' => ∃ v C', e = .returned v ∧ C'.w = w' ∧ avR C' (c.out s).1 v ∧ After C C' (c.inp s).1 (c.out s).2
section
variable {P : Program} {E : Env} {C : Cx} {H : Hp} {n : Nat}

/-! ### 1. Calls -/
theorem valsR_map {C D : Cx} {f : FV → FV} : ∀ {xs : List FV} {vs : List Value}, (∀ x ∈ xs, ∀ v, fvR C x v → fvR D (f x) v) → valsR C xs vs → valsR D (xs.map f) vs := by
  intro xs
  induction xs with
  | nil => intro vs _ h; cases vs with
    | nil => trivial
    | cons v vs => exact h.elim
  | cons x xs ih => intro vs hf h; cases vs with
    | nil => exact h.elim
    | cons v vs => exact ⟨hf x List.mem_cons_self v h.1, ih (fun y hy => hf y (List.mem_cons_of_mem _ hy)) h.2⟩
theorem cell_view (hI : Inv C H) {x : Cell} {v : Value} (hx : cellR C x v) (hn : (x.view H).ids = []) : cellR (C.enter [] (· < C.w.heap.size)) (x.view H) v := by
  have hS : ∀ z b, C.S z b → b < C.w.heap.size := fun z b hb => by
    cases z
    · exact hI.vis b hb
    · exact hI.frz b hb
  cases x with
  | own i sz e =>
    cases hH : H i with
    | dead => simp [Cell.view, hH, Cell.ids] at hn
    | raw m cs => simp [Cell.view, hH, Cell.ids] at hn
    | arr a =>
      simp only [Cell.view, hH]
      have ho := hI.own i
      rw [hH] at ho
      rcases ho with ⟨h0, h0'⟩ | ⟨b, vs, e', h1, h2, h3, h4, h5, h5', h6⟩
      · rcases hx with ⟨_, rfl⟩ | ⟨b', n, c, vs', h7, _⟩
        · exact ⟨none, 0, by rw [h0], by omega, by rw [h0]; decide, fun k hk => by omega⟩
        · rw [h0'] at h7; cases h7
      rcases hx with ⟨h7, _⟩ | ⟨b', n, c, vs', h7, rfl, h8, h9, h10⟩
      · rw [h1] at h7; cases h7
      rw [h1] at h7
      cases h7
      refine ⟨some ⟨b, 0, none⟩, c, rfl, h8, h5', fun k hk => ⟨_, rfl, lt_of_block h4, fun j x hjx => ?_⟩⟩
      obtain ⟨u, h11, h12⟩ := h6 k hk j x hjx
      refine ⟨u, ?_, elC_imp h12 fun _ b _ h13 => arrR_ext (fun b hb => hI.frz b hb) (fun _ _ => rfl) 3 b u h13⟩
      have ha : (⟨b, 0, none⟩ : Addr).add (k * a.esz + j) = ⟨b, k * a.esz + j, none⟩ := by unfold Addr.add; split <;> simp_all
      rw [ha]
      show C.w.cell? _ = _
      simp [World.cell?, h4, h11]
  | arr z a => exact arrR_ext (hS z) (fun _ _ => rfl) 4 a v hx
  | rp z e o =>
    have hS' : ∀ b, C.S z b → (C.enter [] (· < C.w.heap.size)).S z b := fun b hb => by
      cases z
      · exact hI.vis b hb
      · exact hb
    obtain ⟨ad, h1, h2, h3⟩ := hx
    refine ⟨ad, h1, hS' _ h2, fun j y hj => ?_⟩
    obtain ⟨u, h4, h5⟩ := h3 j y hj
    exact ⟨u, h4, elC_imp h5 fun _ b _ h6 => arrR_ext hS' (fun _ _ => rfl) 3 b u h6⟩
  | ptr i o => simp [Cell.view, Cell.ids] at hn
  | ep i sz k o => simp [Cell.view, Cell.ids] at hn
  | _ => exact hx
theorem fv_view (hI : Inv C H) {x : FV} {v : Value} (hx : fvR C x v) (hn : (x.view H).ids = []) : fvR (C.enter [] (· < C.w.heap.size)) (x.view H) v := by
  cases x with
  | c x => exact cell_view hI hx hn
  | agg cs =>
    obtain ⟨vs, h1, h2, h3⟩ := hx
    refine ⟨vs, h1, by rw [List.length_map]; exact h2, fun j y hj => ?_⟩
    rw [List.getElem?_map] at hj
    cases hc : cs[j]? with
    | none => rw [hc] at hj; cases hj
    | some x =>
      rw [hc] at hj
      simp only [Option.map_some, Option.some.injEq] at hj
      subst hj
      obtain ⟨u, h4, h5⟩ := h3 j x hc
      refine ⟨u, h4, cell_view hI h5 ?_⟩
      have := List.mem_of_getElem? hc
      simp only [FV.view, FV.ids, List.flatMap_eq_nil_iff] at hn
      exact hn _ (List.mem_map.2 ⟨x, this, rfl⟩)
theorem aCall_ok {c : Ctr} {r : OpR} (hG : Good P c) (hI : Inv C H) (hfr : ∀ i, n ≤ i → i < r.nid → C.ρ i = none) {args : List FV} {vs : List Value} (hx : valsR C args vs) (hr : aCall c H n args = some r) (hk : r.ok) :
    Calls P c.fid vs.toArray C.w fun e w' => ∃ v, e = .returned v ∧ ∃ C', Left C H n r v w' C' := by
  unfold aCall at hr
  cases hv : c.view with
  | true =>
    rw [hv] at hr
    simp only [cond_true, Ctr.F] at hr
    cases hd : c.dec [] (args.map (FV.view H)) with
    | none => rw [hd] at hr; cases hr
    | some s =>
      rw [hd] at hr
      simp only [Option.map_some] at hr
      cases hb : ((args.all fun x => (x.view H).ids.isEmpty) && (c.out s).1.safe && (c.out s).2.all Blk.safe) with
      | false => rw [hb] at hr; cases hr
      | true =>
        rw [hb] at hr
        simp only [cond_true, Option.some.injEq] at hr
        simp only [Bool.and_eq_true] at hb
        obtain ⟨⟨b1, b2⟩, b3⟩ := hb
        subst hr
        obtain ⟨d1, d2⟩ := hG.dec _ _ _ hd
        have hen : Inv (C.enter [] (· < C.w.heap.size)) (hpOf []) := ⟨fun i => trivial, fun i j b n m h => h.elim, hI.frz, fun b hb => hb⟩
        have hvals := d2 _ vs (valsR_map (fun x hx' v hv => fv_view hI hv (by simpa using List.all_eq_true.1 b1 x hx')) hx)
        refine Calls.mono (hG.run s (C.enter [] (· < C.w.heap.size)) vs (by rw [d1]; exact hen) (fun i _ => by simp [Cx.enter]) hvals (fun p hp => by simpa [OpR.ok, hp] using hk)) fun e w' he => ?_
        obtain ⟨v, C', rfl, rfl, h1, h2⟩ := he
        rw [d1] at h2
        obtain ⟨g1, g2, g3, g4⟩ := back_ok (n := n) (ids := []) hI (fun i h1 h2 => hfr i h1 h2) List.nodup_nil (fun i hi => by cases hi) h2 rfl hI.vis (.inl fun b hb => List.all_eq_true.1 b3 b hb)
        exact ⟨v, rfl, C.back C' n [], rfl, avR_ren (C := C') rfl (fun _ h => h) (.inl b2) g1 h1, g2, g3, g4⟩
  | false =>
    rw [hv] at hr
    simp only [cond_false, Ctr.F] at hr
    cases hid : idsOk H n (gather H 64 (args.flatMap FV.ids) []) args with
    | false => rw [hid] at hr; cases hr
    | true =>
    rw [hid] at hr
    simp only [cond_true] at hr
    generalize gather H 64 (args.flatMap FV.ids) [] = ids at hr hid
    obtain ⟨i1, i2, i3, i4⟩ := idsOk_of hid
    cases hd : c.dec (handed H ids) (args.map (FV.ren fun i => idx i ids)) with
    | none => rw [hd] at hr; cases hr
    | some s =>
      rw [hd] at hr
      simp only [Option.map_some] at hr
      cases hb : stillDead (handed H ids) (c.out s).2 with
      | false => rw [hb] at hr; cases hr
      | true =>
        rw [hb] at hr
        simp only [cond_true, Option.some.injEq] at hr
        subst hr
        obtain ⟨d1, d2⟩ := hG.dec _ _ _ hd
        have hvals := d2 (C.enter ids C.vis) vs (valsR_map (fun x hx' v hv => fvR_ren (C := C) (D := C.enter ids C.vis) rfl (fun _ h => h) (.inr fun _ h => h) (fun i hi p hp => enter_rho (i3 x hx' i hi) hp) hv) hx)
        refine Calls.mono (hG.run s (C.enter ids C.vis) vs (by rw [d1]; exact enter_inv hI i1 i4) (fun i hi => by
          rw [d1] at hi
          have : ids.length ≤ i := by simpa [handed] using hi
          simp only [Cx.enter]
          rw [if_neg (by omega)]) hvals (fun p hp => by simpa [OpR.ok, hp] using hk)) fun e w' he => ?_
        obtain ⟨v, C', rfl, rfl, h1, h2⟩ := he
        rw [d1] at h2
        obtain ⟨g1, g2, g3, g4⟩ := back_ok (n := n) (ids := ids) hI hfr i1 i2 h2 hb (fun _ h => h) (.inr fun _ h => h)
        refine ⟨v, rfl, C.back C' n ids, rfl, avR_ren (C := C') rfl (fun _ h => h) (.inr fun b h => ?_) g1 h1, g2, g3, g4⟩
        have : C'.vis = C.vis := h2.ext.vis
        show C.vis b
        rw [← this]; exact h
end

/-! ### 2. Every operation -/
section
variable {P : Program} {E : Env} {C : Cx} {H : Hp} {n : Nat}
theorem fvs_R {fr : Fr} {a : Act} {π : List (Nat × Bool)} (hF : FrR C fr a.tmps) (hπ : holds π a.tmps) : ∀ {xs : List Operand} {vs : List FV}, fvs (xs.map fun x => opnd fr π x) = some vs → valsR C vs (xs.map a.eval)
  | [], vs, h => by
    simp only [List.map_nil, fvs, Option.some.injEq] at h
    subst h
    trivial
  | x :: xs, vs, h => by
    simp only [List.map_cons, fvs] at h
    cases h1 : asFV (opnd fr π x) with
    | none => rw [h1] at h; cases h
    | some y =>
      rw [h1] at h
      simp only [Option.bind_some] at h
      cases h2 : fvs (xs.map fun x => opnd fr π x) with
      | none => rw [h2] at h; cases h
      | some ys =>
        rw [h2] at h
        simp only [Option.map_some, Option.some.injEq] at h
        subst h
        exact ⟨asFV_R hF hπ h1, fvs_R hF hπ h2⟩
theorem ctrOf_mem : ∀ {G : List Ctr} {f : Nat} {c : Ctr}, ctrOf G f = some c → c ∈ G ∧ c.fid = f
  | x :: G, f, c, h => by
    unfold ctrOf at h
    cases hb : Nat.beq x.fid f with
    | true =>
      rw [hb] at h
      simp only [cond_true, Option.some.injEq] at h
      subst h
      exact ⟨List.mem_cons_self, Nat.eq_of_beq_eq_true hb⟩
    | false =>
      rw [hb] at h
      obtain ⟨h1, h2⟩ := ctrOf_mem (by simpa using h)
      exact ⟨List.mem_cons_of_mem _ h1, h2⟩
theorem aBuildSlice_nid {k : EK} {e : Nat} {raw : Bool} {len : Nat} {js : List Nat} {xs : List FV} {r : OpR} (h : aBuildSlice k e raw len H n js xs = some r) : r.nid = n + 1 := by
  unfold aBuildSlice at h
  cases hb : (Nat.beq xs.length len && Nat.beq js.length len && inOrder js 0 && Nat.ble len 1000 && xs.all (fun x => Nat.beq x.cells.length k.size)) with
  | false => rw [hb] at h; cases h
  | true =>
    rw [hb] at h
    simp only [cond_true] at h
    cases raw with
    | true => simp only [cond_true, Option.some.injEq] at h; subst h; rfl
    | false =>
      simp only [cond_false] at h
      cases hc : ((xs.flatMap FV.cells).all (Cell.lasts H) && nodupN (frozenIds (xs.flatMap FV.cells))) with
      | false => rw [hc] at h; cases h
      | true =>
        rw [hc] at h
        simp only [cond_true] at h
        cases hes : elsOf k (xs.map fun x => x.cells.map (Cell.last H)) with
        | none => rw [hes] at h; cases h
        | some es =>
          rw [hes] at h
          simp only [Option.bind_some] at h
          cases ha : Arr.ofEls k es with
          | none => rw [ha] at h; cases h
          | some a => rw [ha] at h; simp only [Option.map_some, Option.some.injEq] at h; subst h; rfl
theorem aAppend_nid {k : EK} {e : Nat} {s x : Cell} {r : OpR} (h : aAppend k e H n s x = some r) : r.nid = n + 1 := by
  unfold aAppend at h
  cases hs : asSrc k H x with
  | none => rw [hs] at h; cases h
  | some y =>
    rw [hs] at h
    simp only [Option.bind_some] at h
    split at h
    · cases hc : (Arr.nil k).app y.1 with
      | none => rw [hc] at h; cases h
      | some c => rw [hc] at h; simp only [Option.map_some, Option.some.injEq] at h; subst h; rfl
    · split at h
      · rename_i a _
        revert h
        cases (memN _ y.2 || !Nat.beq _ a.esz || !Nat.beq _ k.size || !Nat.beq e _ || !Nat.beq a.ek.code k.code) with
        | true => intro h; cases h
        | false =>
          simp only [cond_false]
          intro h
          cases hc : a.app y.1 with
          | none => rw [hc] at h; cases h
          | some c => rw [hc] at h; simp only [Option.map_some, Option.some.injEq] at h; subst h; rfl
      · cases h
    · cases h
theorem op_val {o : Oper} {a : Act} {r : OpR} {v : Value} (hI : Inv C H) (h : (execOp a.eval o).run P C.w = .ok (.value v) C.w) (hv : avR C r.v v) (hws : r.ws = []) : OpOK P o a C H n r :=
  .inl ⟨v, C.w, h, C, Inv.refl_left hI hws hv⟩
theorem evOp_ok (hE : TyOK P E) (hG : ∀ c ∈ E.G, Good P c) {o : Oper} {π : List (Nat × Bool)} {fr : Fr} {a : Act} {r : OpR} (hF : FrR C fr a.tmps) (hπ : holds π a.tmps) (hI : Inv C H) (hfr : ∀ i, n ≤ i → i < r.nid → C.ρ i = none)
    (hr : evOp E o π fr H n = some r) (hk : r.ok) : OpOK P o a C H n r := by
  unfold evOp at hr
  split at hr
  · -- move
    rename_i x ho
    cases hx : opnd fr π x with
    | none => rw [hx] at hr; cases hr
    | some v =>
      rw [hx] at hr
      simp only [Option.map_some, Option.some.injEq] at hr
      subst hr
      refine op_val hI (v := a.eval x) (by unfold execOp; simp [ho]) ?_ rfl
      rcases opnd_R hF hπ hx with h | h
      · simp only; rw [h]; trivial
      · exact h
  · rename_i x ho
    cases hx : opnd fr π x with
    | none => rw [hx] at hr; cases hr
    | some v =>
      rw [hx] at hr
      simp only [Option.map_some, Option.some.injEq] at hr
      subst hr
      refine op_val hI (v := a.eval x) (by unfold execOp; simp [ho]) ?_ rfl
      rcases opnd_R hF hπ hx with h | h
      · simp only; rw [h]; trivial
      · exact h
  · -- pick
    rename_i d x y ho
    split at hr
    · rename_i g hg
      have hd := asC_R hF hπ hg
      have hdt : a.tmps[d]? = some (.bool g) := by
        have : a.tmps.getD d undef = .bool g := hd
        rw [Array.getD_eq_getD_getElem?] at this
        cases ht : a.tmps[d]? with
        | none => rw [ht] at this; cases this
        | some u => rw [ht] at this; simp only [Option.getD_some] at this; rw [this]
      have hon : ∀ b, g = b → holds ((d, b) :: π) a.tmps := by
        intro b hb e he
        rcases List.mem_cons.1 he with rfl | he
        · rw [← hb]; exact hdt
        · exact hπ e he
      have hrun : (execOp a.eval o).run P C.w = .ok (.value (if g then a.eval x else a.eval y)) C.w := by
        unfold execOp
        have : a.eval (.tmp d) = .bool g := hd
        simp [ho, this, asBool]
      split at hr
      · rename_i u v hu hv
        simp only [okv, Option.some.injEq] at hr
        subst hr
        refine op_val hI hrun ?_ rfl
        cases g with
        | true => exact asC_R hF (hon true rfl) hu
        | false => exact asC_R hF (hon false rfl) hv
      · rename_i u v hu hv
        simp only [okv, Option.some.injEq] at hr
        subst hr
        refine op_val hI hrun ?_ rfl
        cases g with
        | true => exact asC_R hF (hon true rfl) hu
        | false => exact asC_R hF (hon false rfl) hv
      · cases hr
    · cases hr
  · -- alloc
    rename_i t ho
    cases ht : E.T.get t with
    | none => rw [ht] at hr; cases hr
    | some ti =>
      rw [ht] at hr
      simp only [Option.map_some, Option.some.injEq] at hr
      subst hr
      obtain ⟨v, w', h1, C', h2⟩ := alloc_ok (hE.T.get ht) hI (hfr n (Nat.le_refl _) (Nat.lt_succ_self _))
      exact .inl ⟨v, w', by unfold execOp; simp [ho, h1], C', h2⟩
  · -- box
    rename_i t x ho
    cases hx : asFV (opnd fr π x) with
    | none => rw [hx] at hr; cases hr
    | some v =>
      rw [hx] at hr
      simp only [Option.map_some, Option.some.injEq] at hr
      subst hr
      obtain ⟨u, w', h1, C', h2⟩ := box_ok (P := P) (t := t) hI (hfr n (Nat.le_refl _) (Nat.lt_succ_self _)) (asFV_R hF hπ hx)
      exact .inl ⟨u, w', by unfold execOp; simp [ho, h1], C', h2⟩
  · -- load
    rename_i t x ho
    cases ht : E.T.get t with
    | none => rw [ht] at hr; cases hr
    | some ti =>
      rw [ht] at hr
      cases hx : asC (opnd fr π x) with
      | none => rw [hx] at hr; cases hr
      | some p =>
        rw [hx] at hr
        simp only [Option.bind_some] at hr
        obtain ⟨u, h1, h2, h3⟩ := aLoad_ok (hE.T.get ht) hI (asC_R hF hπ hx) hr hk
        exact op_val hI (by unfold execOp; simp [ho, h1]) h2 h3
  · -- store
    rename_i t x y ho
    cases ht : E.T.get t with
    | none => rw [ht] at hr; cases hr
    | some ti =>
      rw [ht] at hr
      cases hx : asC (opnd fr π x) with
      | none => rw [hx] at hr; cases hr
      | some p =>
        rw [hx] at hr
        cases hy : asFV (opnd fr π y) with
        | none => rw [hy] at hr; cases hr
        | some v =>
          rw [hy] at hr
          simp only [Option.bind_some] at hr
          obtain ⟨w', h1, C', h2⟩ := aStore_ok (hE.T.get ht) hI (asC_R hF hπ hx) (fv_cells (asFV_R hF hπ hy)) hr hk
          exact .inr (.inl ⟨w', by unfold execOp; simp [ho, h1], C', h2⟩)
  · -- nilCheck
    rename_i x ho
    split at hr
    · rename_i i k hx
      simp only [okv, Option.some.injEq] at hr
      subst hr
      have h1 := asC_R hF hπ hx
      obtain ⟨b, m, h2, h3⟩ := h1
      exact op_val hI (v := a.eval x) (by unfold execOp; simp [ho, h3]) ⟨b, m, h2, h3⟩ rfl
    · rename_i i sz k q hx
      simp only [okv, Option.some.injEq] at hr
      subst hr
      have h1 := asC_R hF hπ hx
      obtain ⟨b, m, h2, h3⟩ := h1
      exact op_val hI (v := a.eval x) (by unfold execOp; simp [ho, h3]) ⟨b, m, h2, h3⟩ rfl
    · rename_i z e q hx
      simp only [okv, Option.some.injEq] at hr
      subst hr
      have h1 := asC_R hF hπ hx
      obtain ⟨ad, h2, h3⟩ := h1
      exact op_val hI (v := a.eval x) (by unfold execOp; simp [ho, h2]) ⟨ad, h2, h3⟩ rfl
    · cases hr
  · -- binOp
    rename_i op t x y ty ho
    cases hx : asFV (opnd fr π x) with
    | none => rw [hx] at hr; cases hr
    | some u =>
      rw [hx] at hr
      cases hy : asFV (opnd fr π y) with
      | none => rw [hy] at hr; cases hr
      | some v =>
        rw [hy] at hr
        simp only [Option.bind_some] at hr
        obtain ⟨z, h1, h2, h3⟩ := aBin_ok (X := x) (Y := y) hE (asFV_R hF hπ hx) (asFV_R hF hπ hy) hr hk
        refine op_val hI (v := z) ?_ h2 h3
        unfold execOp
        simp only [ho]
        rw [Sem.run_bind, h1]
        rfl
  · -- not
    rename_i t x ho
    split at hr
    · rename_i b hx
      simp only [okv, Option.some.injEq] at hr
      subst hr
      have h1 : a.eval x = .bool b := asC_R hF hπ hx
      exact op_val hI (v := .bool (!b)) (by unfold execOp; simp [ho, h1, Op.unary]) rfl rfl
    · cases hr
  · -- neg
    rename_i t x ho
    split at hr
    · rename_i b hx
      simp only [okv, Option.some.injEq] at hr
      subst hr
      have h1 : a.eval x = .int .i64 b := asC_R hF hπ hx
      exact op_val hI (v := .int .i64 (wrap (0 - b))) (by unfold execOp; simp [ho, h1, Op.unary, Op.intArith, wrap]) rfl rfl
    · cases hr
  · -- fieldAddr
    rename_i t x f ho
    cases ht : E.T.get t with
    | none => rw [ht] at hr; cases hr
    | some ti =>
      rw [ht] at hr
      cases hx : asC (opnd fr π x) with
      | none => rw [hx] at hr; cases hr
      | some p =>
        rw [hx] at hr
        simp only [Option.bind_some] at hr
        cases hf : Nat.blt f ti.offs.length with
        | false => rw [hf] at hr; cases hr
        | true =>
          rw [hf] at hr
          simp only [cond_true] at hr
          obtain ⟨z, h1, h2, h3⟩ := aFieldAddr_ok (hE.T.get ht) (Nat.le_of_ble_eq_true hf) (asC_R hF hπ hx) hr
          exact op_val hI (by unfold execOp; simp [ho, h1]) h2 h3
  · -- indexAddr
    rename_i t x i ho
    cases ht : elemOf E.T t with
    | none => rw [ht] at hr; cases hr
    | some te =>
      rw [ht] at hr
      simp only [Option.bind_some] at hr
      obtain ⟨u1, u2, _, _⟩ := elemOf_ok hE.T ht
      split at hr
      · rename_i y j hx hi
        have h0 : a.eval i = .int .i64 j := asC_R hF hπ hi
        obtain ⟨z, h1, h2, h3⟩ := aIndexAddr_ok u1 u2 hI (asC_R hF hπ hx) hr hk
        exact op_val hI (by unfold execOp; simp [ho, h0, h1]) h2 h3
      · cases hr
  · -- build
    rename_i t parts ho
    cases ht : E.T.get t with
    | none => rw [ht] at hr; cases hr
    | some ti =>
      rw [ht] at hr
      simp only [Option.bind_some] at hr
      cases he : (ti.offs.isEmpty && !(parts.isEmpty && ti.agg)) with
      | true => rw [he] at hr; cases hr
      | false =>
        rw [he] at hr
        simp only [cond_false] at hr
        cases hx : fvs (parts.toList.map fun e => opnd fr π e.2) with
        | none => rw [hx] at hr; cases hr
        | some xs =>
          rw [hx] at hr
          simp only [Option.bind_some] at hr
          cases hf : fill ti.offs ti.fsz ((parts.toList.map (·.1)).zip xs) ti.zero with
          | none => rw [hf] at hr; cases hr
          | some cs =>
            rw [hf] at hr
            simp only [Option.map_some, Option.some.injEq] at hr
            subst hr
            have hv : valsR C xs ((parts.map fun (x : Nat × Operand) => (x.1, a.eval x.2)).toList.map (·.2)) := by
              have : (parts.toList.map fun e => opnd fr π e.2) = (parts.toList.map (·.2)).map fun x => opnd fr π x := by rw [List.map_map]; rfl
              rw [this] at hx
              have h := fvs_R hF hπ hx
              simpa [List.map_map, Function.comp_def] using h
            obtain ⟨u, h1, h2⟩ := build_ok (hE.T.get ht) hv (by
              rw [Bool.and_eq_false_iff] at he
              rcases he with he | he
              · exact .inl fun h => by rw [h] at he; cases he
              · simp only [Bool.not_eq_false', Bool.and_eq_true] at he
                exact .inr ⟨by simpa using he.1, he.2⟩) (by simpa [List.map_map, Function.comp_def] using hf)
            exact op_val hI (v := u) (by unfold execOp; simp [ho, h1]) h2 rfl
  · -- buildSlice
    rename_i t len parts ho
    cases ht : elemOf E.T t with
    | none => rw [ht] at hr; cases hr
    | some te =>
      rw [ht] at hr
      simp only [Option.bind_some] at hr
      obtain ⟨u1, u2, _, _⟩ := elemOf_ok hE.T ht
      cases hke : te.2.ek with
      | none => rw [hke] at hr; cases hr
      | some k =>
        rw [hke] at hr
        simp only [Option.bind_some] at hr
        cases hx : fvs (parts.toList.map fun e => opnd fr π e.2) with
        | none => rw [hx] at hr; cases hr
        | some xs =>
          rw [hx] at hr
          simp only [Option.bind_some] at hr
          have hv : valsR C xs ((parts.map fun (x : Nat × Operand) => (x.1, a.eval x.2)).toList.map (·.2)) := by
            have : (parts.toList.map fun e => opnd fr π e.2) = (parts.toList.map (·.2)).map fun x => opnd fr π x := by rw [List.map_map]; rfl
            rw [this] at hx
            have h := fvs_R hF hπ hx
            simpa [List.map_map, Function.comp_def] using h
          obtain ⟨u, w', h1, C', h2⟩ := buildSlice_ok (len := len) u1 u2 hke hI (hfr n (Nat.le_refl _) (by rw [aBuildSlice_nid hr]; exact Nat.lt_succ_self _)) hv (by simpa [List.map_map, Function.comp_def] using hr)
          exact .inl ⟨u, w', by unfold execOp; simp [ho, h1], C', h2⟩
  · -- makeSlice
    rename_i t x y ho
    cases ht : elemOf E.T t with
    | none => rw [ht] at hr; cases hr
    | some te =>
      rw [ht] at hr
      simp only [Option.bind_some] at hr
      obtain ⟨u1, u2, u3, ti, u4, u5⟩ := elemOf_ok hE.T ht
      cases hke : te.2.ek with
      | none => rw [hke] at hr; cases hr
      | some k =>
        rw [hke] at hr
        simp only [Option.bind_some] at hr
        split at hr
        · rename_i p q hp hq
          simp only [Option.some.injEq] at hr
          subst hr
          have e1 : a.eval x = .int .i64 p := asC_R hF hπ hp
          have e2 : a.eval y = .int .i64 q := asC_R hF hπ hq
          obtain ⟨v, w', h1, C', h2⟩ := make_ok (P := P) u4 (by rw [u5]; exact u2) hke (by rw [u5]; exact u3) hI (hfr n (Nat.le_refl _) (Nat.lt_succ_self _)) hk
          rw [u5] at h2
          exact .inl ⟨v, w', by unfold execOp; simp [ho, e1, e2, h1], C', h2⟩
        · cases hr
  · -- makeInterface
    rename_i t x ho
    cases ht : E.T.get t with
    | none => rw [ht] at hr; cases hr
    | some ti =>
      rw [ht] at hr
      simp only [Option.bind_some] at hr
      split at hr
      · rename_i hx
        cases hb : (ti.agg && Nat.blt 0 t) with
        | false => rw [hb] at hr; cases hr
        | true =>
          rw [hb] at hr
          simp only [cond_true, okv, Option.some.injEq] at hr
          subst hr
          rw [Bool.and_eq_true] at hb
          obtain ⟨vs, h1, h2, _⟩ := asFV_R hF hπ hx
          have h0 : vs = #[] := Array.eq_empty_of_size_eq_zero (by simpa using h2)
          subst h0
          obtain ⟨d, hd1, hd2, -, -⟩ := (hE.T.get ht).d
          have ht0 : 0 < t := Nat.le_of_ble_eq_true hb.2
          rw [hb.1] at hd2
          refine op_val hI (v := .iface t (.agg #[])) ?_ ?_ rfl
          · unfold execOp
            cases d <;> simp [isRowD] at hd2 <;> simp [ho, h1, Instr.makeInterface, run_underlying hd1]
          · show _ = ifcVal t
            unfold ifcVal
            rw [if_neg (Nat.pos_iff_ne_zero.1 ht0)]
      · cases hr
  · -- typeAssert
    rename_i x t0 t okb ho
    cases okb with
    | false => cases hr
    | true =>
    simp only [Bool.not_true, cond_false] at hr
    cases ht : E.T.get t with
    | none => rw [ht] at hr; cases hr
    | some ti =>
      rw [ht] at hr
      simp only [Option.bind_some] at hr
      split at hr
      · rename_i k hx
        cases hb : (ti.agg && ti.zv.isEmpty && Nat.blt 0 t) with
        | false => rw [hb] at hr; cases hr
        | true =>
          rw [hb] at hr
          simp only [cond_true, Option.some.injEq] at hr
          subst hr
          simp only [Bool.and_eq_true] at hb
          obtain ⟨⟨b1, b2⟩, b3⟩ := hb
          have h0 : a.eval x = ifcVal k := asC_R hF hπ hx
          obtain ⟨d, hd1, hd2, -, -⟩ := (hE.T.get ht).d
          rw [b1] at hd2
          have ht0 : 0 < t := Nat.le_of_ble_eq_true b3
          obtain ⟨z, hz1, hz2⟩ := (hE.T.get ht).run_zero C.w
          have hz : z = .agg #[] := by
            rw [List.isEmpty_iff.1 b2] at hz2
            cases z <;> simp [Value.cells] at hz2
            rw [hz2]
          subst hz
          refine op_val hI (v := .tuple #[.agg #[], .bool (Nat.beq k t)]) ?_ ?_ rfl
          · unfold execOp
            unfold ifcVal at h0
            by_cases hk0 : k = 0
            · subst hk0
              rw [if_pos rfl] at h0
              have hbt : Nat.beq 0 t = false := by
                cases hb : Nat.beq 0 t with
                | false => rfl
                | true => exact absurd (Nat.eq_of_beq_eq_true hb) (fun e => Nat.lt_irrefl 0 (Nat.lt_of_lt_of_eq ht0 e.symm))
              cases d <;> simp [isRowD] at hd2 <;> simp [ho, h0, Instr.typeAssert, run_underlying hd1, hz1, hbt]
            · rw [if_neg hk0] at h0
              by_cases hkt : k = t
              · subst hkt
                have hbt : Nat.beq k k = true := Nat.beq_refl k
                cases d <;> simp [isRowD] at hd2 <;> simp [ho, h0, Instr.typeAssert, run_underlying hd1, hbt]
              · have hbt : Nat.beq k t = false := by
                  cases hb : Nat.beq k t with
                  | false => rfl
                  | true => exact absurd (Nat.eq_of_beq_eq_true hb) hkt
                cases d <;> simp [isRowD] at hd2 <;> simp [ho, h0, Instr.typeAssert, run_underlying hd1, hz1, hbt, hkt]
          · refine ⟨_, rfl, rfl, fun j y hj => ?_⟩
            match j, hj with
            | 0, hj =>
              simp only [List.getElem?_cons_zero, Option.some.injEq] at hj
              subst hj
              exact ⟨_, rfl, #[], rfl, rfl, fun j x h => by simp at h⟩
            | 1, hj =>
              simp only [List.getElem?_cons_succ, List.getElem?_cons_zero, Option.some.injEq] at hj
              subst hj
              exact ⟨_, rfl, rfl⟩
            | j + 2, hj => simp at hj
      · cases hr
  · -- extract
    rename_i x i ho
    split at hr
    · rename_i xs hx
      cases hi : xs[i]? with
      | none => rw [hi] at hr; cases hr
      | some v =>
        rw [hi] at hr
        simp only [Option.map_some, Option.some.injEq] at hr
        subst hr
        rcases opnd_R hF hπ hx with h | h
        · cases h
        · obtain ⟨vs, h1, h2, h3⟩ := h
          obtain ⟨u, h4, h5⟩ := h3 i v hi
          exact op_val hI (v := u) (by unfold execOp; simp [ho, h1, Instr.extract, h4]) h5 rfl
    · cases hr
  · -- len
    rename_i c1 args ats ho
    split at hr
    · rename_i x t hargs hats
      cases ht : elemOf E.T t with
      | none => rw [ht] at hr; cases hr
      | some te =>
        rw [ht] at hr
        simp only [Option.bind_some] at hr
        obtain ⟨u1, _⟩ := elemOf_ok hE.T ht
        cases hx : asC (opnd fr π x) with
        | none => rw [hx] at hr; cases hr
        | some c =>
          rw [hx] at hr
          simp only [Option.bind_some] at hr
          obtain ⟨z, h1, h2, h3⟩ := aLen_ok (P := P) (ty := o.type) u1 hI (asC_R hF hπ hx) hr
          have e1 : args = #[x] := Array.ext' (by simpa using hargs)
          have e2 : ats = #[t] := Array.ext' (by simpa using hats)
          subst e1 e2
          exact op_val hI (v := z) (by unfold execOp; simp [ho, resolve, invoke, builtin, h1]) h2 h3
    · cases hr
  · -- append
    rename_i c1 args ats ho
    split at hr
    · rename_i s x t u hargs hats
      cases htu : Nat.beq t u with
      | false => rw [htu] at hr; cases hr
      | true =>
        rw [htu] at hr
        simp only [cond_true] at hr
        have htu := Nat.eq_of_beq_eq_true htu
        subst htu
        cases ht : elemOf E.T t with
        | none => rw [ht] at hr; cases hr
        | some te =>
          rw [ht] at hr
          simp only [Option.bind_some] at hr
          obtain ⟨u1, u2, _, _⟩ := elemOf_ok hE.T ht
          cases hke : te.2.ek with
          | none => rw [hke] at hr; cases hr
          | some k =>
            rw [hke] at hr
            simp only [Option.bind_some] at hr
            cases hs : asC (opnd fr π s) with
            | none => rw [hs] at hr; cases hr
            | some cs =>
              rw [hs] at hr
              cases hx : asC (opnd fr π x) with
              | none => rw [hx] at hr; cases hr
              | some cx =>
                rw [hx] at hr
                simp only [Option.bind_some] at hr
                obtain ⟨v, w', h1, C', h2⟩ := append_ok (P := P) (ty := o.type) u1 u2 hke hI (hfr n (Nat.le_refl _) (by rw [aAppend_nid hr]; exact Nat.lt_succ_self _)) (asC_R hF hπ hs) (asC_R hF hπ hx) hr hk
                have e1 : args = #[s, x] := Array.ext' (by simpa using hargs)
                have e2 : ats = #[t, t] := Array.ext' (by simpa using hats)
                subst e1 e2
                exact .inl ⟨v, w', by unfold execOp; simp [ho, resolve, invoke, builtin, h1], C', h2⟩
    · cases hr
  · -- a function
    rename_i c1 f args ats ho
    cases hc : ctrOf E.G f with
    | none => rw [hc] at hr; cases hr
    | some c =>
      rw [hc] at hr
      simp only [Option.bind_some] at hr
      cases hx : fvs (args.toList.map (opnd fr π)) with
      | none => rw [hx] at hr; cases hr
      | some xs =>
        rw [hx] at hr
        simp only [Option.bind_some] at hr
        obtain ⟨m1, m2⟩ := ctrOf_mem hc
        have hg := hG c m1
        have h := aCall_ok hg hI hfr (fvs_R hF hπ hx) hr hk
        obtain ⟨fn, f1, f2, f3⟩ := hg.fn
        rw [m2] at f1 h
        refine .inr (.inr ⟨f, (args.toList.map a.eval).toArray, ?_, h⟩)
        unfold execOp
        have f3' : ¬ fn.name = "runtime.NumGoroutine" := by simpa using f3
        have f2' : fn.body ≠ none := by intro h; rw [h] at f2; cases f2
        have e : Array.map a.eval args = (args.toList.map a.eval).toArray := Array.ext' (by simp)
        simp [ho, resolve, Deferred.ofValue, invoke, callFunc, Act.eval, f1, f3', f2', e]
  · cases hr
end
end Hw
end Go.Proofs.Ytfboldbfbmmahaa
