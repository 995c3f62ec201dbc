/- What an operation says hangs on its operands and on the blocks that it reads alone. -/
import Derived.Test.YtfboldbfbmmahaaX14
set_option linter.unusedVariables false
set_option linter.unusedSimpArgs false
namespace Go.Proofs.Ytfboldbfbmmahaa
namespace Hw
open Go
section
variable {E : Env} {H H' : Hp} {n : Nat}
theorem aLoad_loc {ti : TI} {p : Cell} {r : OpR} (h : aLoad ti H n p = some r) (hH : ∀ j ∈ r.rd, H' j = H j) : aLoad ti H' n p = some r := by
  unfold aLoad at h ⊢
  split at h
  · rename_i i o
    cases hHi : H i with
    | dead => rw [hHi] at h; cases h
    | arr a => rw [hHi] at h; cases h
    | raw m cs =>
      rw [hHi] at h
      simp only at h
      cases hb : Nat.ble (Nat.add o ti.size) cs.length with
      | false => rw [hb] at h; cases h
      | true =>
        have h' := h
        rw [hb] at h'
        simp only [cond_true] at h'
        cases hv : fvOfCells ti.agg ((cs.drop o).take ti.size) with
        | none => rw [hv] at h'; cases h'
        | some v =>
          rw [hv] at h'
          simp only [Option.map_some, Option.some.injEq] at h'
          subst h'
          simp only [hH i (by simp), hHi]
          exact h
  · rename_i i sz k o
    cases hHi : H i with
    | dead => rw [hHi] at h; cases h
    | raw m cs => rw [hHi] at h; cases h
    | arr a =>
      rw [hHi] at h
      simp only at h
      cases hb : (Nat.beq sz a.esz && Nat.ble (Nat.add o ti.size) a.esz) with
      | false => rw [hb] at h; cases h
      | true =>
        have h' := h
        rw [hb] at h'
        simp only [cond_true] at h'
        cases hv : fvOfCells ti.agg ((((a.get k).cells true).drop o).take ti.size) with
        | none => rw [hv] at h'; cases h'
        | some v =>
          rw [hv] at h'
          simp only [Option.map_some, Option.some.injEq] at h'
          subst h'
          simp only [hH i (by simp), hHi]
          exact h
  · exact h
  · cases h
theorem frozen_loc {xs : List Cell} (hH : ∀ j ∈ frozenIds xs, H' j = H j) : xs.all (Cell.lasts H') = xs.all (Cell.lasts H) ∧ xs.map (Cell.last H') = xs.map (Cell.last H) := by
  have key : ∀ x ∈ xs, x.lasts H' = x.lasts H ∧ x.last H' = x.last H := by
    intro x hx
    cases x with
    | own i sz e =>
      have : i ∈ frozenIds xs := List.mem_flatMap.2 ⟨_, hx, by simp⟩
      simp only [Cell.lasts, Cell.last, hH i this, and_self]
    | _ => exact ⟨rfl, rfl⟩
  constructor
  · clear hH
    induction xs with
    | nil => rfl
    | cons x xs ih => rw [List.all_cons, List.all_cons, (key x List.mem_cons_self).1, ih fun y hy => key y (List.mem_cons_of_mem _ hy)]
  · exact List.map_congr_left fun x hx => (key x hx).2
theorem aStore_loc {ti : TI} {p : Cell} {xs : List Cell} {r : OpR} (h : aStore ti H n p xs = some r) (hH : ∀ j ∈ r.rd, H' j = H j) : aStore ti H' n p xs = some r := by
  unfold aStore at h ⊢
  cases hl : Nat.beq xs.length ti.size with
  | false => rw [hl] at h; cases h
  | true =>
  rw [hl] at h
  simp only [cond_true] at h ⊢
  split at h
  · rename_i i o
    cases hHi : H i with
    | dead => rw [hHi] at h; cases h
    | arr a => rw [hHi] at h; cases h
    | raw m cs =>
      rw [hHi] at h
      simp only at h
      have h' := h
      cases hb : Nat.ble (Nat.add o xs.length) cs.length with
      | false => rw [hb] at h'; cases h'
      | true =>
        rw [hb] at h'
        simp only [cond_true, Option.some.injEq] at h'
        subst h'
        simp only [hH i (by simp), hHi]
        exact h
  · rename_i i sz k o
    cases hHi : H i with
    | dead => rw [hHi] at h; cases h
    | raw m cs => rw [hHi] at h; cases h
    | arr a =>
      rw [hHi] at h
      simp only at h
      have h' := h
      cases hb : (Nat.beq sz a.esz && Nat.ble (Nat.add o xs.length) a.esz && xs.all (Cell.lasts H) && nodupN (i :: frozenIds xs)) with
      | false => rw [hb] at h'; cases h'
      | true =>
        rw [hb] at h'
        simp only [cond_true] at h'
        cases he : El.ofCells a.ek (splice ((a.get k).cells true) o (xs.map (Cell.last H))) with
        | none => rw [he] at h'; cases h'
        | some e =>
          rw [he] at h'
          simp only [Option.bind_some] at h'
          cases hs : a.set k e with
          | none => rw [hs] at h'; cases h'
          | some b =>
            rw [hs] at h'
            simp only [Option.bind_some, Option.some.injEq] at h'
            subst h'
            obtain ⟨f1, f2⟩ := frozen_loc (H := H) (H' := H') (xs := xs) (fun j hj => hH j (List.mem_cons_of_mem _ hj))
            simp only [hH i List.mem_cons_self, hHi, f1, f2]
            exact h
  · cases h
theorem aLen_loc {x : Cell} {r : OpR} (h : aLen H n x = some r) (hH : ∀ j ∈ r.rd, H' j = H j) : aLen H' n x = some r := by
  unfold aLen at h ⊢
  split at h
  · exact h
  · rename_i i _ _
    cases hHi : H i with
    | dead => rw [hHi] at h; cases h
    | raw m cs =>
      rw [hHi] at h
      simp only [Option.some.injEq] at h
      subst h
      simp only [hH i (by simp), hHi]
    | arr a =>
      rw [hHi] at h
      simp only [Option.some.injEq] at h
      subst h
      simp only [hH i (by simp), hHi]
  · exact h
  · cases h
theorem aIndexAddr_loc {s : Nat} {x : Cell} {i : Int} {r : OpR} (h : aIndexAddr s H n x i = some r) (hH : ∀ j ∈ r.rd, H' j = H j) : aIndexAddr s H' n x i = some r := by
  unfold aIndexAddr at h ⊢
  split at h
  · exact h
  · rename_i j sz _
    cases hb : Nat.beq s sz with
    | false => rw [hb] at h; cases h
    | true =>
    rw [hb] at h
    simp only [Bool.not_true, cond_false] at h ⊢
    cases hHi : H j with
    | dead => rw [hHi] at h; cases h
    | raw m cs =>
      rw [hHi] at h
      simp only [Option.some.injEq] at h
      subst h
      simp only [hH j (by simp), hHi]
    | arr a =>
      rw [hHi] at h
      simp only [Option.some.injEq] at h
      subst h
      simp only [hH j (by simp), hHi]
  · cases h
theorem asSrc_loc {k : EK} {x : Cell} {y : Arr × List Nat} (h : asSrc k H x = some y) (hH : ∀ j ∈ y.2, H' j = H j) : asSrc k H' x = some y := by
  unfold asSrc at h ⊢
  split at h
  · exact h
  · exact h
  · rename_i j sz _
    cases hHi : H j with
    | dead => rw [hHi] at h; cases h
    | raw m cs => rw [hHi] at h; cases h
    | arr a =>
      rw [hHi] at h
      simp only at h
      cases hb : Nat.beq sz a.esz with
      | false => rw [hb] at h; cases h
      | true =>
        rw [hb] at h
        simp only [cond_true, Option.some.injEq] at h
        subst h
        simp only [hH j (by simp), hHi, hb, cond_true]
  · cases h
theorem aAppend_loc {k : EK} {e : Nat} {s x : Cell} {r : OpR} (h : aAppend k e H n s x = some r) (hH : ∀ j ∈ r.rd, H' j = H j) : aAppend k e H' n s x = some r := by
  unfold aAppend at h ⊢
  cases hs : asSrc k H x with
  | none => rw [hs] at h; cases h
  | some y =>
    rw [hs] at h
    simp only [Option.bind_some] at h
    split at h
    · cases hc : (Arr.nil k).app y.1 with
      | none => rw [hc] at h; cases h
      | some c =>
        rw [hc] at h
        simp only [Option.map_some, Option.some.injEq] at h
        subst h
        rw [asSrc_loc hs hH]
        simp only [Option.bind_some, hc, Option.map_some]
    · rename_i i sz' e'
      cases hHi : H i with
      | dead => rw [hHi] at h; cases h
      | raw m cs => rw [hHi] at h; cases h
      | arr a =>
        rw [hHi] at h
        simp only at h
        cases hb : (memN i y.2 || !Nat.beq sz' a.esz || !Nat.beq sz' k.size || !Nat.beq e e' || !Nat.beq a.ek.code k.code) with
        | true => rw [hb] at h; cases h
        | false =>
          rw [hb] at h
          simp only [cond_false] at h
          cases hc : a.app y.1 with
          | none => rw [hc] at h; cases h
          | some c =>
            rw [hc] at h
            simp only [Option.map_some, Option.some.injEq] at h
            subst h
            rw [asSrc_loc hs fun j hj => hH j (List.mem_cons_of_mem _ hj)]
            simp only [Option.bind_some, hH i List.mem_cons_self, hHi, hb, cond_false, hc, Option.map_some]
    · cases h
theorem aBuildSlice_loc {k : EK} {e : Nat} {raw : Bool} {len : Nat} {js : List Nat} {xs : List FV} {r : OpR} (h : aBuildSlice k e raw len H n js xs = some r) (hH : ∀ j ∈ r.rd, H' j = H j) : aBuildSlice k e raw len H' n js xs = some r := by
  unfold aBuildSlice at h ⊢
  cases hb : (Nat.beq xs.length len && Nat.beq js.length len && inOrder js 0 && Nat.ble len 1000 && xs.all (fun x => Nat.beq x.cells.length k.size)) with
  | false => rw [hb] at h; cases h
  | true =>
    rw [hb] at h
    simp only [cond_true] at h ⊢
    cases raw with
    | true => exact h
    | false =>
      simp only [cond_false] at h ⊢
      have h' := h
      cases hc : ((xs.flatMap FV.cells).all (Cell.lasts H) && nodupN (frozenIds (xs.flatMap FV.cells))) with
      | false => rw [hc] at h'; cases h'
      | true =>
        rw [hc] at h'
        simp only [cond_true] at h'
        cases hes : elsOf k (xs.map fun x => x.cells.map (Cell.last H)) with
        | none => rw [hes] at h'; cases h'
        | some es =>
          rw [hes] at h'
          simp only [Option.bind_some] at h'
          cases ha : Arr.ofEls k es with
          | none => rw [ha] at h'; cases h'
          | some a =>
            rw [ha] at h'
            simp only [Option.map_some, Option.some.injEq] at h'
            subst h'
            obtain ⟨f1, f2⟩ := frozen_loc (H := H) (H' := H') (xs := xs.flatMap FV.cells) hH
            have f3 : (xs.map fun x => x.cells.map (Cell.last H')) = xs.map fun x => x.cells.map (Cell.last H) := by
              refine List.map_congr_left fun x hx => (frozen_loc (H := H) (H' := H') (xs := x.cells) fun j hj => hH j ?_).2
              obtain ⟨y, hy, hj⟩ := List.mem_flatMap.1 hj
              exact List.mem_flatMap.2 ⟨y, List.mem_flatMap.2 ⟨x, hx, hy⟩, hj⟩
            simp only [f1, f3]
            exact h
theorem gather_sub (H : Hp) : ∀ (f : Nat) (l acc : List Nat), ∀ i ∈ acc, i ∈ gather H f l acc
  | 0, l, acc, i, h => h
  | f + 1, [], acc, i, h => h
  | f + 1, j :: r, acc, i, h => by
    unfold gather
    cases memN j acc with
    | true => exact gather_sub H f r acc i h
    | false => exact gather_sub H f _ _ i (List.mem_append_left _ h)
theorem gather_loc : ∀ (f : Nat) (l acc : List Nat), (∀ j ∈ gather H f l acc, H' j = H j) → gather H' f l acc = gather H f l acc
  | 0, l, acc, _ => rfl
  | f + 1, [], acc, _ => rfl
  | f + 1, j :: r, acc, h => by
    unfold gather at h ⊢
    cases hm : memN j acc with
    | true => rw [hm] at h; exact gather_loc f r acc h
    | false =>
      rw [hm] at h
      simp only [cond_false] at h ⊢
      have hj : H' j = H j := h j (gather_sub H f _ _ j (List.mem_append_right _ (List.mem_singleton.2 rfl)))
      rw [hj]
      exact gather_loc f _ _ h
theorem view_loc {x : FV} (hH : ∀ j ∈ x.ids, H' j = H j) : x.view H' = x.view H := by
  have key : ∀ c : Cell, (∀ j ∈ c.ids, H' j = H j) → c.view H' = c.view H := by
    intro c hc
    cases c with
    | own i sz e => simp only [Cell.view, hc i (by simp [Cell.ids])]
    | _ => rfl
  cases x with
  | c x => simp only [FV.view, key x hH]
  | agg cs =>
    simp only [FV.view]
    congr 1
    exact List.map_congr_left fun c hc => key c fun j hj => hH j (List.mem_flatMap.2 ⟨c, hc, hj⟩)
theorem aCall_loc {c : Ctr} {args : List FV} {r : OpR} (h : aCall c H n args = some r) (hH : ∀ j ∈ r.rd, H' j = H j) : aCall c H' n args = some r := by
  unfold aCall at h ⊢
  cases hv : c.view with
  | true =>
    rw [hv] at h
    simp only [cond_true] at h ⊢
    have h' := h
    cases hF : c.F [] (args.map (FV.view H)) with
    | none => rw [hF] at h'; cases h'
    | some y =>
      obtain ⟨p, q, bs⟩ := y
      rw [hF] at h'
      simp only at h'
      cases hb : ((args.all fun x => (x.view H).ids.isEmpty) && q.safe && bs.all Blk.safe) with
      | false => rw [hb] at h'; cases h'
      | true =>
        rw [hb] at h'
        simp only [cond_true, Option.some.injEq] at h'
        subst h'
        have e1 : ∀ x ∈ args, x.view H' = x.view H := fun x hx => view_loc fun j hj => hH j (List.mem_flatMap.2 ⟨x, hx, hj⟩)
        have e2 : args.map (FV.view H') = args.map (FV.view H) := List.map_congr_left e1
        have e3 : (args.all fun x => (x.view H').ids.isEmpty) = args.all fun x => (x.view H).ids.isEmpty := by
          clear h hb hF hH e2
          induction args with
          | nil => rfl
          | cons x xs ih => rw [List.all_cons, List.all_cons, e1 x List.mem_cons_self, ih fun y hy => e1 y (List.mem_cons_of_mem _ hy)]
        rw [e2, e3]
        exact h
  | false =>
    rw [hv] at h
    simp only [cond_false] at h ⊢
    have h' := h
    cases hid : idsOk H n (gather H 64 (args.flatMap FV.ids) []) args with
    | false => rw [hid] at h'; cases h'
    | true =>
      rw [hid] at h'
      simp only [cond_true] at h'
      cases hF : c.F (handed H (gather H 64 (args.flatMap FV.ids) [])) (args.map (FV.ren fun i => idx i (gather H 64 (args.flatMap FV.ids) []))) with
      | none => rw [hF] at h'; cases h'
      | some y =>
        obtain ⟨p, q, bs⟩ := y
        rw [hF] at h'
        simp only at h'
        cases hb : stillDead (handed H (gather H 64 (args.flatMap FV.ids) [])) bs with
        | false => rw [hb] at h'; cases h'
        | true =>
          rw [hb] at h'
          simp only [cond_true, Option.some.injEq] at h'
          subst h'
          have hg : gather H' 64 (args.flatMap FV.ids) [] = gather H 64 (args.flatMap FV.ids) [] := gather_loc _ _ _ hH
          have hh : handed H' (gather H 64 (args.flatMap FV.ids) []) = handed H (gather H 64 (args.flatMap FV.ids) []) :=
            List.map_congr_left fun j hj => by simp only [hH j hj]
          have hi : idsOk H' n (gather H 64 (args.flatMap FV.ids) []) args = idsOk H n (gather H 64 (args.flatMap FV.ids) []) args := by
            unfold idsOk
            congr 1
            have : ∀ (l : List Nat), (∀ j ∈ l, H' j = H j) → (l.all fun j => allIn (H' j).ids (gather H 64 (args.flatMap FV.ids) [])) = l.all fun j => allIn (H j).ids (gather H 64 (args.flatMap FV.ids) []) := by
              intro l
              induction l with
              | nil => intro _; rfl
              | cons x l ih => intro hl; rw [List.all_cons, List.all_cons, hl x List.mem_cons_self, ih fun y hy => hl y (List.mem_cons_of_mem _ hy)]
            exact this _ hH
          rw [hg, hh, hi]
          exact h
theorem evOp_loc {o : Oper} {π : List (Nat × Bool)} {fr fr' : Fr} {r : OpR} (hf : ∀ t, Operand.tmp t ∈ o.op.operands.toList → fr' t = fr t) (hH : ∀ j ∈ r.rd, H' j = H j) (h : evOp E o π fr H n = some r) : evOp E o π fr' H' n = some r := by
  have ho : ∀ x ∈ o.op.operands.toList, ∀ π, opnd fr' π x = opnd fr π x := by
    intro x hx π
    cases x with
    | tmp t => simp only [opnd, hf t hx]
    | _ => rfl
  have hm : ∀ xs : List Operand, (∀ x ∈ xs, x ∈ o.op.operands.toList) → xs.map (opnd fr' π) = xs.map (opnd fr π) := fun xs hx => List.map_congr_left fun x hx' => ho x (hx x hx') π
  unfold evOp at h ⊢
  split at h
  · rename_i x hop
    rw [ho x (by simp [hop, Op.operands])]
    exact h
  · rename_i x hop
    rw [ho x (by simp [hop, Op.operands])]
    exact h
  · rename_i d x y hop
    rw [ho (.tmp d) (by simp [hop, Op.operands])]
    split at h
    · rename_i g hg
      rw [ho x (by simp [hop, Op.operands]), ho y (by simp [hop, Op.operands])]
      exact h
    · cases h
  · rename_i t hop
    exact h
  · rename_i t x hop
    rw [ho x (by simp [hop, Op.operands])]
    exact h
  · rename_i t x hop
    rw [ho x (by simp [hop, Op.operands])]
    cases ht : E.T.get t with
    | none => rw [ht] at h; cases h
    | some ti =>
      rw [ht] at h
      cases hx : asC (opnd fr π x) with
      | none => rw [hx] at h; cases h
      | some p =>
        rw [hx] at h
        simp only [Option.bind_some] at h ⊢
        exact aLoad_loc h hH
  · rename_i t x y hop
    rw [ho x (by simp [hop, Op.operands]), ho y (by simp [hop, Op.operands])]
    cases ht : E.T.get t with
    | none => rw [ht] at h; cases h
    | some ti =>
      rw [ht] at h
      cases hx : asC (opnd fr π x) with
      | none => rw [hx] at h; cases h
      | some p =>
        rw [hx] at h
        cases hy : asFV (opnd fr π y) with
        | none => rw [hy] at h; cases h
        | some v =>
          rw [hy] at h
          simp only [Option.bind_some] at h ⊢
          exact aStore_loc h hH
  · rename_i x hop
    rw [ho x (by simp [hop, Op.operands])]
    exact h
  · rename_i op t x y ty hop
    rw [ho x (by simp [hop, Op.operands]), ho y (by simp [hop, Op.operands])]
    exact h
  · rename_i t x hop
    rw [ho x (by simp [hop, Op.operands])]
    exact h
  · rename_i t x hop
    rw [ho x (by simp [hop, Op.operands])]
    exact h
  · rename_i t x f hop
    rw [ho x (by simp [hop, Op.operands])]
    exact h
  · rename_i t x i hop
    rw [ho x (by simp [hop, Op.operands]), ho i (by simp [hop, Op.operands])]
    cases ht : elemOf E.T t with
    | none => rw [ht] at h; cases h
    | some te =>
      rw [ht] at h
      simp only [Option.bind_some] at h ⊢
      split at h
      · rename_i y j hx hi
        exact aIndexAddr_loc h hH
      · cases h
  · rename_i t parts hop
    have e : (parts.toList.map fun e => opnd fr' π e.2) = parts.toList.map fun e => opnd fr π e.2 :=
      List.map_congr_left fun x hx => ho x.2 (by simp only [hop, Op.operands]; exact List.mem_map.2 ⟨x, hx, rfl⟩) π
    rw [e]
    exact h
  · rename_i t len parts hop
    have e : (parts.toList.map fun e => opnd fr' π e.2) = parts.toList.map fun e => opnd fr π e.2 :=
      List.map_congr_left fun x hx => ho x.2 (by simp only [hop, Op.operands]; exact List.mem_map.2 ⟨x, hx, rfl⟩) π
    rw [e]
    cases ht : elemOf E.T t with
    | none => rw [ht] at h; cases h
    | some te =>
      rw [ht] at h
      simp only [Option.bind_some] at h ⊢
      cases hke : te.2.ek with
      | none => rw [hke] at h; cases h
      | some k =>
        rw [hke] at h
        simp only [Option.bind_some] at h ⊢
        cases hx : fvs (parts.toList.map fun e => opnd fr π e.2) with
        | none => rw [hx] at h; cases h
        | some xs =>
          rw [hx] at h
          simp only [Option.bind_some] at h ⊢
          exact aBuildSlice_loc h hH
  · rename_i t x y hop
    rw [ho x (by simp [hop, Op.operands]), ho y (by simp [hop, Op.operands])]
    exact h
  · rename_i t x hop
    rw [ho x (by simp [hop, Op.operands])]
    exact h
  · rename_i x _ t ok hop
    rw [ho x (by simp [hop, Op.operands])]
    exact h
  · rename_i x i hop
    rw [ho x (by simp [hop, Op.operands])]
    exact h
  · rename_i c1 args ats hop
    split at h
    · rename_i x t hargs hats
      have hx : x ∈ o.op.operands.toList := by simp [hop, Op.operands, Call.operands, hargs]
      rw [ho x hx]
      cases ht : elemOf E.T t with
      | none => rw [ht] at h; cases h
      | some te =>
        rw [ht] at h
        simp only [Option.bind_some] at h ⊢
        cases hx : asC (opnd fr π x) with
        | none => rw [hx] at h; cases h
        | some c =>
          rw [hx] at h
          simp only [Option.bind_some] at h ⊢
          exact aLen_loc h hH
    · cases h
  · rename_i c1 args ats hop
    split at h
    · rename_i s x t u hargs hats
      have h1 : s ∈ o.op.operands.toList := by simp [hop, Op.operands, Call.operands, hargs]
      have h2 : x ∈ o.op.operands.toList := by simp [hop, Op.operands, Call.operands, hargs]
      rw [ho s h1, ho x h2]
      cases htu : Nat.beq t u with
      | false => rw [htu] at h; cases h
      | true =>
        rw [htu] at h
        simp only [cond_true] at h ⊢
        cases ht : elemOf E.T t with
        | none => rw [ht] at h; cases h
        | some te =>
          rw [ht] at h
          simp only [Option.bind_some] at h ⊢
          cases hke : te.2.ek with
          | none => rw [hke] at h; cases h
          | some k =>
            rw [hke] at h
            simp only [Option.bind_some] at h ⊢
            cases hs : asC (opnd fr π s) with
            | none => rw [hs] at h; cases h
            | some cs =>
              rw [hs] at h
              cases hx : asC (opnd fr π x) with
              | none => rw [hx] at h; cases h
              | some cx =>
                rw [hx] at h
                simp only [Option.bind_some] at h ⊢
                exact aAppend_loc h hH
    · cases h
  · rename_i c1 f args ats hop
    rw [hm args.toList (fun x hx => by simp only [hop, Op.operands, Call.operands]; simp; exact .inr (by simpa using hx))]
    cases hc : ctrOf E.G f with
    | none => rw [hc] at h; cases h
    | some c =>
      rw [hc] at h
      simp only [Option.bind_some] at h ⊢
      cases hx : fvs (args.toList.map (opnd fr π)) with
      | none => rw [hx] at h; cases h
      | some xs =>
        rw [hx] at h
        simp only [Option.bind_some] at h ⊢
        exact aCall_loc h hH
  · cases h
end
end Hw
end Go.Proofs.Ytfboldbfbmmahaa
