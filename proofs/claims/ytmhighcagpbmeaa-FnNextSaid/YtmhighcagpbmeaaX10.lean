/- The operations one by one. Part 8: arithmetic, addresses, lengths, literals of structs and slices. -/
import Derived.Test.YtmhighcagpbmeaaX9
import Derived.Laws.StructEq
import Derived.Laws.Entries
set_option linter.unusedVariables false
set_option linter.unusedSimpArgs false
namespace Go.Proofs.Ytmhighcagpbmeaa
namespace Hw
open Go
def pktVs (p : Pkt) : Array Value := #[.int .i64 p.seq, .int .i64 p.kind, .int .i64 p.frm, .int .i64 p.to, .int .i64 p.sum, .int .i64 p.til, .int .i64 p.ver]
structure TyOK (P : Program) (E : Env) : Prop where
  T : TabOK P E.T
  bool : P.underlying E.boolT = some .bool
  pkt : ∀ (p q : Pkt) (w : World), (Op.equalIn 10000 E.pktT (.agg (pktVs p)) (.agg (pktVs q))).run P w = .ok (decide (p = q)) w
  guard : P.eqGuardType P.depth E.pktT = false
  int : P.underlying E.intT = some (.int .i64)
  u8 : P.underlying E.u8T = some (.int .u8)
  mp : Nat.beq E.mpT 1000000000 = true ∨ ∃ e, P.underlying E.mpT = some (.pointer e)
section
variable {P : Program} {E : Env} {C : Cx} {H : Hp} {n : Nat}
theorem pktOf_val {xs : List Cell} {p : Pkt} {u : Value} (h : pktOf xs = some p) (hx : fvR C (.agg xs) u) : u = .agg (pktVs p) := by
  unfold pktOf at h
  split at h
  · rename_i a b c d e f g
    simp only [Option.some.injEq] at h
    subst h
    obtain ⟨vs, rfl, h2, h3⟩ := hx
    congr 1
    have h0 := h3 0 _ rfl
    have h1 := h3 1 _ rfl
    have h2' := h3 2 _ rfl
    have h3' := h3 3 _ rfl
    have h4 := h3 4 _ rfl
    have h5 := h3 5 _ rfl
    have h6 := h3 6 _ rfl
    simp only [cellR, exists_eq_right] at h0 h1 h2' h3' h4 h5 h6
    apply Array.ext_getElem?
    intro i
    match i with
    | 0 => exact h0
    | 1 => exact h1
    | 2 => exact h2'
    | 3 => exact h3'
    | 4 => exact h4
    | 5 => exact h5
    | 6 => exact h6
    | i + 7 =>
      simp only [List.length_cons, List.length_nil] at h2
      rw [Array.getElem?_eq_none (by omega), Array.getElem?_eq_none (by simp [pktVs])]
  · cases h
theorem aBin_ok (hE : TyOK P E) {op : BinOp} {t : Nat} {x y : FV} {X Y : Operand} {u v : Value} {r : OpR} (hx : fvR C x u) (hy : fvR C y v) (hr : aBin (Nat.beq t E.boolT) (Nat.beq t E.pktT) (Nat.beq t E.mpT && !Nat.beq t 1000000000) op n x y = some r) (hk : r.ok) :
    ∃ z, (do eqGuard op t X Y u v; binOp op t u v : Sem Value).run P C.w = .ok z C.w ∧ avR C r.v z ∧ r.ws = [] := by
  unfold aBin at hr
  split at hr
  · rename_i a b
    simp only [fvR, cellR] at hx hy
    subst hx hy
    cases op <;> simp only [okv, Option.some.injEq, reduceCtorEq] at hr
    all_goals subst hr
    all_goals first
      | exact ⟨_, by first | (simp [eqGuard, binOp, Op.intArith, Op.intCmp, wrap]; done) | (simp [eqGuard, binOp, Op.intArith, Op.intCmp, wrap]; rfl) | (simp [eqGuard, binOp, Op.intBits, wrap, wxor, IntKind.bits]; done) | (simp [eqGuard, binOp, Op.intBits, wrap, wxor, IntKind.bits]; rfl), rfl, rfl⟩
      | (simp only [OpR.ok] at hk
         exact ⟨_, by first | (simp [eqGuard, binOp, Op.intDiv, wrap, hk]; done) | (simp [eqGuard, binOp, Op.intDiv, wrap, hk]; rfl), rfl, rfl⟩)
  · rename_i a b
    simp only [fvR, cellR] at hx hy
    subst hx hy
    cases ht : Nat.beq t E.boolT with
    | false => rw [ht] at hr; cases hr
    | true =>
      rw [ht] at hr
      simp only [Bool.not_true, cond_false] at hr
      have ht := Nat.eq_of_beq_eq_true ht
      subst ht
      have hb := fun w => run_equalIn_bool' (P := P) w 9999 E.boolT a b hE.bool
      cases op <;> simp only [okv, Option.some.injEq, reduceCtorEq] at hr
      all_goals subst hr
      · exact ⟨_, by first | (simp [eqGuard, binOp, Op.equal, Op.maxDepth, hb]; done) | (simp [eqGuard, binOp, Op.equal, Op.maxDepth, hb]; rfl), rfl, rfl⟩
      · exact ⟨_, by first | (simp [eqGuard, binOp, Op.equal, Op.maxDepth, hb]; done) | (simp [eqGuard, binOp, Op.equal, Op.maxDepth, hb]; rfl), rfl, rfl⟩
  · rename_i l
    cases ht : (Nat.beq t E.mpT && !Nat.beq t 1000000000) with
    | false => rw [ht] at hr; cases hr
    | true =>
      rw [ht] at hr
      simp only [Bool.not_true, cond_false] at hr
      rw [Bool.and_eq_true] at ht
      have ht1 := Nat.eq_of_beq_eq_true ht.1
      subst ht1
      obtain ⟨e, hu⟩ : ∃ e, P.underlying E.mpT = some (.pointer e) := by
        rcases hE.mp with h | h
        · rw [h] at ht; simp at ht
        · exact h
      simp only [fvR, cellR] at hx hy
      subst hy
      have hb : ∀ (w : World) (x : Option Addr), (Op.equalIn (9999 + 1) E.mpT (.pointer x) (.pointer none)).run P w = .ok x.isNone w := fun w x => by
        generalize 9999 = d
        cases x <;> simp [Op.equalIn, run_underlying hu]
      cases l with
      | nil =>
        have hx : u = .pointer none := hx
        subst hx
        cases op <;> simp only [okv, Option.some.injEq, reduceCtorEq] at hr
        all_goals subst hr
        · exact ⟨.bool true, by first | (simp [eqGuard, binOp, Op.equal, Op.maxDepth, hb]; done) | (simp [eqGuard, binOp, Op.equal, Op.maxDepth, hb]; rfl), rfl, rfl⟩
        · exact ⟨.bool false, by first | (simp [eqGuard, binOp, Op.equal, Op.maxDepth, hb]; done) | (simp [eqGuard, binOp, Op.equal, Op.maxDepth, hb]; rfl), rfl, rfl⟩
      | cons s r' =>
        obtain ⟨ad, rfl, _⟩ := hx
        cases op <;> simp only [okv, Option.some.injEq, reduceCtorEq] at hr
        all_goals subst hr
        · exact ⟨.bool false, by first | (simp [eqGuard, binOp, Op.equal, Op.maxDepth, hb]; done) | (simp [eqGuard, binOp, Op.equal, Op.maxDepth, hb]; rfl), rfl, rfl⟩
        · exact ⟨.bool true, by first | (simp [eqGuard, binOp, Op.equal, Op.maxDepth, hb]; done) | (simp [eqGuard, binOp, Op.equal, Op.maxDepth, hb]; rfl), rfl, rfl⟩
  · rename_i xs ys
    cases ht : Nat.beq t E.pktT with
    | false => rw [ht] at hr; cases hr
    | true =>
      rw [ht] at hr
      simp only [Bool.not_true, cond_false] at hr
      have ht := Nat.eq_of_beq_eq_true ht
      subst ht
      cases hp : pktOf xs with
      | none => rw [hp] at hr; cases hr
      | some p =>
        cases hq : pktOf ys with
        | none => rw [hp, hq] at hr; cases hr
        | some q =>
          rw [hp, hq] at hr
          simp only [Option.bind_some] at hr
          have e1 := pktOf_val hp hx
          have e2 := pktOf_val hq hy
          subst e1 e2
          have hg := fun w => run_eqGuard_agg (P := P) w op E.pktT X Y (pktVs p) (pktVs q) hE.guard
          have hb := hE.pkt p q
          cases op <;> simp only [okv, Option.some.injEq, reduceCtorEq] at hr
          all_goals subst hr
          · refine ⟨.bool (decide (p = q)), ?_, rfl, rfl⟩
            rw [Sem.run_bind, hg, Result.andThen_ok, run_eql_struct, hb]
            rfl
          · refine ⟨.bool (!decide (p = q)), ?_, rfl, rfl⟩
            rw [Sem.run_bind, hg, Result.andThen_ok, run_neq_struct, hb]
            rfl
  · cases hr
end

section
variable {P : Program} {E : Env} {C : Cx} {H : Hp} {n : Nat}
theorem elemOf_ok {T : Tab} (hT : TabOK P T) {t : Nat} {te : Nat × TI} (h : elemOf T t = some te) : P.underlying t = some (.slice te.1) ∧ TIok P te.1 te.2 ∧ te.1 ≠ 0 ∧ ∃ ti, TIok P t ti ∧ ti.elem = te.1 := by
  unfold elemOf at h
  cases ht : T.get t with
  | none => rw [ht] at h; cases h
  | some ti =>
    rw [ht] at h
    simp only [Option.bind_some] at h
    cases hz : Nat.blt 0 ti.elem with
    | false => rw [hz] at h; cases h
    | true =>
      rw [hz] at h
      simp only [cond_true] at h
      have hz : 0 < ti.elem := Nat.le_of_ble_eq_true hz
      cases he : T.get ti.elem with
      | none => rw [he] at h; cases h
      | some te' =>
        rw [he] at h
        simp only [Option.map_some, Option.some.injEq] at h
        subst h
        refine ⟨?_, hT.get he, by simp only; omega, ti, hT.get ht, rfl⟩
        obtain ⟨d, hd1, _, _, hd4⟩ := (hT.get ht).d
        rw [hd1]
        cases d <;> simp only [elemD] at hd4 <;> first | (rw [hd4]) | omega
theorem elem_of {t e : Nat} (h : P.underlying t = some (.slice e)) : P.elem t = e := by simp [Program.elem, h]
theorem aLen_ok {t ty e : Nat} (hu : P.underlying t = some (.slice e)) {x : Cell} {v : Value} {r : OpR} (hI : Inv C H) (hx : cellR C x v) (hr : aLen H n x = some r) (hk : r.ok) :
    ∃ z, (Builtin.len_ #[t] ty #[v]).run P C.w = .ok z C.w ∧ avR C r.v z ∧ r.ws = [] := by
  have hu' : P.underlying t = some (.slice (P.elem t)) := by rw [elem_of hu]; exact hu
  unfold aLen at hr
  split at hr
  · rename_i z a
    simp only [okv, Option.some.injEq] at hr
    subst hr
    obtain ⟨A, c, rfl, _⟩ := hx
    exact ⟨_, run_len_slice _ t ty A a.len c hu', rfl, rfl⟩
  · rename_i i sz e'
    have ho := hI.own i
    rcases hx with ⟨h1, rfl⟩ | ⟨b, m, c, vs, h1, rfl, _⟩
    · cases hH : H i with
      | dead => rw [hH] at hr; cases hr
      | raw k cs =>
        rw [hH] at hr ho
        obtain ⟨b', _, _, h2, _⟩ := ho
        rw [h1] at h2; cases h2
      | arr a =>
        rw [hH] at hr ho
        rcases ho with ⟨h0, _⟩ | ⟨b', _, _, h2, _⟩
        · simp only [Option.some.injEq] at hr
          subst hr
          exact ⟨_, run_len_slice _ t ty none 0 0 hu', by rw [h0]; rfl, rfl⟩
        · rw [h1] at h2; cases h2
    cases hH : H i with
    | dead => rw [hH] at hr; cases hr
    | raw k cs =>
      rw [hH] at hr ho
      obtain ⟨b', _, _, h2, _⟩ := ho
      rw [h1] at h2
      cases h2
      simp only [Option.some.injEq] at hr
      subst hr
      exact ⟨_, run_len_slice _ t ty _ _ c hu', rfl, rfl⟩
    | arr a =>
      rw [hH] at hr ho
      rcases ho with ⟨_, h2⟩ | ⟨b', _, _, h2, _⟩
      · rw [h1] at h2; cases h2
      rw [h1] at h2
      cases h2
      simp only [Option.some.injEq] at hr
      subst hr
      exact ⟨_, run_len_slice _ t ty _ _ c hu', rfl, rfl⟩
  · simp only [okv, Option.some.injEq] at hr
    subst hr
    simp only [cellR] at hx
    subst hx
    exact ⟨_, run_len_slice _ t ty none 0 0 hu', rfl, rfl⟩
  · rename_i i sz e' k
    have ho := hI.own i
    obtain ⟨b, m, c, vs, h1, rfl, h2, _⟩ := hx
    cases hH : H i with
    | dead => rw [hH] at hr; cases hr
    | arr a => rw [hH] at hr; cases hr
    | raw m' cs =>
      rw [hH] at hr ho
      obtain ⟨b', _, _, h3, _⟩ := ho
      rw [h1] at h3
      cases h3
      simp only [Option.some.injEq] at hr
      subst hr
      refine ⟨_, run_len_slice _ t ty _ _ c hu', ?_, rfl⟩
      show _ = _
      congr 1
      omega
  · cases hr
theorem idx_run {t e : Nat} {te : TI} (hu : P.underlying t = some (.slice e)) (he : TIok P e te) (w : World) (a : Addr) (len c : Nat) (i : Int) (h : 0 ≤ i ∧ i < len) :
    (Instr.indexAt t (.slice (some a) len c) (.int .i64 i)).run P w = .ok (.pointer (some (a.add (i.toNat * te.size)))) w := by
  rw [run_indexAt_slice _ t a len c .i64 i (by rw [elem_of hu]; exact hu), if_pos h, elem_of hu, he.run_size]
  rfl
theorem add_add' (ad : Addr) (m k : Nat) : (ad.add m).add k = ad.add (m + k) := by
  obtain ⟨b, o, x⟩ := ad
  cases m <;> cases k <;> simp [Addr.add, Nat.add_assoc]
theorem elC_flag {R : Arr → Value → Prop} {a : El} {z : Bool} {x y : Cell} {u : Value} (h : ∃ j : Nat, True ∧ (a.cells true)[j]? = some y ∧ (a.cells z)[j]? = some x) (hu : elC R y u) : elC R x u := by
  obtain ⟨j, _, h1, h2⟩ := h
  have hm : (a.cells true).map (elC R) = (a.cells z).map (elC R) := by cases a <;> rfl
  have h3 : ((a.cells true).map (elC R))[j]? = some (elC R y) := by rw [List.getElem?_map, h1]; rfl
  rw [hm, List.getElem?_map, h2] at h3
  simp only [Option.map_some, Option.some.injEq] at h3
  rw [h3]; exact hu
theorem aIndexAddr_ok0 {t e : Nat} {te : TI} (hu : P.underlying t = some (.slice e)) (he : TIok P e te) {x : Cell} {v : Value} {i : Int} {r : OpR} (hI : Inv C H) (hx : cellR C x v) (hr : aIndexAddr none te.size H n x i = some r) (hk : r.ok) :
    ∃ z, (Instr.indexAt t v (.int .i64 i)).run P C.w = .ok z C.w ∧ avR C r.v z ∧ r.ws = [] := by
  unfold aIndexAddr at hr
  split at hr
  · rename_i z a
    cases hs : Nat.beq te.size a.esz with
    | false => rw [hs] at hr; cases hr
    | true =>
      rw [hs] at hr
      simp only [Bool.not_true, cond_false, Option.some.injEq] at hr
      subst hr
      have hs := Nat.eq_of_beq_eq_true hs
      obtain ⟨A, c, rfl, h1, h2, h3⟩ := hx
      have hk : 0 ≤ i ∧ i < a.len := hk
      have hki : i.toNat < a.len := by omega
      obtain ⟨ad, rfl, h4, h5⟩ := h3 _ hki
      refine ⟨_, idx_run hu he C.w ad a.len c i hk, ⟨_, rfl, by rw [add_block]; exact h4, fun j x hj => ?_⟩, rfl⟩
      rw [Nat.zero_add] at hj
      have hz : ((a.get i.toNat).cells true)[j]? ≠ none := by
        intro hn
        rw [List.getElem?_eq_none_iff, cells_len] at hn
        have := (List.getElem?_eq_some_iff.1 hj).1
        rw [cells_len] at this
        omega
      obtain ⟨y, hy⟩ := Option.ne_none_iff_exists'.1 hz
      obtain ⟨u, h6, h7⟩ := h5 j y hy
      have ha : (ad.add (i.toNat * te.size)).add j = ad.add (i.toNat * a.esz + j) := by rw [hs]; exact add_add' _ _ _
      exact ⟨u, by rw [ha]; exact h6, elC_flag ⟨j, trivial, hy, hj⟩ h7⟩
  · rename_i j sz e'
    cases hs : Nat.beq te.size sz with
    | false => rw [hs] at hr; cases hr
    | true =>
      rw [hs] at hr
      simp only [Bool.not_true, cond_false] at hr
      have hs := Nat.eq_of_beq_eq_true hs
      have ho := hI.own j
      rcases hx with ⟨h1, rfl⟩ | ⟨b, m, c, vs, h1, rfl, _⟩
      · exfalso
        cases hH : H j with
        | dead => rw [hH] at hr; cases hr
        | raw k cs =>
          rw [hH] at ho
          obtain ⟨b', _, _, h2, _⟩ := ho
          rw [h1] at h2; cases h2
        | arr a =>
          rw [hH] at hr ho
          simp only [Option.some.injEq] at hr
          subst hr
          have hk : 0 ≤ i ∧ i < a.len := hk
          rcases ho with ⟨h0, _⟩ | ⟨b', _, _, h2, _⟩
          · omega
          · rw [h1] at h2; cases h2
      have ha : ∀ q, (⟨b, 0, none⟩ : Addr).add q = ⟨b, q, none⟩ := fun q => by unfold Addr.add; split <;> simp_all
      cases hH : H j with
      | dead => rw [hH] at hr; cases hr
      | raw k cs =>
        rw [hH] at hr ho
        obtain ⟨b', _, _, h2, _⟩ := ho
        rw [h1] at h2
        cases h2
        simp only [Option.some.injEq] at hr
        subst hr
        refine ⟨_, idx_run hu he C.w _ _ c i hk, ⟨b, _, h1, ?_⟩, rfl⟩
        rw [ha, hs]
        rfl
      | arr a =>
        rw [hH] at hr ho
        rcases ho with ⟨_, h2⟩ | ⟨b', _, _, h2, _⟩
        · rw [h1] at h2; cases h2
        rw [h1] at h2
        cases h2
        simp only [Option.some.injEq] at hr
        subst hr
        refine ⟨_, idx_run hu he C.w _ _ c i hk, ⟨b, _, h1, ?_⟩, rfl⟩
        rw [ha, hs, Nat.add_zero]
  · rename_i j sz e' k
    cases hs : Nat.beq te.size sz with
    | false => rw [hs] at hr; cases hr
    | true =>
      rw [hs] at hr
      simp only [Bool.not_true, cond_false] at hr
      cases hH : H j <;> rw [hH] at hr <;> cases hr
  · cases hr
theorem aIndexAddr_tail {t e : Nat} {te : TI} (hu : P.underlying t = some (.slice e)) (he : TIok P e te) {ch : Option Nat} {j sz e' k : Nat} {v : Value} {i : Int} {r : OpR} (hI : Inv C H) (hx : cellR C (.tail j sz e' k) v) (hr : aIndexAddr ch te.size H n (.tail j sz e' k) i = some r) (hk : r.ok) :
    ∃ z, (Instr.indexAt t v (.int .i64 i)).run P C.w = .ok z C.w ∧ avR C r.v z ∧ r.ws = [] := by
  simp only [aIndexAddr] at hr
  cases hs : Nat.beq te.size sz with
  | false => rw [hs] at hr; cases hr
  | true =>
    rw [hs] at hr
    simp only [Bool.not_true, cond_false] at hr
    have hs := Nat.eq_of_beq_eq_true hs
    have ho := hI.own j
    cases hH : H j with
    | dead => rw [hH] at hr; cases hr
    | arr a => rw [hH] at hr; cases hr
    | raw m cs =>
      rw [hH] at hr ho
      cases ch with
      | none => cases hr
      | some q =>
        simp only at hr
        cases hb : Nat.blt q m with
        | false => rw [hb] at hr; cases hr
        | true =>
          rw [hb] at hr
          simp only [cond_true, Option.some.injEq] at hr
          subst hr
          have hk : 0 ≤ i ∧ (k : Int) + i = (q : Int) := hk
          have hq : q < m := Nat.le_of_ble_eq_true hb
          obtain ⟨b, m', c, vs, h1, rfl, h2, h3, _⟩ := hx
          obtain ⟨b', _, _, h4, _⟩ := ho
          rw [h1] at h4
          cases h4
          refine ⟨_, idx_run hu he C.w _ _ c i ⟨hk.1, by omega⟩, ⟨b, m, h1, ?_⟩, rfl⟩
          have ha : (⟨b, k * sz, none⟩ : Addr).add (i.toNat * te.size) = ⟨b, k * sz + i.toNat * te.size, none⟩ := by unfold Addr.add; split <;> simp_all
          rw [ha, hs, ← Nat.add_mul, show k + i.toNat = q by omega]
          rfl
theorem aIndexAddr_ch {ch : Option Nat} {s : Nat} {x : Cell} {i : Int} {r : OpR} (h : aIndexAddr ch s H n x i = some r) (hk : r.ok) (hx : ∀ j sz e k, x ≠ .tail j sz e k) : ∃ r', aIndexAddr none s H n x i = some r' ∧ r'.ok ∧ r'.v = r.v ∧ r'.ws = r.ws ∧ r'.nid = r.nid ∧ r'.rd = r.rd := by
  cases ch with
  | none => exact ⟨r, h, hk, rfl, rfl, rfl, rfl⟩
  | some k =>
    unfold aIndexAddr at h ⊢
    split at h
    · exact ⟨r, h, hk, rfl, rfl, rfl, rfl⟩
    · rename_i j sz e
      cases hs : Nat.beq s sz with
      | false => rw [hs] at h; cases h
      | true =>
        rw [hs] at h
        simp only [Bool.not_true, cond_false] at h ⊢
        cases hH : H j with
        | dead => rw [hH] at h; cases h
        | arr a => rw [hH] at h; exact ⟨r, h, hk, rfl, rfl, rfl, rfl⟩
        | raw m cs =>
          rw [hH] at h
          simp only at h ⊢
          cases hb : Nat.blt k m with
          | false => rw [hb] at h; cases h
          | true =>
            rw [hb] at h
            simp only [cond_true, Option.some.injEq] at h
            subst h
            have hi : i = (k : Int) := hk
            have hkm : k < m := Nat.le_of_ble_eq_true hb
            refine ⟨_, rfl, ⟨by omega, by omega⟩, ?_, rfl, rfl, rfl⟩
            subst hi
            rfl
    · exact absurd rfl (hx _ _ _ _)
    · cases h
theorem aIndexAddr_ok {ch : Option Nat} {t e : Nat} {te : TI} (hu : P.underlying t = some (.slice e)) (he : TIok P e te) {x : Cell} {v : Value} {i : Int} {r : OpR} (hI : Inv C H) (hx : cellR C x v) (hr : aIndexAddr ch te.size H n x i = some r) (hk : r.ok) :
    ∃ z, (Instr.indexAt t v (.int .i64 i)).run P C.w = .ok z C.w ∧ avR C r.v z ∧ r.ws = [] := by
  by_cases ht : ∃ j sz e k, x = .tail j sz e k
  · obtain ⟨j, sz, e, k, rfl⟩ := ht
    exact aIndexAddr_tail hu he hI hx hr hk
  obtain ⟨r', h1, h2, h3, h4, _⟩ := aIndexAddr_ch hr hk fun j sz e k h => ht ⟨j, sz, e, k, h⟩
  obtain ⟨z, g1, g2, g3⟩ := aIndexAddr_ok0 hu he hI hx h1 h2
  exact ⟨z, g1, by rw [← h3]; exact g2, by rw [← h4]; exact g3⟩
theorem field_run {t f : Nat} {ti : TI} (h : TIok P t ti) (hf : f < ti.offs.length) (w : World) (a : Addr) : (Instr.fieldAt t (.pointer (some a)) f).run P w = .ok (.pointer (some (a.add (nth f ti.offs)))) w := by
  obtain ⟨d, hd1, -, hd3, -⟩ := h.d
  have hp := h.pos
  rw [Bool.and_eq_true] at hp
  have hl : ti.offs.length = ti.fsz.length := by simpa using hp.1
  have hz : (ti.offs.zip ti.fsz)[f]? = some (ti.offs[f], ti.fsz[f]) := by
    rw [List.getElem?_zip_eq_some]
    exact ⟨List.getElem?_eq_getElem hf, List.getElem?_eq_getElem (by omega)⟩
  have hn : nth f ti.offs = ti.offs[f] := by
    have : ∀ (l : List Nat) (i : Nat) (hi : i < l.length), nth i l = l[i] := by
      intro l
      induction l with
      | nil => intro i hi; cases hi
      | cons x l ih =>
        intro i hi
        cases i with
        | zero => rfl
        | succ i => exact ih i (by simpa using hi)
    exact this _ _ hf
  cases d <;> simp only [fieldsD] at hd3
  case struct fs =>
    rw [← hd3, List.getElem?_map] at hz
    cases hfs : fs.toList[f]? with
    | none => rw [hfs] at hz; cases hz
    | some g =>
      rw [hfs] at hz
      simp only [Option.map_some, Option.some.injEq, Prod.mk.injEq] at hz
      obtain ⟨z1, z2⟩ := hz
      have hpos : 0 < ti.fsz[f] := by
        have := List.all_eq_true.1 hp.2 _ (List.getElem_mem (by omega : f < ti.fsz.length))
        exact Nat.le_of_ble_eq_true this
      have hfs' : fs[f]? = some g := by simpa using hfs
      cases hi : P.info? g.type with
      | none => rw [hi] at z2; simp at z2; omega
      | some i =>
        rw [hi] at z2
        simp only [Option.map_some, Option.getD_some] at z2
        have hs : (sizeOf g.type).run P w = .ok i.size w := by simp [sizeOf, typeInfo, hi]
        have hne : ¬ i.size = 0 := by omega
        simp [Instr.fieldAt, run_underlying hd1, hfs', Instr.sureAddr, fieldPlace, hs, hne, hn, z1]
  all_goals
    have : (ti.offs.zip ti.fsz).length = 0 := by rw [← hd3]; rfl
    rw [List.length_zip] at this
    omega
theorem aFieldAddr_ok {t f : Nat} {ti : TI} (h : TIok P t ti) (hf : f < ti.offs.length) {x : Cell} {v : Value} {r : OpR} (hx : cellR C x v) (hr : aFieldAddr (nth f ti.offs) n x = some r) (hk : r.ok) :
    ∃ z, (Instr.fieldAt t v f).run P C.w = .ok z C.w ∧ avR C r.v z ∧ r.ws = [] := by
  have ha : ∀ b o q, (⟨b, o, none⟩ : Addr).add q = ⟨b, o + q, none⟩ := fun b o q => by unfold Addr.add; split <;> simp_all
  unfold aFieldAddr at hr
  split at hr
  · simp only [okv, Option.some.injEq] at hr
    subst hr
    obtain ⟨b, m, h1, rfl⟩ := hx
    exact ⟨_, field_run h hf _ _, ⟨b, m, h1, by rw [ha]; rfl⟩, rfl⟩
  · simp only [okv, Option.some.injEq] at hr
    subst hr
    obtain ⟨b, m, h1, rfl⟩ := hx
    exact ⟨_, field_run h hf _ _, ⟨b, m, h1, by rw [ha, Nat.add_assoc]; rfl⟩, rfl⟩
  · simp only [okv, Option.some.injEq] at hr
    subst hr
    obtain ⟨ad, rfl, h2, h3⟩ := hx
    refine ⟨_, field_run h hf _ _, ⟨_, rfl, by rw [add_block]; exact h2, fun j x hj => ?_⟩, rfl⟩
    rename_i z e o
    have e1 : Nat.add o (nth f ti.offs) + j = o + (nth f ti.offs + j) := by show o + nth f ti.offs + j = _; omega
    rw [e1] at hj
    rw [add_add']
    exact h3 _ _ hj
  · rename_i l o
    simp only [Option.some.injEq] at hr
    subst hr
    cases l with
    | nil => exact absurd rfl hk
    | cons s r =>
      obtain ⟨ad, rfl, h2⟩ := hx
      exact ⟨_, field_run h hf _ _, ⟨ad, by rw [add_add']; rfl, h2⟩, rfl⟩
  · cases hr
end
end Hw
end Go.Proofs.Ytmhighcagpbmeaa
