/- The operations one by one. Part 8: arithmetic, addresses, lengths, literals of structs and slices. -/
import Derived.Test.YtklmllaggigkfaaGreatPX9
import Derived.Laws.StructEq
import Derived.Laws.Entries
set_option linter.unusedVariables false
set_option linter.unusedSimpArgs false
namespace Go.Proofs.YtklmllaggigkfaaGreat
namespace Hw
open Go
def pktVs (p:Pkt):Array Value:=#[.int .i64 p.seq,.int .i64 p.kind,.int .i64 p.frm,.int .i64 p.to,.int .i64 p.sum,.int .i64 p.til,.int .i64 p.ver]
structure TyOK (P:Program) (E:Env):Prop where
 T:TabOK P E.T
 bool:P.underlying E.boolT = some .bool
 pkt:∀(p q:Pkt) (w:World),(Op.equalIn 10000 E.pktT (.agg (pktVs p)) (.agg (pktVs q))).run P w = .ok (decide (p = q)) w
 guard:P.eqGuardType P.depth E.pktT = false
 int:P.underlying E.intT = some (.int .i64)
 u8:P.underlying E.u8T = some (.int .u8)
 mp:Nat.beq E.mpT 1000000000 = true∨∃e,P.underlying E.mpT = some (.pointer e)
 map:Nat.beq E.mapT 1000000000 = true∨P.underlying E.mapT = some (.map E.intT E.intT)
 zint:∀w:World,(zeroValue E.intT).run P w = .ok (.int .i64 0) w
 mth:∀e∈E.mth,0 < e.1∧∀w:World,(method (P.types.size + Made.depth) e.1 (.agg #[]) e.2.1).run P w = .ok (e.2.2,.agg #[]) w
section
variable {P:Program} {E:Env} {C:Cx} {H:Hp} {n:Nat}
theorem pktOf_val {xs:List Cell} {p:Pkt} {u:Value} (h:pktOf xs = some p) (hx:fvR C (.agg xs) u):u = .agg (pktVs p):=by
 unfold pktOf at h
 split at h
 ·rename_i a b c d e f g
  simp only [Option.some.injEq] at h
  subst h
  obtain ⟨vs,rfl,h2,h3⟩:=hx
  congr 1
  have h0:=h3 0 _ rfl
  have h1:=h3 1 _ rfl
  have h2':=h3 2 _ rfl
  have h3':=h3 3 _ rfl
  have h4:=h3 4 _ rfl
  have h5:=h3 5 _ rfl
  have h6:=h3 6 _ rfl
  simp only [cellR,exists_eq_right] at h0 h1 h2' h3' h4 h5 h6
  apply Array.ext_getElem?
  intro i
  match i with
  | 0=>exact h0
  | 1=>exact h1
  | 2=>exact h2'
  | 3=>exact h3'
  | 4=>exact h4
  | 5=>exact h5
  | 6=>exact h6
  | i + 7 =>
   simp only [List.length_cons,List.length_nil] at h2
   rw [Array.getElem?_eq_none (by omega),Array.getElem?_eq_none (by simp [pktVs])]
 ·cases h
theorem aBin_ok (hE : TyOK P E) {op : BinOp} {t : Nat} {x y : FV} {X Y : Operand} {u v : Value} {r : OpR} (hx : fvR C x u) (hy : fvR C y v) (hr : aBin (Nat.beq t E.boolT) (Nat.beq t E.pktT) (Nat.beq t E.mpT && !Nat.beq t 1000000000) op n x y = some r) (hk : r.ok) :
    ∃ z, (do eqGuard op t X Y u v; binOp op t u v : Sem Value).run P C.w = .ok z C.w ∧ avR C r.v z ∧ r.ws = [] := by
  unfold aBin at hr
  split at hr
  · rename_i a b
    simp only [fvR, cellR] at hx hy
    subst hx hy
    cases op <;> simp only [okv, Option.some.injEq, reduceCtorEq] at hr
    all_goals subst hr
    all_goals first
      | exact ⟨_, by first | (simp [eqGuard, binOp, Op.intArith, Op.intCmp, wrap]; done) | (simp [eqGuard, binOp, Op.intArith, Op.intCmp, wrap]; rfl) | (simp [eqGuard, binOp, Op.intBits, wrap, wxor, IntKind.bits]; done) | (simp [eqGuard, binOp, Op.intBits, wrap, wxor, IntKind.bits]; rfl), rfl, rfl⟩
      | (simp only [OpR.ok] at hk
         exact ⟨_, by first | (simp [eqGuard, binOp, Op.intDiv, wrap, hk]; done) | (simp [eqGuard, binOp, Op.intDiv, wrap, hk]; rfl), rfl, rfl⟩)
  · rename_i a b
    simp only [fvR, cellR] at hx hy
    subst hx hy
    cases ht : Nat.beq t E.boolT with
    | false => rw [ht] at hr; cases hr
    | true =>
      rw [ht] at hr
      simp only [Bool.not_true, cond_false] at hr
      have ht := Nat.eq_of_beq_eq_true ht
      subst ht
      have hb := fun w => run_equalIn_bool' (P := P) w 9999 E.boolT a b hE.bool
      cases op <;> simp only [okv, Option.some.injEq, reduceCtorEq] at hr
      all_goals subst hr
      · exact ⟨_, by first | (simp [eqGuard, binOp, Op.equal, Op.maxDepth, hb]; done) | (simp [eqGuard, binOp, Op.equal, Op.maxDepth, hb]; rfl), rfl, rfl⟩
      · exact ⟨_, by first | (simp [eqGuard, binOp, Op.equal, Op.maxDepth, hb]; done) | (simp [eqGuard, binOp, Op.equal, Op.maxDepth, hb]; rfl), rfl, rfl⟩
  · rename_i l
    cases ht : (Nat.beq t E.mpT && !Nat.beq t 1000000000) with
    | false => rw [ht] at hr; cases hr
    | true =>
      rw [ht] at hr
      simp only [Bool.not_true, cond_false] at hr
      rw [Bool.and_eq_true] at ht
      have ht1 := Nat.eq_of_beq_eq_true ht.1
      subst ht1
      obtain ⟨e, hu⟩ : ∃ e, P.underlying E.mpT = some (.pointer e) := by
        rcases hE.mp with h | h
        · rw [h] at ht; simp at ht
        · exact h
      simp only [fvR, cellR] at hx hy
      subst hy
      have hb : ∀ (w : World) (x : Option Addr), (Op.equalIn (9999 + 1) E.mpT (.pointer x) (.pointer none)).run P w = .ok x.isNone w := fun w x => by
        generalize 9999 = d
        cases x <;> simp [Op.equalIn, run_underlying hu]
      obtain ⟨l, g⟩ := l
      replace hx := hx.1
      cases l with
      | nil =>
        have hx : u = .pointer none := hx
        subst hx
        cases op <;> simp only [okv, Option.some.injEq, reduceCtorEq] at hr
        all_goals subst hr
        · exact ⟨.bool true, by first | (simp [eqGuard, binOp, Op.equal, Op.maxDepth, hb]; done) | (simp [eqGuard, binOp, Op.equal, Op.maxDepth, hb]; rfl), rfl, rfl⟩
        · exact ⟨.bool false, by first | (simp [eqGuard, binOp, Op.equal, Op.maxDepth, hb]; done) | (simp [eqGuard, binOp, Op.equal, Op.maxDepth, hb]; rfl), rfl, rfl⟩
      | cons s r' =>
        obtain ⟨ad, rfl, _⟩ := hx
        cases op <;> simp only [okv, Option.some.injEq, reduceCtorEq] at hr
        all_goals subst hr
        · exact ⟨.bool false, by first | (simp [eqGuard, binOp, Op.equal, Op.maxDepth, hb]; done) | (simp [eqGuard, binOp, Op.equal, Op.maxDepth, hb]; rfl), rfl, rfl⟩
        · exact ⟨.bool true, by first | (simp [eqGuard, binOp, Op.equal, Op.maxDepth, hb]; done) | (simp [eqGuard, binOp, Op.equal, Op.maxDepth, hb]; rfl), rfl, rfl⟩
  · rename_i xs ys
    cases ht : Nat.beq t E.pktT with
    | false => rw [ht] at hr; cases hr
    | true =>
      rw [ht] at hr
      simp only [Bool.not_true, cond_false] at hr
      have ht := Nat.eq_of_beq_eq_true ht
      subst ht
      cases hp : pktOf xs with
      | none => rw [hp] at hr; cases hr
      | some p =>
        cases hq : pktOf ys with
        | none => rw [hp, hq] at hr; cases hr
        | some q =>
          rw [hp, hq] at hr
          simp only [Option.bind_some] at hr
          have e1 := pktOf_val hp hx
          have e2 := pktOf_val hq hy
          subst e1 e2
          have hg := fun w => run_eqGuard_agg (P := P) w op E.pktT X Y (pktVs p) (pktVs q) hE.guard
          have hb := hE.pkt p q
          cases op <;> simp only [okv, Option.some.injEq, reduceCtorEq] at hr
          all_goals subst hr
          · refine ⟨.bool (decide (p = q)), ?_, rfl, rfl⟩
            rw [Sem.run_bind, hg, Result.andThen_ok, run_eql_struct, hb]
            rfl
          · refine ⟨.bool (!decide (p = q)), ?_, rfl, rfl⟩
            rw [Sem.run_bind, hg, Result.andThen_ok, run_neq_struct, hb]
            rfl
  · cases hr
end
section
variable {P:Program} {E:Env} {C:Cx} {H:Hp} {n:Nat}
theorem elemOf_ok {T:Tab} (hT:TabOK P T) {t:Nat} {te:Nat×TI} (h:elemOf T t = some te):P.underlying t = some (.slice te.1)∧TIok P te.1 te.2∧te.1≠0∧∃ti,TIok P t ti∧ti.elem = te.1:=by
 unfold elemOf at h
 cases ht:T.get t with
 | none=>rw [ht] at h; cases h
 | some ti =>
  rw [ht] at h
  simp only [Option.bind_some] at h
  cases hz:Nat.blt 0 ti.elem with
  | false=>rw [hz] at h; cases h
  | true =>
   rw [hz] at h
   simp only [cond_true] at h
   have hz:0 < ti.elem:=Nat.le_of_ble_eq_true hz
   cases he:T.get ti.elem with
   | none=>rw [he] at h; cases h
   | some te' =>
    rw [he] at h
    simp only [Option.map_some,Option.some.injEq] at h
    subst h
    refine ⟨?_,hT.get he,by simp only; omega,ti,hT.get ht,rfl⟩
    obtain ⟨d,hd1,_,_,hd4⟩:=(hT.get ht).d
    rw [hd1]
    cases d <;> simp only [elemD] at hd4 <;> first | (rw [hd4]) | omega
theorem elem_of {t e:Nat} (h:P.underlying t = some (.slice e)):P.elem t = e:=by simp [Program.elem,h]
theorem aLen_ok {t ty e:Nat} (hu:P.underlying t = some (.slice e)) {x:Cell} {v:Value} {r:OpR} (hI:Inv C H) (hx:cellR C x v) (hr:aLen H n x = some r) (hk:r.ok) :
  ∃z,(Builtin.len_ #[t] ty #[v]).run P C.w = .ok z C.w∧avR C r.v z∧r.ws = []:=by
 have hu':P.underlying t = some (.slice (P.elem t)):=by rw [elem_of hu]; exact hu
 unfold aLen at hr
 split at hr
 ·rename_i z a
  simp only [okv,Option.some.injEq] at hr
  subst hr
  obtain ⟨A,c,rfl,_⟩:=hx
  exact ⟨_,run_len_slice _ t ty A a.len c hu',rfl,rfl⟩
 ·rename_i i sz e'
  have ho:=hI.own i
  rcases hx with ⟨h1,rfl⟩ | ⟨b,m,c,vs,h1,rfl,_⟩
  ·cases hH:H i with
   | dead=>rw [hH] at hr; cases hr
   | mp l=>rw [hH] at hr; cases hr
   | raw k cs =>
    rw [hH] at hr ho
    obtain ⟨b',_,_,h2,_⟩:=ho
    rw [h1] at h2; cases h2
   | arr a =>
    rw [hH] at hr ho
    rcases ho with ⟨h0,_⟩ | ⟨b',_,_,h2,_⟩
    ·simp only [Option.some.injEq] at hr
     subst hr
     exact ⟨_,run_len_slice _ t ty none 0 0 hu',by rw [h0]; rfl,rfl⟩
    ·rw [h1] at h2; cases h2
  cases hH:H i with
  | dead=>rw [hH] at hr; cases hr
  | mp l=>rw [hH] at hr; cases hr
  | raw k cs =>
   rw [hH] at hr ho
   obtain ⟨b',_,_,h2,_⟩:=ho
   rw [h1] at h2
   cases h2
   simp only [Option.some.injEq] at hr
   subst hr
   exact ⟨_,run_len_slice _ t ty _ _ c hu',rfl,rfl⟩
  | arr a =>
   rw [hH] at hr ho
   rcases ho with ⟨_,h2⟩ | ⟨b',_,_,h2,_⟩
   ·rw [h1] at h2; cases h2
   rw [h1] at h2
   cases h2
   simp only [Option.some.injEq] at hr
   subst hr
   exact ⟨_,run_len_slice _ t ty _ _ c hu',rfl,rfl⟩
 ·simp only [okv,Option.some.injEq] at hr
  subst hr
  simp only [cellR] at hx
  subst hx
  exact ⟨_,run_len_slice _ t ty none 0 0 hu',rfl,rfl⟩
 ·rename_i i sz e' k
  have ho:=hI.own i
  obtain ⟨b,m,c,vs,h1,rfl,h2,_⟩:=hx
  cases hH:H i with
  | dead=>rw [hH] at hr; cases hr
  | mp l=>rw [hH] at hr; cases hr
  | arr a=>rw [hH] at hr; cases hr
  | raw m' cs =>
   rw [hH] at hr ho
   obtain ⟨b',_,_,h3,_⟩:=ho
   rw [h1] at h3
   cases h3
   simp only [Option.some.injEq] at hr
   subst hr
   refine ⟨_,run_len_slice _ t ty _ _ c hu',?_,rfl⟩
   show _ = _
   congr 1
   omega
 ·cases hr
theorem idx_run {t e:Nat} {te:TI} (hu:P.underlying t = some (.slice e)) (he:TIok P e te) (w:World) (a:Addr) (len c:Nat) (i:Int) (h:0≤i∧i < len) :
  (Instr.indexAt t (.slice (some a) len c) (.int .i64 i)).run P w = .ok (.pointer (some (a.add (i.toNat * te.size)))) w:=by
 rw [run_indexAt_slice _ t a len c .i64 i (by rw [elem_of hu]; exact hu),if_pos h,elem_of hu,he.run_size]
 rfl
theorem add_add' (ad:Addr) (m k:Nat):(ad.add m).add k = ad.add (m + k):=by
 obtain ⟨b,o,x⟩:=ad
 cases m <;> cases k <;> simp [Addr.add,Nat.add_assoc]
theorem elC_flag {R:Arr→Value→Prop} {a:El} {z:Bool} {x y:Cell} {u:Value} (h:∃j:Nat,True∧(a.cells true)[j]? = some y∧(a.cells z)[j]? = some x) (hu:elC R y u):elC R x u:=by
 obtain ⟨j,_,h1,h2⟩:=h
 have hm:(a.cells true).map (elC R) = (a.cells z).map (elC R):=by cases a <;> rfl
 have h3:((a.cells true).map (elC R))[j]? = some (elC R y):=by rw [List.getElem?_map,h1]; rfl
 rw [hm,List.getElem?_map,h2] at h3
 simp only [Option.map_some,Option.some.injEq] at h3
 rw [h3]; exact hu
theorem aIndexAddr_ok0 {t e:Nat} {te:TI} (hu:P.underlying t = some (.slice e)) (he:TIok P e te) {x:Cell} {v:Value} {i:Int} {r:OpR} (hI:Inv C H) (hx:cellR C x v) (hr:aIndexAddr none te.size H n x i = some r) (hk:r.ok) :
  ∃z,(Instr.indexAt t v (.int .i64 i)).run P C.w = .ok z C.w∧avR C r.v z∧r.ws = []:=by
 unfold aIndexAddr at hr
 split at hr
 ·rename_i z a
  cases hs:Nat.beq te.size a.esz with
  | false=>rw [hs] at hr; cases hr
  | true =>
   rw [hs] at hr
   simp only [Bool.not_true,cond_false,Option.some.injEq] at hr
   subst hr
   have hs:=Nat.eq_of_beq_eq_true hs
   obtain ⟨A,c,rfl,h1,h2,h3⟩:=hx
   have hk:0≤i∧i < a.len:=hk
   have hki:i.toNat < a.len:=by omega
   obtain ⟨ad,rfl,h4,h5⟩:=h3 _ hki
   refine ⟨_,idx_run hu he C.w ad a.len c i hk,⟨_,rfl,by rw [add_block]; exact h4,fun j x hj=>?_⟩,rfl⟩
   rw [Nat.zero_add] at hj
   have hz:((a.get i.toNat).cells true)[j]?≠none:=by
    intro hn
    rw [List.getElem?_eq_none_iff,cells_len] at hn
    have:=(List.getElem?_eq_some_iff.1 hj).1
    rw [cells_len] at this
    omega
   obtain ⟨y,hy⟩:=Option.ne_none_iff_exists'.1 hz
   obtain ⟨u,h6,h7⟩:=h5 j y hy
   have ha:(ad.add (i.toNat * te.size)).add j = ad.add (i.toNat * a.esz + j):=by rw [hs]; exact add_add' _ _ _
   exact ⟨u,by rw [ha]; exact h6,elC_flag ⟨j,trivial,hy,hj⟩ h7⟩
 ·rename_i j sz e'
  cases hs:Nat.beq te.size sz with
  | false=>rw [hs] at hr; cases hr
  | true =>
   rw [hs] at hr
   simp only [Bool.not_true,cond_false] at hr
   have hs:=Nat.eq_of_beq_eq_true hs
   have ho:=hI.own j
   rcases hx with ⟨h1,rfl⟩ | ⟨b,m,c,vs,h1,rfl,_⟩
   ·exfalso
    cases hH:H j with
    | dead=>rw [hH] at hr; cases hr
    | mp l=>rw [hH] at hr; cases hr
    | raw k cs =>
     rw [hH] at ho
     obtain ⟨b',_,_,h2,_⟩:=ho
     rw [h1] at h2; cases h2
    | arr a =>
     rw [hH] at hr ho
     simp only [Option.some.injEq] at hr
     subst hr
     have hk:0≤i∧i < a.len:=hk
     rcases ho with ⟨h0,_⟩ | ⟨b',_,_,h2,_⟩
     ·omega
     ·rw [h1] at h2; cases h2
   have ha:∀q,(⟨b,0,none⟩:Addr).add q = ⟨b,q,none⟩:=fun q=>by unfold Addr.add; split <;> simp_all
   cases hH:H j with
   | dead=>rw [hH] at hr; cases hr
   | mp l=>rw [hH] at hr; cases hr
   | raw k cs =>
    rw [hH] at hr ho
    obtain ⟨b',_,_,h2,_⟩:=ho
    rw [h1] at h2
    cases h2
    simp only [Option.some.injEq] at hr
    subst hr
    refine ⟨_,idx_run hu he C.w _ _ c i hk,⟨b,_,h1,?_⟩,rfl⟩
    rw [ha,hs]
    rfl
   | arr a =>
    rw [hH] at hr ho
    rcases ho with ⟨_,h2⟩ | ⟨b',_,_,h2,_⟩
    ·rw [h1] at h2; cases h2
    rw [h1] at h2
    cases h2
    simp only [Option.some.injEq] at hr
    subst hr
    refine ⟨_,idx_run hu he C.w _ _ c i hk,⟨b,_,h1,?_⟩,rfl⟩
    rw [ha,hs,Nat.add_zero]
 ·rename_i j sz e' k
  cases hs:Nat.beq te.size sz with
  | false=>rw [hs] at hr; cases hr
  | true =>
   rw [hs] at hr
   simp only [Bool.not_true,cond_false] at hr
   cases hH:H j <;> rw [hH] at hr <;> cases hr
 ·cases hr
theorem aIndexAddr_tail {t e:Nat} {te:TI} (hu:P.underlying t = some (.slice e)) (he:TIok P e te) {ch:Option Nat} {j sz e' k:Nat} {v:Value} {i:Int} {r:OpR} (hI:Inv C H) (hx:cellR C (.tail j sz e' k) v) (hr:aIndexAddr ch te.size H n (.tail j sz e' k) i = some r) (hk:r.ok) :
  ∃z,(Instr.indexAt t v (.int .i64 i)).run P C.w = .ok z C.w∧avR C r.v z∧r.ws = []:=by
 simp only [aIndexAddr] at hr
 cases hs:Nat.beq te.size sz with
 | false=>rw [hs] at hr; cases hr
 | true =>
  rw [hs] at hr
  simp only [Bool.not_true,cond_false] at hr
  have hs:=Nat.eq_of_beq_eq_true hs
  have ho:=hI.own j
  cases hH:H j with
  | dead=>rw [hH] at hr; cases hr
  | mp l=>rw [hH] at hr; cases hr
  | arr a=>rw [hH] at hr; cases hr
  | raw m cs =>
   rw [hH] at hr ho
   cases ch with
   | none=>cases hr
   | some q =>
    simp only at hr
    cases hb:Nat.blt q m with
    | false=>rw [hb] at hr; cases hr
    | true =>
     rw [hb] at hr
     simp only [cond_true,Option.some.injEq] at hr
     subst hr
     have hk:0≤i∧(k:Int) + i = (q:Int):=hk
     have hq:q < m:=Nat.le_of_ble_eq_true hb
     obtain ⟨b,m',c,vs,h1,rfl,h2,h3,_⟩:=hx
     obtain ⟨b',_,_,h4,_⟩:=ho
     rw [h1] at h4
     cases h4
     refine ⟨_,idx_run hu he C.w _ _ c i ⟨hk.1,by omega⟩,⟨b,m,h1,?_⟩,rfl⟩
     have ha:(⟨b,k * sz,none⟩:Addr).add (i.toNat * te.size) = ⟨b,k * sz + i.toNat * te.size,none⟩:=by unfold Addr.add; split <;> simp_all
     rw [ha,hs,← Nat.add_mul,show k + i.toNat = q by omega]
     rfl
theorem aIndexAddr_ch {ch:Option Nat} {s:Nat} {x:Cell} {i:Int} {r:OpR} (h:aIndexAddr ch s H n x i = some r) (hk:r.ok) (hx:∀j sz e k,x≠.tail j sz e k):∃r',aIndexAddr none s H n x i = some r'∧r'.ok∧r'.v = r.v∧r'.ws = r.ws∧r'.nid = r.nid∧r'.rd = r.rd:=by
 cases ch with
 | none=>exact ⟨r,h,hk,rfl,rfl,rfl,rfl⟩
 | some k =>
  unfold aIndexAddr at h ⊢
  split at h
  ·exact ⟨r,h,hk,rfl,rfl,rfl,rfl⟩
  ·rename_i j sz e
   cases hs:Nat.beq s sz with
   | false=>rw [hs] at h; cases h
   | true =>
    rw [hs] at h
    simp only [Bool.not_true,cond_false] at h ⊢
    cases hH:H j with
    | dead=>rw [hH] at h; cases h
    | mp l=>rw [hH] at h; cases h
    | arr a=>rw [hH] at h; exact ⟨r,h,hk,rfl,rfl,rfl,rfl⟩
    | raw m cs =>
     rw [hH] at h
     simp only at h ⊢
     cases hb:Nat.blt k m with
     | false=>rw [hb] at h; cases h
     | true =>
      rw [hb] at h
      simp only [cond_true,Option.some.injEq] at h
      subst h
      have hi:i = (k:Int):=hk
      have hkm:k < m:=Nat.le_of_ble_eq_true hb
      refine ⟨_,rfl,⟨by omega,by omega⟩,?_,rfl,rfl,rfl⟩
      subst hi
      rfl
  ·exact absurd rfl (hx _ _ _ _)
  ·cases h
theorem aIndexAddr_ok {ch:Option Nat} {t e:Nat} {te:TI} (hu:P.underlying t = some (.slice e)) (he:TIok P e te) {x:Cell} {v:Value} {i:Int} {r:OpR} (hI:Inv C H) (hx:cellR C x v) (hr:aIndexAddr ch te.size H n x i = some r) (hk:r.ok) :
  ∃z,(Instr.indexAt t v (.int .i64 i)).run P C.w = .ok z C.w∧avR C r.v z∧r.ws = []:=by
 by_cases ht:∃j sz e k,x = .tail j sz e k
 ·obtain ⟨j,sz,e,k,rfl⟩:=ht
  exact aIndexAddr_tail hu he hI hx hr hk
 obtain ⟨r',h1,h2,h3,h4,_⟩:=aIndexAddr_ch hr hk fun j sz e k h=>ht ⟨j,sz,e,k,h⟩
 obtain ⟨z,g1,g2,g3⟩:=aIndexAddr_ok0 hu he hI hx h1 h2
 exact ⟨z,g1,by rw [← h3]; exact g2,by rw [← h4]; exact g3⟩
theorem field_run {t f:Nat} {ti:TI} (h:TIok P t ti) (hf:f < ti.offs.length) (w:World) (a:Addr):(Instr.fieldAt t (.pointer (some a)) f).run P w = .ok (.pointer (some (a.add (nth f ti.offs)))) w:=by
 obtain ⟨d,hd1,-,hd3,-⟩:=h.d
 have hp:=h.pos
 rw [Bool.and_eq_true] at hp
 have hl:ti.offs.length = ti.fsz.length:=by simpa using hp.1
 have hz:(ti.offs.zip ti.fsz)[f]? = some (ti.offs[f],ti.fsz[f]):=by
  rw [List.getElem?_zip_eq_some]
  exact ⟨List.getElem?_eq_getElem hf,List.getElem?_eq_getElem (by omega)⟩
 have hn:nth f ti.offs = ti.offs[f]:=by
  have:∀(l:List Nat) (i:Nat) (hi:i < l.length),nth i l = l[i]:=by
   intro l
   induction l with
   | nil=>intro i hi; cases hi
   | cons x l ih =>
    intro i hi
    cases i with
    | zero=>rfl
    | succ i=>exact ih i (by simpa using hi)
  exact this _ _ hf
 cases d <;> simp only [fieldsD] at hd3
 case struct fs =>
  rw [← hd3,List.getElem?_map] at hz
  cases hfs:fs.toList[f]? with
  | none=>rw [hfs] at hz; cases hz
  | some g =>
   rw [hfs] at hz
   simp only [Option.map_some,Option.some.injEq,Prod.mk.injEq] at hz
   obtain ⟨z1,z2⟩:=hz
   have hpos:0 < ti.fsz[f]:=by
    have:=List.all_eq_true.1 hp.2 _ (List.getElem_mem (by omega:f < ti.fsz.length))
    exact Nat.le_of_ble_eq_true this
   have hfs':fs[f]? = some g:=by simpa using hfs
   cases hi:P.info? g.type with
   | none=>rw [hi] at z2; simp at z2; omega
   | some i =>
    rw [hi] at z2
    simp only [Option.map_some,Option.getD_some] at z2
    have hs:(sizeOf g.type).run P w = .ok i.size w:=by simp [sizeOf,typeInfo,hi]
    have hne:¬ i.size = 0:=by omega
    simp [Instr.fieldAt,run_underlying hd1,hfs',Instr.sureAddr,fieldPlace,hs,hne,hn,z1]
 all_goals
  have:(ti.offs.zip ti.fsz).length = 0:=by rw [← hd3]; rfl
  rw [List.length_zip] at this
  omega
theorem aFieldAddr_ok {t f:Nat} {ti:TI} (h:TIok P t ti) (hf:f < ti.offs.length) {x:Cell} {v:Value} {r:OpR} (hx:cellR C x v) (hr:aFieldAddr (nth f ti.offs) n x = some r) (hk:r.ok) :
  ∃z,(Instr.fieldAt t v f).run P C.w = .ok z C.w∧avR C r.v z∧r.ws = []:=by
 have ha:∀b o q,(⟨b,o,none⟩:Addr).add q = ⟨b,o + q,none⟩:=fun b o q=>by unfold Addr.add; split <;> simp_all
 unfold aFieldAddr at hr
 split at hr
 ·simp only [okv,Option.some.injEq] at hr
  subst hr
  obtain ⟨b,m,h1,rfl⟩:=hx
  exact ⟨_,field_run h hf _ _,⟨b,m,h1,by rw [ha]; rfl⟩,rfl⟩
 ·simp only [okv,Option.some.injEq] at hr
  subst hr
  obtain ⟨b,m,h1,rfl⟩:=hx
  exact ⟨_,field_run h hf _ _,⟨b,m,h1,by rw [ha,Nat.add_assoc]; rfl⟩,rfl⟩
 ·simp only [okv,Option.some.injEq] at hr
  subst hr
  obtain ⟨ad,rfl,h2,h3⟩:=hx
  refine ⟨_,field_run h hf _ _,⟨_,rfl,by rw [add_block]; exact h2,fun j x hj=>?_⟩,rfl⟩
  rename_i z e o
  have e1:Nat.add o (nth f ti.offs) + j = o + (nth f ti.offs + j):=by show o + nth f ti.offs + j = _; omega
  rw [e1] at hj
  rw [add_add']
  exact h3 _ _ hj
 ·rename_i l o
  simp only [Option.some.injEq] at hr
  subst hr
  obtain ⟨l,g⟩:=l
  replace hx:=hx.1
  cases l with
  | nil=>exact absurd rfl hk
  | cons s r =>
   obtain ⟨ad,rfl,h2⟩:=hx
   exact ⟨_,field_run h hf _ _,⟨⟨ad,by rw [add_add']; rfl,h2⟩,fun _ e=>by cases e⟩,rfl⟩
 ·cases hr
end
end Hw
end Go.Proofs.YtklmllaggigkfaaGreat
/- The operations one by one. Part 9: literals of structs and slices. -/
set_option linter.unusedVariables false
set_option linter.unusedSimpArgs false
namespace Go.Proofs.YtklmllaggigkfaaGreat
namespace Hw
open Go
section
variable {P:Program} {E:Env} {C:Cx} {H:Hp} {n:Nat}
def valsR (C:Cx):List FV→List Value→Prop
 | [],[]=>True
 | x :: r,v :: s=>fvR C x v∧valsR C r s
 | _,_=>False
theorem valsR_len {C:Cx}:∀{xs:List FV} {vs:List Value},valsR C xs vs→vs.length = xs.length
 | [],[],_=>rfl
 | x :: r,v :: s,h=>by rw [List.length_cons,List.length_cons,valsR_len h.2]
theorem valsR_get {C:Cx} {xs:List FV} {vs:List Value} (h:valsR C xs vs) (j:Nat) (x:FV) (hx:xs[j]? = some x):∃u,vs[j]? = some u∧fvR C x u:=by
 induction xs generalizing vs j with
 | nil=>simp at hx
 | cons y r ih =>
  cases vs with
  | nil=>exact h.elim
  | cons v s =>
   cases j with
   | zero =>
    simp only [List.getElem?_cons_zero,Option.some.injEq] at hx
    subst hx
    exact ⟨v,rfl,h.1⟩
   | succ j =>
    simp only [List.getElem?_cons_succ] at hx ⊢
    exact ih h.2 j hx
theorem cellsR_append {C:Cx} {a b:List Cell} {u v:List Value} (h1:cellsR C a u) (h2:cellsR C b v):cellsR C (a ++ b) (u ++ v):=by
 refine ⟨by rw [List.length_append,List.length_append,h1.1,h2.1],fun j x hj=>?_⟩
 by_cases hl:j < a.length
 ·rw [List.getElem?_append_left hl] at hj
  rw [List.getElem?_append_left (by rw [h1.1]; exact hl)]
  exact h1.2 _ _ hj
 ·rw [List.getElem?_append_right (by omega)] at hj
  rw [List.getElem?_append_right (by rw [h1.1]; omega),h1.1]
  exact h2.2 _ _ hj
theorem vals_cells {C:Cx}:∀{xs:List FV} {vs:List Value},valsR C xs vs→cellsR C (xs.flatMap FV.cells) (vs.flatMap fun v=>v.cells.toList)
 | [],[],_=>⟨rfl,fun j x h=>by cases h⟩
 | x :: r,v :: s,h=>by
  rw [List.flatMap_cons,List.flatMap_cons]
  exact cellsR_append (fv_cells h.1) (vals_cells h.2)
def pairsR (C:Cx):List (Nat×FV)→List (Nat×Value)→Prop
 | [],[]=>True
 | x :: r,v :: s=>x.1 = v.1∧fvR C x.2 v.2∧pairsR C r s
 | _,_=>False
theorem pairs_of {C:Cx} {ps:List (Nat×Value)} {xs:List FV} (h:valsR C xs (ps.map (·.2))):pairsR C ((ps.map (·.1)).zip xs) ps:=by
 induction ps generalizing xs with
 | nil =>
  cases xs with
  | nil=>trivial
  | cons x xs=>exact h.elim
 | cons p ps ih =>
  cases xs with
  | nil=>exact h.elim
  | cons x xs=>exact ⟨rfl,h.1,ih h.2⟩
theorem fill_ok {C:Cx} {offs fsz:List Nat} (hl:offs.length = fsz.length):∀(ps:List (Nat×FV)) (qs:List (Nat×Value)) (cs cs':List Cell) (cells:Array Value),pairsR C ps qs→cellsR C cs cells.toList→fill offs fsz ps cs = some cs' →
  ∃cells',Instr.fill ((offs.zip fsz).toArray[·]?) cells qs = some cells'∧cellsR C cs' cells'.toList
 | [],[],cs,cs',cells,_,hc,h=>by
  simp only [fill,Option.some.injEq] at h
  subst h
  exact ⟨cells,rfl,hc⟩
 | (f,x) :: ps,(g,v) :: qs,cs,cs',cells,hp,hc,h=>by
  obtain ⟨h1,h2,h3⟩:=hp
  simp only at h1 h2
  subst h1
  unfold fill at h
  cases hb:(Nat.blt f offs.length && Nat.beq x.cells.length (nth f fsz) && Nat.ble (Nat.add (nth f offs) x.cells.length) cs.length) with
  | false=>rw [hb] at h; cases h
  | true =>
   rw [hb] at h
   simp only [cond_true] at h
   simp only [Bool.and_eq_true] at hb
   obtain ⟨⟨hb1,hb2⟩,hb3⟩:=hb
   have hb1:f < offs.length:=Nat.le_of_ble_eq_true hb1
   have hb2:=Nat.eq_of_beq_eq_true hb2
   have hb3:nth f offs + x.cells.length≤cs.length:=Nat.le_of_ble_eq_true hb3
   have hn:∀(l:List Nat) (i:Nat) (hi:i < l.length),nth i l = l[i]:=by
    intro l
    induction l with
    | nil=>intro i hi; cases hi
    | cons x l ih =>
     intro i hi
     cases i with
     | zero=>rfl
     | succ i=>exact ih i (by simpa using hi)
   have hv:=fv_cells h2
   have hvl:v.cells.size = x.cells.length:=by have:=hv.1; simpa using this
   have hcl:cells.size = cs.length:=by have:=hc.1; simpa using this
   obtain ⟨g1,g2⟩:=Great.foldl_set (nth f offs) v.cells.toList 0 cells
   have hR:cellsR C (splice cs (nth f offs) x.cells) ((v.cells.toList.zipIdx 0).foldl (fun cs (y:Value×Nat)=>cs.setIfInBounds (nth f offs + y.2) y.1) cells).toList:=by
    refine ⟨by rw [splice_len hb3,Array.length_toList,g1,hcl],fun j y hj=>?_⟩
    rw [splice_eq,seg_get _ _ _ _ hb3] at hj
    rw [Array.getElem?_toList,g2 j]
    simp only [Nat.add_zero,Array.length_toList,hvl]
    split at hj
    ·rename_i hcnd
     rw [if_pos ⟨hcnd.1,hcnd.2,by omega⟩]
     exact hv.2 _ _ hj
    ·rename_i hcnd
     rw [if_neg (fun hh=>hcnd ⟨hh.1,hh.2.1⟩),← Array.getElem?_toList]
     exact hc.2 _ _ hj
   obtain ⟨cells',h4,h5⟩:=fill_ok hl ps qs _ cs' _ h3 hR h
   refine ⟨cells',?_,h5⟩
   have hz:(offs.zip fsz).toArray[f]? = some (nth f offs,nth f fsz):=by
    rw [List.getElem?_toArray,List.getElem?_zip_eq_some,hn _ _ hb1,hn _ _ (by omega)]
    exact ⟨List.getElem?_eq_getElem hb1,List.getElem?_eq_getElem (by omega)⟩
   unfold Instr.fill
   simp only [hz]
   rw [if_neg (by simp [hvl,hb2]; omega),← h4]
   congr 1
   rw [← Array.foldl_toList,Array.toList_zipIdx]
theorem places_of:∀(fs:List Field) (l:List (Nat×Nat)),(fs.map fun f=>(f.offset,((P.info? f.type).map (·.size)).getD 0)) = l→(∀p∈l,0 < p.2)→fs.mapM (fun f=>(P.info? f.type).map fun i=>(f.offset,i.size)) = some l
 | [],l,h,_=>by simp at h; subst h; rfl
 | f :: fs,l,h,hp=>by
  cases l with
  | nil=>cases h
  | cons p l =>
   simp only [List.map_cons,List.cons.injEq] at h
   have h2:=places_of fs l h.2 (fun q hq=>hp q (List.mem_cons_of_mem _ hq))
   have h3:=hp p List.mem_cons_self
   rw [← h.1] at h3
   cases hi:P.info? f.type with
   | none=>rw [hi] at h3; simp at h3
   | some i =>
    have:=h.1
    rw [hi] at this
    simp only [Option.map_some,Option.getD_some] at this
    simp only [List.mapM_cons,hi,h2,Option.map_some,Option.pure_def,Option.bind_eq_bind,Option.bind_some,this]
theorem build_ok {t:Nat} {ti:TI} (h:TIok P t ti) {parts:Array (Nat×Value)} {xs:List FV} {cs:List Cell} (hx:valsR C xs (parts.toList.map (·.2))) (hne:ti.offs≠[]∨(parts = #[]∧ti.agg = true)) (hf:fill ti.offs ti.fsz ((parts.toList.map (·.1)).zip xs) ti.zero = some cs) :
  ∃u,(Instr.build t parts).run P C.w = .ok u C.w∧fvR C (.agg cs) u:=by
 obtain ⟨d,hd1,hd2,hd3,-⟩:=h.d
 obtain ⟨i,z,hi1,hi2,hi3,hi4,hi5⟩:=h.i
 have hp:=h.pos
 rw [Bool.and_eq_true] at hp
 have hl:ti.offs.length = ti.fsz.length:=by simpa using hp.1
 obtain ⟨cells',h1,h2⟩:=fill_ok hl _ _ _ _ z.cells (pairs_of hx) (by rw [hi5]; exact zero_R C h.one) hf
 refine ⟨.agg cells',run_build _ _ _ _ ?_,cells',rfl,by simpa using h2.1,fun j x hj=>by obtain ⟨u,h3,h4⟩:=h2.2 j x hj; exact ⟨u,by simpa using h3,h4⟩⟩
 cases d <;> simp only [fieldsD] at hd3
 case struct fs =>
  have h3:=places_of (P:=P) fs.toList _ hd3 (fun p hp'=>by
   have:=(List.of_mem_zip hp').2
   exact Nat.le_of_ble_eq_true (List.all_eq_true.1 hp.2 _ this))
  unfold Program.built
  rw [hi1,hd1]
  simp only [hi2,h3]
  exact h1
 all_goals
  have:(ti.offs.zip ti.fsz).length = 0:=by rw [← hd3]; rfl
  rw [List.length_zip,hl] at this
  rcases hne with hne | ⟨hp0,hag⟩
  ·exact absurd (List.length_eq_zero_iff.1 (by omega)) hne
  ·have hs:=h.str
   rw [hd1,hag] at hs
   simp [isStrD] at hs
end
end Hw
end Go.Proofs.YtklmllaggigkfaaGreat
/- The operations one by one. Part 10: literals of slices. -/
set_option linter.unusedVariables false
set_option linter.unusedSimpArgs false
namespace Go.Proofs.YtklmllaggigkfaaGreat
namespace Hw
open Go
section
variable {P:Program} {E:Env} {C:Cx} {H:Hp} {n:Nat}
theorem one_spec (e:El):(Arr.one e).len = 1∧(Arr.one e).get 0 = e:=by cases e <;> exact ⟨rfl,rfl⟩
theorem rowL_one_el {C:Cx} {e:El} {us:List Value} (h:elR C e us) (hl:us.length = (e.cells true).length):rowL C (Arr.one e) us:=by
 obtain ⟨h1,h2⟩:=one_spec e
 refine ⟨?_,fun k hk j x hj=>?_⟩
 ·rw [h1,Nat.one_mul,← cells_len (Arr.one e) 0 true,h2]; exact hl
 ·rw [h1] at hk
  have:k = 0:=by omega
  subst this
  rw [h2] at hj
  rw [Nat.zero_mul,Nat.zero_add]
  exact h j x hj
theorem ofEls_ok {C:Cx} {k:EK}:∀(css:List (List Cell)) (es:List El) (a:Arr) (us:List Value),elsOf k css = some es→Arr.ofEls k es = some a→allR C (css.flatMap id) us→(∀c∈css,c.length = k.size)→rowL C a us∧a.len = css.length∧a.esz = k.size
 | [],es,a,us,h1,h2,hR,_=>by
  simp only [elsOf,Option.some.injEq] at h1
  subst h1
  simp only [Arr.ofEls,Option.some.injEq] at h2
  subst h2
  obtain ⟨n1,n2⟩:=nil_spec k
  have hu:us = []:=by cases us with
   | nil=>rfl
   | cons u us=>exact hR.elim
  subst hu
  exact ⟨⟨by rw [n1]; simp,fun k hk=>by rw [n1] at hk; omega⟩,n1,n2⟩
 | c :: css,es,a,us,h1,h2,hR,hl=>by
  unfold elsOf at h1
  cases he:El.ofCells k c with
  | none=>rw [he] at h1; cases h1
  | some e =>
   rw [he] at h1
   simp only [Option.bind_some] at h1
   cases hes:elsOf k css with
   | none=>rw [hes] at h1; cases h1
   | some es' =>
    rw [hes] at h1
    simp only [Option.map_some,Option.some.injEq] at h1
    subst h1
    unfold Arr.ofEls at h2
    cases hb:Arr.ofEls k es' with
    | none=>rw [hb] at h2; cases h2
    | some b =>
     rw [hb] at h2
     simp only [Option.bind_some] at h2
     have hlc:=hl c List.mem_cons_self
     have split:∀(x y:List Cell) (us:List Value),allR C (x ++ y) us→allR C x (us.take x.length)∧allR C y (us.drop x.length):=by
      intro x
      induction x with
      | nil=>intro y us h; exact ⟨trivial,h⟩
      | cons q x ih =>
       intro y us h
       cases us with
       | nil=>exact h.elim
       | cons u us=>exact ⟨⟨h.1,h.2.1,(ih y us h.2.2).1⟩,(ih y us h.2.2).2⟩
     rw [List.flatMap_cons] at hR
     obtain ⟨r1,r2⟩:=split _ _ _ hR
     have hR1:=ofCells_R r1 he
     have hlen:∀(x:List Cell) (us:List Value),allR C x us→us.length = x.length:=by
      intro x
      induction x with
      | nil=>intro us h; cases us with
       | nil=>rfl
       | cons u us=>exact h.elim
      | cons q x ih=>intro us h; cases us with
       | nil=>exact h.elim
       | cons u us=>rw [List.length_cons,List.length_cons,ih us h.2.2]
     have hek:=ofCells_ek he
     obtain ⟨i1,i2,i3⟩:=ofEls_ok css es' b _ hes hb r2 (fun c' hc'=>hl c' (List.mem_cons_of_mem _ hc'))
     have hrow1:=rowL_one_el hR1 (by rw [hlen _ _ r1,hek]; exact hlc)
     have hrow:=rowL_app h2 hrow1 i1
     rw [List.take_append_drop] at hrow
     obtain ⟨s1,s2,s3,_⟩:=app_spec h2
     refine ⟨hrow,?_,?_⟩
     ·rw [s1,i2,(one_spec e).1,List.length_cons]; omega
     ·rw [s2,← s3]; exact i3
theorem inOrder_of:∀(ps:List (Nat×Value)) (i:Nat),inOrder (ps.map (·.1)) i = true→ps = ((ps.map (·.2)).zipIdx i).map fun x=>(x.2,x.1)
 | [],i,_=>rfl
 | p :: ps,i,h=>by
  simp only [List.map_cons,inOrder,Bool.and_eq_true] at h
  have h1:=Nat.eq_of_beq_eq_true h.1
  have h2:=inOrder_of ps (i + 1) h.2
  simp only [List.map_cons,List.zipIdx_cons]
  rw [← h2,h1]
theorem newSlice_run {t e len:Nat} {te:TI} (hu:P.underlying t = some (.slice e)) (he:TIok P e te) {k:EK} (hk:te.ek = some k) (w:World) {parts:Array (Nat×Value)} (hn:parts.toList.length = len) (hlen:len≤1000)
  (ho:inOrder (parts.toList.map (·.1)) 0 = true) (hs:∀v∈parts.toList.map (·.2),v.cells.size = k.size) :
  (Instr.buildSlice t len parts).run P w = .ok (.slice (some ⟨w.heap.size,0,none⟩) len len) (w.alloc (.cells ((parts.toList.map (·.2)).flatMap fun v=>v.cells.toList).toArray e)):=by
 obtain ⟨i,z,hi1,hi2,hi3,hi4,hi5⟩:=he.i
 have hek:=he.ek
 rw [hk] at hek
 have hsz:i.size = k.size:=by rw [hi3]; exact hek.2.1
 have hkp:=k.size_pos
 have hk13:k.size≤13:=by cases k <;> decide
 cases hz:len with
 | zero =>
  have hp:parts = #[]:=by
   rw [hz] at hn
   exact Array.eq_empty_of_size_eq_zero (by simpa using hn)
  subst hp
  simp [Instr.buildSlice,run_underlying hu,sizeOf,typeInfo,hi1,newRow,Instr.fill]
  congr 2
  apply Array.ext <;> simp
 | succ m =>
  rw [← hz]
  have hm:len * i.size≤1000 * 13:=Nat.mul_le_mul hlen (by rw [hsz]; exact hk13)
  have hpos:0 < len * i.size:=Nat.mul_pos (by omega) (by rw [hsz]; exact hkp)
  refine run_buildSlice (P:=P) w t e len parts _ i z hu hi1 hi2 (by omega) (by omega) ?_
  have h2:=Great.fill_whole (s:=k.size) hkp (parts.toList.map (·.2)) ((Array.range (len * k.size)).map (z.cells[· % z.cells.size]!)) hs (by simp [← hn])
  rw [← inOrder_of _ _ ho] at h2
  rw [hsz]
  exact h2
theorem buildSlice_ok {t e len:Nat} {te:TI} {k:EK} {raw:Bool} {r:OpR} (hu:P.underlying t = some (.slice e)) (he:TIok P e te) (hk:te.ek = some k) (hI:Inv C H) (hn:C.ρ n = none) {parts:Array (Nat×Value)} {xs:List FV}
  (hx:valsR C xs (parts.toList.map (·.2))) (hr:aBuildSlice k e raw len H n (parts.toList.map (·.1)) xs = some r) :
  ∃u w',(Instr.buildSlice t len parts).run P C.w = .ok u w'∧∃C',Left C H n r u w' C':=by
 unfold aBuildSlice at hr
 cases hb:(Nat.beq xs.length len && Nat.beq (parts.toList.map (·.1)).length len && inOrder (parts.toList.map (·.1)) 0 && Nat.ble len 1000 && xs.all (fun x=>Nat.beq x.cells.length k.size)) with
 | false=>rw [hb] at hr; cases hr
 | true =>
 rw [hb] at hr
 simp only [cond_true] at hr
 simp only [Bool.and_eq_true] at hb
 obtain ⟨⟨⟨⟨b1,b2⟩,b3⟩,b4⟩,b5⟩:=hb
 have b1:=Nat.eq_of_beq_eq_true b1
 have b4:len≤1000:=Nat.le_of_ble_eq_true b4
 have hvl:=valsR_len hx
 have hpl:parts.toList.length = len:=by rw [List.length_map] at hvl; omega
 have hxs:∀x∈xs,x.cells.length = k.size:=fun x hx=>Nat.eq_of_beq_eq_true (List.all_eq_true.1 b5 x hx)
 have hs:∀v∈parts.toList.map (·.2),v.cells.size = k.size:=by
  intro v hv
  obtain ⟨j,hj⟩:=List.mem_iff_getElem?.1 hv
  have hjl:j < xs.length:=by rw [← hvl]; exact (List.getElem?_eq_some_iff.1 hj).1
  obtain ⟨u,h1,h2⟩:=valsR_get hx j _ (List.getElem?_eq_getElem hjl)
  rw [hj] at h1
  cases h1
  have:=(fv_cells h2).1
  rw [← Array.length_toList,this]
  exact hxs _ (List.getElem_mem hjl)
 have hrun:=newSlice_run (P:=P) hu he hk C.w hpl b4 b3 hs
 have hcs:=vals_cells hx
 have hlen:((parts.toList.map (·.2)).flatMap fun v=>v.cells.toList).length = len * k.size:=by
  rw [hcs.1,← b1]
  have:∀(xs:List FV),(∀x∈xs,x.cells.length = k.size)→(xs.flatMap FV.cells).length = xs.length * k.size:=by
   intro xs
   induction xs with
   | nil=>intro _; simp
   | cons x xs ih=>intro h; rw [List.flatMap_cons,List.length_append,ih (fun y hy=>h y (List.mem_cons_of_mem _ hy)),h x List.mem_cons_self,List.length_cons,Nat.succ_mul]; omega
  exact this xs hxs
 cases raw with
 | true =>
  simp only [cond_true,Option.some.injEq] at hr
  subst hr
  refine ⟨_,_,hrun,_,made_left (m:=len) hI hn (add_raw hI hn (by simpa using hcs)) rfl rfl (.inr ⟨_,len,len,_,add_own,rfl,Nat.le_refl _,heap_add_new,?_,by omega⟩)⟩
  simpa using hlen
 | false =>
  simp only [cond_false] at hr
  cases hc:((xs.flatMap FV.cells).all (Cell.lasts H) && nodupN (frozenIds (xs.flatMap FV.cells))) with
  | false=>rw [hc] at hr; cases hr
  | true =>
   rw [hc] at hr
   simp only [cond_true] at hr
   rw [Bool.and_eq_true] at hc
   cases hes:elsOf k (xs.map fun x=>x.cells.map (Cell.last H)) with
   | none=>rw [hes] at hr; cases hr
   | some es =>
    rw [hes] at hr
    simp only [Option.bind_some] at hr
    cases ha:Arr.ofEls k es with
    | none=>rw [ha] at hr; cases hr
    | some a =>
     rw [ha] at hr
     simp only [Option.map_some,Option.some.injEq] at hr
     subst hr
     have hflat:(xs.map fun x=>x.cells.map (Cell.last H)).flatMap id = (xs.flatMap FV.cells).map (Cell.last H):=by
      rw [List.flatMap_map,List.map_flatMap]; rfl
     have hall:allR (C.fz (frozenIds (xs.flatMap FV.cells))) ((xs.map fun x=>x.cells.map (Cell.last H)).flatMap id) ((parts.toList.map (·.2)).flatMap fun v=>v.cells.toList):=by
      rw [hflat]
      refine allR_of (map_last_R hI hc.1 hcs) fun x hx=>?_
      obtain ⟨y,hy,rfl⟩:=List.mem_map.1 hx
      exact last_plain (List.all_eq_true.1 hc.1 y hy)
     obtain ⟨o1,o2,o3⟩:=ofEls_ok _ _ _ _ hes ha hall (by
      intro c hc
      obtain ⟨x,hx,rfl⟩:=List.mem_map.1 hc
      rw [List.length_map]; exact hxs x hx)
     rw [List.length_map,b1] at o2
     have hF:=fz_inv hI (js:=frozenIds (xs.flatMap FV.cells)) (frozen_live hc.1)
     have L:=made_left (C:=C.fz (frozenIds (xs.flatMap FV.cells))) (n:=n) (r:=⟨none,.v (.c (.own n k.size e)),[],[(n,.arr a)],Nat.succ n⟩) (m:=a.len) (e:=e)
      (vs:=((parts.toList.map (·.2)).flatMap fun v=>v.cells.toList).toArray) (v:=.slice (some ⟨C.w.heap.size,0,none⟩) len len) hF hn
      (add_arr hF hn o1 (fun j u hj=>by simpa using hj) (by simp) (by rw [o2]; unfold big; omega)) rfl rfl
      (.inr ⟨_,a.len,len,_,add_own,by rw [o2]; rfl,by omega,heap_add_new,by simpa using hlen,by omega⟩)
     refine ⟨_,_,hrun,_,L.w,L.v,?_,?_,fun i p hp=>?_⟩
     ·show Inv _ (wr H (List.append _ _))
      have e1:List.append ((frozenIds (xs.flatMap FV.cells)).map fun j=>(j,Blk.dead)) [(n,.arr a)] = ((frozenIds (xs.flatMap FV.cells)).map fun j=>(j,Blk.dead)) ++ [(n,.arr a)]:=rfl
      rw [e1,wr_append]
      exact L.inv
     ·refine Ext.trans (T':=fun _=>False) (fz_ext _ (fun b j m hj hm=>⟨j,m,?_,frozen_live hc.1 j hj,hm⟩)) (add_ext (C:=C.fz (frozenIds (xs.flatMap FV.cells))) _ hn) (fun _ h _=>h.elim)
      show j∈(List.append _ _).map _
      rw [show List.append ((frozenIds (xs.flatMap FV.cells)).map fun j=>(j,Blk.dead)) [(n,.arr a)] = ((frozenIds (xs.flatMap FV.cells)).map fun j=>(j,Blk.dead)) ++ [(n,.arr a)] from rfl,List.map_append,List.mem_append,List.map_map]
      exact .inl (List.mem_map.2 ⟨j,hj,rfl⟩)
     ·rcases add_new i p hp with h | ⟨rfl,h⟩
      ·exact .inl h
      ·exact .inr ⟨Nat.le_refl _,Nat.lt_succ_self _,fun b hb=>.inr (by rw [h] at hb; cases hb; exact Nat.le_refl _)⟩
end
end Hw
end Go.Proofs.YtklmllaggigkfaaGreat
/- Calls: what the called says of the blocks handed over, in the caller's own numbers. -/
set_option linter.unusedVariables false
set_option linter.unusedSimpArgs false
namespace Go.Proofs.YtklmllaggigkfaaGreat
namespace Hw
open Go
theorem cellR_ren {C D:Cx} {x:Cell} {v:Value} {f:Nat→Nat} (hw:D.w = C.w) (hf:∀b,C.frz b→D.frz b) (hv:x.safe = true∨∀b,C.vis b→D.vis b)
  (hρ:∀i∈x.ids,∀p,C.ρ i = some p→D.ρ (f i) = some p) (h:cellR C x v):cellR D (x.ren f) v:=by
 have hS:∀z:Bool,(z = true∨∀b,C.vis b→D.vis b)→∀b,C.S z b→D.S z b:=by
  intro z hz b hb
  cases z with
  | true=>exact hf b hb
  | false =>
   rcases hz with hz | hz
   ·cases hz
   ·exact hz b hb
 cases x with
 | arr z a=>exact arrR_ext (hS z hv) (fun _ _=>by rw [hw]) 4 a v h
 | own i sz e =>
  rcases h with ⟨h1,h2⟩ | ⟨b,n,c,vs,h1,h2,h3,h4,h5⟩
  ·exact .inl ⟨hρ i (by simp [Cell.ids]) _ h1,h2⟩
  exact .inr ⟨b,n,c,vs,hρ i (by simp [Cell.ids]) _ h1,h2,h3,by rw [hw]; exact h4,h5⟩
 | ptr i k =>
  obtain ⟨b,n,h1,h2⟩:=h
  exact ⟨b,n,hρ i (by simp [Cell.ids]) _ h1,h2⟩
 | mp i =>
  obtain ⟨b,n,h1,h2⟩:=h
  exact ⟨b,n,hρ i (by simp [Cell.ids]) _ h1,h2⟩
 | clo f i =>
  obtain ⟨b,n,h1,h2⟩:=h
  exact ⟨b,n,hρ i (by simp [Cell.ids]) _ h1,h2⟩
 | ep i sz k o =>
  obtain ⟨b,n,h1,h2⟩:=h
  exact ⟨b,n,hρ i (by simp [Cell.ids]) _ h1,h2⟩
 | rp z e k =>
  obtain ⟨ad,h1,h2,h3⟩:=h
  refine ⟨ad,h1,hS z hv _ h2,fun j y hj=>?_⟩
  obtain ⟨u,h4,h5⟩:=h3 j y hj
  refine ⟨u,by rw [hw]; exact h4,elC_imp h5 fun _ b _ h6=>arrR_ext (hS z hv) (fun _ _=>by rw [hw]) 3 b u h6⟩
 | tail i sz e k =>
  obtain ⟨b,n,c,vs,h1,h2,h3,h4,h5,h6⟩:=h
  exact ⟨b,n,c,vs,hρ i (by simp [Cell.ids]) _ h1,h2,h3,h4,by rw [hw]; exact h5,h6⟩
 | mk l k=>exact ⟨mkR_ext (hS true (.inl rfl)) (fun _ _=>by rw [hw]) l.l k v h.1,h.2⟩
 | _=>exact h
theorem fvR_ren {C D:Cx} {x:FV} {v:Value} {f:Nat→Nat} (hw:D.w = C.w) (hf:∀b,C.frz b→D.frz b) (hv:x.safe = true∨∀b,C.vis b→D.vis b)
  (hρ:∀i∈x.ids,∀p,C.ρ i = some p→D.ρ (f i) = some p) (h:fvR C x v):fvR D (x.ren f) v:=by
 cases x with
 | c x=>exact cellR_ren hw hf hv hρ h
 | agg cs =>
  obtain ⟨vs,h1,h2,h3⟩:=h
  refine ⟨vs,h1,by rw [List.length_map]; exact h2,fun j y hj=>?_⟩
  rw [List.getElem?_map] at hj
  cases hc:cs[j]? with
  | none=>rw [hc] at hj; cases hj
  | some x =>
   rw [hc] at hj
   simp only [Option.map_some,Option.some.injEq] at hj
   subst hj
   obtain ⟨u,h4,h5⟩:=h3 j x hc
   have hm:=List.mem_of_getElem? hc
   refine ⟨u,h4,cellR_ren hw hf (hv.imp_left fun h=>List.all_eq_true.1 h x hm) (fun i hi=>hρ i ?_) h5⟩
   exact List.mem_flatMap.2 ⟨x,hm,hi⟩
theorem avR_ren {C D:Cx} {x:AV} {v:Value} {f:Nat→Nat} (hw:D.w = C.w) (hf:∀b,C.frz b→D.frz b) (hv:x.safe = true∨∀b,C.vis b→D.vis b)
  (hρ:∀i p,C.ρ i = some p→D.ρ (f i) = some p) (h:avR C x v):avR D (x.ren f) v:=by
 cases x with
 | v x=>exact fvR_ren hw hf hv (fun i _=>hρ i) h
 | tup xs =>
  obtain ⟨vs,h1,h2,h3⟩:=h
  refine ⟨vs,h1,by rw [List.length_map]; exact h2,fun j y hj=>?_⟩
  rw [List.getElem?_map] at hj
  cases hc:xs[j]? with
  | none=>rw [hc] at hj; cases hj
  | some x =>
   rw [hc] at hj
   simp only [Option.map_some,Option.some.injEq] at hj
   subst hj
   obtain ⟨u,h4,h5⟩:=h3 j x hc
   exact ⟨u,h4,fvR_ren hw hf (hv.imp_left fun h=>List.all_eq_true.1 h x (List.mem_of_getElem? hc)) (fun i _=>hρ i) h5⟩
 | top=>trivial
theorem OwnAt_ren {C D:Cx} {i j:Nat} {b:Blk} {f:Nat→Nat} (hw:D.w = C.w) (hf:D.frz = C.frz) (hv1:∀b,D.vis b→C.vis b) (hv2:b.safe = true∨∀b,C.vis b→D.vis b)
  (hi:∀p,C.ρ i = some p→D.ρ j = some p) (hρ:∀i∈b.ids,∀p,C.ρ i = some p→D.ρ (f i) = some p) (h:OwnAt C i b):OwnAt D j (b.ren f):=by
 cases b with
 | dead=>trivial
 | mp l =>
  obtain ⟨b,m,h1,h2,h3,h4⟩:=h
  exact ⟨b,m,hi _ h1,by rw [hf]; exact h2,fun hh=>h3 (hv1 b hh),by rw [hw]; exact h4⟩
 | raw m cs =>
  obtain ⟨b,vs,e,h1,h2,h3,h4,h5,h6⟩:=h
  refine ⟨b,vs,e,hi _ h1,by rw [hf]; exact h2,fun hh=>h3 (hv1 b hh),by rw [hw]; exact h4,by rw [List.length_map]; exact h5,fun k y hj=>?_⟩
  rw [List.getElem?_map] at hj
  cases hc:cs[k]? with
  | none=>rw [hc] at hj; cases hj
  | some x =>
   rw [hc] at hj
   simp only [Option.map_some,Option.some.injEq] at hj
   subst hj
   obtain ⟨u,h7,h8⟩:=h6 k x hc
   have hm:=List.mem_of_getElem? hc
   exact ⟨u,h7,cellR_ren hw (by rw [hf]; exact fun _ h=>h) (hv2.imp_left fun h=>List.all_eq_true.1 h x hm) (fun i hi=>hρ i (List.mem_flatMap.2 ⟨x,hm,hi⟩)) h8⟩
 | arr a =>
  rcases h with ⟨h0,h1⟩ | ⟨b,vs,e,h1,h2,h3,h4,h5,h5',h6⟩
  ·exact .inl ⟨h0,hi _ h1⟩
  exact .inr ⟨b,vs,e,hi _ h1,by rw [hf]; exact h2,fun hh=>h3 (hv1 b hh),by rw [hw]; exact h4,h5,h5',by rw [hw,hf]; exact h6⟩
theorem OwnAt_ren' {C D:Cx} {i j:Nat} {b:Blk} {f:Nat→Nat} (hw:D.w = C.w) (hf:D.frz = C.frz) (hnv:∀b m,C.ρ i = some (some b,m)→¬ D.vis b) (hv2:b.safe = true∨∀b,C.vis b→D.vis b)
  (hi:∀p,C.ρ i = some p→D.ρ j = some p) (hρ:∀i∈b.ids,∀p,C.ρ i = some p→D.ρ (f i) = some p) (h:OwnAt C i b):OwnAt D j (b.ren f):=by
 cases b with
 | dead=>trivial
 | mp l =>
  obtain ⟨b,m,h1,h2,h3,h4⟩:=h
  exact ⟨b,m,hi _ h1,by rw [hf]; exact h2,hnv _ _ h1,by rw [hw]; exact h4⟩
 | raw m cs =>
  obtain ⟨b,vs,e,h1,h2,h3,h4,h5,h6⟩:=h
  refine ⟨b,vs,e,hi _ h1,by rw [hf]; exact h2,hnv _ _ h1,by rw [hw]; exact h4,by rw [List.length_map]; exact h5,fun k y hj=>?_⟩
  rw [List.getElem?_map] at hj
  cases hc:cs[k]? with
  | none=>rw [hc] at hj; cases hj
  | some x =>
   rw [hc] at hj
   simp only [Option.map_some,Option.some.injEq] at hj
   subst hj
   obtain ⟨u,h7,h8⟩:=h6 k x hc
   have hm:=List.mem_of_getElem? hc
   exact ⟨u,h7,cellR_ren hw (by rw [hf]; exact fun _ h=>h) (hv2.imp_left fun h=>List.all_eq_true.1 h x hm) (fun i hi=>hρ i (List.mem_flatMap.2 ⟨x,hm,hi⟩)) h8⟩
 | arr a =>
  rcases h with ⟨h0,h1⟩ | ⟨b,vs,e,h1,h2,h3,h4,h5,h5',h6⟩
  ·exact .inl ⟨h0,hi _ h1⟩
  exact .inr ⟨b,vs,e,hi _ h1,by rw [hf]; exact h2,hnv _ _ h1,by rw [hw]; exact h4,h5,h5',by rw [hw,hf]; exact h6⟩
theorem nth_eq:∀{l:List Nat} {i:Nat} (h:i < l.length),nth i l = l[i]
 | x :: l,0,_=>rfl
 | x :: l,i + 1,h=>nth_eq (l:=l) (by simpa using h)
theorem idx_mem:∀{l:List Nat} {i:Nat},i∈l→idx i l < l.length∧nth (idx i l) l = i
 | x :: l,i,h=>by
  unfold idx
  cases hb:Nat.beq i x with
  | true=>exact ⟨by simp,(Nat.eq_of_beq_eq_true hb).symm⟩
  | false =>
   have hne:i≠x:=fun e=>by rw [e] at hb; simp at hb
   have hm:i∈l:=by
    rcases List.mem_cons.1 h with h | h
    ·exact absurd h hne
    ·exact h
   obtain ⟨h1,h2⟩:=idx_mem hm
   exact ⟨by simp only [cond_false,List.length_cons]; omega,h2⟩
theorem sg_lt {n:Nat} {ids:List Nat} {k:Nat} (h:k < ids.length):sg n ids k = nth k ids:=by
 unfold sg
 have:Nat.blt k ids.length = true:=Nat.ble_eq_true_of_le h
 rw [this]
 rfl
theorem sg_ge {n:Nat} {ids:List Nat} {k:Nat} (h:ids.length≤k):sg n ids k = n + (k - ids.length):=by
 unfold sg
 have:Nat.blt k ids.length = false:=by
  cases hb:Nat.blt k ids.length with
  | true=>have:=Nat.le_of_ble_eq_true hb; omega
  | false=>rfl
 rw [this]
 rfl
theorem nth_mem {l:List Nat} {i:Nat} (h:i < l.length):nth i l∈l:=by rw [nth_eq h]; exact List.getElem_mem h
theorem nth_inj {l:List Nat} (hl:l.Nodup) {i j:Nat} (hi:i < l.length) (hj:j < l.length) (h:nth i l = nth j l):i = j:=by
 rw [nth_eq hi,nth_eq hj] at h
 exact (List.getElem_inj hl).1 h
theorem sg_inj {n:Nat} {ids:List Nat} (hnd:ids.Nodup) (hids:∀i∈ids,i < n) {j k:Nat} (h:sg n ids j = sg n ids k):j = k:=by
 rcases Nat.lt_or_ge j ids.length with h1 | h1 <;> rcases Nat.lt_or_ge k ids.length with h2 | h2
 ·rw [sg_lt h1,sg_lt h2] at h; exact nth_inj hnd h1 h2 h
 ·rw [sg_lt h1,sg_ge h2] at h; have:=hids _ (nth_mem h1); omega
 ·rw [sg_ge h1,sg_lt h2] at h; have:=hids _ (nth_mem h2); omega
 ·rw [sg_ge h1,sg_ge h2] at h; omega
theorem ws_ids (n:Nat) (ids:List Nat):∀(bs:List Blk) (s i:Nat),i∈(wsFrom n ids s bs).map (·.1)↔∃k,k < bs.length∧i = sg n ids (s + k)
 | [],s,i=>by simp [wsFrom]
 | b :: r,s,i=>by
  simp only [wsFrom,List.map_cons,List.mem_cons,ws_ids n ids r,List.length_cons]
  constructor
  ·rintro (rfl | ⟨k,h1,rfl⟩)
   ·exact ⟨0,by omega,rfl⟩
   ·exact ⟨k + 1,by omega,by congr 1; show s + 1 + k = _; omega⟩
  ·rintro ⟨k,h1,rfl⟩
   cases k with
   | zero=>exact .inl rfl
   | succ k=>exact .inr ⟨k,by omega,by congr 1; show _ = s + 1 + k; omega⟩
theorem ws_get {n:Nat} {ids:List Nat} (hnd:ids.Nodup) (hids:∀i∈ids,i < n):∀(bs:List Blk) (s:Nat) (H:Hp) (k:Nat),k < bs.length→wr H (wsFrom n ids s bs) (sg n ids (s + k)) = (hpOf bs k).ren (sg n ids)
 | b :: r,s,H,0,_=>by
  rw [wsFrom,wr,wr_off,Nat.add_zero,upd_self]
  ·rfl
  ·rw [ws_ids]
   rintro ⟨k,h1,h2⟩
   have:=sg_inj hnd hids h2
   have e:Nat.succ s = s + 1:=rfl
   omega
 | b :: r,s,H,k + 1,h=>by
  rw [wsFrom,wr]
  have:=ws_get hnd hids r (s + 1) (upd H (sg n ids s) (b.ren (sg n ids))) k (by simpa using h)
  rw [show s + (k + 1) = s + 1 + k by omega]
  exact this
def Cx.enter (C:Cx) (ids:List Nat) (vis:Nat→Prop):Cx:=⟨C.w,C.frz,vis,fun k=>if k < ids.length then C.ρ (nth k ids) else none⟩
def Cx.back (C C':Cx) (n:Nat) (ids:List Nat):Cx:=⟨C'.w,C'.frz,C.vis,fun i=>match C.ρ i with
 | some p=>some p
 | none=>if n≤i then C'.ρ (ids.length + (i - n)) else none⟩
theorem hpOf_handed {H:Hp} {ids:List Nat} {k:Nat} (h:k < ids.length):hpOf (handed H ids) k = (H (nth k ids)).ren (fun i=>idx i ids):=by
 have:∀(l:List Nat) (f:Nat→Blk) (k:Nat),k < l.length→getL .dead (l.map f) k = f (nth k l):=by
  intro l f
  induction l with
  | nil=>intro k hk; cases hk
  | cons x l ih =>
   intro k hk
   cases k with
   | zero=>rfl
   | succ k=>exact ih k (by simpa using hk)
 exact this ids _ k h
theorem hpOf_ge {bs:List Blk} {k:Nat} (h:bs.length≤k):hpOf bs k = .dead:=by
 induction bs generalizing k with
 | nil=>rfl
 | cons b bs ih =>
  cases k with
  | zero=>simp at h
  | succ k=>exact ih (by simpa using h)
theorem ren_live {b:Blk} {f:Nat→Nat}:(b.ren f).live↔b.live:=by cases b <;> exact Iff.rfl
section
variable {C:Cx} {H:Hp} {n:Nat} {ids:List Nat} {xs:List FV}
theorem idsOk_of (h:idsOk H n ids xs = true):ids.Nodup∧(∀i∈ids,i < n)∧(∀x∈xs,∀i∈x.ids,i∈ids)∧∀j∈ids,∀i∈(H j).ids,i∈ids:=by
 unfold idsOk at h
 simp only [Bool.and_eq_true] at h
 obtain ⟨⟨⟨h1,h2⟩,h3⟩,h4⟩:=h
 refine ⟨nodupN_nodup h1,fun i hi=>Nat.le_of_ble_eq_true (List.all_eq_true.1 h2 i hi),fun x hx i hi=>memN_iff.1 (List.all_eq_true.1 (List.all_eq_true.1 h3 x hx) i hi),fun j hj i hi=>memN_iff.1 (List.all_eq_true.1 (List.all_eq_true.1 h4 j hj) i hi)⟩
theorem enter_rho {vis:Nat→Prop} {i:Nat} {p:Option Nat×Nat} (hi:i∈ids) (h:C.ρ i = some p):(C.enter ids vis).ρ (idx i ids) = some p:=by
 obtain ⟨h1,h2⟩:=idx_mem hi
 simp only [Cx.enter]
 rw [if_pos h1,h2]
 exact h
theorem enter_inv (hI:Inv C H) (hnd:ids.Nodup) (hb:∀j∈ids,∀i∈(H j).ids,i∈ids):Inv (C.enter ids C.vis) (hpOf (handed H ids)) where
 own:=fun k=>by
  rcases Nat.lt_or_ge k ids.length with h | h
  ·rw [hpOf_handed h]
   refine OwnAt_ren (C:=C) (i:=nth k ids) rfl rfl (fun _ h=>h) (.inr fun _ h=>h) (fun p hp=>?_) (fun i hi p hp=>enter_rho (hb _ (nth_mem h) i hi) hp) (hI.own _)
   simp only [Cx.enter]
   rw [if_pos h]; exact hp
  ·rw [hpOf_ge (by simpa [handed] using h)]; trivial
 inj:=fun j k b x y hj hk hrj hrk=>by
  have hjl:j < ids.length:=by
   rcases Nat.lt_or_ge j ids.length with h | h
   ·exact h
   ·rw [hpOf_ge (by simpa [handed] using h)] at hj; exact hj.elim
  have hkl:k < ids.length:=by
   rcases Nat.lt_or_ge k ids.length with h | h
   ·exact h
   ·rw [hpOf_ge (by simpa [handed] using h)] at hk; exact hk.elim
  rw [hpOf_handed hjl,ren_live] at hj
  rw [hpOf_handed hkl,ren_live] at hk
  simp only [Cx.enter,if_pos hjl] at hrj
  simp only [Cx.enter,if_pos hkl] at hrk
  exact nth_inj hnd hjl hkl (hI.inj _ _ _ _ _ hj hk hrj hrk)
 frz:=hI.frz
 vis:=hI.vis
theorem enter_inv' {vis:Nat→Prop} (hI:Inv C H) (hnd:ids.Nodup) (hb:∀j∈ids,∀i∈(H j).ids,i∈ids) (hv1:∀b,C.vis b→vis b) (hv2:∀i∈ids,(H i).live→∀b m,C.ρ i = some (some b,m)→¬ vis b) (hv3:∀b,vis b→b < C.w.heap.size):Inv (C.enter ids vis) (hpOf (handed H ids)) where
 own:=fun k=>by
  rcases Nat.lt_or_ge k ids.length with h | h
  ·rw [hpOf_handed h]
   by_cases hlv:(H (nth k ids)).live
   ·refine OwnAt_ren' (C:=C) (i:=nth k ids) rfl rfl (fun b m hb'=>hv2 _ (nth_mem h) hlv b m hb') (.inr hv1) (fun p hp=>?_) (fun i hi p hp=>enter_rho (hb _ (nth_mem h) i hi) hp) (hI.own _)
    simp only [Cx.enter]
    rw [if_pos h]; exact hp
   ·cases hH:H (nth k ids) with
    | dead=>trivial
    | raw m cs=>rw [hH] at hlv; exact absurd trivial hlv
    | mp l=>rw [hH] at hlv; exact absurd trivial hlv
    | arr a=>rw [hH] at hlv; exact absurd trivial hlv
  ·rw [hpOf_ge (by simpa [handed] using h)]; trivial
 inj:=fun j k b x y hj hk hrj hrk=>by
  have hjl:j < ids.length:=by
   rcases Nat.lt_or_ge j ids.length with h | h
   ·exact h
   ·rw [hpOf_ge (by simpa [handed] using h)] at hj; exact hj.elim
  have hkl:k < ids.length:=by
   rcases Nat.lt_or_ge k ids.length with h | h
   ·exact h
   ·rw [hpOf_ge (by simpa [handed] using h)] at hk; exact hk.elim
  rw [hpOf_handed hjl,ren_live] at hj
  rw [hpOf_handed hkl,ren_live] at hk
  simp only [Cx.enter,if_pos hjl] at hrj
  simp only [Cx.enter,if_pos hkl] at hrk
  exact nth_inj hnd hjl hkl (hI.inj _ _ _ _ _ hj hk hrj hrk)
 frz:=hI.frz
 vis:=hv3
structure After (C C':Cx) (bs bs':List Blk):Prop where
 inv:Inv C' (hpOf bs')
 ext:Ext (fun b=>∃i m,(hpOf bs i).live∧C.ρ i = some (some b,m)) C C'
 new:∀i p,C'.ρ i = some p→C.ρ i = some p∨(bs.length≤i∧i < bs'.length∧∀b,p.1 = some b→(∃j m,(hpOf bs j).live∧C.ρ j = some (some b,m))∨C.w.heap.size≤b)
theorem stillDead_of:∀{a b:List Blk},stillDead a b = true→a.length≤b.length∧∀k,k < a.length→¬ (hpOf a k).live→¬ (hpOf b k).live
 | [],b,_=>⟨Nat.zero_le _,fun k hk=>by cases hk⟩
 | x :: a,[],h=>by simp [stillDead] at h
 | x :: a,y :: b,h=>by
  simp only [stillDead,Bool.and_eq_true] at h
  obtain ⟨h1,h2⟩:=stillDead_of h.2
  refine ⟨by simpa using h1,fun k hk=>?_⟩
  cases k with
  | zero =>
   intro hn hl
   have:=h.1
   change ¬ x.live at hn
   change y.live at hl
   cases x <;> cases y <;> simp [Blk.live,Blk.isDead] at hn hl this
  | succ k=>exact h2 k (by simpa using hk)
theorem back_ok {vis : Nat → Prop} {C' : Cx} {bs' : List Blk} (hI : Inv C H) (hfr : ∀ i, n ≤ i → i < n + (bs'.length - ids.length) → C.ρ i = none) (hnd : ids.Nodup) (hids : ∀ i ∈ ids, i < n)
    (hA : After (C.enter ids vis) C' (handed H ids) bs') (hd : stillDead (handed H ids) bs' = true) (hv1 : ∀ b, C.vis b → vis b) (hv2 : (∀ b ∈ bs', b.safe = true) ∨ ∀ b, vis b → C.vis b) :
    (∀ k p, C'.ρ k = some p → (C.back C' n ids).ρ (sg n ids k) = some p) ∧ Inv (C.back C' n ids) (wr H (wsFrom n ids 0 bs')) ∧
      Ext (fun b => ∃ i m, i ∈ (wsFrom n ids 0 bs').map (·.1) ∧ (H i).live ∧ C.ρ i = some (some b, m)) C (C.back C' n ids) ∧
      ∀ i p, (C.back C' n ids).ρ i = some p → C.ρ i = some p ∨ (n ≤ i ∧ i < n + (bs'.length - ids.length) ∧ ∀ b, p.1 = some b → (∃ j m, j ∈ (wsFrom n ids 0 bs').map (·.1) ∧ (H j).live ∧ C.ρ j = some (some b, m)) ∨ C.w.heap.size ≤ b) := by
  obtain ⟨hlen, hdead⟩ := stillDead_of hd
  have hl0 : (handed H ids).length = ids.length := by simp [handed]
  rw [hl0] at hlen hdead
  have hT : ∀ b, (∃ i m, (hpOf (handed H ids) i).live ∧ (C.enter ids vis).ρ i = some (some b, m)) → ∃ i m, i ∈ ids ∧ (H i).live ∧ C.ρ i = some (some b, m) := by
    rintro b ⟨k, m, h1, h2⟩
    have hk : k < ids.length := by
      rcases Nat.lt_or_ge k ids.length with h | h
      · exact h
      · rw [hpOf_ge (by omega)] at h1; exact h1.elim
    rw [hpOf_handed hk, ren_live] at h1
    simp only [Cx.enter, if_pos hk] at h2
    exact ⟨_, m, nth_mem hk, h1, h2⟩
  have hmem : ∀ i, i ∈ ids → i ∈ (wsFrom n ids 0 bs').map (·.1) := by
    intro i hi
    obtain ⟨h1, h2⟩ := idx_mem hi
    exact (ws_ids n ids bs' 0 i).2 ⟨idx i ids, by omega, by rw [Nat.zero_add, sg_lt h1, h2]⟩
  have hA1 : ∀ k p, C'.ρ k = some p → (C.back C' n ids).ρ (sg n ids k) = some p := by
    intro k p hp
    rcases Nat.lt_or_ge k ids.length with h | h
    · rcases hA.new k p hp with h1 | ⟨h1, _⟩
      · simp only [Cx.enter, if_pos h] at h1
        rw [sg_lt h]
        simp only [Cx.back, h1]
      · omega
    · rw [sg_ge h]
      have hkl : k < bs'.length := by
        rcases hA.new k p hp with h1 | ⟨_, h1, _⟩
        · simp only [Cx.enter, if_neg (Nat.not_lt.2 h)] at h1; cases h1
        · exact h1
      simp only [Cx.back, hfr (n + (k - ids.length)) (by omega) (by omega)]
      rw [if_pos (by omega), show ids.length + (n + (k - ids.length) - n) = k by omega]
      exact hp
  have hx : Ext (fun b => ∃ i m, i ∈ (wsFrom n ids 0 bs').map (·.1) ∧ (H i).live ∧ C.ρ i = some (some b, m)) C (C.back C' n ids) := by
    have e := hA.ext
    have hT' : ∀ b, (∃ i m, (hpOf (handed H ids) i).live ∧ (C.enter ids vis).ρ i = some (some b, m)) → ∃ i m, i ∈ (wsFrom n ids 0 bs').map (·.1) ∧ (H i).live ∧ C.ρ i = some (some b, m) := fun b h => by
      obtain ⟨i, m, h1, h2⟩ := hT b h
      exact ⟨i, m, hmem i h1, h2⟩
    exact ⟨e.os, e.tape, e.output, e.size, fun b hb hn => e.blk b hb (fun h => hn (hT' b h)), e.shp, e.unf, e.frz, fun b hb => (e.new b hb).imp_right (Or.imp_left (hT' b)), rfl, fun i p hp => by simp only [Cx.back, hp]⟩
  have hnew : ∀ i p, (C.back C' n ids).ρ i = some p → C.ρ i = some p ∨ (n ≤ i ∧ i < n + (bs'.length - ids.length) ∧ ∀ b, p.1 = some b → (∃ j m, j ∈ (wsFrom n ids 0 bs').map (·.1) ∧ (H j).live ∧ C.ρ j = some (some b, m)) ∨ C.w.heap.size ≤ b) := by
    intro i p hp
    cases hc : C.ρ i with
    | some q => simp only [Cx.back, hc] at hp; exact .inl hp
    | none =>
      simp only [Cx.back, hc] at hp
      by_cases hi : n ≤ i
      · rw [if_pos hi] at hp
        rcases hA.new _ _ hp with h1 | ⟨h1, h2, h3⟩
        · simp only [Cx.enter, if_neg (show ¬ ids.length + (i - n) < ids.length by omega)] at h1; cases h1
        · refine .inr ⟨hi, by omega, fun b hb => (h3 b hb).imp_left fun h => ?_⟩
          obtain ⟨j, m, h4, h5⟩ := hT _ h
          exact ⟨j, m, hmem j h4, h5⟩
      · rw [if_neg hi] at hp; cases hp
  refine ⟨hA1, ?_, hx, hnew⟩
  have hoff := hI.off (T := fun b => ∃ i m, i ∈ (wsFrom n ids 0 bs').map (·.1) ∧ (H i).live ∧ C.ρ i = some (some b, m)) (fun b ⟨i, m, _, h1, h2⟩ => ⟨i, m, h1, h2⟩)
  have hsplit : ∀ j, (∃ k, k < bs'.length ∧ j = sg n ids k) ∨ (j ∉ (wsFrom n ids 0 bs').map (·.1)) := by
    intro j
    by_cases h : j ∈ (wsFrom n ids 0 bs').map (·.1)
    · obtain ⟨k, h1, h2⟩ := (ws_ids n ids bs' 0 j).1 h
      exact .inl ⟨k, h1, by rw [Nat.zero_add] at h2; exact h2⟩
    · exact .inr h
  have hget : ∀ k, k < bs'.length → wr H (wsFrom n ids 0 bs') (sg n ids k) = (hpOf bs' k).ren (sg n ids) := fun k hk => by
    have := ws_get hnd hids bs' 0 H k hk
    rwa [Nat.zero_add] at this
  have hsafe : ∀ k, k < bs'.length → (∀ b ∈ bs', b.safe = true) → (hpOf bs' k).safe = true := by
    intro k hk h
    refine h _ ?_
    clear hget hsplit hoff hnew hx hA1 hmem hlen hdead hd hA hv2 h hfr
    induction bs' generalizing k with
    | nil => cases hk
    | cons b bs ih =>
      cases k with
      | zero => exact List.mem_cons_self
      | succ k => exact List.mem_cons_of_mem _ (ih k (by simpa using hk))
  have hvis' : C'.vis = vis := hA.ext.vis
  have hfar : ∀ k j b x y, k < bs'.length → (hpOf bs' k).live → C'.ρ k = some (some b, x) → j ∉ (wsFrom n ids 0 bs').map (·.1) → (H j).live → C.ρ j = some (some b, y) → False := by
    intro k j b x y hk hl hr hj hlj hrj
    have key : ∀ i m, i ∈ ids → (H i).live → C.ρ i = some (some b, m) → False := fun i m hi hli hri => hj (by rw [hI.inj j i b y m hlj hli hrj hri]; exact hmem i hi)
    rcases hA.new k _ hr with h1 | ⟨h1, h2, h3⟩
    · have hkl : k < ids.length := by
        rcases Nat.lt_or_ge k ids.length with h | h
        · exact h
        · simp only [Cx.enter, if_neg (Nat.not_lt.2 h)] at h1; cases h1
      simp only [Cx.enter, if_pos hkl] at h1
      refine key _ x (nth_mem hkl) ?_ h1
      by_cases hh : (hpOf (handed H ids) k).live
      · rw [hpOf_handed hkl, ren_live] at hh; exact hh
      · exact absurd hl (hdead k hkl hh)
    · rcases h3 b rfl with h3 | h3
      · obtain ⟨i, m, h4, h5, h6⟩ := hT _ h3
        exact key i m h4 h5 h6
      · have := hI.lt hlj hrj
        exact absurd h3 (Nat.not_le.2 this)
  have hnr : ∀ k b x, k < bs'.length → (hpOf bs' k).live → (C.back C' n ids).ρ (sg n ids k) = some (some b, x) → C'.ρ k = some (some b, x) := by
    intro k b x hk hl hr
    have ho := hA.inv.own k
    have : ∃ p, C'.ρ k = some p := by
      cases hb : hpOf bs' k with
      | dead => rw [hb] at hl; exact hl.elim
      | raw m cs => rw [hb] at ho; obtain ⟨b, vs, e, h1, _⟩ := ho; exact ⟨_, h1⟩
      | mp l => rw [hb] at ho; obtain ⟨b, m, h1, _⟩ := ho; exact ⟨_, h1⟩
      | arr a =>
        rw [hb] at ho
        rcases ho with ⟨_, h1⟩ | ⟨b, vs, e, h1, _⟩ <;> exact ⟨_, h1⟩
    obtain ⟨p, hp⟩ := this
    rw [hA1 k p hp] at hr
    rw [hp]; exact hr
  have hold : ∀ j b y, j ∉ (wsFrom n ids 0 bs').map (·.1) → (H j).live → (C.back C' n ids).ρ j = some (some b, y) → C.ρ j = some (some b, y) := by
    intro j b y hj hl hr
    rcases hnew j _ hr with h | ⟨h1, h1', _⟩
    · exact h
    · have ho := hI.own j
      have hn := hfr j h1 h1'
      cases hb : H j with
      | dead => rw [hb] at hl; exact hl.elim
      | raw m cs => rw [hb] at ho; obtain ⟨b, vs, e, h1, _⟩ := ho; rw [hn] at h1; cases h1
      | mp l => rw [hb] at ho; obtain ⟨b, m, h1, _⟩ := ho; rw [hn] at h1; cases h1
      | arr a =>
        rw [hb] at ho
        rcases ho with ⟨_, h1⟩ | ⟨b, vs, e, h1, _⟩ <;> (rw [hn] at h1; cases h1)
  refine ⟨fun j => ?_, fun i j b x y hi hj hri hrj => ?_, hA.inv.frz, fun b hb => ?_⟩
  · rcases hsplit j with ⟨k, hk, rfl⟩ | hj
    · rw [hget k hk]
      refine OwnAt_ren (C := C') (i := k) rfl rfl (fun b hb => by rw [hvis']; exact hv1 b hb) ?_ (hA1 k) (fun i _ => hA1 i) (hA.inv.own k)
      rcases hv2 with h | h
      · exact .inl (hsafe k hk h)
      · exact .inr (by rw [hvis']; exact h)
    · rw [wr_off _ _ _ hj]
      cases hH : H j with
      | dead => trivial
      | raw m cs =>
        have := hI.own j
        rw [← hH]
        refine OwnAt_ext hx hoff this fun b m hb ⟨i, m', h1, h2, h3⟩ => hj ?_
        rw [hI.inj j i b m m' (by rw [hH]; trivial) h2 hb h3]; exact h1
      | arr a =>
        have := hI.own j
        rw [← hH]
        refine OwnAt_ext hx hoff this fun b m hb ⟨i, m', h1, h2, h3⟩ => hj ?_
        rw [hI.inj j i b m m' (by rw [hH]; trivial) h2 hb h3]; exact h1
      | mp a =>
        have := hI.own j
        rw [← hH]
        refine OwnAt_ext hx hoff this fun b m hb ⟨i, m', h1, h2, h3⟩ => hj ?_
        rw [hI.inj j i b m m' (by rw [hH]; trivial) h2 hb h3]; exact h1
  · rcases hsplit i with ⟨k, hk, rfl⟩ | hi' <;> rcases hsplit j with ⟨l, hl, rfl⟩ | hj'
    · rw [hget k hk, ren_live] at hi
      rw [hget l hl, ren_live] at hj
      rw [hA.inv.inj k l b x y hi hj (hnr k b x hk hi hri) (hnr l b y hl hj hrj)]
    · rw [hget k hk, ren_live] at hi
      rw [wr_off _ _ _ hj'] at hj
      exact (hfar k j b x y hk hi (hnr k b x hk hi hri) hj' hj (hold j b y hj' hj hrj)).elim
    · rw [hget l hl, ren_live] at hj
      rw [wr_off _ _ _ hi'] at hi
      exact (hfar l i b y x hl hj (hnr l b y hl hj hrj) hi' hi (hold i b x hi' hi hri)).elim
    · rw [wr_off _ _ _ hi'] at hi
      rw [wr_off _ _ _ hj'] at hj
      exact hI.inj i j b x y hi hj (hold i b x hi' hi hri) (hold j b y hj' hj hrj)
  · have := hI.vis b hb
    exact Nat.lt_of_lt_of_le this hA.ext.size
end
end Hw
end Go.Proofs.YtklmllaggigkfaaGreat
