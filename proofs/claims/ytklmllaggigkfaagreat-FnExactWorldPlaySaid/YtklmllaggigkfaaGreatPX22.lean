/- Facts on this program. -/
import Derived.Test.YtklmllaggigkfaaGreatPX1
import Derived.Test.YtklmllaggigkfaaGreatPX20
import Derived.Test.YtklmllaggigkfaaGreatProg
set_option linter.unusedVariables false
set_option linter.unusedSimpArgs false
set_option maxRecDepth 100000
namespace Go.Proofs.YtklmllaggigkfaaGreat
namespace Hw
open Go
theorem TabOK.cons {P:Program} {t:Nat} {ti:TI} {T:Tab} (h:TIok P t ti) (r:TabOK P T):TabOK P ((t,ti) :: T):=fun e he=>by
 rcases List.mem_cons.1 he with rfl | he
 ·exact h
 ·exact r e he
theorem TabOK.nil {P:Program}:TabOK P []:=fun e he=>by cases he
theorem tabOK:TabOK Tryz.prog T:=by
 unfold T
 repeat' (first | exact TabOK.nil | refine TabOK.cons ⟨by kernel_rfl,by kernel_rfl,by kernel_rfl,by kernel_rfl,by kernel_rfl,by kernel_rfl,by kernel_rfl,by first | exact ⟨rfl,rfl,rfl⟩ | trivial⟩ ?_)
def eqT:Nat:=46
theorem eqF {P:Program} {t3:Nat} (h3:P.underlying t3 = some (.int .i64)) (d:Nat) (xs ys:Array Value) (w:World):∀(l:List (Field×Int×Int)),
  (∀ e ∈ l, e.1.name ≠ "_" ∧ e.1.type = t3 ∧ xs[e.1.offset]? = some (.int .i64 e.2.1) ∧ ys[e.1.offset]? = some (.int .i64 e.2.2)) → (Op.eqFields (d + 1) xs ys (l.map (·.1))).run P w = .ok (l.all fun e => e.2.1 == e.2.2) w
 | [],_=>by simp [Op.eqFields]
 | e :: l,h=>by
  obtain ⟨h1,h2,h4,h5⟩:=h e List.mem_cons_self
  have ih:=eqF h3 d xs ys w l fun e he=>h e (List.mem_cons_of_mem _ he)
  have hu:P.underlying e.1.type = some (.int .i64):=by rw [h2]; exact h3
  simp only [List.map_cons,Op.eqFields,ne_eq,h1,not_false_eq_true,if_true,List.all_cons]
  have p1:(part e.1.type xs e.1.offset).run P w = .ok (.int .i64 e.2.1) w:=by simp [part,isAgg,run_underlying hu,h4]
  have p2:(part e.1.type ys e.1.offset).run P w = .ok (.int .i64 e.2.2) w:=by simp [part,isAgg,run_underlying hu,h5]
  rw [Sem.run_bind,p1,Result.andThen_ok,Sem.run_bind,p2,Result.andThen_ok,Sem.run_bind,run_equalIn_int w d _ .i64 .i64 _ _ hu,Result.andThen_ok]
  cases hb:(e.2.1 == e.2.2) with
  | true=>simpa using ih
  | false=>simp
theorem eqFs : (Tryz.prog.fieldsOf eqT).toList.map (fun f => (f.name == "_", f.type, f.offset)) = [(false, 3, 0), (false, 3, 1), (false, 3, 2), (false, 3, 3), (false, 3, 4), (false, 3, 5), (false, 3, 6)] := by kernel_rfl
theorem u3:Tryz.prog.underlying 3 = some (.int .i64):=by kernel_rfl
theorem pktEq (p q:Pkt) (w:World):(Op.equalIn 10000 eqT (.agg (pktVs p)) (.agg (pktVs q))).run Tryz.prog w = .ok (decide (p = q)) w:=by
 have hS:Tryz.prog.underlying eqT = some (.struct (Tryz.prog.fieldsOf eqT)):=by kernel_rfl
 have hp:Tryz.prog.stoodInHeld eqT = false:=by kernel_rfl
 rw [show (10000:Nat) = 9999 + 1 from rfl,run_equalIn_agg w 9999 eqT _ _ hS hp]
 have h:=eqFs
 generalize (Tryz.prog.fieldsOf eqT).toList = fs at h
 obtain ⟨a,b,c,d,e,f,g,rfl⟩:∃a b c d e f g,fs = [a,b,c,d,e,f,g]:=by
  have hl:fs.length = 7:=by simpa using congrArg List.length h
  clear h
  match fs,hl with
  | [a,b,c,d,e,f,g],_=>exact ⟨a,b,c,d,e,f,g,rfl⟩
 simp only [List.map_cons,List.map_nil,List.cons.injEq,Prod.mk.injEq,and_true] at h
 obtain ⟨⟨a1,a2,a3⟩,⟨b1,b2,b3⟩,⟨c1,c2,c3⟩,⟨d1,d2,d3⟩,⟨e1,e2,e3⟩,⟨f1,f2,f3⟩,⟨g1,g2,g3⟩⟩:=h
 have:=eqF u3 9998 (pktVs p) (pktVs q) w [(a,p.seq,q.seq),(b,p.kind,q.kind),(c,p.frm,q.frm),(d,p.to,q.to),(e,p.sum,q.sum),(f,p.til,q.til),(g,p.ver,q.ver)] (by
  intro x hx
  simp only [List.mem_cons,List.not_mem_nil,or_false] at hx
  rcases hx with rfl | rfl | rfl | rfl | rfl | rfl | rfl
  ·exact ⟨by simpa using a1,a2,by rw [a3]; rfl,by rw [a3]; rfl⟩
  ·exact ⟨by simpa using b1,b2,by rw [b3]; rfl,by rw [b3]; rfl⟩
  ·exact ⟨by simpa using c1,c2,by rw [c3]; rfl,by rw [c3]; rfl⟩
  ·exact ⟨by simpa using d1,d2,by rw [d3]; rfl,by rw [d3]; rfl⟩
  ·exact ⟨by simpa using e1,e2,by rw [e3]; rfl,by rw [e3]; rfl⟩
  ·exact ⟨by simpa using f1,f2,by rw [f3]; rfl,by rw [f3]; rfl⟩
  ·exact ⟨by simpa using g1,g2,by rw [g3]; rfl,by rw [g3]; rfl⟩)
 simp only [List.map_cons,List.map_nil] at this
 rw [show (9999:Nat) = 9998 + 1 from rfl,this]
 congr 1
 obtain ⟨a,b,c,d,e,f,g⟩:=p
 obtain ⟨a',b',c',d',e',f',g'⟩:=q
 simp only [List.all_cons,List.all_nil,Bool.and_true,Pkt.mk.injEq]
 rw [Bool.eq_iff_iff]
 simp
theorem noGuard:Tryz.prog.eqGuardType Tryz.prog.depth eqT = false:=by kernel_rfl
theorem mpOK:Nat.beq 94 1000000000 = true∨∃e,Tryz.prog.underlying 94 = some (.pointer e):=by
 first | exact .inl (by decide) | exact .inr ⟨159,by kernel_rfl⟩
theorem mapTOK:Nat.beq 149 1000000000 = true∨Tryz.prog.underlying 149 = some (.map 3 3):=by
 first | exact .inl (by decide) | exact .inr (by kernel_rfl)
theorem zintOK (w:World):(zeroValue 3).run Tryz.prog w = .ok (.int .i64 0) w:=by kernel_rfl
def mthT : List (Nat × String × Nat) := [(242, "loop.example/hawser/impl.settled", 231), (238, "loop.example/hawser/impl.settled", 229), (239, "loop.example/hawser/impl.settled", 230)]
theorem mthOK:∀e∈mthT,0 < e.1∧∀w:World,(method (Tryz.prog.types.size + Made.depth) e.1 (.agg #[]) e.2.1).run Tryz.prog w = .ok (e.2.2,.agg #[]) w:=by
 unfold mthT
 repeat' (first | exact fun e he=>absurd he List.not_mem_nil | refine List.forall_mem_cons.2 ⟨⟨by decide,fun w=>by kernel_rfl⟩,?_⟩)
def envS (G:List Ctr) (sp:List (Nat×List (List (Nat×Nat)))):Env:=⟨T,G,[24],4,eqT,3,5,159,96,94,149,mthT,[],sp,[],false⟩
def envC (G:List Ctr) (sp:List (Nat×List (List (Nat×Nat)))) (ct:List LCtr) (lst:Bool:=false):Env:=⟨T,G,[24],4,eqT,3,5,159,96,94,149,mthT,[],sp,ct,lst⟩
theorem tyOKS (G:List Ctr) (sp:List (Nat×List (List (Nat×Nat)))):TyOK Tryz.prog (envS G sp):=⟨tabOK,by kernel_rfl,pktEq,noGuard,by kernel_rfl,by kernel_rfl,mpOK,mapTOK,zintOK,mthOK⟩
theorem tyOKC (G:List Ctr) (sp:List (Nat×List (List (Nat×Nat)))) (ct:List LCtr) (lst:Bool):TyOK Tryz.prog (envC G sp ct lst):=⟨tabOK,by kernel_rfl,pktEq,noGuard,by kernel_rfl,by kernel_rfl,mpOK,mapTOK,zintOK,mthOK⟩
theorem mixed:Tryz.prog.follows .mixedOrders = true:=by kernel_rfl
end Hw
end Go.Proofs.YtklmllaggigkfaaGreat
set_option linter.unusedVariables false
set_option linter.unusedSimpArgs false
namespace Go.Proofs.YtklmllaggigkfaaGreat
namespace Hw
open Go
theorem pktOf_fit {cs:List Cell} {p:Pkt} (h:pktOf cs = some p):cellsFit cs (pktCells p):=by
 unfold pktOf at h
 split at h
 ·simp only [Option.some.injEq] at h
  subst h
  exact ⟨cellFit.refl _,cellFit.refl _,cellFit.refl _,cellFit.refl _,cellFit.refl _,cellFit.refl _,cellFit.refl _,trivial⟩
 ·cases h
theorem evOf_fit {cs:List Cell} {p:Ev} (h:evOf cs = some p):cellsFit cs (evCells p):=by
 unfold evOf at h
 split at h
 ·obtain ⟨x,h1,h⟩:=bind_some' h
  simp only [Option.some.injEq] at h
  subst h
  have f:=pktOf_fit h1
  exact ⟨cellFit.refl _,cellFit.refl _,cellFit.refl _,cellFit.refl _,f⟩
 ·cases h
def St.fact (s:St):Prop:=(s.sent.length:Int)≤big∧(s.live.length:Int)≤big∧(s.back.length:Int)≤big∧(s.got.length:Int)≤big
def Bk.fact (b:Bk):Prop:=(b.own.length:Int)≤big∧(b.notes.length:Int)≤big
def stsFact (l:List St):Prop:=(l.length:Int)≤big∧∀s∈l,s.fact
def Ch.fact (c:Ch):Prop:=c.bank.fact∧c.st.fact∧stsFact c.past∧(c.knows.length:Int)≤big
def chsFact (l:List Ch):Prop:=(l.length:Int)≤big∧∀c∈l,c.fact
theorem arr_len {w:World} {S:Nat→Prop} {d:Nat} {a:Arr} {v:Value} (h:arrR w S d a v):(a.len:Int)≤big:=by
 cases d with
 | zero=>exact h.elim
 | succ d=>obtain ⟨A,c,_,_,h,_⟩:=h; exact h
theorem arr_cell {w:World} {S:Nat→Prop} {d:Nat} {a:Arr} {v:Value} (h:arrR w S (d + 1) a v) {k:Nat} (hk:k < a.len) {z:Bool} {b:Arr} {j:Nat} (hj:((a.get k).cells true)[j]? = some (.arr z b)):∃u,arrR w S d b u:=by
 obtain ⟨A,c,_,_,_,hr⟩:=h
 obtain ⟨ad,_,_,hx⟩:=hr k hk
 obtain ⟨u,_,h2⟩:=hx j _ hj
 exact ⟨u,h2⟩
theorem sts_fact {w:World} {S:Nat→Prop} {d:Nat} {l:List St} {v:Value} (h:arrR w S (d + 1) (.sts l) v):stsFact l:=by
 refine ⟨arr_len h,fun s hs=>?_⟩
 obtain ⟨k,hk,rfl⟩:=List.mem_iff_getElem.1 hs
 have hg:(Arr.sts l).get k = .st l[k]:=by simp [Arr.get,List.getD_eq_getElem?_getD,hk]
 have hc:∀(j:Nat) (z:Bool) (b:Arr),(stCells true l[k])[j]? = some (.arr z b)→(b.len:Int)≤big:=fun j z b hj=>by
  obtain ⟨u,hu⟩:=arr_cell h (k:=k) (z:=z) (b:=b) (j:=j) hk (by rw [hg]; exact hj)
  exact arr_len hu
 exact ⟨hc 3 _ _ rfl,hc 4 _ _ rfl,hc 5 _ _ rfl,hc 6 _ _ rfl⟩
theorem chs_fact {w:World} {S:Nat→Prop} {d:Nat} {l:List Ch} {v:Value} (h:arrR w S (d + 2) (.chs l) v):chsFact l:=by
 refine ⟨arr_len h,fun s hs=>?_⟩
 obtain ⟨k,hk,rfl⟩:=List.mem_iff_getElem.1 hs
 have hg:(Arr.chs l).get k = .ch l[k]:=by simp [Arr.get,List.getD_eq_getElem?_getD,hk]
 have hc:∀(j:Nat) (z:Bool) (b:Arr),(chCells true l[k])[j]? = some (.arr z b)→∃u,arrR w S (d + 1) b u:=fun j z b hj =>
  arr_cell h (k:=k) (z:=z) (b:=b) (j:=j) hk (by rw [hg]; exact hj)
 have hl:∀(j:Nat) (z:Bool) (b:Arr),(chCells true l[k])[j]? = some (.arr z b)→(b.len:Int)≤big:=fun j z b hj=>by
  obtain ⟨u,hu⟩:=hc j z b hj
  exact arr_len hu
 obtain ⟨u,hu⟩:=hc 11 _ _ rfl
 exact ⟨⟨hl 1 _ _ rfl,hl 2 _ _ rfl⟩,⟨hl 7 _ _ rfl,hl 8 _ _ rfl,hl 9 _ _ rfl,hl 10 _ _ rfl⟩,sts_fact hu,hl 12 _ _ rfl⟩
structure Sh where
 α:Type
 dec:FV→Option α
 enc:α→FV
 fit:∀x a,dec x = some a→fvFit x (enc a)
 fact:α→Prop
 hf:∀a C v,fvR C (enc a) v→fact a
def sInt:Sh:=⟨Int,fun | .c (.int n)=>some n | _=>none,fun n=>.c (.int n),(fun x a h=>by
 split at h
 ·simp only [Option.some.injEq] at h; subst h; exact fun _ _ h=>h
 ·cases h),fun _=>True,fun _ _ _ _=>trivial⟩
def sBool:Sh:=⟨Bool,fun | .c (.bool n)=>some n | _=>none,fun n=>.c (.bool n),(fun x a h=>by
 split at h
 ·simp only [Option.some.injEq] at h; subst h; exact fun _ _ h=>h
 ·cases h),fun _=>True,fun _ _ _ _=>trivial⟩
def ofCell {α:Type} (f:Cell→Option α) (e:α→Cell) (h:∀{x a},f x = some a→cellFit x (e a)) (F:α→Prop) (hF:∀{a C v},cellR C (e a) v→F a):Sh:=⟨α,fun | .c x=>f x | _=>none,fun a=>.c (e a),(fun x a hx=>by
 split at hx
 ·exact h hx
 ·cases hx),F,fun a C v hx=>hF hx⟩
def ofAgg {α:Type} (f:List Cell→Option α) (e:α→List Cell) (h:∀{x a},f x = some a→cellsFit x (e a)) (F:α→Prop) (hF:∀{a C v},fvR C (.agg (e a)) v→F a):Sh:=⟨α,fun | .agg x=>f x | _=>none,fun a=>.agg (e a),(fun x a hx=>by
 split at hx
 ·exact aggFit (h hx)
 ·cases hx),F,fun a C v hx=>hF hx⟩
theorem agg_cell {C:Cx} {cs:List Cell} {v:Value} (h:fvR C (.agg cs) v) {j:Nat} {z:Bool} {b:Arr} (hj:cs[j]? = some (.arr z b)):∃u,arrR C.w (C.S z) 4 b u:=by
 obtain ⟨vs,_,_,h3⟩:=h
 obtain ⟨u,_,h4⟩:=h3 j _ hj
 exact ⟨u,h4⟩
theorem agg_len {C:Cx} {cs:List Cell} {v:Value} (h:fvR C (.agg cs) v) (j:Nat) {z:Bool} {b:Arr} (hj:cs[j]? = some (.arr z b)):(b.len:Int)≤big:=by
 obtain ⟨u,h⟩:=agg_cell h hj
 exact arr_len h
def sInts:Sh:=ofCell vInts (fun l=>.arr false (.ints l)) vInts_fit (fun l=>(l.length:Int)≤big) (fun h=>arr_len h)
def sBools:Sh:=ofCell vBools (fun l=>.arr false (.bools l)) vBools_fit (fun l=>(l.length:Int)≤big) (fun h=>arr_len h)
def sPkts:Sh:=ofCell vPkts (fun l=>.arr false (.pkts l)) vPkts_fit (fun l=>(l.length:Int)≤big) (fun h=>arr_len h)
def sSts:Sh:=ofCell vSts (fun l=>.arr false (.sts l)) vSts_fit stsFact (fun h=>sts_fact h)
def sChs:Sh:=ofCell vChs (fun l=>.arr false (.chs l)) vChs_fit chsFact (fun h=>chs_fact h)
def sEvs:Sh:=ofCell vEvs (fun l=>.arr false (.evs l)) vEvs_fit (fun l=>(l.length:Int)≤big) (fun h=>arr_len h)
def sPkt:Sh:=ofAgg pktOf pktCells pktOf_fit (fun _=>True) (fun _=>trivial)
def sSt:Sh:=ofAgg vSt (stCells false) vSt_fit St.fact (fun h=>⟨agg_len h 3 rfl,agg_len h 4 rfl,agg_len h 5 rfl,agg_len h 6 rfl⟩)
def sBk:Sh:=ofAgg vBk (bkCells false) vBk_fit Bk.fact (fun h=>⟨agg_len h 0 rfl,agg_len h 1 rfl⟩)
def sCh:Sh:=ofAgg vCh (chCells false) vCh_fit Ch.fact (fun h=>⟨⟨agg_len h 1 rfl,agg_len h 2 rfl⟩,⟨agg_len h 7 rfl,agg_len h 8 rfl,agg_len h 9 rfl,agg_len h 10 rfl⟩,(agg_cell h (j:=11) rfl).elim fun _ h=>sts_fact h,agg_len h 12 rfl⟩)
def sEv:Sh:=ofAgg evOf evCells evOf_fit (fun _=>True) (fun _=>trivial)
def vW:List Cell→Option (List Ch)
 | [x]=>vChs x
 | _=>none
def sW:Sh:=ofAgg vW (fun l=>[.arr false (.chs l)]) (fun {x a} h=>by
 unfold vW at h
 split at h
 ·exact ⟨vChs_fit h,trivial⟩
 ·cases h) chsFact (fun h=>(agg_cell h (j:=0) rfl).elim fun _ h=>chs_fact h)
structure ShL where
 α:Type
 dec:List FV→Option α
 enc:α→List FV
 len:Nat
 fit:∀x a,dec x = some a→Fits x (enc a)
 lenOk:∀a,(enc a).length = len
 fact:α→Prop
 hf:∀a C vs,valsR C (enc a) vs→fact a
def sNil:ShL:=⟨Unit,fun | []=>some () | _=>none,fun _=>[],0,(fun x a h=>by
 split at h
 ·exact Fits.refl _
 ·cases h),fun _=>rfl,fun _=>True,fun _ _ _ _=>trivial⟩
def sCons (A:Sh) (L:ShL):ShL:=⟨A.α×L.α,fun | x :: r=>(A.dec x).bind fun a=>(L.dec r).map fun b=>(a,b) | []=>none,fun s=>A.enc s.1 :: L.enc s.2,Nat.succ L.len,(fun x a h=>by
 split at h
 ·rename_i x r
  obtain ⟨a1,h1,h⟩:=bind_some' h
  cases h2:L.dec r with
  | none=>rw [h2] at h; cases h
  | some b =>
   rw [h2] at h
   simp only [Option.map_some,Option.some.injEq] at h
   subst h
   obtain ⟨l1,l2⟩:=L.fit _ _ h2
   refine ⟨by simp [l1],fun q y hy=>?_⟩
   cases q with
   | zero =>
    simp only [List.getElem?_cons_zero,Option.some.injEq] at hy
    subst hy
    exact ⟨x,rfl,A.fit _ _ h1⟩
   | succ q=>simpa using l2 q y (by simpa using hy)
 ·cases h),(fun a=>by rw [List.length_cons,L.lenOk]),fun a=>A.fact a.1∧L.fact a.2,fun a C vs h=>by
 cases vs with
 | nil=>exact h.elim
 | cons v vs=>exact ⟨A.hf _ _ _ h.1,L.hf _ _ _ h.2⟩⟩
def trues:Nat→List Bool
 | 0=>[]
 | n + 1=>true :: trues n
def vctr (fid:Nat) (L:ShL) (pre:Option (L.α→Prop)) (out:L.α→AV×List Blk):Ctr:=⟨fid,trues L.len,L.α,fun bs args=>match bs with
 | []=>L.dec args
 | _ :: _=>none,fun s=>([],L.enc s),pre,out⟩
def codeOkB (sz:Nat):Code→Bool
 | .seq a b=>codeOkB sz a && codeOkB sz b
 | .block _ c=>codeOkB sz c
 | .cond _ a b=>codeOkB sz a && codeOkB sz b
 | .region _ ops _=>ops.toList.all fun o=>match o.dst with
  | some d=>Nat.blt d sz
  | none=>true
 | _=>true
def loopsOf:Code→List Code
 | .seq a b=>List.append (loopsOf a) (loopsOf b)
 | .block _ c=>loopsOf c
 | .cond _ a b=>List.append (loopsOf a) (loopsOf b)
 | .loop c=>[c]
 | _=>[]
def cutsOf:Code→List Code
 | .seq a b=>List.append (cutsOf a) (b :: cutsOf b)
 | .block _ c=>cutsOf c
 | .cond _ a b=>List.append (cutsOf a) (cutsOf b)
 | _=>[]
theorem codeOk_ofC {P:Program} {ct L:List LCtr} {sz:Nat}:∀{c:Code},codeOkB sz c = true→(∀b∈loopsOf c,∀l,lcOf L (firstR b) = some l→LGood P sz l b)→(∀b∈cutsOf c,∀l,lcOf ct (firstR b) = some l→CGood P sz l b)→codeOk P ct L sz c:=by
 intro c
 induction c with
 | seq a b iha ihb =>
  intro h hl hc
  simp only [codeOkB,Bool.and_eq_true] at h
  exact ⟨iha h.1 (fun b' hb=>hl b' (List.mem_append_left _ hb)) (fun b' hb=>hc b' (List.mem_append_left _ hb)),ihb h.2 (fun b' hb=>hl b' (List.mem_append_right _ hb)) (fun b' hb=>hc b' (List.mem_append_right _ (List.mem_cons_of_mem _ hb))),fun l=>hc b (List.mem_append_right _ List.mem_cons_self) l⟩
 | block i c ih=>intro h hl hc; exact ih h hl hc
 | cond x a b iha ihb =>
  intro h hl hc
  simp only [codeOkB,Bool.and_eq_true] at h
  exact ⟨iha h.1 (fun b' hb=>hl b' (List.mem_append_left _ hb)) (fun b' hb=>hc b' (List.mem_append_left _ hb)),ihb h.2 (fun b' hb=>hl b' (List.mem_append_right _ hb)) (fun b' hb=>hc b' (List.mem_append_right _ hb))⟩
 | region id ops draw =>
  intro h hl hc o ho d hd
  have:=List.all_eq_true.1 h o ho
  rw [hd] at this
  exact Nat.le_of_ble_eq_true this
 | loop c ih=>intro h hl hc l hl'; exact hl c (List.mem_singleton.2 rfl) l hl'
 | _=>intro h hl hc; trivial
theorem codeOk_of {P:Program} {L:List LCtr} {sz:Nat} {c:Code} (h:codeOkB sz c = true) (hl:∀b∈loopsOf c,∀l,lcOf L (firstR b) = some l→LGood P sz l b):codeOk P [] L sz c:=codeOk_ofC h hl fun b _ l h=>by cases h
def bodyOf (fn:Func):Code:=match fn.body with
 | some c=>c
 | none=>.skip
def fnOkB (fn : Func) (k : Nat) : Bool := fn.body.isSome && !(fn.name == "runtime.NumGoroutine") && codeOkB fn.ntmps (bodyOf fn) && Nat.ble k fn.ntmps
theorem vgood {sh:Shp} {sp:List (Nat×List (List (Nat×Nat)))} {G:List Ctr} {LL:List LCtr} {fid:Nat} {fn:Func} {L:ShL} {pre:Option (L.α→Prop)} {out:L.α→AV×List Blk} (hG:∀c∈G,Good Tryz.prog c) (hf:Tryz.prog.funcs[fid]? = some fn) (hk:fnOkB fn L.len = true)
  (hl:∀b∈loopsOf (bodyOf fn),∀l,lcOf LL (firstR b) = some l→LGood Tryz.prog fn.ntmps l b)
  (hev:∀s,(∀p,pre = some p→p s)→L.fact s→evFn (envS G sp) LL sh [] fn [] (L.enc s) fun r bs'=>And (r = (out s).1) (bs' = (out s).2)):Good Tryz.prog (vctr fid L pre out):=by
 unfold fnOkB at hk
 simp only [Bool.and_eq_true,Bool.not_eq_true'] at hk
 obtain ⟨⟨⟨k1,k2⟩,k3⟩,k4⟩:=hk
 have hb:fn.body = some (bodyOf fn):=by
  unfold bodyOf
  cases h:fn.body with
  | none=>rw [h] at k1; cases k1
  | some c=>rfl
 refine fn_ok (c:=vctr fid L pre out) mixed (tyOKS G sp) hG hf hb k2 (codeOk_of k3 hl) (fun bs args s h=>?_) (fun s=>?_) (fun s C vs _ hv hp=>hev s hp (L.hf s C vs hv))
 ·simp only [vctr] at h ⊢
  split at h
  ·exact ⟨rfl,L.fit _ _ h⟩
  ·cases h
 ·exact Nat.le_trans (Nat.le_of_eq (L.lenOk s)) (Nat.le_of_ble_eq_true k4)
end Hw
end Go.Proofs.YtklmllaggigkfaaGreat
set_option linter.unusedVariables false
set_option linter.unusedSimpArgs false
namespace Go.Proofs.YtklmllaggigkfaaGreat
namespace Hw
open Go
structure KD where
 β:Type
 ar:List β→Arr
 un:Arr→Option (List β)
 ok:∀{a:Arr} {l:List β},un a = some l→a = ar l
 k:EK
 nilOk:ar [] = Arr.nil k
def kInts:KD:=⟨Int,.ints,fun | .ints l=>some l | _=>none,(fun {a l} h=>by
 split at h
 ·simp only [Option.some.injEq] at h; subst h; rfl
 ·cases h),.int,rfl⟩
def kBools:KD:=⟨Bool,.bools,fun | .bools l=>some l | _=>none,(fun {a l} h=>by
 split at h
 ·simp only [Option.some.injEq] at h; subst h; rfl
 ·cases h),.bool,rfl⟩
def kPkts:KD:=⟨Pkt,.pkts,fun | .pkts l=>some l | _=>none,(fun {a l} h=>by
 split at h
 ·simp only [Option.some.injEq] at h; subst h; rfl
 ·cases h),.pkt,rfl⟩
def kSts:KD:=⟨St,.sts,fun | .sts l=>some l | _=>none,(fun {a l} h=>by
 split at h
 ·simp only [Option.some.injEq] at h; subst h; rfl
 ·cases h),.st,rfl⟩
def kChs:KD:=⟨Ch,.chs,fun | .chs l=>some l | _=>none,(fun {a l} h=>by
 split at h
 ·simp only [Option.some.injEq] at h; subst h; rfl
 ·cases h),.ch,rfl⟩
def kWss:KD:=⟨Ws,.wss,fun | .wss l=>some l | _=>none,(fun {a l} h=>by
 split at h
 ·simp only [Option.some.injEq] at h; subst h; rfl
 ·cases h),.ws,rfl⟩
def kEvs:KD:=⟨Ev,.evs,fun | .evs l=>some l | _=>none,(fun {a l} h=>by
 split at h
 ·simp only [Option.some.injEq] at h; subst h; rfl
 ·cases h),.ev,rfl⟩
structure CB where
 α:Type
 nb:Nat
 dec:Nat→List Blk→Cell→Option (α×List Blk)
 encC:Nat→α→Cell
 encB:Nat→α→List Blk
 ok:∀{k bs x a r},dec k bs x = some (a,r)→bs = List.append (encB k a) r∧cellFit x (encC k a)
 e:Bool
 eok:e = true→∀{k bs x a r},dec k bs x = some (a,r)→x = encC k a
def cInt:CB:=⟨Int,0,fun _ bs x=>match x with | .int n=>some (n,bs) | _=>none,fun _ n=>.int n,fun _ _=>[],(fun {k bs x a r} h=>by
 split at h
 ·simp only [Option.some.injEq,Prod.mk.injEq] at h; obtain ⟨rfl,rfl⟩:=h; exact ⟨rfl,cellFit.refl _⟩
 ·cases h),true,fun _ {k bs x a r} h=>by
 split at h
 ·simp only [Option.some.injEq,Prod.mk.injEq] at h; obtain ⟨rfl,rfl⟩:=h; rfl
 ·cases h⟩
def cBool:CB:=⟨Bool,0,fun _ bs x=>match x with | .bool n=>some (n,bs) | _=>none,fun _ n=>.bool n,fun _ _=>[],(fun {k bs x a r} h=>by
 split at h
 ·simp only [Option.some.injEq,Prod.mk.injEq] at h; obtain ⟨rfl,rfl⟩:=h; exact ⟨rfl,cellFit.refl _⟩
 ·cases h),true,fun _ {k bs x a r} h=>by
 split at h
 ·simp only [Option.some.injEq,Prod.mk.injEq] at h; obtain ⟨rfl,rfl⟩:=h; rfl
 ·cases h⟩
def cFnv:CB:=⟨Option Nat,0,fun _ bs x=>match x with | .fnv n=>some (n,bs) | _=>none,fun _ n=>.fnv n,fun _ _=>[],(fun {k bs x a r} h=>by
 split at h
 ·simp only [Option.some.injEq,Prod.mk.injEq] at h; obtain ⟨rfl,rfl⟩:=h; exact ⟨rfl,cellFit.refl _⟩
 ·cases h),true,fun _ {k bs x a r} h=>by
 split at h
 ·simp only [Option.some.injEq,Prod.mk.injEq] at h; obtain ⟨rfl,rfl⟩:=h; rfl
 ·cases h⟩
def cIfc:CB:=⟨Nat,0,fun _ bs x=>match x with | .ifc n=>some (n,bs) | _=>none,fun _ n=>.ifc n,fun _ _=>[],(fun {k bs x a r} h=>by
 split at h
 ·simp only [Option.some.injEq,Prod.mk.injEq] at h; obtain ⟨rfl,rfl⟩:=h; exact ⟨rfl,cellFit.refl _⟩
 ·cases h),true,fun _ {k bs x a r} h=>by
 split at h
 ·simp only [Option.some.injEq,Prod.mk.injEq] at h; obtain ⟨rfl,rfl⟩:=h; rfl
 ·cases h⟩
def cNilS:CB:=⟨Unit,0,fun _ bs x=>match x with | .nilS=>some ((),bs) | _=>none,fun _ _=>.nilS,fun _ _=>[],(fun {k bs x a r} h=>by
 split at h
 ·simp only [Option.some.injEq,Prod.mk.injEq,true_and] at h; subst h; exact ⟨rfl,cellFit.refl _⟩
 ·cases h),true,fun _ {k bs x a r} h=>by
 split at h
 ·rfl
 ·cases h⟩
theorem nilFitZ (z:Bool) (k:EK):cellFit .nilS (.arr z (.nil k)):=fun C v h=>by
 simp only [cellR] at h
 subst h
 exact nil_R C.w _ 3 k
def cArr (z:Bool) (K:KD):CB:=⟨List K.β,0,fun _ bs x=>match x with
  | .arr y a=>bif eqB y z then (K.un a).map fun l=>(l,bs) else none
  | .nilS=>some ([],bs)
  | _=>none,fun _ l=>.arr z (K.ar l),fun _ _=>[],(fun {k bs x a r} h=>by
 split at h
 ·rename_i y b
  cases hz:eqB y z with
  | false=>rw [hz] at h; cases h
  | true =>
   rw [hz] at h
   have hyz:y = z:=by cases y <;> cases z <;> first | rfl | cases hz
   subst hyz
   simp only [cond_true] at h
   cases hu:K.un b with
   | none=>rw [hu] at h; cases h
   | some l =>
    rw [hu] at h
    simp only [Option.map_some,Option.some.injEq,Prod.mk.injEq] at h
    obtain ⟨rfl,rfl⟩:=h
    rw [K.ok hu]
    exact ⟨rfl,cellFit.refl _⟩
 ·simp only [Option.some.injEq,Prod.mk.injEq] at h; obtain ⟨rfl,rfl⟩:=h; exact ⟨rfl,by rw [K.nilOk]; exact nilFitZ _ _⟩
 ·cases h),false,fun h=>by cases h⟩
def cArrE (z:Bool) (K:KD):CB:=⟨List K.β,0,fun _ bs x=>match x with
  | .arr y a=>bif eqB y z then (K.un a).map fun l=>(l,bs) else none
  | _=>none,fun _ l=>.arr z (K.ar l),fun _ _=>[],(fun {k bs x a r} h=>by
 split at h
 ·rename_i y b
  cases hz:eqB y z with
  | false=>rw [hz] at h; cases h
  | true =>
   rw [hz] at h
   have hyz:y = z:=by cases y <;> cases z <;> first | rfl | cases hz
   subst hyz
   simp only [cond_true] at h
   cases hu:K.un b with
   | none=>rw [hu] at h; cases h
   | some l =>
    rw [hu] at h
    simp only [Option.map_some,Option.some.injEq,Prod.mk.injEq] at h
    obtain ⟨rfl,rfl⟩:=h
    rw [K.ok hu]
    exact ⟨rfl,cellFit.refl _⟩
 ·cases h),true,fun _ {k bs x a r} h=>by
 split at h
 ·rename_i y b
  cases hz:eqB y z with
  | false=>rw [hz] at h; cases h
  | true =>
   rw [hz] at h
   have hyz:y = z:=by cases y <;> cases z <;> first | rfl | cases hz
   subst hyz
   simp only [cond_true] at h
   cases hu:K.un b with
   | none=>rw [hu] at h; cases h
   | some l =>
    rw [hu] at h
    simp only [Option.map_some,Option.some.injEq,Prod.mk.injEq] at h
    obtain ⟨rfl,rfl⟩:=h
    rw [K.ok hu]
 ·cases h⟩
def cOwn (K:KD) (e:Nat):CB:=⟨List K.β,1,fun k bs x=>match x with
  | .own i sz e'=>(match bs with
   | .arr a :: r=>bif Nat.beq i k && Nat.beq sz K.k.size && Nat.beq e' e then (K.un a).map fun l=>(l,r) else none
   | _=>none)
  | _=>none,fun k l=>.own k K.k.size e,fun _ l=>[.arr (K.ar l)],(fun {k bs x a r} h=>by
 split at h
 ·rename_i i sz e'
  split at h
  ·rename_i b r'
   cases hz:(Nat.beq i k && Nat.beq sz K.k.size && Nat.beq e' e) with
   | false=>rw [hz] at h; cases h
   | true =>
    rw [hz] at h
    simp only [Bool.and_eq_true] at hz
    obtain ⟨⟨h1,h2⟩,h3⟩:=hz
    have h1:=Nat.eq_of_beq_eq_true h1
    have h2:=Nat.eq_of_beq_eq_true h2
    have h3:=Nat.eq_of_beq_eq_true h3
    subst h1; subst h2; subst h3
    simp only [cond_true] at h
    cases hu:K.un b with
    | none=>rw [hu] at h; cases h
    | some l =>
     rw [hu] at h
     simp only [Option.map_some,Option.some.injEq,Prod.mk.injEq] at h
     obtain ⟨rfl,rfl⟩:=h
     rw [K.ok hu]
     exact ⟨rfl,cellFit.refl _⟩
  ·cases h
 ·cases h),true,fun _ {k bs x a r} h=>by
 split at h
 ·rename_i i sz e'
  split at h
  ·rename_i b r'
   cases hz:(Nat.beq i k && Nat.beq sz K.k.size && Nat.beq e' e) with
   | false=>rw [hz] at h; cases h
   | true =>
    simp only [Bool.and_eq_true] at hz
    obtain ⟨⟨h1,h2⟩,h3⟩:=hz
    rw [Nat.eq_of_beq_eq_true h1,Nat.eq_of_beq_eq_true h2,Nat.eq_of_beq_eq_true h3]
  ·cases h
 ·cases h⟩
def sIfc:Sh:=⟨Nat,fun | .c (.ifc n)=>some n | _=>none,fun n=>.c (.ifc n),(fun x a h=>by
 split at h
 ·simp only [Option.some.injEq] at h; subst h; exact fun _ _ h=>h
 ·cases h),fun _=>True,fun _ _ _ _=>trivial⟩
structure CL where
 α:Type
 nb:Nat
 len:Nat
 dec:Nat→List Blk→List Cell→Option (α×List Blk)
 encC:Nat→α→List Cell
 encB:Nat→α→List Blk
 ok:∀{k bs x a r},dec k bs x = some (a,r)→bs = List.append (encB k a) r∧cellsFit x (encC k a)
 e:Bool
 eok:e = true→∀{k bs x a r},dec k bs x = some (a,r)→x = encC k a
def cNil:CL:=⟨Unit,0,0,fun _ bs x=>match x with | []=>some ((),bs) | _ :: _=>none,fun _ _=>[],fun _ _=>[],(fun {k bs x a r} h=>by
 split at h
 ·simp only [Option.some.injEq,Prod.mk.injEq,true_and] at h; subst h; exact ⟨rfl,trivial⟩
 ·cases h),true,fun _ {k bs x a r} h=>by
 split at h
 ·rfl
 ·cases h⟩
def cCons (A:CB) (L:CL):CL:=⟨A.α×L.α,Nat.add A.nb L.nb,Nat.succ L.len,fun k bs x=>match x with
  | []=>none
  | x :: xs=>(A.dec k bs x).bind fun p=>(L.dec (Nat.add k A.nb) p.2 xs).map fun q=>((p.1,q.1),q.2),fun k s=>A.encC k s.1 :: L.encC (Nat.add k A.nb) s.2,fun k s=>List.append (A.encB k s.1) (L.encB (Nat.add k A.nb) s.2),(fun {k bs x a r} h=>by
 split at h
 ·cases h
 ·obtain ⟨p,h1,h⟩:=bind_some' h
  cases h2:L.dec (Nat.add k A.nb) p.2 _ with
  | none=>rw [h2] at h; cases h
  | some q =>
   rw [h2] at h
   simp only [Option.map_some,Option.some.injEq,Prod.mk.injEq] at h
   obtain ⟨rfl,rfl⟩:=h
   obtain ⟨e1,e2⟩:=A.ok (a:=p.1) (r:=p.2) h1
   obtain ⟨e3,e4⟩:=L.ok (a:=q.1) (r:=q.2) h2
   refine ⟨?_,e2,e4⟩
   rw [e1,e3]
   simp),(A.e && L.e),fun he {k bs x a r} h=>by
 rw [Bool.and_eq_true] at he
 split at h
 ·cases h
 ·obtain ⟨p,h1,h⟩:=bind_some' h
  cases h2:L.dec (Nat.add k A.nb) p.2 _ with
  | none=>rw [h2] at h; cases h
  | some q =>
   rw [h2] at h
   simp only [Option.map_some,Option.some.injEq,Prod.mk.injEq] at h
   obtain ⟨rfl,rfl⟩:=h
   rw [A.eok he.1 (a:=p.1) (r:=p.2) h1,L.eok he.2 (a:=q.1) (r:=q.2) h2]⟩
theorem cellsFit_app {x1 y1 x2 y2:List Cell} (h1:cellsFit x1 y1) (h2:cellsFit x2 y2):cellsFit (x1 ++ x2) (y1 ++ y2):=by
 induction x1 generalizing y1 with
 | nil =>
  cases y1 with
  | nil=>exact h2
  | cons y ys=>exact h1.elim
 | cons x xs ih =>
  cases y1 with
  | nil=>exact h1.elim
  | cons y ys=>exact ⟨h1.1,ih h1.2⟩
def cApp (L M:CL):CL:=⟨L.α×M.α,Nat.add L.nb M.nb,Nat.add L.len M.len,fun k bs x=>(L.dec k bs (x.take L.len)).bind fun p=>(M.dec (Nat.add k L.nb) p.2 (x.drop L.len)).map fun q=>((p.1,q.1),q.2),
  fun k s=>List.append (L.encC k s.1) (M.encC (Nat.add k L.nb) s.2),fun k s=>List.append (L.encB k s.1) (M.encB (Nat.add k L.nb) s.2),(fun {k bs x a r} h=>by
  obtain ⟨p,h1,h⟩:=bind_some' h
  cases h2:M.dec (Nat.add k L.nb) p.2 (x.drop L.len) with
  | none=>rw [h2] at h; cases h
  | some q =>
   rw [h2] at h
   simp only [Option.map_some,Option.some.injEq,Prod.mk.injEq] at h
   obtain ⟨rfl,rfl⟩:=h
   obtain ⟨e1,e2⟩:=L.ok (a:=p.1) (r:=p.2) h1
   obtain ⟨e3,e4⟩:=M.ok (a:=q.1) (r:=q.2) h2
   refine ⟨?_,?_⟩
   ·rw [e1,e3]
    simp
   ·have:=cellsFit_app e2 e4
    rwa [List.take_append_drop] at this),(L.e && M.e),fun he {k bs x a r} h=>by
  rw [Bool.and_eq_true] at he
  obtain ⟨p,h1,h⟩:=bind_some' h
  cases h2:M.dec (Nat.add k L.nb) p.2 (x.drop L.len) with
  | none=>rw [h2] at h; cases h
  | some q =>
   rw [h2] at h
   simp only [Option.map_some,Option.some.injEq,Prod.mk.injEq] at h
   obtain ⟨rfl,rfl⟩:=h
   have a1:=L.eok he.1 (a:=p.1) (r:=p.2) h1
   have a2:=M.eok he.2 (a:=q.1) (r:=q.2) h2
   calc x = x.take L.len ++ x.drop L.len:=(List.take_append_drop _ _).symm
    _ = _:=by rw [a1,a2]; rfl⟩
def CL.iso (L:CL) {β:Type} (f:L.α→β) (g:β→L.α) (h:∀a,g (f a) = a):CL:=⟨β,L.nb,L.len,fun k bs x=>(L.dec k bs x).map fun p=>(f p.1,p.2),fun k b=>L.encC k (g b),fun k b=>L.encB k (g b),(fun {k bs x a r} hx=>by
 cases h2:L.dec k bs x with
 | none=>rw [h2] at hx; cases hx
 | some p =>
  rw [h2] at hx
  simp only [Option.map_some,Option.some.injEq,Prod.mk.injEq] at hx
  obtain ⟨rfl,rfl⟩:=hx
  rw [h]
  exact L.ok (a:=p.1) (r:=p.2) h2),L.e,fun he {k bs x a r} hx=>by
 cases h2:L.dec k bs x with
 | none=>rw [h2] at hx; cases hx
 | some p =>
  rw [h2] at hx
  simp only [Option.map_some,Option.some.injEq,Prod.mk.injEq] at hx
  obtain ⟨rfl,rfl⟩:=hx
  rw [h]
  exact L.eok he (a:=p.1) (r:=p.2) h2⟩
def cRow (m sz e:Nat) (L:CL) (he:L.e = true):CB:=⟨L.α,Nat.succ L.nb,fun k bs x=>match x with
  | .own i sz' e'=>(match bs with
   | .raw m' cs :: r=>bif Nat.beq i k && Nat.beq sz' sz && Nat.beq e' e && Nat.beq m' m then L.dec (Nat.succ k) r cs else none
   | _=>none)
  | _=>none,fun k _=>.own k sz e,fun k a=>.raw m (L.encC (Nat.succ k) a) :: L.encB (Nat.succ k) a,(fun {k bs x a r} h=>by
 split at h
 ·rename_i i sz' e'
  split at h
  ·rename_i m' cs r'
   cases hz:(Nat.beq i k && Nat.beq sz' sz && Nat.beq e' e && Nat.beq m' m) with
   | false=>rw [hz] at h; cases h
   | true =>
    rw [hz] at h
    simp only [Bool.and_eq_true] at hz
    obtain ⟨⟨⟨h1,h2⟩,h3⟩,h4⟩:=hz
    rw [Nat.eq_of_beq_eq_true h1,Nat.eq_of_beq_eq_true h2,Nat.eq_of_beq_eq_true h3,Nat.eq_of_beq_eq_true h4]
    simp only [cond_true] at h
    rw [L.eok he h]
    exact ⟨congrArg _ (L.ok h).1,cellFit.refl _⟩
  ·cases h
 ·cases h),true,fun _ {k bs x a r} h=>by
 split at h
 ·rename_i i sz' e'
  split at h
  ·rename_i m' cs r'
   cases hz:(Nat.beq i k && Nat.beq sz' sz && Nat.beq e' e && Nat.beq m' m) with
   | false=>rw [hz] at h; cases h
   | true =>
    simp only [Bool.and_eq_true] at hz
    obtain ⟨⟨⟨h1,h2⟩,h3⟩,h4⟩:=hz
    rw [Nat.eq_of_beq_eq_true h1,Nat.eq_of_beq_eq_true h2,Nat.eq_of_beq_eq_true h3]
  ·cases h
 ·cases h⟩
def cPtr (m:Nat) (L:CL) (he:L.e = true):CB:=⟨L.α,Nat.succ L.nb,fun k bs x=>match x with
  | .ptr i o=>(match bs with
   | .raw m' cs :: r=>bif Nat.beq i k && Nat.beq o 0 && Nat.beq m' m then L.dec (Nat.succ k) r cs else none
   | _=>none)
  | _=>none,fun k _=>.ptr k 0,fun k a=>.raw m (L.encC (Nat.succ k) a) :: L.encB (Nat.succ k) a,(fun {k bs x a r} h=>by
 split at h
 ·rename_i i o
  split at h
  ·rename_i m' cs r'
   cases hz:(Nat.beq i k && Nat.beq o 0 && Nat.beq m' m) with
   | false=>rw [hz] at h; cases h
   | true =>
    rw [hz] at h
    simp only [Bool.and_eq_true] at hz
    obtain ⟨⟨h1,h2⟩,h4⟩:=hz
    rw [Nat.eq_of_beq_eq_true h1,Nat.eq_of_beq_eq_true h2,Nat.eq_of_beq_eq_true h4]
    simp only [cond_true] at h
    rw [L.eok he h]
    exact ⟨congrArg _ (L.ok h).1,cellFit.refl _⟩
  ·cases h
 ·cases h),true,fun _ {k bs x a r} h=>by
 split at h
 ·rename_i i o
  split at h
  ·rename_i m' cs r'
   cases hz:(Nat.beq i k && Nat.beq o 0 && Nat.beq m' m) with
   | false=>rw [hz] at h; cases h
   | true =>
    simp only [Bool.and_eq_true] at hz
    obtain ⟨⟨h1,h2⟩,h4⟩:=hz
    rw [Nat.eq_of_beq_eq_true h1,Nat.eq_of_beq_eq_true h2]
  ·cases h
 ·cases h⟩
def cMk:CB:=⟨Mks,0,fun _ bs x=>match x with | .mk l 0=>some (l,bs) | _=>none,fun _ l=>.mk l 0,fun _ _=>[],(fun {k bs x a r} h=>by
 split at h
 ·simp only [Option.some.injEq,Prod.mk.injEq] at h; obtain ⟨rfl,rfl⟩:=h; exact ⟨rfl,cellFit.refl _⟩
 ·cases h),true,fun _ {k bs x a r} h=>by
 split at h
 ·simp only [Option.some.injEq,Prod.mk.injEq] at h; obtain ⟨rfl,rfl⟩:=h; rfl
 ·cases h⟩
def cMap:CB:=⟨List Int,1,fun k bs x=>match x with
  | .mp i=>(match bs with
   | .mp l :: r=>bif Nat.beq i k then some (l,r) else none
   | _=>none)
  | _=>none,fun k _=>.mp k,fun _ l=>[.mp l],(fun {k bs x a r} h=>by
 split at h
 ·rename_i i
  split at h
  ·rename_i l r'
   cases hz:Nat.beq i k with
   | false=>rw [hz] at h; cases h
   | true =>
    rw [hz] at h
    have hz:=Nat.eq_of_beq_eq_true hz
    subst hz
    simp only [cond_true,Option.some.injEq,Prod.mk.injEq] at h
    obtain ⟨rfl,rfl⟩:=h
    exact ⟨rfl,cellFit.refl _⟩
  ·cases h
 ·cases h),true,fun _ {k bs x a r} h=>by
 split at h
 ·rename_i i
  split at h
  ·rename_i l r'
   cases hz:Nat.beq i k with
   | false=>rw [hz] at h; cases h
   | true=>rw [Nat.eq_of_beq_eq_true hz]
  ·cases h
 ·cases h⟩
def cAl (i sz e:Nat):CB:=⟨Unit,0,fun _ bs x=>match x with
  | .own i' sz' e'=>bif Nat.beq i' i && Nat.beq sz' sz && Nat.beq e' e then some ((),bs) else none
  | _=>none,fun _ _=>.own i sz e,fun _ _=>[],(fun {k bs x a r} h=>by
 split at h
 ·rename_i i' sz' e'
  cases hz:(Nat.beq i' i && Nat.beq sz' sz && Nat.beq e' e) with
  | false=>rw [hz] at h; cases h
  | true =>
   rw [hz] at h
   simp only [Bool.and_eq_true] at hz
   obtain ⟨⟨h1,h2⟩,h3⟩:=hz
   simp only [cond_true,Option.some.injEq,Prod.mk.injEq,true_and] at h
   subst h
   rw [Nat.eq_of_beq_eq_true h1,Nat.eq_of_beq_eq_true h2,Nat.eq_of_beq_eq_true h3]
   exact ⟨rfl,cellFit.refl _⟩
 ·cases h),true,fun _ {k bs x a r} h=>by
 split at h
 ·rename_i i' sz' e'
  cases hz:(Nat.beq i' i && Nat.beq sz' sz && Nat.beq e' e) with
  | false=>rw [hz] at h; cases h
  | true =>
   simp only [Bool.and_eq_true] at hz
   obtain ⟨⟨h1,h2⟩,h3⟩:=hz
   rw [Nat.eq_of_beq_eq_true h1,Nat.eq_of_beq_eq_true h2,Nat.eq_of_beq_eq_true h3]
 ·cases h⟩
def cWs:CL:=(cCons cInt (cCons cFnv (cCons cFnv cNil))).iso (fun s=>(⟨s.1,s.2.1,s.2.2.1⟩:Ws)) (fun p=>(p.step,p.may,p.act,())) (fun _=>rfl)
def cStE (z:Bool):CL:=(cCons cInt (cCons cInt (cCons cInt (cCons (cArrE z kPkts) (cCons (cArrE z kBools) (cCons (cArrE z kBools) (cCons (cArrE z kInts) cNil))))))).iso (fun s=>(⟨s.1,s.2.1,s.2.2.1,s.2.2.2.1,s.2.2.2.2.1,s.2.2.2.2.2.1,s.2.2.2.2.2.2.1⟩:St)) (fun p=>(p.way,p.ver,p.want,p.sent,p.live,p.back,p.got,())) (fun _=>rfl)
def cStO:CL:=(cCons cInt (cCons cInt (cCons cInt (cCons (cOwn kPkts 46) (cCons (cOwn kBools 4) (cCons (cOwn kBools 4) (cCons (cOwn kInts 3) cNil))))))).iso (fun s=>(⟨s.1,s.2.1,s.2.2.1,s.2.2.2.1,s.2.2.2.2.1,s.2.2.2.2.2.1,s.2.2.2.2.2.2.1⟩:St)) (fun p=>(p.way,p.ver,p.want,p.sent,p.live,p.back,p.got,())) (fun _=>rfl)
def cBk (z:Bool):CL:=(cCons (cArr z kInts) (cCons (cArr z kInts) (cCons cInt cNil))).iso (fun s=>(⟨s.1,s.2.1,s.2.2.1⟩:Bk)) (fun b=>(b.own,b.notes,b.locked,())) (fun _=>rfl)
def cBkO:CL:=(cCons (cOwn kInts 3) (cCons (cOwn kInts 3) (cCons cInt cNil))).iso (fun s=>(⟨s.1,s.2.1,s.2.2.1⟩:Bk)) (fun b=>(b.own,b.notes,b.locked,())) (fun _=>rfl)
def cChO:CL:=(cCons cInt (cApp cBkO (cApp cStO (cCons (cOwn kSts 75) (cCons (cOwn kInts 3) cNil))))).iso (fun s=>(⟨s.1,s.2.1,s.2.2.1,s.2.2.2.1,s.2.2.2.2.1⟩:Ch)) (fun c=>(c.id,c.bank,c.st,c.past,c.knows,())) (fun _=>rfl)
def cLdg:CL:=(cCons cMap (cCons cMap (cCons cInt cNil))).iso (fun s=>(⟨s.1,s.2.1,s.2.2.1⟩:Bk)) (fun b=>(b.own,b.notes,b.locked,())) (fun _=>rfl)
def cLkO:CL:=(cApp cBkO (cCons cInt (cApp cStO (cCons cMk (cCons cInt (cCons (cOwn kInts 3) cNil)))))).iso (fun s=>(⟨s.1,s.2.1,s.2.2.1,s.2.2.2.1,s.2.2.2.2.1,s.2.2.2.2.2.1⟩:Lk)) (fun l=>(l.bank,l.id,l.st,l.marks,l.count,l.knows,())) (fun _=>rfl)
structure FB where
 α:Type
 nb:Nat
 dec:Nat→List Blk→FV→Option (α×List Blk)
 encF:Nat→α→FV
 encB:Nat→α→List Blk
 ok:∀{k bs x a r},dec k bs x = some (a,r)→bs = List.append (encB k a) r∧fvFit x (encF k a)
def fC (A:CB):FB:=⟨A.α,A.nb,fun k bs x=>match x with | .c x=>A.dec k bs x | .agg _=>none,fun k a=>.c (A.encC k a),A.encB,fun {k bs x a r} h=>by
 split at h
 ·exact A.ok h
 ·cases h⟩
def fAgg (L:CL):FB:=⟨L.α,L.nb,fun k bs x=>match x with | .agg x=>L.dec k bs x | .c _=>none,fun k a=>.agg (L.encC k a),L.encB,fun {k bs x a r} h=>by
 split at h
 ·exact ⟨(L.ok h).1,aggFit (L.ok h).2⟩
 ·cases h⟩
def fSh (A:Sh):FB:=⟨A.α,0,fun k bs x=>(A.dec x).map fun a=>(a,bs),fun _ a=>A.enc a,fun _ _=>[],fun {k bs x a r} h=>by
 cases h2:A.dec x with
 | none=>rw [h2] at h; cases h
 | some a =>
  rw [h2] at h
  simp only [Option.map_some,Option.some.injEq,Prod.mk.injEq] at h
  obtain ⟨rfl,rfl⟩:=h
  exact ⟨rfl,A.fit _ _ h2⟩⟩
structure FL where
 α:Type
 len:Nat
 dec:Nat→List Blk→List FV→Option (α×List Blk)
 encF:Nat→α→List FV
 encB:Nat→α→List Blk
 ok:∀{k bs x a r},dec k bs x = some (a,r)→bs = List.append (encB k a) r∧Fits x (encF k a)
 lenOk:∀k a,(encF k a).length = len
theorem Fits.cons {x y:FV} {xs ys:List FV} (h:fvFit x y) (hs:Fits xs ys):Fits (x :: xs) (y :: ys):=by
 refine ⟨by simp [hs.1],fun q z hz=>?_⟩
 cases q with
 | zero =>
  simp only [List.getElem?_cons_zero,Option.some.injEq] at hz
  subst hz
  exact ⟨x,rfl,h⟩
 | succ q=>simpa using hs.2 q z (by simpa using hz)
def fNil:FL:=⟨Unit,0,fun _ bs x=>match x with | []=>some ((),bs) | _ :: _=>none,fun _ _=>[],fun _ _=>[],(fun {k bs x a r} h=>by
 split at h
 ·simp only [Option.some.injEq,Prod.mk.injEq,true_and] at h; subst h; exact ⟨rfl,Fits.refl _⟩
 ·cases h),fun _ _=>rfl⟩
def fCons (A:FB) (L:FL):FL:=⟨A.α×L.α,Nat.succ L.len,fun k bs x=>match x with
  | []=>none
  | x :: xs=>(A.dec k bs x).bind fun p=>(L.dec (Nat.add k A.nb) p.2 xs).map fun q=>((p.1,q.1),q.2),fun k s=>A.encF k s.1 :: L.encF (Nat.add k A.nb) s.2,fun k s=>List.append (A.encB k s.1) (L.encB (Nat.add k A.nb) s.2),(fun {k bs x a r} h=>by
 split at h
 ·cases h
 ·obtain ⟨p,h1,h⟩:=bind_some' h
  cases h2:L.dec (Nat.add k A.nb) p.2 _ with
  | none=>rw [h2] at h; cases h
  | some q =>
   rw [h2] at h
   simp only [Option.map_some,Option.some.injEq,Prod.mk.injEq] at h
   obtain ⟨rfl,rfl⟩:=h
   obtain ⟨e1,e2⟩:=A.ok (a:=p.1) (r:=p.2) h1
   obtain ⟨e3,e4⟩:=L.ok (a:=q.1) (r:=q.2) h2
   refine ⟨?_,Fits.cons e2 e4⟩
   rw [e1,e3]
   simp),fun k s=>by rw [List.length_cons,L.lenOk]⟩
def FL.dec0 (L:FL) (bs:List Blk) (xs:List FV):Option L.α:=match L.dec 0 bs xs with
 | some (a,[])=>some a
 | _=>none
def FL.inp (L:FL) (a:L.α):List Blk×List FV:=(L.encB 0 a,L.encF 0 a)
theorem FL.hdec (L:FL) {bs:List Blk} {xs:List FV} {a:L.α} (h:L.dec0 bs xs = some a):(L.inp a).1 = bs∧Fits xs (L.inp a).2:=by
 unfold FL.dec0 at h
 split at h
 ·rename_i b hb
  simp only [Option.some.injEq] at h
  subst h
  obtain ⟨h1,h2⟩:=L.ok hb
  exact ⟨by rw [h1]; simp [FL.inp],h2⟩
 ·cases h
def ldat (key:Nat) (keep:List Nat) (shp:Shp) (L:FL) (pre:L.α→Prop) (alts:L.α→List (Bool×Ex×List FV×List Blk)) (last:L.α→Ex×List FV×List Blk) (μ:L.α→Nat) (pn:Nat:=0) (kx:Ex→List Nat:=fun _=>keep) (sx:Ex→Shp:=fun _=>shp):LDat:=⟨key,keep,shp,L.α,L.dec0,L.inp,pre,alts,last,μ,pn,kx,sx⟩
theorem wrap_id {n:Int} (h1:-9223372036854775808≤n) (h2:n≤9223372036854775807):wrap n = n:=by
 have e1:(2:Int) ^ IntKind.i64.bits = 18446744073709551616:=by decide
 have e2:(2:Int) ^ (IntKind.i64.bits - 1) = 9223372036854775808:=by decide
 unfold wrap IntKind.wrap
 simp only [Bool.and_eq_true,decide_eq_true_eq,ge_iff_le]
 simp only [e1,e2,show IntKind.i64.signed = true from rfl,true_and]
 split <;> omega
theorem chs_get {l:List Ch} (h:chsFact l) (k:Nat):(l.getD k zCh).fact:=by
 rcases Nat.lt_or_ge k l.length with hk | hk
 ·rw [List.getD_eq_getElem?_getD,List.getElem?_eq_getElem hk]
  exact h.2 _ (List.getElem_mem hk)
 ·rw [List.getD_eq_getElem?_getD,List.getElem?_eq_none hk]
  exact ⟨⟨by decide,by decide⟩,⟨by decide,by decide,by decide,by decide⟩,⟨by decide,fun s h=>by cases h⟩,by decide⟩
theorem sts_get {l:List St} (h:stsFact l) (k:Nat):(l.getD k zSt).fact:=by
 rcases Nat.lt_or_ge k l.length with hk | hk
 ·rw [List.getD_eq_getElem?_getD,List.getElem?_eq_getElem hk]
  exact h.2 _ (List.getElem_mem hk)
 ·rw [List.getD_eq_getElem?_getD,List.getElem?_eq_none hk]
  exact ⟨by decide,by decide,by decide,by decide⟩
theorem chs_1 {l:List Ch} (h:chsFact l) (k:Nat):((l.getD k zCh).knows.length)≤9223372036854775807:=Int.ofNat_le.1 ((chs_get h k).2.2.2)
theorem chs_2 {l:List Ch} (h:chsFact l) (k:Nat):((l.getD k zCh).past.length)≤9223372036854775807:=Int.ofNat_le.1 ((chs_get h k).2.2.1.1)
theorem chs_3 {l:List Ch} (h:chsFact l) (k:Nat):((l.getD k zCh).st.sent.length)≤9223372036854775807:=Int.ofNat_le.1 ((chs_get h k).2.1.1)
theorem chs_4 {l:List Ch} (h:chsFact l) (k:Nat):stsFact (l.getD k zCh).past:=(chs_get h k).2.2.1
theorem chs_5 {l:List Ch} (h:chsFact l):l.length≤9223372036854775807:=Int.ofNat_le.1 (h.1)
theorem sts_1 {l:List St} (h:stsFact l) (k:Nat):((l.getD k zSt).sent.length)≤9223372036854775807:=Int.ofNat_le.1 ((sts_get h k).1)
theorem sts_2 {l:List St} (h:stsFact l):l.length≤9223372036854775807:=Int.ofNat_le.1 (h.1)
theorem wrap_hi {n:Int} (h1:9223372036854775808≤n) (h2:n≤27670116110564327423):wrap n = n - 18446744073709551616:=by
 have e1:(2:Int) ^ IntKind.i64.bits = 18446744073709551616:=by decide
 have e2:(2:Int) ^ (IntKind.i64.bits - 1) = 9223372036854775808:=by decide
 unfold wrap IntKind.wrap
 simp only [Bool.and_eq_true,decide_eq_true_eq,ge_iff_le]
 simp only [e1,e2,show IntKind.i64.signed = true from rfl,true_and]
 split <;> omega
theorem loopE {A R:Type} (F:Nat→Int→A→R) (N:Nat) (hN:(N:Int)≤9223372036854775807) (acc:Nat→A) (E:Nat→A→Option R) (fin:Nat→A→R)
  (hF:∀n k,k≤N→F (n + 1) (k:Int) (acc k) = bif decide ((k:Int) < (N:Int)) then (match E k (acc k) with | some r=>r | none=>F n (wrap ((k:Int) + 1)) (acc (k + 1))) else fin k (acc k)) :
  ((∀k,k < N→E k (acc k) = none)∧F (N + 1) 0 (acc 0) = fin N (acc N))∨(∃k r,k < N∧E k (acc k) = some r∧(∀j,j < k→E j (acc j) = none)∧F (N + 1) 0 (acc 0) = r):=by
 have key:∀m k,k + m = N→(∀j,j < k→E j (acc j) = none)→((∀k,k < N→E k (acc k) = none)∧F (m + 1) (k:Int) (acc k) = fin N (acc N))∨(∃k' r,k' < N∧E k' (acc k') = some r∧(∀j,j < k'→E j (acc j) = none)∧F (m + 1) (k:Int) (acc k) = r):=by
  intro m
  induction m with
  | zero =>
   intro k hk hb
   obtain rfl:k = N:=by omega
   left
   refine ⟨hb,?_⟩
   rw [hF 0 k (Nat.le_refl _),show decide ((k:Int) < (k:Int)) = false by simp]
   rfl
  | succ m ih =>
   intro k hk hb
   rw [hF (m + 1) k (by omega),show decide ((k:Int) < (N:Int)) = true by simp; omega]
   simp only [cond_true]
   cases hbk:E k (acc k) with
   | some r=>right; exact ⟨k,r,by omega,hbk,hb,rfl⟩
   | none =>
    simp only
    rw [wrap_id (by omega) (by omega),show ((k:Int) + 1) = ((k + 1:Nat):Int) by omega]
    refine ih (k + 1) (by omega) fun j hj=>?_
    rcases Nat.lt_or_ge j k with h | h
    ·exact hb j h
    ·obtain rfl:j = k:=by omega
     exact hbk
 exact key N 0 (by omega) fun j hj=>by omega
theorem cond_t {α:Type} {c:Bool} {a b:α} (h:c = true):(bif c then a else b) = a:=by rw [h]; rfl
theorem cond_f {α:Type} {c:Bool} {a b:α} (h:c = false):(bif c then a else b) = b:=by rw [h]; rfl
def St.sm (s:St):Prop:=s.sent.length≤4294967296∧s.live.length≤4294967296∧s.back.length≤4294967296∧s.got.length≤4294967296
def Bk.sm (b:Bk):Prop:=b.own.length≤4294967296∧b.notes.length≤4294967296
def bodyAt (fn:Func) (i:Nat):Code:=getL .skip (loopsOf (bodyOf fn)) i
theorem lgoodS {G:List Ctr} {sp:List (Nat×List (List (Nat×Nat)))} {LL:List LCtr} {sz:Nat} {body:Code} {key:Nat} {keep:List Nat} {shp:Shp} {L:FL} {pre:L.α→Prop} {alts:L.α→List (Bool×Ex×List FV×List Blk)} {last:L.α→Ex×List FV×List Blk} {μ:L.α→Nat}
  (hG:∀c∈G,Good Tryz.prog c) (hk:codeOkB sz body = true) (hl:∀b∈loopsOf body,∀l,lcOf LL (firstR b) = some l→LGood Tryz.prog sz l b)
  (hb:∀s,pre s→evBody (envS G sp) LL body (ldat key keep shp L pre alts last μ) s):LGood Tryz.prog sz (ldat key keep shp L pre alts last μ).ctr body :=
 loop_ok mixed (tyOKS G sp) hG (ldat key keep shp L pre alts last μ) (codeOk_of hk hl) (fun bs xs s h=>L.hdec h) hb
def hctr (fid:Nat) (vw:List Bool) (L:FL) (pre:Option (L.α→Prop)) (out:L.α→AV×List Blk):Ctr:=⟨fid,vw,L.α,L.dec0,L.inp,pre,out⟩
theorem hgood {sh:Shp} {tk:List Nat} {G:List Ctr} {sp:List (Nat×List (List (Nat×Nat)))} {LL:List LCtr} {fid:Nat} {vw:List Bool} {fn:Func} {L:FL} {pre:Option (L.α→Prop)} {out:L.α→AV×List Blk} (hG:∀c∈G,Good Tryz.prog c) (hf:Tryz.prog.funcs[fid]? = some fn) (hk:fnOkB fn L.len = true)
  (hl:∀b∈loopsOf (bodyOf fn),∀l,lcOf LL (firstR b) = some l→LGood Tryz.prog fn.ntmps l b)
  (hev:∀s,(∀p,pre = some p→p s)→evFn (envS G sp) LL sh tk fn (L.inp s).1 (L.inp s).2 fun r bs'=>And (r = (out s).1) (bs' = (out s).2)):Good Tryz.prog (hctr fid vw L pre out):=by
 unfold fnOkB at hk
 simp only [Bool.and_eq_true,Bool.not_eq_true'] at hk
 obtain ⟨⟨⟨k1,k2⟩,k3⟩,k4⟩:=hk
 have hb:fn.body = some (bodyOf fn):=by
  unfold bodyOf
  cases h:fn.body with
  | none=>rw [h] at k1; cases k1
  | some c=>rfl
 exact fn_ok (c:=hctr fid vw L pre out) mixed (tyOKS G sp) hG hf hb k2 (codeOk_of k3 hl) (fun bs args s h=>L.hdec h) (fun s=>Nat.le_trans (Nat.le_of_eq (L.lenOk 0 s)) (Nat.le_of_ble_eq_true k4)) (fun s C vs _ hv hp=>hev s hp)
theorem lgoodC {G:List Ctr} {sp:List (Nat×List (List (Nat×Nat)))} {ct LL:List LCtr} {lst:Bool} {sz:Nat} {body:Code} {key:Nat} {keep:List Nat} {shp:Shp} {L:FL} {pre:L.α→Prop} {alts:L.α→List (Bool×Ex×List FV×List Blk)} {last:L.α→Ex×List FV×List Blk} {μ:L.α→Nat} {pn:Nat} {kx:Ex→List Nat} {sx:Ex→Shp}
  (hG:∀c∈G,Good Tryz.prog c) (hk:codeOkB sz body = true) (hl:∀b∈loopsOf body,∀l,lcOf LL (firstR b) = some l→LGood Tryz.prog sz l b) (hc:∀b∈cutsOf body,∀l,lcOf ct (firstR b) = some l→CGood Tryz.prog sz l b)
  (hb:∀s,pre s→evBody (envC G sp ct lst) LL body (ldat key keep shp L pre alts last μ pn kx sx) s):LGood Tryz.prog sz (ldat key keep shp L pre alts last μ pn kx sx).ctr body :=
 loop_ok mixed (tyOKC G sp ct lst) hG (ldat key keep shp L pre alts last μ pn kx sx) (codeOk_ofC hk hl hc) (fun bs xs s h=>L.hdec h) hb
theorem hgoodC {sh:Shp} {tk:List Nat} {G:List Ctr} {sp:List (Nat×List (List (Nat×Nat)))} {ct LL:List LCtr} {lst:Bool} {fid:Nat} {vw:List Bool} {fn:Func} {L:FL} {pre:Option (L.α→Prop)} {out:L.α→AV×List Blk} (hG:∀c∈G,Good Tryz.prog c) (hf:Tryz.prog.funcs[fid]? = some fn) (hk:fnOkB fn L.len = true)
  (hl:∀b∈loopsOf (bodyOf fn),∀l,lcOf LL (firstR b) = some l→LGood Tryz.prog fn.ntmps l b) (hc:∀b∈cutsOf (bodyOf fn),∀l,lcOf ct (firstR b) = some l→CGood Tryz.prog fn.ntmps l b)
  (hev:∀s,(∀p,pre = some p→p s)→evFn (envC G sp ct lst) LL sh tk fn (L.inp s).1 (L.inp s).2 fun r bs'=>And (r = (out s).1) (bs' = (out s).2)):Good Tryz.prog (hctr fid vw L pre out):=by
 unfold fnOkB at hk
 simp only [Bool.and_eq_true,Bool.not_eq_true'] at hk
 obtain ⟨⟨⟨k1,k2⟩,k3⟩,k4⟩:=hk
 have hb:fn.body = some (bodyOf fn):=by
  unfold bodyOf
  cases h:fn.body with
  | none=>rw [h] at k1; cases k1
  | some c=>rfl
 exact fn_ok (c:=hctr fid vw L pre out) mixed (tyOKC G sp ct lst) hG hf hb k2 (codeOk_ofC k3 hl hc) (fun bs args s h=>L.hdec h) (fun s=>Nat.le_trans (Nat.le_of_eq (L.lenOk 0 s)) (Nat.le_of_ble_eq_true k4)) (fun s C vs _ hv hp=>hev s hp)
theorem noG:∀c∈([]:List Ctr),Good Tryz.prog c:=fun c h=>by cases h
theorem consG {c:Ctr} {G:List Ctr} (h:Good Tryz.prog c) (r:∀c∈G,Good Tryz.prog c):∀d∈c :: G,Good Tryz.prog d:=fun d hd=>by
 rcases List.mem_cons.1 hd with rfl | hd
 ·exact h
 ·exact r d hd
theorem noL {LL:List LCtr} {sz:Nat} {bs:List Code} (h:bs = []):∀b∈bs,∀l,lcOf LL (firstR b) = some l→LGood Tryz.prog sz l b:=fun b hb=>by rw [h] at hb; cases hb
theorem consL {LL:List LCtr} {sz:Nat} {b:Code} {bs:List Code} {l:LCtr} (hl:lcOf LL (firstR b) = some l) (h:LGood Tryz.prog sz l b) (r:∀b∈bs,∀l,lcOf LL (firstR b) = some l→LGood Tryz.prog sz l b):∀b'∈b :: bs,∀l,lcOf LL (firstR b') = some l→LGood Tryz.prog sz l b':=fun b' hb l' hl'=>by
 rcases List.mem_cons.1 hb with rfl | hb
 ·rw [hl] at hl'
  simp only [Option.some.injEq] at hl'
  subst hl'
  exact h
 ·exact r b' hb l' hl'
end Hw
end Go.Proofs.YtklmllaggigkfaaGreat
