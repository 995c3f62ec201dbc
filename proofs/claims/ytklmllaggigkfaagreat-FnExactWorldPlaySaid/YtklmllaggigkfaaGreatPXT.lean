/- Chains and worlds: what a law writes over them, cell by cell, and finds there again. -/
import Derived.Shelf.Abstract
import Derived.RangeFuncBox
import Derived.WalkKit
import Derived.OwnWalkIn
import Derived.TacticsInMore
import Derived.LoopNIn
import Derived.LoopIn
import Derived.Test.YtklmllaggigkfaaGreatProg
import Derived.Test.YtklmllaggigkfaaGreatPXR
namespace Go.Proofs.YtklmllaggigkfaaGreat
namespace Hw
open Go Go.RowKit
attribute [local go_sem] Oper.semAt_some
set_option maxRecDepth 100000
set_option linter.unusedVariables false
set_option linter.unusedSimpArgs false
set_option maxHeartbeats 10000000
def chN (c:Ch):Nat:=5 + c.bank.own.length + c.bank.notes.length + 7 * c.st.sent.length + c.st.live.length + c.st.back.length + c.st.got.length + stsN c.past c.past.length + c.knows.length
def chsN (l:List Ch):Nat→Nat
 | 0=>0
 | k + 1=>chsN l k + chN (l.getD k zCh)
def ChW (W:World) (R:Nat→Prop) (c:Ch) (j:Nat) (u:Value):Prop:=match j with
 | 1=>IntsW W R c.bank.own.length u
 | 2=>IntsW W R c.bank.notes.length u
 | 7=>PktsW W R c.st.sent.length u
 | 8=>BoolsW W R c.st.live.length u
 | 9=>BoolsW W R c.st.back.length u
 | 10=>IntsW W R c.st.got.length u
 | 11=>StsW W R c.past u
 | 12=>IntsW W R c.knows.length u
 | _=>isI u
theorem ChW.mk {W W':World} {R R':Nat→Prop} (k:Mk R' W W') {s:Ch} {j:Nat} {u v:Value} (hl:like u v) (h:ChW W R s j u):ChW W' R s j v:=by
 unfold ChW at h ⊢
 split at h
 ·exact row_like k (fun _ _ _ _ a b=>b.like a) h hl
 ·exact row_like k (fun _ _ _ _ a b=>b.like a) h hl
 ·exact row_like k (fun _ _ _ _ a b=>b.like a) h hl
 ·exact row_like k (fun _ _ _ _ a b=>b.like a) h hl
 ·exact row_like k (fun _ _ _ _ a b=>b.like a) h hl
 ·exact row_like k (fun _ _ _ _ a b=>b.like a) h hl
 ·exact row_like k (fun _ _ _ _ a b=>b.mk k a) h hl
 ·exact row_like k (fun _ _ _ _ a b=>b.like a) h hl
 ·exact h.like hl
def ChsW (W:World) (R:Nat→Prop) (l:List Ch) (v:Value):Prop:=RowW W R v l.length 13 fun k j u=>ChW W R (l.getD k zCh) j u
theorem ChsW.mk {W W':World} {R R':Nat→Prop} (k:Mk R' W W') {l:List Ch} {v:Value} (h:ChsW W R l v):ChsW W' R l v:=RowW.mk k (fun _ _ _ _ a b=>b.mk k a) h
theorem chsN_le {l:List Ch} {a b:Nat} (h:a≤b):chsN l a≤chsN l b:=by
 induction b with
 | zero=>rw [show a = 0 by omega]; exact Nat.le_refl _
 | succ b ih =>
  rcases Nat.lt_or_ge a (b + 1) with g | g
  ·exact Nat.le_trans (ih (by omega)) (Nat.le_add_right _ _)
  ·rw [show a = b + 1 by omega]; exact Nat.le_refl _
def chA (W:World) (b o:Nat) (c:Ch):List (Addr×Bool):=(⟨b,o,none⟩,false) :: (rowA (cv W b (o + 1)) c.bank.own.length false ++ (rowA (cv W b (o + 2)) c.bank.notes.length false ++ ((⟨b,o + 3,none⟩,false) :: (⟨b,o + 4,none⟩,false) :: (⟨b,o + 5,none⟩,false) :: (⟨b,o + 6,none⟩,false) :: (rowA (cv W b (o + 7)) (7 * c.st.sent.length) false ++ (rowA (cv W b (o + 8)) c.st.live.length true ++ (rowA (cv W b (o + 9)) c.st.back.length true ++ (rowA (cv W b (o + 10)) c.st.got.length false ++ (pastA W (cv W b (o + 11)) c.past c.past.length ++ rowA (cv W b (o + 12)) c.knows.length false))))))))
def chsA (W:World) (b o:Nat) (l:List Ch):Nat→List (Addr×Bool)
 | 0=>[]
 | j + 1=>chsA W b o l j ++ chA W b (o + j * 13) (l.getD j zCh)
def wldA (W:World) (v:Value) (l:List Ch) (j:Nat):List (Addr×Bool):=match v with
 | .slice (some a) _ _=>chsA W a.block a.off l j
 | _=>[]
theorem cv_same {R R':Nat→Prop} {W x:World} {b o n z:Nat} {P:Nat→Nat→Value→Prop} {u0:Value} (h:Mk R W x) (h0:W.cell? ⟨b,o,none⟩ = some u0) (hr:RowW W R' u0 n z P):cv x b o = cv W b o:=by
 obtain ⟨v,h2,h3⟩:=h.cell _ _ h0
 rw [cv_at h2]
 exact cv_keep h h0 hr h2
theorem st_keep {R R':Nat→Prop} {W x:World} {b o:Nat} {s:St} (h:∀i,i < 7→∃u,W.cell? ⟨b,o + i,none⟩ = some u∧StW W R s i u) (k:Mk R' W x):stA x b o s = stA W b o s:=by
 obtain ⟨u3,c3,s3⟩:=h 3 (by decide)
 obtain ⟨u4,c4,s4⟩:=h 4 (by decide)
 obtain ⟨u5,c5,s5⟩:=h 5 (by decide)
 obtain ⟨u6,c6,s6⟩:=h 6 (by decide)
 have s3:PktsW W R s.sent.length u3:=s3
 have s4:BoolsW W R s.live.length u4:=s4
 have s5:BoolsW W R s.back.length u5:=s5
 have s6:IntsW W R s.got.length u6:=s6
 unfold stA
 rw [cv_same k c3 s3,cv_same k c4 s4,cv_same k c5 s5,cv_same k c6 s6]
theorem sts_keep {R R':Nat→Prop} {W x:World} {l:List St} {b off c:Nat} (hv:StsW W R l (.slice (some ⟨b,off,none⟩) l.length c)) (k:Mk R' W x):∀j,j≤l.length→stsA x b off l j = stsA W b off l j
 | 0,_=>rfl
 | j + 1,h=>by rw [stsA,stsA,sts_keep hv k j (by omega),st_keep (sts_at hv (Mk.refl R W) (by omega)) k]
theorem past_keep {R R':Nat→Prop} {W x:World} {l:List St} {v:Value} (hv:StsW W R l v) (k:Mk R' W x):pastA x v l l.length = pastA W v l l.length:=by
 obtain ⟨A,c,rfl,-,h2⟩:=id hv
 rcases Nat.eq_zero_or_pos l.length with h | h
 ·rw [h]
  cases A <;> rfl
 ·obtain ⟨b,off,rfl,-⟩:=h2 h
  exact sts_keep hv k _ (Nat.le_refl _)
theorem past_len {R:Nat→Prop} {W:World} {l:List St} {v:Value} (hv:StsW W R l v):(pastA W v l l.length).length = stsN l l.length:=by
 obtain ⟨A,c,rfl,-,h2⟩:=id hv
 rcases Nat.eq_zero_or_pos l.length with h | h
 ·rw [h]
  cases A <;> rfl
 ·obtain ⟨b,off,rfl,-⟩:=h2 h
  exact sts_len hv _ (Nat.le_refl _)
theorem ch_len {W:World} {R:Nat→Prop} {b o:Nat} {s:Ch} (h:∀i,i < 13→∃u,W.cell? ⟨b,o + i,none⟩ = some u∧ChW W R s i u):(chA W b o s).length = chN s:=by
 obtain ⟨u1,c1,s1⟩:=h 1 (by decide)
 obtain ⟨u2,c2,s2⟩:=h 2 (by decide)
 obtain ⟨u7,c7,s7⟩:=h 7 (by decide)
 obtain ⟨u8,c8,s8⟩:=h 8 (by decide)
 obtain ⟨u9,c9,s9⟩:=h 9 (by decide)
 obtain ⟨u10,c10,s10⟩:=h 10 (by decide)
 obtain ⟨u11,c11,s11⟩:=h 11 (by decide)
 obtain ⟨u12,c12,s12⟩:=h 12 (by decide)
 have s1:IntsW W R s.bank.own.length u1:=s1
 have s2:IntsW W R s.bank.notes.length u2:=s2
 have s7:PktsW W R s.st.sent.length u7:=s7
 have s8:BoolsW W R s.st.live.length u8:=s8
 have s9:BoolsW W R s.st.back.length u9:=s9
 have s10:IntsW W R s.st.got.length u10:=s10
 have s11:StsW W R s.past u11:=s11
 have s12:IntsW W R s.knows.length u12:=s12
 unfold chA chN
 simp only [List.length_cons,List.length_append]
 rw [cv_at c1,cv_at c2,cv_at c7,cv_at c8,cv_at c9,cv_at c10,cv_at c11,cv_at c12,row_len s1 (m:=s.bank.own.length) (by omega),row_len s2 (m:=s.bank.notes.length) (by omega),row_len s7 (m:=7 * s.st.sent.length) (by omega),row_len s8 (m:=s.st.live.length) (by omega),row_len s9 (m:=s.st.back.length) (by omega),row_len s10 (m:=s.st.got.length) (by omega),past_len s11,row_len s12 (m:=s.knows.length) (by omega)]
 omega
theorem chs_at {W x:World} {R R':Nat→Prop} {l:List Ch} {b off c:Nat} (hv:ChsW W R l (.slice (some ⟨b,off,none⟩) l.length c)) (hx:Mk R' W x) {j:Nat} (hj:j < l.length):∀i,i < 13→∃u,x.cell? ⟨b,off + j * 13 + i,none⟩ = some u∧ChW x R (l.getD j zCh) i u:=fun i hi=>by
 obtain ⟨A',c',e,-,h2⟩:=hv.mk hx
 cases e
 obtain ⟨b',off',e,-,h3⟩:=h2 (by omega)
 cases e
 have h4:=h3 j hj i hi
 rw [← Nat.add_assoc] at h4
 exact h4
theorem chs_len {W:World} {R:Nat→Prop} {l:List Ch} {b off c:Nat} (hv:ChsW W R l (.slice (some ⟨b,off,none⟩) l.length c)):∀j,j≤l.length→(chsA W b off l j).length = chsN l j
 | 0,_=>rfl
 | j + 1,h=>by
  rw [chsA,List.length_append,chs_len hv j (by omega),ch_len (chs_at hv (Mk.refl R W) (by omega))]
  rfl
theorem markChs_ex (F:Fence) (n:Nat) (hf:F.fn 29) (ht:F.fn 59) (hp:F.fn 57) (hb:F.fn 58) (hi:F.fn 56) (hro:F.round = none) (hn:2≤n) (R:Nat→Prop) (l:List Ch) (v:Value) (k:Int) (W:World) (hu:UnfR R W) (hv:ChsW W R l v) (h0:0≤k) (hk:k + (chsN l l.length:Int)≤1000000000000) (hs:∀j,j < l.length→(l.getD j zCh).st.sent.length≤4294967296∧∀i,i < (l.getD j zCh).past.length→((l.getD j zCh).past.getD i zSt).sent.length≤4294967296) :
  CallsIn F n Tryz.prog 29 #[v,.int .i64 k] W fun e W'=>e = .returned (.int .i64 (k + chsN l l.length))∧Mk R W W'∧W' = putL W (wldA W v l l.length) k:=by
 have h1n:1≤n:=by omega
 obtain ⟨A,c,rfl,hl,hrow⟩:=id hv
 refine callsIn_of_wp Tryz.func29 rfl hf ?_ hro
 simp only [Tryz.ntmps29,List.size_toArray,List.length_cons,List.length_nil,Nat.reduceAdd,Nat.reduceSub,Array.replicate_succ,Array.replicate_zero,List.push_toArray,List.append_toArray,List.nil_append,List.cons_append]
 gi_wp2
 gi_loopw [1,5] (fun kk i wr=>∃j:Nat,j≤l.length∧kk = .int .i64 (k + chsN l j)∧i = .int .i64 j∧Mk R W wr∧Is wr (putL W (wldA W (.slice A l.length c) l j) k))
  (fun _ i _=>l.length - (intOf i).toNat)
 case atStart=>exact ⟨0,Nat.zero_le _,by simp [chsN],rfl,Mk.refl _ _,⟨by cases A <;> rfl⟩⟩
 case round =>
  obtain ⟨j,hj,rfl,rfl,hm,he⟩:=hrel
  by_cases hlt:j < l.length
  ·obtain ⟨b,off,rfl,hR,-⟩:=hrow (by omega)
   have hle:chsN l j + chN (l.getD j zCh)≤chsN l l.length:=chsN_le (l:=l) (a:=j + 1) (by omega)
   have hsj:=hs j hlt
   obtain ⟨s,es⟩:∃s,l.getD j zCh = s:=⟨_,rfl⟩
   have e1:chsN l (j + 1) = chsN l j + chN s:=by rw [← es]; rfl
   rw [es] at hle hsj
   have hst:chN s = 5 + s.bank.own.length + s.bank.notes.length + 7 * s.st.sent.length + s.st.live.length + s.st.back.length + s.st.got.length + stsN s.past s.past.length + s.knows.length:=rfl
   obtain ⟨hs1,hs2⟩:=hsj
   have at_:∀{x:World},Mk R W x→∀i,i < 13→∃u,x.cell? ⟨b,off + j * 13 + i,none⟩ = some u∧ChW x R s i u:=fun hx i hi=>by
    rw [← es]; exact chs_at hv hx hlt i hi
   have z_:∀i (n z:Nat) (P:Nat→Nat→Value→Prop),i < 13→(∀u,ChW W R s i u→RowW W R u n z P)→∀{x:World} {u:Value},Mk R W x→x.cell? ⟨b,off + j * 13 + i,none⟩ = some u→IsV u (cv W b (off + j * 13 + i)):=fun i n z P hi hP x u hx hu=>⟨by
    obtain ⟨u0,h0,h1⟩:=at_ (Mk.refl R W) i hi
    exact cv_keep hx h0 (hP u0 h1) hu⟩
   have hz:∀{x:World},Mk R W x→∀o,x.frozen? ⟨b,o,none⟩ = false:=fun hx o=>(hu.mk hx).at hR
   clear hrow
   obtain ⟨_,c0,y0,rfl⟩:=at_ hm 0 (by decide)
   obtain ⟨u1,c1,s1⟩:=at_ hm 1 (by decide)
   have z0:=hz hm (off + j * 13)
   have c0:wr.cell? ⟨b,off + j * 13,none⟩ = some (.int .i64 y0):=c0
   have q0:Mk R wr _:=(Mk.refl R wr).put (m:=k + chsN l j) hR c0
   have m0:=hm.trans q0
   have s1:IntsW _ R s.bank.own.length u1:=ChW.mk q0 (.inl rfl) s1
   gi_wp2
   refine (markInts_ex F (n - 1) hi hro R (s.bank.own.length) u1 _ _ (hu.mk m0) s1 (by omega) (by omega)).mono ?_
   rintro e w1 ⟨rfl,q1,p1⟩
   have k1:=row_len (m:=s.bank.own.length) (f:=false) s1 (by omega)
   have x1:=z_ 1 _ _ _ (by decide) (fun _ h=>h) hm c1
   replace p1:Is w1 _:=⟨p1⟩
   have m1:=m0.trans q1
   clear c0 c1 s1 z0 q0 q1 m0
   obtain ⟨u2,c2,s2⟩:=at_ m1 2 (by decide)
   have s2:IntsW _ R s.bank.notes.length u2:=s2
   gi_wp2
   refine (markInts_ex F (n - 1) hi hro R (s.bank.notes.length) u2 _ _ (hu.mk m1) s2 (by omega) (by omega)).mono ?_
   rintro e w2 ⟨rfl,q2,p2⟩
   have k2:=row_len (m:=s.bank.notes.length) (f:=false) s2 (by omega)
   have x2:=z_ 2 _ _ _ (by decide) (fun _ h=>h) m1 c2
   replace p2:Is w2 _:=⟨p2⟩
   have m2:=m1.trans q2
   clear c2 s2 q2 m1
   obtain ⟨_,c3,y3,rfl⟩:=at_ m2 3 (by decide)
   obtain ⟨_,c4,y4,rfl⟩:=at_ m2 4 (by decide)
   obtain ⟨_,c5,y5,rfl⟩:=at_ m2 5 (by decide)
   obtain ⟨_,c6,y6,rfl⟩:=at_ m2 6 (by decide)
   obtain ⟨u7,c7,s7⟩:=at_ m2 7 (by decide)
   have z3:=hz m2 (off + j * 13 + 3)
   have z4:=hz m2 (off + j * 13 + 4)
   have z5:=hz m2 (off + j * 13 + 5)
   have z6:=hz m2 (off + j * 13 + 6)
   have d3:w2.cell? ⟨b,off + j * 13 + 1 + 2,none⟩ = some (.int .i64 y3):=c3
   have d5:w2.cell? ⟨b,off + j * 13 + 4 + 1,none⟩ = some (.int .i64 y5):=c5
   have d6:w2.cell? ⟨b,off + j * 13 + 4 + 2,none⟩ = some (.int .i64 y6):=c6
   have q3:Mk R w2 _:=((((Mk.refl R w2).put (m:=k + (chsN l j:Int) + 1 + (s.bank.own.length:Int) + (s.bank.notes.length:Int)) hR d3).put (m:=k + (chsN l j:Int) + 1 + (s.bank.own.length:Int) + (s.bank.notes.length:Int) + 1) hR c4).put (m:=k + (chsN l j:Int) + 1 + (s.bank.own.length:Int) + (s.bank.notes.length:Int) + 1 + 1) hR d5).put (m:=k + (chsN l j:Int) + 1 + (s.bank.own.length:Int) + (s.bank.notes.length:Int) + 1 + 1 + 1) hR d6
   clear d3 d5 d6
   have m3:=m2.trans q3
   have s7:PktsW _ R s.st.sent.length u7:=ChW.mk q3 (.inl rfl) s7
   gi_wp2
   refine (markPkts_ex F (n - 1) hp hro R (s.st.sent.length) u7 _ _ (hu.mk m3) s7 (by omega) (by omega) (by omega)).mono ?_
   rintro e w3 ⟨rfl,q4,p3⟩
   have k7:=row_len (m:=7 * s.st.sent.length) (f:=false) s7 (by omega)
   have x7:=z_ 7 _ _ _ (by decide) (fun _ h=>h) m2 c7
   replace p3:Is w3 _:=⟨p3⟩
   have m4:=m3.trans q4
   clear c3 c4 c5 c6 c7 s7 z3 z4 z5 z6 q3 q4 m3 m2
   obtain ⟨u8,c8,s8⟩:=at_ m4 8 (by decide)
   have s8:BoolsW _ R s.st.live.length u8:=s8
   gi_wp2
   refine (markBools_ex F (n - 1) hb hro R (s.st.live.length) u8 _ _ (hu.mk m4) s8 (by omega) (by omega)).mono ?_
   rintro e w4 ⟨rfl,q5,p4⟩
   have k8:=row_len (m:=s.st.live.length) (f:=true) s8 (by omega)
   have x8:=z_ 8 _ _ _ (by decide) (fun _ h=>h) m4 c8
   replace p4:Is w4 _:=⟨p4⟩
   have m5:=m4.trans q5
   clear c8 s8 q5 m4
   obtain ⟨u9,c9,s9⟩:=at_ m5 9 (by decide)
   have s9:BoolsW _ R s.st.back.length u9:=s9
   gi_wp2
   refine (markBools_ex F (n - 1) hb hro R (s.st.back.length) u9 _ _ (hu.mk m5) s9 (by omega) (by omega)).mono ?_
   rintro e w5 ⟨rfl,q6,p5⟩
   have k9:=row_len (m:=s.st.back.length) (f:=true) s9 (by omega)
   have x9:=z_ 9 _ _ _ (by decide) (fun _ h=>h) m5 c9
   replace p5:Is w5 _:=⟨p5⟩
   have m6:=m5.trans q6
   clear c9 s9 q6 m5
   obtain ⟨u10,c10,s10⟩:=at_ m6 10 (by decide)
   have s10:IntsW _ R s.st.got.length u10:=s10
   gi_wp2
   refine (markInts_ex F (n - 1) hi hro R (s.st.got.length) u10 _ _ (hu.mk m6) s10 (by omega) (by omega)).mono ?_
   rintro e w6 ⟨rfl,q7,p6⟩
   have k10:=row_len (m:=s.st.got.length) (f:=false) s10 (by omega)
   have x10:=z_ 10 _ _ _ (by decide) (fun _ h=>h) m6 c10
   replace p6:Is w6 _:=⟨p6⟩
   have m7:=m6.trans q7
   clear c10 s10 q7 m6
   obtain ⟨u11,c11,s11⟩:=at_ m7 11 (by decide)
   have s11:StsW _ R s.past u11:=s11
   gi_wp2
   refine (markSts_ex F (n - 1) ht hp hb hi hro (by omega) R s.past u11 _ _ (hu.mk m7) s11 (by omega) (by omega) hs2).mono ?_
   rintro e w7 ⟨rfl,q8,p7⟩
   obtain ⟨y11,d11,t11⟩:=at_ (Mk.refl R W) 11 (by decide)
   have x11:=z_ 11 _ _ _ (by decide) (fun _ h=>h) m7 c11
   have t11:StsW W R s.past u11:=by rw [x11.e,cv_at d11]; exact t11
   have k11:=past_len t11
   rw [past_keep t11 m7] at p7
   replace p7:Is w7 _:=⟨p7⟩
   clear d11 t11
   have m8:=m7.trans q8
   clear c11 s11 q8 m7
   obtain ⟨u12,c12,s12⟩:=at_ m8 12 (by decide)
   have s12:IntsW _ R s.knows.length u12:=s12
   gi_wp2
   refine (markInts_ex F (n - 1) hi hro R (s.knows.length) u12 _ _ (hu.mk m8) s12 (by omega) (by omega)).mono ?_
   rintro e w8 ⟨rfl,q9,p8⟩
   have k12:=row_len (m:=s.knows.length) (f:=false) s12 (by omega)
   have x12:=z_ 12 _ _ _ (by decide) (fun _ h=>h) m8 c12
   replace p8:Is w8 _:=⟨p8⟩
   have m9:=m8.trans q9
   clear c12 s12 q9 m8
   gi_wp2
   go_roundw
   case rel =>
    refine ⟨j + 1,by omega,?_,?_,m9,⟨?_⟩⟩
    ·rw [e1]
     congr 1
     omega
    ·rw [show (j:Int) + 1 = ((j + 1:Nat):Int) by omega]
    ·show w8 = putL W (chsA W b off l j ++ chA W b (off + j * 13) (l.getD j zCh)) k
     rw [putL_app,chs_len hv j (by omega),es,← (show wr = putL W (chsA W b off l j) k from he.e)]
     unfold chA
     rw [← (show u1 = cv W b (off + j * 13 + 1) from x1.e),← (show u2 = cv W b (off + j * 13 + 2) from x2.e),← (show u7 = cv W b (off + j * 13 + 7) from x7.e),← (show u8 = cv W b (off + j * 13 + 8) from x8.e),← (show u9 = cv W b (off + j * 13 + 9) from x9.e),← (show u10 = cv W b (off + j * 13 + 10) from x10.e),← (show u11 = cv W b (off + j * 13 + 11) from x11.e),← (show u12 = cv W b (off + j * 13 + 12) from x12.e)]
     simp only [putL,putL_app,k1,k2,k7,k8,k9,k10,k11,k12,mv,show ((7 * s.st.sent.length:Nat):Int) = 7 * (s.st.sent.length:Int) by omega]
     rw [p8.e,p7.e,p6.e,p5.e,p4.e,p3.e,p2.e,p1.e]
   case measure=>simp [intOf]; omega
  ·obtain rfl:j = l.length:=by omega
   gi_wp2
   go_ret
   exact ⟨rfl,hm,he.e⟩
theorem ch_keep {R R':Nat→Prop} {W x:World} {b o:Nat} {s:Ch} (h:∀i,i < 13→∃u,W.cell? ⟨b,o + i,none⟩ = some u∧ChW W R s i u) (k:Mk R' W x):chA x b o s = chA W b o s:=by
 obtain ⟨u1,c1,s1⟩:=h 1 (by decide)
 obtain ⟨u2,c2,s2⟩:=h 2 (by decide)
 obtain ⟨u7,c7,s7⟩:=h 7 (by decide)
 obtain ⟨u8,c8,s8⟩:=h 8 (by decide)
 obtain ⟨u9,c9,s9⟩:=h 9 (by decide)
 obtain ⟨u10,c10,s10⟩:=h 10 (by decide)
 obtain ⟨u11,c11,s11⟩:=h 11 (by decide)
 obtain ⟨u12,c12,s12⟩:=h 12 (by decide)
 have s1:IntsW W R s.bank.own.length u1:=s1
 have s2:IntsW W R s.bank.notes.length u2:=s2
 have s7:PktsW W R s.st.sent.length u7:=s7
 have s8:BoolsW W R s.st.live.length u8:=s8
 have s9:BoolsW W R s.st.back.length u9:=s9
 have s10:IntsW W R s.st.got.length u10:=s10
 have s11:StsW W R s.past u11:=s11
 have s12:IntsW W R s.knows.length u12:=s12
 unfold chA
 rw [cv_same k c1 s1,cv_same k c2 s2,cv_same k c7 s7,cv_same k c8 s8,cv_same k c9 s9,cv_same k c10 s10,cv_same k c11 s11,cv_same k c12 s12,cv_at c11,past_keep s11 k]
theorem chs_keep {R R':Nat→Prop} {W x:World} {l:List Ch} {b off c:Nat} (hv:ChsW W R l (.slice (some ⟨b,off,none⟩) l.length c)) (k:Mk R' W x):∀j,j≤l.length→chsA x b off l j = chsA W b off l j
 | 0,_=>rfl
 | j + 1,h=>by rw [chsA,chsA,chs_keep hv k j (by omega),ch_keep (chs_at hv (Mk.refl R W) (by omega)) k]
theorem wld_keep {R R':Nat→Prop} {W x:World} {l:List Ch} {v:Value} (hv:ChsW W R l v) (k:Mk R' W x):wldA x v l l.length = wldA W v l l.length:=by
 obtain ⟨A,c,rfl,-,h2⟩:=id hv
 rcases Nat.eq_zero_or_pos l.length with h | h
 ·rw [h]
  cases A <;> rfl
 ·obtain ⟨b,off,rfl,-⟩:=h2 h
  exact chs_keep hv k _ (Nat.le_refl _)
theorem markWorld_ex (F:Fence) (n:Nat) (hw:F.fn 13) (hf:F.fn 29) (ht:F.fn 59) (hp:F.fn 57) (hb:F.fn 58) (hi:F.fn 56) (hro:F.round = none) (hn:3≤n) (R:Nat→Prop) (l:List Ch) (v:Value) (k:Int) (W:World) (hu:UnfR R W) (hv:ChsW W R l v) (h0:0≤k) (hk:k + (chsN l l.length:Int)≤1000000000000) (hs:∀j,j < l.length→(l.getD j zCh).st.sent.length≤4294967296∧∀i,i < (l.getD j zCh).past.length→((l.getD j zCh).past.getD i zSt).sent.length≤4294967296) :
  CallsIn F n Tryz.prog 13 #[.agg #[v],.int .i64 k] W fun e W'=>e = .returned (.int .i64 (k + chsN l l.length))∧Mk R W W'∧W' = putL (W.alloc (.cells #[v] 26)) (wldA W v l l.length) k:=by
 have h1n:1≤n:=by omega
 refine callsIn_of_wp Tryz.func13 rfl hw ?_ hro
 simp only [Tryz.ntmps13,List.size_toArray,List.length_cons,List.length_nil,Nat.reduceAdd,Nat.reduceSub,Array.replicate_succ,Array.replicate_zero,List.push_toArray,List.append_toArray,List.nil_append,List.cons_append]
 gi_wp2
 have q0:Mk R W (W.alloc (.cells #[v] 26)):=Mk.alloc W rfl
 refine (markChs_ex F (n - 1) hf ht hp hb hi hro (by omega) R l v k _ (hu.mk q0) (hv.mk q0) h0 hk hs).mono ?_
 rintro e w1 ⟨rfl,q1,p1⟩
 rw [wld_keep hv q0] at p1
 replace p1:Is w1 _:=⟨p1⟩
 have m1:=q0.trans q1
 gi_wp2
 go_ret
 exact ⟨rfl,m1,p1.e⟩
theorem Held.chs {W:World} {b off:Nat} {l:List Ch} {k:Int} {R:Nat→Prop} {c:Nat} (hv:ChsW W R l (.slice (some ⟨b,off,none⟩) l.length c)):∀n,n≤l.length→Held W (chsA W b off l n) k→∀j,j < n→Held W (chA W b (off + j * 13) (l.getD j zCh)) (k + chsN l j)
 | 0,_,_,j,hj=>absurd hj (Nat.not_lt_zero j)
 | n + 1,hn,h,j,hj=>by
  rcases Nat.lt_or_ge j n with g | g
  ·exact Held.chs hv n (by omega) h.left j g
  ·obtain rfl:j = n:=by omega
   exact h.right (chs_len hv j (by omega))
theorem Held.to {W:World} {xs:List (Addr×Bool)} {k k':Int} (h:Held W xs k) (e:k' = k):Held W xs k':=e ▸ h
theorem held_to {W:World} {A:Option Addr} {l m:Nat} {f:Bool} {k k':Int} (h:0 < l→∃b off,A = some ⟨b,off,none⟩∧∀t,t < m→W.cell? ⟨b,off + t,none⟩ = some (mv f (k + t))) (e:k' = k):0 < l→∃b off,A = some ⟨b,off,none⟩∧∀t,t < m→W.cell? ⟨b,off + t,none⟩ = some (mv f (k' + t)):=by
 rw [e]
 exact h
theorem heldChs_ex (F:Fence) (n:Nat) (hf:F.fn 30) (ht:F.fn 63) (hp:F.fn 61) (hb:F.fn 62) (hi:F.fn 60) (hro:F.round = none) (hn:2≤n) (R:Nat→Prop) (l:List Ch) (v:Value) (k:Int) (W:World) (hv:ChsW W R l v) (hh:Held W (wldA W v l l.length) k) (h0:0≤k) (hk:k + (chsN l l.length:Int)≤1000000000000) (hs:∀j,j < l.length→(l.getD j zCh).st.sent.length≤4294967296∧∀i,i < (l.getD j zCh).past.length→((l.getD j zCh).past.getD i zSt).sent.length≤4294967296) :
  CallsIn F n Tryz.prog 30 #[v,.int .i64 k] W fun e W'=>e = .returned (.int .i64 (k + chsN l l.length))∧W' = W:=by
 have h1n:1≤n:=by omega
 obtain ⟨A,c,rfl,hl,hrow⟩:=id hv
 refine callsIn_of_wp Tryz.func30 rfl hf ?_ hro
 simp only [Tryz.ntmps30,List.size_toArray,List.length_cons,List.length_nil,Nat.reduceAdd,Nat.reduceSub,Array.replicate_succ,Array.replicate_zero,List.push_toArray,List.append_toArray,List.nil_append,List.cons_append]
 gi_wp2
 gi_loopw [1,5] (fun kk i wr=>∃j:Nat,j≤l.length∧kk = .int .i64 (k + chsN l j)∧i = .int .i64 j∧wr = W)
  (fun _ i _=>l.length - (intOf i).toNat)
 case atStart=>exact ⟨0,Nat.zero_le _,by simp [chsN],rfl,rfl⟩
 case round =>
  obtain ⟨j,hj,rfl,rfl,rfl⟩:=hrel
  by_cases hlt:j < l.length
  ·obtain ⟨b,off,rfl,hR,-⟩:=hrow (by omega)
   have hle:chsN l j + chN (l.getD j zCh)≤chsN l l.length:=chsN_le (l:=l) (a:=j + 1) (by omega)
   have hsj:=hs j hlt
   have hd:=Held.chs hv l.length (Nat.le_refl _) (show Held wr (chsA wr b off l l.length) k from hh) j hlt
   have ha:=chs_at hv (Mk.refl R wr) hlt
   obtain ⟨s,es⟩:∃s,l.getD j zCh = s:=⟨_,rfl⟩
   have e1:chsN l (j + 1) = chsN l j + chN s:=by rw [← es]; rfl
   rw [es] at hle hsj hd ha
   have hst:chN s = 5 + s.bank.own.length + s.bank.notes.length + 7 * s.st.sent.length + s.st.live.length + s.st.back.length + s.st.got.length + stsN s.past s.past.length + s.knows.length:=rfl
   obtain ⟨hs1,hs2⟩:=hsj
   obtain ⟨u1,c1,s1⟩:=ha 1 (by decide)
   obtain ⟨u2,c2,s2⟩:=ha 2 (by decide)
   obtain ⟨u7,c7,s7⟩:=ha 7 (by decide)
   obtain ⟨u8,c8,s8⟩:=ha 8 (by decide)
   obtain ⟨u9,c9,s9⟩:=ha 9 (by decide)
   obtain ⟨u10,c10,s10⟩:=ha 10 (by decide)
   obtain ⟨u11,c11,s11⟩:=ha 11 (by decide)
   obtain ⟨u12,c12,s12⟩:=ha 12 (by decide)
   have s1:IntsW wr R s.bank.own.length u1:=s1
   have s2:IntsW wr R s.bank.notes.length u2:=s2
   have s7:PktsW wr R s.st.sent.length u7:=s7
   have s8:BoolsW wr R s.st.live.length u8:=s8
   have s9:BoolsW wr R s.st.back.length u9:=s9
   have s10:IntsW wr R s.st.got.length u10:=s10
   have s11:StsW wr R s.past u11:=s11
   have s12:IntsW wr R s.knows.length u12:=s12
   unfold chA at hd
   rw [cv_at c1,cv_at c2,cv_at c7,cv_at c8,cv_at c9,cv_at c10,cv_at c11,cv_at c12] at hd
   obtain ⟨c0,hd⟩:=hd.tail
   have d1:=hd.left
   have hd:=hd.right (row_len s1 (by omega))
   have d2:=hd.left
   have hd:=hd.right (row_len s2 (by omega))
   obtain ⟨c3,hd⟩:=hd.tail
   obtain ⟨c4,hd⟩:=hd.tail
   obtain ⟨c5,hd⟩:=hd.tail
   obtain ⟨c6,hd⟩:=hd.tail
   have d7:=hd.left
   have hd:=hd.right (row_len s7 (by omega))
   have d8:=hd.left
   have hd:=hd.right (row_len s8 (by omega))
   have d9:=hd.left
   have hd:=hd.right (row_len s9 (by omega))
   have d10:=hd.left
   have hd:=hd.right (row_len s10 (by omega))
   have d11:=hd.left
   have d12:=hd.right (past_len s11)
   obtain ⟨A1,k1,rfl,h1⟩:=held_row s1 d1
   obtain ⟨A2,k2,rfl,h2⟩:=held_row s2 d2
   obtain ⟨A7,k7,rfl,h7⟩:=held_row s7 d7
   obtain ⟨A8,k8,rfl,h8⟩:=held_row s8 d8
   obtain ⟨A9,k9,rfl,h9⟩:=held_row s9 d9
   obtain ⟨A10,k10,rfl,h10⟩:=held_row s10 d10
   obtain ⟨A12,k12,rfl,h12⟩:=held_row s12 d12
   generalize hK:k + (chsN l j:Int) = K at *
   replace c0:wr.cell? ⟨b,off + j * 13,none⟩ = some (.int .i64 K):=c0
   replace c3:wr.cell? ⟨b,off + j * 13 + 1 + 2,none⟩ = some (.int .i64 (K + 1 + s.bank.own.length + s.bank.notes.length)):=c3
   replace c4:wr.cell? ⟨b,off + j * 13 + 4,none⟩ = some (.int .i64 (K + 1 + s.bank.own.length + s.bank.notes.length + 1)):=c4
   replace c5:wr.cell? ⟨b,off + j * 13 + 4 + 1,none⟩ = some (.int .i64 (K + 1 + s.bank.own.length + s.bank.notes.length + 1 + 1)):=c5
   replace c6:wr.cell? ⟨b,off + j * 13 + 4 + 2,none⟩ = some (.int .i64 (K + 1 + s.bank.own.length + s.bank.notes.length + 1 + 1 + 1)):=c6
   clear hd hrow hh hv ha s1 s2 s7 s8 s9 s10 s12 d1 d2 d7 d8 d9 d10 d12
   gi_wp2
   refine (heldInts_ex F (n - 1) hi hro _ A1 k1 (K + 1) _ (held_to h1 (by omega)) (by omega) (by omega)).mono ?_
   rintro e w1 ⟨rfl,rfl⟩
   clear c0 c1 h1
   have g1:¬ (K + 1 + (s.bank.own.length:Int) < 0):=by omega
   gi_wp2
   refine (heldInts_ex F (n - 1) hi hro _ A2 k2 (K + 1 + (s.bank.own.length:Int)) _ (held_to h2 (by omega)) (by omega) (by omega)).mono ?_
   rintro e w2 ⟨rfl,rfl⟩
   clear g1 c2 h2
   have g2:¬ (K + 1 + (s.bank.own.length:Int) + (s.bank.notes.length:Int) < 0):=by omega
   gi_wp2
   refine (heldPkts_ex F (n - 1) hp hro _ A7 k7 (K + 1 + (s.bank.own.length:Int) + (s.bank.notes.length:Int) + 1 + 1 + 1 + 1) _ (held_to h7 (by omega)) (by omega) (by omega) (by omega)).mono ?_
   rintro e w3 ⟨rfl,rfl⟩
   clear g2 c3 c4 c5 c6 c7 h7
   have g3:¬ (K + 1 + (s.bank.own.length:Int) + (s.bank.notes.length:Int) + 1 + 1 + 1 + 1 + 7 * (s.st.sent.length:Int) < 0):=by omega
   gi_wp2
   refine (heldBools_ex F (n - 1) hb hro _ A8 k8 (K + 1 + (s.bank.own.length:Int) + (s.bank.notes.length:Int) + 1 + 1 + 1 + 1 + 7 * (s.st.sent.length:Int)) _ (held_to h8 (by omega)) (by omega) (by omega)).mono ?_
   rintro e w4 ⟨rfl,rfl⟩
   clear g3 c8 h8
   have g4:¬ (K + 1 + (s.bank.own.length:Int) + (s.bank.notes.length:Int) + 1 + 1 + 1 + 1 + 7 * (s.st.sent.length:Int) + (s.st.live.length:Int) < 0):=by omega
   gi_wp2
   refine (heldBools_ex F (n - 1) hb hro _ A9 k9 (K + 1 + (s.bank.own.length:Int) + (s.bank.notes.length:Int) + 1 + 1 + 1 + 1 + 7 * (s.st.sent.length:Int) + (s.st.live.length:Int)) _ (held_to h9 (by omega)) (by omega) (by omega)).mono ?_
   rintro e w5 ⟨rfl,rfl⟩
   clear g4 c9 h9
   have g5:¬ (K + 1 + (s.bank.own.length:Int) + (s.bank.notes.length:Int) + 1 + 1 + 1 + 1 + 7 * (s.st.sent.length:Int) + (s.st.live.length:Int) + (s.st.back.length:Int) < 0):=by omega
   gi_wp2
   refine (heldInts_ex F (n - 1) hi hro _ A10 k10 (K + 1 + (s.bank.own.length:Int) + (s.bank.notes.length:Int) + 1 + 1 + 1 + 1 + 7 * (s.st.sent.length:Int) + (s.st.live.length:Int) + (s.st.back.length:Int)) _ (held_to h10 (by omega)) (by omega) (by omega)).mono ?_
   rintro e w6 ⟨rfl,rfl⟩
   clear g5 c10 h10
   have g6:¬ (K + 1 + (s.bank.own.length:Int) + (s.bank.notes.length:Int) + 1 + 1 + 1 + 1 + 7 * (s.st.sent.length:Int) + (s.st.live.length:Int) + (s.st.back.length:Int) + (s.st.got.length:Int) < 0):=by omega
   gi_wp2
   refine (heldSts_ex F (n - 1) ht hp hb hi hro (by omega) R s.past u11 (K + 1 + (s.bank.own.length:Int) + (s.bank.notes.length:Int) + 1 + 1 + 1 + 1 + 7 * (s.st.sent.length:Int) + (s.st.live.length:Int) + (s.st.back.length:Int) + (s.st.got.length:Int)) _ s11 (Held.to d11 (by omega)) (by omega) (by omega) hs2).mono ?_
   rintro e w7 ⟨rfl,rfl⟩
   clear g6 c11 d11 s11
   have g7:¬ (K + 1 + (s.bank.own.length:Int) + (s.bank.notes.length:Int) + 1 + 1 + 1 + 1 + 7 * (s.st.sent.length:Int) + (s.st.live.length:Int) + (s.st.back.length:Int) + (s.st.got.length:Int) + (stsN s.past s.past.length:Int) < 0):=by omega
   gi_wp2
   refine (heldInts_ex F (n - 1) hi hro _ A12 k12 (K + 1 + (s.bank.own.length:Int) + (s.bank.notes.length:Int) + 1 + 1 + 1 + 1 + 7 * (s.st.sent.length:Int) + (s.st.live.length:Int) + (s.st.back.length:Int) + (s.st.got.length:Int) + (stsN s.past s.past.length:Int)) _ (held_to h12 (by omega)) (by omega) (by omega)).mono ?_
   rintro e w8 ⟨rfl,rfl⟩
   clear g7 c12 h12
   have g8:¬ (K + 1 + (s.bank.own.length:Int) + (s.bank.notes.length:Int) + 1 + 1 + 1 + 1 + 7 * (s.st.sent.length:Int) + (s.st.live.length:Int) + (s.st.back.length:Int) + (s.st.got.length:Int) + (stsN s.past s.past.length:Int) + (s.knows.length:Int) < 0):=by omega
   gi_wp2
   go_roundw
   case rel =>
    refine ⟨j + 1,by omega,?_,?_,trivial⟩
    ·rw [e1]
     congr 1
     omega
    ·rw [show (j:Int) + 1 = ((j + 1:Nat):Int) by omega]
   case measure=>simp [intOf]; omega
  ·obtain rfl:j = l.length:=by omega
   gi_wp2
   go_ret
   exact ⟨rfl,rfl⟩
theorem heldWorld_ex (F:Fence) (n:Nat) (hw:F.fn 14) (hf:F.fn 30) (ht:F.fn 63) (hp:F.fn 61) (hb:F.fn 62) (hi:F.fn 60) (hro:F.round = none) (hn:3≤n) (R:Nat→Prop) (l:List Ch) (v:Value) (k:Int) (W:World) (hv:ChsW W R l v) (hh:Held W (wldA W v l l.length) k) (h0:0≤k) (hk:k + (chsN l l.length:Int)≤1000000000000) (hs:∀j,j < l.length→(l.getD j zCh).st.sent.length≤4294967296∧∀i,i < (l.getD j zCh).past.length→((l.getD j zCh).past.getD i zSt).sent.length≤4294967296) :
  CallsIn F n Tryz.prog 14 #[.agg #[v],.int .i64 k] W fun e W'=>e = .returned (.int .i64 (k + chsN l l.length))∧W' = W.alloc (.cells #[v] 26):=by
 have h1n:1≤n:=by omega
 refine callsIn_of_wp Tryz.func14 rfl hw ?_ hro
 simp only [Tryz.ntmps14,List.size_toArray,List.length_cons,List.length_nil,Nat.reduceAdd,Nat.reduceSub,Array.replicate_succ,Array.replicate_zero,List.push_toArray,List.append_toArray,List.nil_append,List.cons_append]
 gi_wp2
 have q0:Mk R W (W.alloc (.cells #[v] 26)):=Mk.alloc W rfl
 refine (heldChs_ex F (n - 1) hf ht hp hb hi hro (by omega) R l v k _ (hv.mk q0) (by
  rw [wld_keep hv q0]
  intro i a hi
  have hlt:=hh i a hi
  obtain ⟨u,h1,h2⟩:=q0.cell _ _ hlt
  exact (World.cell?_of_block (Below.heap_alloc _ _ _ (by
   rcases Nat.lt_or_ge a.1.block W.heap.size with h | h
   ·exact h
   ·unfold World.cell? at hlt
    rw [Array.getElem?_eq_none h] at hlt
    cases hlt))).trans hlt) h0 hk hs).mono ?_
 rintro e w1 ⟨rfl,rfl⟩
 have g1:¬ (k + (chsN l l.length:Int) < 0):=by omega
 gi_wp2
 go_ret
 exact ⟨rfl,rfl⟩
end Hw
end Go.Proofs.YtklmllaggigkfaaGreat
