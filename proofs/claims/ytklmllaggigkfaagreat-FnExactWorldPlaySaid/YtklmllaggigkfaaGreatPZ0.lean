/- Plain laws: loops, what is ok, sizes, copies, equality. -/
import Derived.Test.YtklmllaggigkfaaGreatPY2
import Derived.Test.YtklmllaggigkfaaGreatPX25
set_option linter.unusedVariables false
set_option linter.unusedSimpArgs false
set_option maxRecDepth 100000
namespace Go.Proofs.YtklmllaggigkfaaGreat
namespace Hw
open Go
theorem fillAll {α:Type} (n:Nat) (x:Nat→α) (acc:Nat→List α) (h0:(acc 0).length = n) (hs:∀k,acc (k + 1) = (acc k).set k (x k)):∀k,k≤n→(acc k).length = n∧∀j,j < k→(acc k)[j]? = some (x j):=by
 intro k
 induction k with
 | zero=>intro _; exact ⟨h0,fun j hj=>by omega⟩
 | succ k ih =>
  intro hk
  obtain ⟨h1,h2⟩:=ih (by omega)
  rw [hs]
  refine ⟨by simpa using h1,fun j hj=>?_⟩
  rcases Nat.lt_or_ge j k with h | h
  ·rw [List.getElem?_set_ne (by omega)]
   exact h2 j h
  ·obtain rfl:j = k:=by omega
   rw [List.getElem?_set_self (by omega)]
theorem fill_eq {α:Type} {l:List α} {z:α} {acc:Nat→List α} (h0:(acc 0).length = l.length) (hs:∀k,acc (k + 1) = (acc k).set k (l.getD k z)):acc l.length = l:=by
 obtain ⟨h1,h2⟩:=fillAll l.length (fun k=>l.getD k z) acc h0 hs l.length (Nat.le_refl _)
 refine List.ext_getElem? fun j=>?_
 rcases Nat.lt_or_ge j l.length with h | h
 ·rw [h2 j h,List.getD_eq_getElem?_getD,List.getElem?_eq_getElem h]
  rfl
 ·rw [List.getElem?_eq_none (by omega),List.getElem?_eq_none h]
def PktOk (p:Pkt):Prop:=(1≤p.seq∧p.seq≤8)∧(p.kind = 1∨p.kind = 2)∧(1≤p.frm∧p.frm≤3)∧(0≤p.to∧p.to≤3)∧(1≤p.sum∧p.sum≤9)∧(1≤p.til∧p.til≤90)∧(1≤p.ver∧p.ver≤9)
theorem in_iff {a b c:Int}:Zi.S a b c = true↔b≤a∧a≤c:=by
 unfold Zi.S
 grind
theorem specPkt {p:Pkt}:Zy.S p = true↔PktOk p:=by
 unfold Zy.S PktOk Zc.S Zi.S
 grind
theorem implPkt {p:Pkt}:Zz.S p = true↔PktOk p:=by
 unfold Zz.S PktOk Zx.S
 grind
def StOk (s:St):Prop:=(0≤s.way∧s.way≤4)∧(1≤s.ver∧s.ver≤9)∧s.sent.length≤8∧s.live.length = s.sent.length∧s.back.length = s.sent.length∧s.got.length = 8 ∧
 (∀k,k < s.sent.length→PktOk (s.sent.getD k zPkt)∧(s.sent.getD k zPkt).seq = k + 1∧(s.live.getD k false = true→s.back.getD k false = false)∧(s.sent.getD k zPkt).ver≤s.ver) ∧
 (∀k,k < s.got.length→0≤s.got.getD k 0∧s.got.getD k 0≤2)∧(if s.way = 4 then s.want = s.ver + 1∧s.want≤9 else s.want = 0)
theorem E_some {α:Type} {g:Bool} {a b:Option α} {r:α}:(bif g then a else b) = some r↔(g = true∧a = some r)∨(g = false∧b = some r):=by cases g <;> simp
theorem E_none {α:Type} {g:Bool} {a b:Option α}:(bif g then a else b) = none↔(g = true∧a = none)∨(g = false∧b = none):=by cases g <;> simp
theorem loopB {t:Nat} {f rest:Bool} {Q:Prop} (h:(Nat.beq t 0 = true∧f = false∧¬ Q)∨(Nat.beq t 0 = false∧Q)):(bif Nat.beq t 0 then f else rest) = true↔Q∧rest = true:=by
 rcases h with ⟨h1,h2,h3⟩ | ⟨h1,h2⟩
 ·rw [h1,h2]; simp [h3]
 ·rw [h1]; simp [h2]
theorem gotFate {n:Int}:(ZL.S n).2 = true↔0≤n∧n≤2:=by
 unfold ZL.S
 grind
theorem implGot {s : St} : ZN.S s = true ↔ s.got.length = 8 ∧ ∀ k, k < s.got.length → 0 ≤ s.got.getD k 0 ∧ s.got.getD k 0 ≤ 2 := by
  by_cases hl : s.got.length = 8
  · have l : (Nat.beq (ZM.R false s.got (s.got.length : Int) 0).1 0 = true ∧ (ZM.R false s.got (s.got.length : Int) 0).2.1 = false ∧ ¬ ∀ k, k < s.got.length → 0 ≤ s.got.getD k 0 ∧ s.got.getD k 0 ≤ 2) ∨ (Nat.beq (ZM.R false s.got (s.got.length : Int) 0).1 0 = false ∧ ∀ k, k < s.got.length → 0 ≤ s.got.getD k 0 ∧ s.got.getD k 0 ≤ 2) := by
      rcases ZM.law false s.got (s.got.length : Int) () s.got.length rfl (by omega) with ⟨h1, h2⟩ | ⟨k, r, hk, h1, -, h2⟩
      · rw [h2]
        refine .inr ⟨rfl, fun k hk => ?_⟩
        have h3 := h1 k hk
        simp only [ZM.E, E_none, reduceCtorEq, and_false, false_or, and_true] at h3
        have := @gotFate (s.got.getD k 0)
        grind
      · rw [h2]
        simp only [ZM.E, E_some, reduceCtorEq, and_false, or_false, Option.some.injEq] at h1
        obtain ⟨h3, rfl⟩ := h1
        refine .inl ⟨rfl, rfl, fun h => ?_⟩
        have := h k hk
        have := @gotFate (s.got.getD k 0)
        grind
    unfold ZN.S
    rw [show ((s.got.length : Int) != 8) = false by simp [hl]]
    rw [cond_false, loopB l]
    simp [hl]
  · unfold ZN.S
    rw [show ((s.got.length : Int) != 8) = true by simp; omega]
    simp [hl]
theorem implSent {s : St} : ZK.S s = true ↔ s.sent.length ≤ 8 ∧ s.live.length = s.sent.length ∧ s.back.length = s.sent.length ∧
    ∀ k, k < s.sent.length → PktOk (s.sent.getD k zPkt) ∧ (s.sent.getD k zPkt).seq = k + 1 ∧ (s.live.getD k false = true → s.back.getD k false = false) ∧ (s.sent.getD k zPkt).ver ≤ s.ver := by
  by_cases hl : s.sent.length ≤ 8 ∧ s.live.length = s.sent.length ∧ s.back.length = s.sent.length
  · have l : (Nat.beq (ZJ.R s false s.sent (s.sent.length : Int) 0).1 0 = true ∧ (ZJ.R s false s.sent (s.sent.length : Int) 0).2.1 = false ∧ ¬ ∀ k, k < s.sent.length → PktOk (s.sent.getD k zPkt) ∧ (s.sent.getD k zPkt).seq = k + 1 ∧ (s.live.getD k false = true → s.back.getD k false = false) ∧ (s.sent.getD k zPkt).ver ≤ s.ver) ∨ (Nat.beq (ZJ.R s false s.sent (s.sent.length : Int) 0).1 0 = false ∧ ∀ k, k < s.sent.length → PktOk (s.sent.getD k zPkt) ∧ (s.sent.getD k zPkt).seq = k + 1 ∧ (s.live.getD k false = true → s.back.getD k false = false) ∧ (s.sent.getD k zPkt).ver ≤ s.ver) := by
      rcases ZJ.law s false s.sent (s.sent.length : Int) () s.sent.length rfl (by omega) with ⟨h1, h2⟩ | ⟨k, r, hk, h1, -, h2⟩
      · rw [h2]
        refine .inr ⟨rfl, fun k hk => ?_⟩
        have h3 := h1 k hk
        simp only [ZJ.E, E_none, reduceCtorEq, and_false, false_or, and_true] at h3
        rw [wrap_id (n := (k : Int) + 1) (by omega) (by omega)] at h3
        have := @implPkt (s.sent.getD k zPkt)
        grind
      · rw [h2]
        simp only [ZJ.E, E_some, reduceCtorEq, and_false, or_false, Option.some.injEq] at h1
        obtain ⟨h3, rfl⟩ := h1
        refine .inl ⟨rfl, rfl, fun h => ?_⟩
        have := h k hk
        rw [wrap_id (n := (k : Int) + 1) (by omega) (by omega)] at h3
        have := @implPkt (s.sent.getD k zPkt)
        grind
    unfold ZK.S
    rw [show (bif bif decide ((s.sent.length : Int) > 8) then true else (s.live.length : Int) != (s.sent.length : Int) then true else (s.back.length : Int) != (s.sent.length : Int)) = false by obtain ⟨h1, h2, h3⟩ := hl; simp [h2, h3]; omega]
    rw [cond_false, loopB l]
    simp [hl]
  · unfold ZK.S
    rw [show (bif bif decide ((s.sent.length : Int) > 8) then true else (s.live.length : Int) != (s.sent.length : Int) then true else (s.back.length : Int) != (s.sent.length : Int)) = true by grind]
    rw [cond_true]
    grind
theorem implSt {s:St}:ZO.S s = true↔StOk s:=by
 have e1:=@implSent s
 have e2:=@implGot s
 unfold ZO.S StOk
 generalize ZK.S s = b1 at *
 generalize ZN.S s = b2 at *
 generalize (∀k,k < s.sent.length→PktOk (s.sent.getD k zPkt)∧(s.sent.getD k zPkt).seq = k + 1∧(s.live.getD k false = true→s.back.getD k false = false)∧(s.sent.getD k zPkt).ver≤s.ver) = Q1 at *
 generalize (∀k,k < s.got.length→0≤s.got.getD k 0∧s.got.getD k 0≤2) = Q2 at *
 by_cases hv:1≤s.ver∧s.ver≤9
 ·rw [wrap_id (n:=s.ver + 1) (by omega) (by omega)]
  grind
 ·grind
def Parts (l:List Int):Prop:=l.length = 3∧∀k,k < l.length→0≤l.getD k 0∧l.getD k 0≤30
def tot (l:List Int):Int:=l.getD 0 0 + l.getD 1 0 + l.getD 2 0
def BkOk (b:Bk):Prop:=Parts b.own∧Parts b.notes∧0≤b.locked∧tot b.own + b.locked = 30∧tot b.notes≤30
theorem Parts.three {l:List Int} (h:Parts l):(0≤l.getD 0 0∧l.getD 0 0≤30)∧(0≤l.getD 1 0∧l.getD 1 0≤30)∧(0≤l.getD 2 0∧l.getD 2 0≤30) :=
 ⟨h.2 0 (by rw [h.1]; decide),h.2 1 (by rw [h.1]; decide),h.2 2 (by rw [h.1]; decide)⟩
theorem specParts {l:List Int} (hf:(l.length:Int)≤9223372036854775807):ZC.S l = true↔Parts l:=by
 have e:(Nat.beq (ZB.R l false 0).1 0 = true∧(ZB.R l false 0).2.1 = false∧¬ ∀k,k < l.length→0≤l.getD k 0∧l.getD k 0≤30)∨(Nat.beq (ZB.R l false 0).1 0 = false∧∀k,k < l.length→0≤l.getD k 0∧l.getD k 0≤30):=by
  rcases ZB.law l false () l.length rfl (by omega) with ⟨h1,h2⟩ | ⟨k,r,hk,h1,-,h2⟩
  ·rw [h2]
   refine .inr ⟨rfl,fun k hk=>?_⟩
   have h3:=h1 k hk
   simp only [ZB.E,E_none,reduceCtorEq,and_false,false_or,and_true] at h3
   have:=@in_iff (l.getD k 0) 0 30
   grind
  ·rw [h2]
   simp only [ZB.E,E_some,reduceCtorEq,and_false,or_false,Option.some.injEq] at h1
   obtain ⟨h3,rfl⟩:=h1
   refine .inl ⟨rfl,rfl,fun h=>?_⟩
   have:=h k hk
   have:=@in_iff (l.getD k 0) 0 30
   grind
 unfold ZC.S Parts
 rw [loopB e]
 simp only [beq_iff_eq]
 grind
theorem specAll {l:List Int} (h:Parts l):Zu.S l = tot l:=by
 have h3:=h.three
 unfold Zu.S tot
 rcases ZA.law l (0:Int) 3 (by rw [h.1]) (by decide) with ⟨h1,h2⟩ | ⟨k,r,hk,h1,-,h2⟩
 ·have h2':ZA.R l 0 0 = ZA.fin l 3 (ZA.acc l 0 3):=h2
  rw [h2']
  simp only [ZA.fin,ZA.acc,ZA.A]
  rw [wrap_id (n:=0 + l.getD 0 0) (by omega) (by omega),wrap_id (n:=0 + l.getD 0 0 + l.getD 1 0) (by omega) (by omega),wrap_id (by omega) (by omega)]
  omega
 ·simp [ZA.E] at h1
theorem implTotal {l:List Int}:((ZE.S l).2 = true↔Parts l)∧(Parts l→(ZE.S l).1 = tot l):=by
 by_cases hl:l.length = 3
 ·have hg:((l.length:Int) != 3) = false:=by simp [hl]
  unfold ZE.S Parts
  rw [hg,cond_false]
  rcases ZD.law 0 false l (l.length:Int) (0:Int) 3 (by rw [hl]) (by decide) with ⟨h1,h2⟩ | ⟨k,r,hk,h1,-,h2⟩
  ·have h2':ZD.R 0 false 0 l (l.length:Int) 0 = ZD.fin 0 false l (l.length:Int) 3 (ZD.acc 0 false l (l.length:Int) 0 3):=h2
   rw [h2']
   have q:∀k,k < l.length→0≤l.getD k 0∧l.getD k 0≤30:=fun k hk=>by
    have h3:=h1 k (by omega)
    simp only [ZD.E,E_none,reduceCtorEq,and_false,false_or,and_true] at h3
    grind
   have q0:=q 0 (by omega)
   have q1:=q 1 (by omega)
   have q2:=q 2 (by omega)
   have b:∀k,k < 3→(bif decide (l.getD k 0 < 0) then true else decide (l.getD k 0 > 30)) = false:=fun k hk=>by
    have:=q k (by omega)
    grind
   simp only [ZD.fin,ZD.acc,ZD.A,b 0 (by decide),b 1 (by decide),b 2 (by decide),cond_false,show Nat.beq 1 0 = false from rfl]
   refine ⟨by simp [hl]; rw [hl] at q; exact fun k hk=>by simpa using q k hk,fun _=>?_⟩
   unfold tot
   rw [wrap_id (n:=0 + l.getD 0 0) (by omega) (by omega),wrap_id (n:=0 + l.getD 0 0 + l.getD 1 0) (by omega) (by omega),wrap_id (by omega) (by omega)]
   omega
  ·have h2':ZD.R 0 false 0 l (l.length:Int) 0 = r:=h2
   rw [h2']
   simp only [ZD.E,E_some,reduceCtorEq,and_false,or_false,Option.some.injEq] at h1
   obtain ⟨h3,rfl⟩:=h1
   have hno:¬ (l.length = 3∧∀k,k < l.length→0≤l.getD k 0∧l.getD k 0≤30):=fun h=>by
    have:=h.2 k (by omega)
    grind
   simp only [show Nat.beq 0 0 = true from rfl,cond_true]
   exact ⟨⟨fun h=>(by cases h),fun h=>absurd h hno⟩,fun h=>absurd h hno⟩
 ·have hg:((l.length:Int) != 3) = true:=by simp; omega
  unfold ZE.S
  rw [hg,cond_true]
  exact ⟨⟨fun h=>(by cases h),fun h=>absurd h.1 hl⟩,fun h=>absurd h.1 hl⟩
theorem specBk {b:Bk} (hf:b.fact) (hr:inI b.locked):Zw.S b = true↔BkOk b:=by
 have e1:=specParts (l:=b.own) hf.1
 have e2:=specParts (l:=b.notes) hf.2
 unfold Zw.S BkOk
 by_cases h1:Parts b.own
 ·by_cases h2:Parts b.notes
  ·rw [specAll h1,specAll h2]
   have k1:=h1.three
   have k2:=h2.three
   have ht:tot b.own = b.own.getD 0 0 + b.own.getD 1 0 + b.own.getD 2 0:=rfl
   unfold inI at hr
   by_cases hb:tot b.own + b.locked≤9223372036854775807
   ·rw [wrap_id (by omega) (by omega)]
    grind
   ·rw [wrap_hi (by omega) (by omega)]
    grind
  ·grind
 ·grind
theorem implBk {b:Bk}:ZF.S b = true↔BkOk b:=by
 obtain ⟨e1,f1⟩:=implTotal (l:=b.own)
 obtain ⟨e2,f2⟩:=implTotal (l:=b.notes)
 unfold ZF.S BkOk
 by_cases h1:Parts b.own
 ·by_cases h2:Parts b.notes
  ·rw [f1 h1,f2 h2]
   have k1:=h1.three
   have ht:tot b.own = b.own.getD 0 0 + b.own.getD 1 0 + b.own.getD 2 0:=rfl
   rw [wrap_id (n:=30 - tot b.own) (by omega) (by omega)]
   grind
  ·grind
 ·grind
def KnOk (l:List Int):Prop:=∀k,k < l.length→(1≤l.getD k 0∧l.getD k 0≤90)∧(0 < k→l.getD (k - 1) 0 < l.getD k 0)
def ChOk (c:Ch):Prop:=(1≤c.id∧c.id≤2)∧BkOk c.bank∧StOk c.st∧c.past.length≤90∧(∀k,k < c.past.length→StOk (c.past.getD k zSt))∧KnOk c.knows
end Hw
end Go.Proofs.YtklmllaggigkfaaGreat
