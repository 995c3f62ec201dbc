/- Plain data of the program, and an evaluator of the model's code over abstract values: definitions alone. -/
import Derived.Orders
import Derived.KernelRfl
set_option linter.unusedVariables false
namespace Go.Proofs.YtklmllaggigkfaaGreat
namespace Hw
open Go
structure Pkt where
 seq:Int
 kind:Int
 frm:Int
 to:Int
 sum:Int
 til:Int
 ver:Int
 deriving DecidableEq
structure St where
 way:Int
 ver:Int
 want:Int
 sent:List Pkt
 live:List Bool
 back:List Bool
 got:List Int
 deriving DecidableEq
structure Bk where
 own:List Int
 notes:List Int
 locked:Int
 deriving DecidableEq
structure Ch where
 id:Int
 bank:Bk
 st:St
 past:List St
 knows:List Int
 deriving DecidableEq
structure Ev where
 kind:Int
 chain:Int
 height:Int
 n:Int
 pkt:Pkt
 deriving DecidableEq
structure Ws where
 step:Int
 may:Option Nat
 act:Option Nat
 deriving DecidableEq
structure Mks where
 l:List St
 g:Option Value
structure Lk where
 bank:Bk
 id:Int
 st:St
 marks:Mks
 count:Int
 knows:List Int
def zWs:Ws:=⟨0,none,none⟩
def zPkt:Pkt:=⟨0,0,0,0,0,0,0⟩
def zSt:St:=⟨0,0,0,[],[],[],[]⟩
def zBk:Bk:=⟨[],[],0⟩
def zCh:Ch:=⟨0,zBk,zSt,[],[]⟩
def zEv:Ev:=⟨0,0,0,0,zPkt⟩
def zMk:Mks:=⟨[],none⟩
def zLk:Lk:=⟨zBk,0,zSt,zMk,0,[]⟩
inductive El where
 | int (n:Int)
 | u8 (n:Int)
 | bool (b:Bool)
 | pkt (p:Pkt)
 | st (s:St)
 | ch (c:Ch)
 | ev (e:Ev)
 | ws (e:Ws)
inductive EK where
 | int | u8 | bool | pkt | st | ch | ev | ws
 deriving DecidableEq
inductive Arr where
 | ints (xs:List Int)
 | u8s (xs:List Int)
 | bools (xs:List Bool)
 | pkts (xs:List Pkt)
 | sts (xs:List St)
 | chs (xs:List Ch)
 | evs (xs:List Ev)
 | wss (xs:List Ws)
inductive Cell where
 | int (n:Int)
 | u8 (n:Int)
 | bool (b:Bool)
 | arr (z:Bool) (a:Arr)
 | nilS
 | own (i sz e:Nat)
 | ptr (i o:Nat)
 | ep (i sz k o:Nat)
 | rp (z:Bool) (e:El) (o:Nat)
 | nilP
 | ifc (n:Nat)
 | fnv (f:Option Nat)
 | tail (i sz e t:Nat)
 | mk (l:Mks) (o:Nat)
 | mp (i:Nat)
 | clo (f i:Nat)
 | lit (v:Value)
inductive FV where
 | c (x:Cell)
 | agg (cs:List Cell)
inductive AV where
 | v (x:FV)
 | tup (xs:List FV)
 | top
inductive Blk where
 | dead
 | raw (cnt:Nat) (cs:List Cell)
 | arr (a:Arr)
 | mp (l:List Int)
def pktCells (p:Pkt):List Cell:=[.int p.seq,.int p.kind,.int p.frm,.int p.to,.int p.sum,.int p.til,.int p.ver]
def stCells (z:Bool) (s:St):List Cell:=[.int s.way,.int s.ver,.int s.want,.arr z (.pkts s.sent),.arr z (.bools s.live),.arr z (.bools s.back),.arr z (.ints s.got)]
def chCells (z:Bool) (c:Ch):List Cell:=[.int c.id,.arr z (.ints c.bank.own),.arr z (.ints c.bank.notes),.int c.bank.locked,.int c.st.way,.int c.st.ver,.int c.st.want,.arr z (.pkts c.st.sent),.arr z (.bools c.st.live),.arr z (.bools c.st.back),.arr z (.ints c.st.got),.arr z (.sts c.past),.arr z (.ints c.knows)]
def evCells (e:Ev):List Cell:=[.int e.kind,.int e.chain,.int e.height,.int e.n,.int e.pkt.seq,.int e.pkt.kind,.int e.pkt.frm,.int e.pkt.to,.int e.pkt.sum,.int e.pkt.til,.int e.pkt.ver]
def wsCells (e:Ws):List Cell:=[.int e.step,.fnv e.may,.fnv e.act]
def El.cells (z:Bool):El→List Cell
 | .int n=>[.int n]
 | .u8 n=>[.u8 n]
 | .bool b=>[.bool b]
 | .pkt p=>pktCells p
 | .st s=>stCells z s
 | .ch c=>chCells z c
 | .ev e=>evCells e
 | .ws e=>wsCells e
def EK.size:EK→Nat
 | .int=>1 | .u8=>1 | .bool=>1 | .pkt=>7 | .st=>7 | .ch=>13 | .ev=>11 | .ws=>3
def EK.zero:EK→El
 | .int=>.int 0 | .u8=>.u8 0 | .bool=>.bool false | .pkt=>.pkt zPkt | .st=>.st zSt | .ch=>.ch zCh | .ev=>.ev zEv | .ws=>.ws zWs
def Arr.ek:Arr→EK
 | .ints _=>.int | .u8s _=>.u8 | .bools _=>.bool | .pkts _=>.pkt | .sts _=>.st | .chs _=>.ch | .evs _=>.ev | .wss _=>.ws
def EK.code:EK→Nat
 | .int=>0 | .u8=>1 | .bool=>2 | .pkt=>3 | .st=>4 | .ch=>5 | .ev=>6 | .ws=>7
def Arr.esz (a:Arr):Nat:=a.ek.size
def Arr.len:Arr→Nat
 | .ints xs=>xs.length | .u8s xs=>xs.length | .bools xs=>xs.length | .pkts xs=>xs.length | .sts xs=>xs.length | .chs xs=>xs.length | .evs xs=>xs.length | .wss xs=>xs.length
def Arr.get (a:Arr) (k:Nat):El :=
 match a with
 | .ints xs=>.int (xs.getD k 0)
 | .u8s xs=>.u8 (xs.getD k 0)
 | .bools xs=>.bool (xs.getD k false)
 | .pkts xs=>.pkt (xs.getD k zPkt)
 | .sts xs=>.st (xs.getD k zSt)
 | .chs xs=>.ch (xs.getD k zCh)
 | .evs xs=>.ev (xs.getD k zEv)
 | .wss xs=>.ws (xs.getD k zWs)
def Arr.set (a:Arr) (k:Nat) (e:El):Option Arr :=
 match a,e with
 | .ints xs,.int n=>some (.ints (xs.set k n))
 | .u8s xs,.u8 n=>some (.u8s (xs.set k n))
 | .bools xs,.bool b=>some (.bools (xs.set k b))
 | .pkts xs,.pkt p=>some (.pkts (xs.set k p))
 | .sts xs,.st s=>some (.sts (xs.set k s))
 | .chs xs,.ch c=>some (.chs (xs.set k c))
 | .evs xs,.ev e=>some (.evs (xs.set k e))
 | .wss xs,.ws e=>some (.wss (xs.set k e))
 | _,_=>none
def Arr.app (a b:Arr):Option Arr :=
 match a,b with
 | .ints xs,.ints ys=>some (.ints (xs ++ ys))
 | .u8s xs,.u8s ys=>some (.u8s (xs ++ ys))
 | .bools xs,.bools ys=>some (.bools (xs ++ ys))
 | .pkts xs,.pkts ys=>some (.pkts (xs ++ ys))
 | .sts xs,.sts ys=>some (.sts (xs ++ ys))
 | .chs xs,.chs ys=>some (.chs (xs ++ ys))
 | .evs xs,.evs ys=>some (.evs (xs ++ ys))
 | .wss xs,.wss ys=>some (.wss (xs ++ ys))
 | _,_=>none
def Arr.nil:EK→Arr
 | .int=>.ints [] | .u8=>.u8s [] | .bool=>.bools [] | .pkt=>.pkts [] | .st=>.sts [] | .ch=>.chs [] | .ev=>.evs [] | .ws=>.wss []
def Arr.rep (k:EK) (n:Nat):Arr :=
 match k with
 | .int=>.ints (List.replicate n 0) | .u8=>.u8s (List.replicate n 0) | .bool=>.bools (List.replicate n false) | .pkt=>.pkts (List.replicate n zPkt)
 | .st=>.sts (List.replicate n zSt) | .ch=>.chs (List.replicate n zCh) | .ev=>.evs (List.replicate n zEv) | .ws=>.wss (List.replicate n zWs)
def Arr.sub (a:Arr) (lo hi:Nat):Arr :=
 match a with
 | .ints xs=>.ints ((xs.take hi).drop lo) | .u8s xs=>.u8s ((xs.take hi).drop lo) | .bools xs=>.bools ((xs.take hi).drop lo) | .pkts xs=>.pkts ((xs.take hi).drop lo)
 | .sts xs=>.sts ((xs.take hi).drop lo) | .chs xs=>.chs ((xs.take hi).drop lo) | .evs xs=>.evs ((xs.take hi).drop lo) | .wss xs=>.wss ((xs.take hi).drop lo)
def Arr.one:El→Arr
 | .int n=>.ints [n] | .u8 n=>.u8s [n] | .bool b=>.bools [b] | .pkt p=>.pkts [p] | .st s=>.sts [s] | .ch c=>.chs [c] | .ev e=>.evs [e] | .ws e=>.wss [e]
def Arr.ofEls (k:EK):List El→Option Arr
 | []=>some (.nil k)
 | e :: r=>(Arr.ofEls k r).bind fun b=>(Arr.one e).app b
def Cell.asInts:Cell→Option (List Int)
 | .arr _ (.ints xs)=>some xs | .nilS=>some [] | _=>none
def Cell.asBools:Cell→Option (List Bool)
 | .arr _ (.bools xs)=>some xs | .nilS=>some [] | _=>none
def Cell.asPkts:Cell→Option (List Pkt)
 | .arr _ (.pkts xs)=>some xs | .nilS=>some [] | _=>none
def Cell.asSts:Cell→Option (List St)
 | .arr _ (.sts xs)=>some xs | .nilS=>some [] | _=>none
def pktOf:List Cell→Option Pkt
 | [.int a,.int b,.int c,.int d,.int e,.int f,.int g]=>some ⟨a,b,c,d,e,f,g⟩
 | _=>none
def stOf:List Cell→Option St
 | [.int a,.int b,.int c,x,y,z,u]=>x.asPkts.bind fun x=>y.asBools.bind fun y=>z.asBools.bind fun z=>u.asInts.bind fun u=>some ⟨a,b,c,x,y,z,u⟩
 | _=>none
def bkOf:List Cell→Option Bk
 | [x,y,.int l]=>x.asInts.bind fun x=>y.asInts.bind fun y=>some ⟨x,y,l⟩
 | _=>none
def chOf:List Cell→Option Ch
 | [.int i,o,n,.int l,a,b,c,x,y,z,u,p,k]=>(bkOf [o,n,.int l]).bind fun bk=>(stOf [a,b,c,x,y,z,u]).bind fun st=>p.asSts.bind fun p=>k.asInts.bind fun k=>some ⟨i,bk,st,p,k⟩
 | _=>none
def evOf:List Cell→Option Ev
 | [.int a,.int b,.int c,.int d,e,f,g,h,i,j,k]=>(pktOf [e,f,g,h,i,j,k]).bind fun p=>some ⟨a,b,c,d,p⟩
 | _=>none
def wsOf:List Cell→Option Ws
 | [.int a,.fnv f,.fnv g]=>some ⟨a,f,g⟩
 | _=>none
def El.ofCells (k:EK) (cs:List Cell):Option El :=
 match k with
 | .int=>match cs with | [.int n]=>some (.int n) | _=>none
 | .u8=>match cs with | [.u8 n]=>some (.u8 n) | _=>none
 | .bool=>match cs with | [.bool b]=>some (.bool b) | _=>none
 | .pkt=>(pktOf cs).map .pkt
 | .st=>(stOf cs).map .st
 | .ch=>(chOf cs).map .ch
 | .ev=>(evOf cs).map .ev
 | .ws=>(wsOf cs).map .ws
abbrev Hp:=Nat→Blk
def getL {α:Type} (d:α):List α→Nat→α
 | [],_=>d
 | x :: r,i=>match i with | 0=>x | i + 1=>getL d r i
def eqB:Bool→Bool→Bool
 | true,b=>b
 | false,b=>!b
def upd {α:Type} (H:Nat→α) (i:Nat) (b:α):Nat→α:=fun j=>bif Nat.beq j i then b else H j
def H0:Hp:=fun _=>.dead
def hpOf (bs:List Blk):Hp:=fun i=>getL .dead bs i
def Blk.arr?:Blk→Option Arr
 | .arr a=>some a
 | _=>none
def Cell.view0 (H:Hp):Cell→Cell
 | .own i sz e=>match H i with
  | .arr a=>.arr false a
  | _=>.own i sz e
 | .arr _ a=>.arr false a
 | c=>c
def vInts:Cell→Option (List Int)
 | .arr false (.ints xs)=>some xs | .nilS=>some [] | _=>none
def vBools:Cell→Option (List Bool)
 | .arr false (.bools xs)=>some xs | .nilS=>some [] | _=>none
def vPkts:Cell→Option (List Pkt)
 | .arr false (.pkts xs)=>some xs | .nilS=>some [] | _=>none
def vSts:Cell→Option (List St)
 | .arr false (.sts xs)=>some xs | .nilS=>some [] | _=>none
def vChs:Cell→Option (List Ch)
 | .arr false (.chs xs)=>some xs | .nilS=>some [] | _=>none
def vEvs:Cell→Option (List Ev)
 | .arr false (.evs xs)=>some xs | .nilS=>some [] | _=>none
def vSt:List Cell→Option St
 | [.int a,.int b,.int c,x,y,z,u]=>(vPkts x).bind fun x=>(vBools y).bind fun y=>(vBools z).bind fun z=>(vInts u).bind fun u=>some ⟨a,b,c,x,y,z,u⟩
 | _=>none
def vBk:List Cell→Option Bk
 | [x,y,.int l]=>(vInts x).bind fun x=>(vInts y).bind fun y=>some ⟨x,y,l⟩
 | _=>none
def vCh:List Cell→Option Ch
 | [.int i,o,n,.int l,a,b,c,x,y,z,u,p,k]=>(vBk [o,n,.int l]).bind fun bk=>(vSt [a,b,c,x,y,z,u]).bind fun st=>(vSts p).bind fun p=>(vInts k).bind fun k=>some ⟨i,bk,st,p,k⟩
 | _=>none
def rowChs (H:Hp):Nat→List Cell→Option (List Ch)
 | 0,cs=>match cs with
  | []=>some []
  | _ :: _=>none
 | m + 1,cs=>(vCh ((cs.take 13).map (Cell.view0 H))).bind fun c=>(rowChs H m (cs.drop 13)).map fun l=>c :: l
def Cell.view (H:Hp):Cell→Cell
 | .own i sz e=>match H i with
  | .arr a=>.arr false a
  | .raw m cs=>(match rowChs H m cs with
   | some l=>bif Nat.beq sz 13 then .arr false (.chs l) else .own i sz e
   | none=>.own i sz e)
  | _=>.own i sz e
 | .tail i sz e t=>match H i with
  | .raw m cs=>(match rowChs H m cs with
   | some l=>bif Nat.beq sz 13 then .arr false (.chs (l.drop t)) else .tail i sz e t
   | none=>.tail i sz e t)
  | _=>.tail i sz e t
 | .arr _ a=>.arr false a
 | c=>c
def Cell.last (H:Hp):Cell→Cell
 | .own i sz e=>match H i with
  | .arr a=>.arr true a
  | _=>.own i sz e
 | c=>c
def Cell.lasts (H:Hp):Cell→Bool
 | .own i sz _=>match H i with
  | .arr a=>Nat.beq a.esz sz
  | _=>false
 | .arr z _=>z
 | .int _=>true
 | .u8 _=>true
 | .bool _=>true
 | .nilS=>true
 | .fnv _=>true
 | .mk _ o=>Nat.beq o 0
 | _=>false
def FV.view (H:Hp):FV→FV
 | .c x=>.c (x.view H)
 | .agg cs=>.agg (cs.map (Cell.view H))
def Cell.ids:Cell→List Nat
 | .own i _ _=>[i]
 | .ptr i _=>[i]
 | .ep i _ _ _=>[i]
 | .tail i _ _ _=>[i]
 | .mp i=>[i]
 | .clo _ i=>[i]
 | _=>[]
def FV.ids:FV→List Nat
 | .c x=>x.ids
 | .agg cs=>cs.flatMap Cell.ids
def Blk.ids:Blk→List Nat
 | .raw _ cs=>cs.flatMap Cell.ids
 | _=>[]
def memN (i:Nat):List Nat→Bool
 | []=>false
 | j :: r=>bif Nat.beq i j then true else memN i r
def idx (i:Nat):List Nat→Nat
 | []=>0
 | j :: r=>bif Nat.beq i j then 0 else Nat.succ (idx i r)
def nth (i:Nat):List Nat→Nat
 | []=>0
 | j :: r=>match i with | 0=>j | i + 1=>nth i r
def gather (H:Hp):Nat→List Nat→List Nat→List Nat
 | 0,_,acc=>acc
 | _ + 1,[],acc=>acc
 | f + 1,i :: r,acc=>bif memN i acc then gather H f r acc else gather H f (List.append (H i).ids r) (List.append acc [i])
def Cell.ren (f:Nat→Nat):Cell→Cell
 | .own i sz e=>.own (f i) sz e
 | .ptr i o=>.ptr (f i) o
 | .ep i sz k o=>.ep (f i) sz k o
 | .tail i sz e t=>.tail (f i) sz e t
 | .mp i=>.mp (f i)
 | .clo g i=>.clo g (f i)
 | c=>c
def FV.ren (f:Nat→Nat):FV→FV
 | .c x=>.c (x.ren f)
 | .agg cs=>.agg (cs.map (Cell.ren f))
def AV.ren (f:Nat→Nat):AV→AV
 | .v x=>.v (x.ren f)
 | .tup xs=>.tup (xs.map (FV.ren f))
 | .top=>.top
def Blk.ren (f:Nat→Nat):Blk→Blk
 | .raw m cs=>.raw m (cs.map (Cell.ren f))
 | b=>b
structure Slot where
 g:List (Nat×Bool)
 v:AV
abbrev Fr:=Nat→Slot
def Fr.put (fr:Fr) (d:Option Nat) (s:Slot):Fr :=
 match d with
 | some d=>upd fr d s
 | none=>fr
def topS:Slot:=⟨[],.top⟩
def subPath:List (Nat×Bool)→List (Nat×Bool)→Bool
 | [],_=>true
 | (d,b) :: r,π=>π.any (fun e=>Nat.beq e.1 d && eqB e.2 b) && subPath r π
def cellOfVal:Value→Cell
 | .int .i64 n=>.int n
 | .int .u8 n=>.u8 n
 | .bool b=>.bool b
 | .slice none 0 0=>.nilS
 | .pointer none=>.nilP
 | .nilIface=>.ifc 0
 | .nilFunc=>.fnv none
 | v=>.lit v
def oneC:Value→Bool
 | .agg _=>false
 | .tuple _=>false
 | _=>true
structure TI where
 size:Nat
 agg:Bool
 offs:List Nat
 fsz:List Nat
 zv:List Value
 elem:Nat
 ek:Option EK
 bytes:Nat
def TI.zero (t:TI):List Cell:=t.zv.map cellOfVal
abbrev Tab:=List (Nat×TI)
def Tab.get:Tab→Nat→Option TI
 | [],_=>none
 | (j,x) :: r,t=>bif Nat.beq j t then some x else Tab.get r t
structure Ctr where
 fid:Nat
 vw:List Bool
 σ:Type
 dec:List Blk→List FV→Option σ
 inp:σ→List Blk×List FV
 pre:Option (σ→Prop)
 out:σ→AV×List Blk
def Ctr.F (c:Ctr) (bs:List Blk) (args:List FV):Option (Option Prop×AV×List Blk):=(c.dec bs args).map fun s=>(c.pre.map fun p=>p s,(c.out s).1,(c.out s).2)
def ctrAt:List Ctr→Nat→Nat→Option Ctr
 | [],_,_=>none
 | c :: r,f,k=>bif Nat.beq c.fid f then (match k with
  | 0=>some c
  | k + 1=>ctrAt r f k) else ctrAt r f k
structure OpR where
 chk:Option Prop
 v:AV
 rd:List Nat
 ws:List (Nat×Blk)
 nid:Nat
def wr (H:Hp):List (Nat×Blk)→Hp
 | []=>H
 | (i,b) :: r=>wr (upd H i b) r
def fvOfCells (agg:Bool) (cs:List Cell):Option AV :=
 bif agg then some (.v (.agg cs)) else match cs with
  | [x]=>some (.v (.c x))
  | _=>none
def FV.cells:FV→List Cell
 | .c x=>[x]
 | .agg cs=>cs
def avOfVal:Value→AV
 | .agg cs=>bif cs.toList.all oneC then .v (.agg (cs.toList.map cellOfVal)) else .top
 | .tuple _=>.top
 | v=>.v (.c (cellOfVal v))
def opnd (fr:Fr) (π:List (Nat×Bool)):Operand→Option AV
 | .tmp t=>bif subPath (fr t).g π then some (fr t).v else none
 | .const v=>some (avOfVal v)
 | .func f=>some (.v (.c (.fnv (some f))))
 | .global g=>none
def asFV:Option AV→Option FV
 | some (.v x)=>some x
 | _=>none
def asC:Option AV→Option Cell
 | some (.v (.c x))=>some x
 | _=>none
def okv (v:Cell) (n:Nat):Option OpR:=some ⟨none,.v (.c v),[],[],n⟩
def wrap (n:Int):Int:=IntKind.i64.wrap n
def splice (cs:List Cell) (o:Nat) (xs:List Cell):List Cell:=List.append (cs.take o) (List.append xs (cs.drop (Nat.add o xs.length)))
def mkCells (l:Mks):List Cell:=List.append (stCells true (l.l.headD zSt)) [.mk ⟨l.l.tail,none⟩ 0]
def aLoad (ti:TI) (H:Hp) (n:Nat):Cell→Option OpR
 | .ptr i o=>match H i with
  | .raw _ cs=>bif Nat.ble (Nat.add o ti.size) cs.length then (fvOfCells ti.agg ((cs.drop o).take ti.size)).map fun v=>⟨none,v,[i],[],n⟩ else none
  | _=>none
 | .ep i sz k o=>match H i with
  | .arr a=>bif Nat.beq sz a.esz && Nat.ble (Nat.add o ti.size) a.esz then (fvOfCells ti.agg ((((a.get k).cells true).drop o).take ti.size)).map fun v=>⟨some (k < a.len),v,[i],[],n⟩ else none
  | _=>none
 | .rp z e o=>bif Nat.ble (Nat.add o ti.size) (e.cells z).length then (fvOfCells ti.agg (((e.cells z).drop o).take ti.size)).map fun v=>⟨none,v,[],[],n⟩ else none
 | .mk l o=>bif Nat.ble (Nat.add o ti.size) 8 then (fvOfCells ti.agg (((mkCells l).drop o).take ti.size)).map fun v=>⟨some (l.l≠[]),v,[],[],n⟩ else none
 | _=>none
def frozenIds (xs:List Cell):List Nat:=xs.flatMap fun | .own i _ _=>[i] | _=>[]
def nodupN:List Nat→Bool
 | []=>true
 | i :: r=>!memN i r && nodupN r
def aStore (ti:TI) (H:Hp) (n:Nat) (p:Cell) (xs:List Cell):Option OpR :=
 bif Nat.beq xs.length ti.size then
  match p with
  | .ptr i o=>match H i with
   | .raw m cs=>bif Nat.ble (Nat.add o xs.length) cs.length then some ⟨none,.top,[i],[(i,.raw m (splice cs o xs))],n⟩ else none
   | _=>none
  | .ep i sz k o=>match H i with
   | .arr a =>
    bif Nat.beq sz a.esz && Nat.ble (Nat.add o xs.length) a.esz && xs.all (Cell.lasts H) && nodupN (i :: frozenIds xs) then
     (El.ofCells a.ek (splice ((a.get k).cells true) o (xs.map (Cell.last H)))).bind fun e=>(a.set k e).bind fun b =>
      some ⟨some (k < a.len),.top,i :: frozenIds xs,List.append ((frozenIds xs).map (fun j=>(j,.dead))) [(i,.arr b)],n⟩
    else none
   | _=>none
  | _=>none
 else none
def wxor (a b:Int):Int:=wrap ((BitVec.ofInt 64 a ^^^ BitVec.ofInt 64 b).toNat:Int)
def aBin (isB isP isM:Bool) (op:BinOp) (n:Nat) (x y:FV):Option OpR :=
 match x,y with
 | .c (.int a),.c (.int b)=>match op with
  | .add=>okv (.int (wrap (a + b))) n
  | .sub=>okv (.int (wrap (a - b))) n
  | .mul=>okv (.int (wrap (a * b))) n
  | .xor=>okv (.int (wxor a b)) n
  | .quo=>some ⟨some (b≠0),.v (.c (.int (wrap (a.tdiv b)))),[],[],n⟩
  | .rem=>some ⟨some (b≠0),.v (.c (.int (a.tmod b))),[],[],n⟩
  | .eql=>okv (.bool (a == b)) n
  | .neq=>okv (.bool (a != b)) n
  | .lss=>okv (.bool (decide (a < b))) n
  | .leq=>okv (.bool (decide (a≤b))) n
  | .gtr=>okv (.bool (decide (a > b))) n
  | .geq=>okv (.bool (decide (a≥b))) n
  | _=>none
 | .c (.bool a),.c (.bool b)=>bif !isB then none else match op with
  | .eql=>okv (.bool (a == b)) n
  | .neq=>okv (.bool (!(a == b))) n
  | _=>none
 | .c (.mk l 0),.c .nilP=>bif !isM then none else match op with
  | .eql=>okv (.bool l.l.isEmpty) n
  | .neq=>okv (.bool (!l.l.isEmpty)) n
  | _=>none
 | .agg xs,.agg ys=>bif !isP then none else (pktOf xs).bind fun p=>(pktOf ys).bind fun q=>match op with
  | .eql=>okv (.bool (decide (p = q))) n
  | .neq=>okv (.bool (!decide (p = q))) n
  | _=>none
 | _,_=>none
def aLen (H:Hp) (n:Nat):Cell→Option OpR
 | .arr _ a=>okv (.int a.len) n
 | .own i _ _=>match H i with
  | .arr a=>some ⟨none,.v (.c (.int a.len)),[i],[],n⟩
  | .raw m _=>some ⟨none,.v (.c (.int m)),[i],[],n⟩
  | _=>none
 | .nilS=>okv (.int 0) n
 | .tail i _ _ t=>match H i with
  | .raw m _=>some ⟨some (t≤m),.v (.c (.int ((m:Int) - (t:Int)))),[i],[],n⟩
  | _=>none
 | _=>none
def aIndexAddr (ch:Option Nat) (s:Nat) (H:Hp) (n:Nat) (x:Cell) (i:Int):Option OpR :=
 match x with
 | .arr z a=>bif !Nat.beq s a.esz then none else some ⟨some (0≤i∧i < a.len),.v (.c (.rp z (a.get i.toNat) 0)),[],[],n⟩
 | .own j sz _=>bif !Nat.beq s sz then none else match H j with
  | .arr a=>some ⟨some (0≤i∧i < a.len),.v (.c (.ep j sz i.toNat 0)),[j],[],n⟩
  | .raw m _=>(match ch with
   | none=>some ⟨some (0≤i∧i < m),.v (.c (.ptr j (Nat.mul i.toNat sz))),[j],[],n⟩
   | some k=>bif Nat.blt k m then some ⟨some (i = (k:Int)),.v (.c (.ptr j (Nat.mul k sz))),[j],[],n⟩ else none)
  | _=>none
 | .tail j sz _ t=>bif !Nat.beq s sz then none else match H j with
  | .raw m _=>(match ch with
   | none=>none
   | some k=>bif Nat.blt k m then some ⟨some (0≤i∧(t:Int) + i = (k:Int)),.v (.c (.ptr j (Nat.mul k sz))),[j],[],n⟩ else none)
  | _=>none
 | _=>none
def aFieldAddr (off n:Nat):Cell→Option OpR
 | .ptr i o=>okv (.ptr i (Nat.add o off)) n
 | .ep i sz k o=>okv (.ep i sz k (Nat.add o off)) n
 | .rp z e o=>okv (.rp z e (Nat.add o off)) n
 | .mk l o=>some ⟨some (l.l≠[]),.v (.c (.mk ⟨l.l,none⟩ (Nat.add o off))),[],[],n⟩
 | _=>none
def Arr.flat:Arr→Bool
 | .sts _=>false
 | .chs _=>false
 | _=>true
def asSrc (k:EK) (H:Hp):Cell→Option (Arr×List Nat)
 | .arr z b=>bif z || b.flat then some (b,[]) else none
 | .nilS=>some (.nil k,[])
 | .own j sz _=>match H j with
  | .arr b=>bif Nat.beq sz b.esz then some (b,[j]) else none
  | _=>none
 | _=>none
def aCopy (k:EK) (e:Nat) (H:Hp) (n:Nat) (d s:Cell):Option OpR :=
 (asSrc k H s).bind fun y=>match d with
  | .own i sz e'=>match H i with
   | .arr a=>bif memN i y.2 || !Nat.beq sz a.esz || !Nat.beq sz k.size || !Nat.beq e e' || !Nat.beq y.1.ek.code k.code then none
    else some ⟨some (a.len = y.1.len),.v (.c (.int (a.len:Int))),i :: y.2,[(i,.arr y.1)],n⟩
   | _=>none
  | _=>none
def aAppend (k:EK) (e:Nat) (H:Hp) (n:Nat) (s x:Cell):Option OpR :=
 (asSrc k H x).bind fun (b,rd) =>
  match s with
  | .nilS=>((Arr.nil k).app b).map fun c=>⟨some (c.len≤4294967296),.v (.c (.own n k.size e)),rd,[(n,.arr c)],Nat.succ n⟩
  | .own i sz e'=>match H i with
   | .arr a=>bif memN i rd || !Nat.beq sz a.esz || !Nat.beq sz k.size || !Nat.beq e e' || !Nat.beq a.ek.code k.code then none else (a.app b).map fun c=>⟨some (c.len≤4294967296),.v (.c (.own n k.size e)),i :: rd,[(i,.dead),(n,.arr c)],Nat.succ n⟩
   | _=>none
  | _=>none
def elsOf (k:EK):List (List Cell)→Option (List El)
 | []=>some []
 | x :: r=>(El.ofCells k x).bind fun e=>(elsOf k r).map fun es=>e :: es
def inOrder:List Nat→Nat→Bool
 | [],_=>true
 | j :: r,i=>Nat.beq i j && inOrder r (Nat.succ i)
def aBuildSlice (k:EK) (e:Nat) (raw:Bool) (len:Nat) (H:Hp) (n:Nat) (js:List Nat) (xs:List FV):Option OpR :=
 bif Nat.beq xs.length len && Nat.beq js.length len && inOrder js 0 && Nat.ble len 1000 && xs.all (fun x=>Nat.beq x.cells.length k.size) then
  bif raw then some ⟨none,.v (.c (.own n k.size e)),[],[(n,.raw len (xs.flatMap FV.cells))],Nat.succ n⟩
  else
   let cs:=xs.flatMap FV.cells
   let fz:=frozenIds cs
   bif cs.all (Cell.lasts H) && nodupN fz then
    (elsOf k (xs.map fun x=>x.cells.map (Cell.last H))).bind fun es=>(Arr.ofEls k es).map fun a=>⟨none,.v (.c (.own n k.size e)),fz,List.append (fz.map (fun j=>(j,.dead))) [(n,.arr a)],Nat.succ n⟩
   else none
 else none
def fill (offs fsz:List Nat):List (Nat×FV)→List Cell→Option (List Cell)
 | [],cs=>some cs
 | (f,x) :: r,cs=>bif Nat.blt f offs.length && Nat.beq x.cells.length (nth f fsz) && Nat.ble (Nat.add (nth f offs) x.cells.length) cs.length then fill offs fsz r (splice cs (nth f offs) x.cells) else none
def nilMk:Cell→Cell
 | .nilP=>.mk ⟨[],some (.pointer none)⟩ 0
 | c=>c
def aMark (H:Hp) (n:Nat) (xs:List Cell):Option OpR :=
 bif Nat.beq xs.length 8 && xs.all (Cell.lasts H) && nodupN (frozenIds xs) then
  match (xs.drop 7) with
  | [.mk l 0]=>(stOf ((xs.take 7).map (Cell.last H))).map fun s=>⟨none,.v (.c (.mk ⟨s :: l.l,none⟩ 0)),frozenIds xs,(n :: frozenIds xs).map (fun j=>(j,.dead)),Nat.succ n⟩
  | _=>none
 else none
def fvs:List (Option AV)→Option (List FV)
 | []=>some []
 | x :: r=>(asFV x).bind fun y=>(fvs r).map fun ys=>y :: ys
def sg (n:Nat) (ids:List Nat) (k:Nat):Nat:=bif Nat.blt k ids.length then nth k ids else Nat.add n (Nat.sub k ids.length)
def wsFrom (n:Nat) (ids:List Nat):Nat→List Blk→List (Nat×Blk)
 | _,[]=>[]
 | k,b :: r=>(sg n ids k,b.ren (sg n ids)) :: wsFrom n ids (Nat.succ k) r
def Cell.safe:Cell→Bool
 | .arr z _=>z
 | .rp z _ _=>z
 | _=>true
def FV.safe:FV→Bool
 | .c x=>x.safe
 | .agg cs=>cs.all Cell.safe
def AV.safe:AV→Bool
 | .v x=>x.safe
 | .tup xs=>xs.all FV.safe
 | .top=>true
def Blk.safe:Blk→Bool
 | .raw _ cs=>cs.all Cell.safe
 | _=>true
def Blk.isDead:Blk→Bool
 | .dead=>true
 | _=>false
def stillDead:List Blk→List Blk→Bool
 | [],_=>true
 | _,[]=>false
 | a :: r,b :: s=>(!a.isDead || b.isDead) && stillDead r s
def allIn (l:List Nat) (ids:List Nat):Bool:=l.all fun i=>memN i ids
def idsOk (H:Hp) (n:Nat) (ids:List Nat) (xs:List FV):Bool :=
 nodupN ids && (ids.all fun i=>Nat.blt i n) && (xs.all fun x=>allIn x.ids ids) && ids.all fun j=>allIn (H j).ids ids
def handed (H:Hp) (ids:List Nat):List Blk:=ids.map fun j=>(H j).ren (fun i=>idx i ids)
def deadOf (ids:List Nat):List (Nat×Blk):=ids.map fun j=>(j,.dead)
def allLive (H:Hp) (ids:List Nat):Bool:=ids.all fun j=>!(H j).isDead
def Cell.tt:Cell→Cell
 | .arr _ a=>.arr true a
 | c=>c
def Cell.flat:Cell→Bool
 | .arr _ _=>true
 | .int _=>true
 | .u8 _=>true
 | .bool _=>true
 | .nilS=>true
 | .ifc _=>true
 | _=>false
def FV.tt:FV→FV
 | .c x=>.c x.tt
 | .agg cs=>.agg (cs.map Cell.tt)
def froOk (H:Hp) (n:Nat) (vs:List Nat) (xs:List FV):Bool :=
 idsOk H n vs xs && allLive H vs && vs.all (fun i=>(H i).safe) && xs.all FV.safe && xs.all fun x=>(x.view H).cells.all Cell.flat
def aFro (H:Hp) (n:Nat) (x:Cell) (lo:Int) (esz:Nat):Option OpR :=
 bif froOk H n (gather H 64 x.ids []) [.c x] then (match x.view H with
  | .arr _ a=>bif Nat.beq a.esz esz then some ⟨some (0≤lo∧lo≤(a.len:Int)),.v (.c (.arr true (a.sub lo.toNat a.len))),gather H 64 x.ids [],deadOf (gather H 64 x.ids []),n⟩ else none
  | _=>none)
 else none
def viewedOf:List Bool→List FV→List FV
 | _,[]=>[]
 | [],_ :: _=>[]
 | true :: vw,x :: r=>x :: viewedOf vw r
 | false :: vw,_ :: r=>viewedOf vw r
def handedOf:List Bool→List FV→List FV
 | _,[]=>[]
 | [],x :: r=>x :: handedOf [] r
 | true :: vw,_ :: r=>handedOf vw r
 | false :: vw,x :: r=>x :: handedOf vw r
def mixA (H:Hp) (f:Nat→Nat):List Bool→List FV→List FV
 | _,[]=>[]
 | [],x :: r=>x.ren f :: mixA H f [] r
 | true :: vw,x :: r=>x.view H :: mixA H f vw r
 | false :: vw,x :: r=>x.ren f :: mixA H f vw r
def aCall (c:Ctr) (H:Hp) (n:Nat) (args:List FV):Option OpR :=
 let ids:=gather H 64 ((handedOf c.vw args).flatMap FV.ids) []
 let vs:=gather H 64 ((viewedOf c.vw args).flatMap FV.ids) []
 bif idsOk H n ids (handedOf c.vw args) && idsOk H n vs (viewedOf c.vw args) && ((viewedOf c.vw args).all fun x=>(x.view H).ids.isEmpty) && vs.all (fun i=>!memN i ids) then
  match c.F (handed H ids) (mixA H (fun i=>idx i ids) c.vw args) with
  | some (p,r,bs) =>
   bif stillDead (handed H ids) bs && ((viewedOf c.vw args).isEmpty || (r.safe && bs.all Blk.safe)) then
    some ⟨p,r.ren (sg n ids),List.append vs ids,wsFrom n ids 0 bs,Nat.add n (Nat.sub bs.length ids.length)⟩
   else none
  | none=>none
 else none
inductive Ex where
 | normal
 | exit (id:Nat)
 | ret
abbrev Shp:=List (List (Option (EK×Nat)))
structure LCtr where
 key:Nat
 keep:List Nat
 shp:Shp
 S:List Blk→List FV→(Ex→List FV→List Blk→Prop)→Prop
 kout:Ex→List Nat
 pn:Nat              -- so many of the blocks handed over stay what they are
structure Env where
 T:Tab
 G:List Ctr
 rawT:List Nat       -- slice types whose rows stay plain cells
 boolT:Nat
 pktT:Nat
 intT:Nat
 u8T:Nat
 markT:Nat
 linkT:Nat
 mpT:Nat
 mapT:Nat
 mth:List (Nat×String×Nat)           -- methods of empty structs: type,name,function
 ch:List (Nat×Nat)                     -- what is chosen,by slots: an element of a row in plain cells; a contract
 sp:List (Nat×List (List (Nat×Nat)))  -- regions with several choices
 ct:List LCtr                            -- code that follows,by its first region: where ways meet
 lst:Bool                                -- rows of the answer last
def Env.at (E:Env) (d:Option Nat):Option Nat:=match d with
 | none=>none
 | some d=>(E.ch.find? fun e=>Nat.beq e.1 d).map fun e=>e.2
def elemOf (T:Tab) (t:Nat):Option (Nat×TI):=(T.get t).bind fun ti=>bif Nat.blt 0 ti.elem then (T.get ti.elem).map fun te=>(ti.elem,te) else none
def andC (q:Prop):Option Prop→Option Prop
 | some p=>some (And p q)
 | none=>some q
def mpSet (l:List Int) (j x:Int):List Int:=bif decide (j≤(l.length:Int)) then l.set (j - 1).toNat x else l ++ [x]
def mapOk (E:Env) (t:Nat):Bool:=Nat.beq t E.mapT && !Nat.beq t 1000000000
def evOp (E : Env) (o : Oper) (π : List (Nat × Bool)) (fr : Fr) (H : Hp) (n : Nat) : Option OpR :=
  match o.op with
  | .move x | .assign x => (opnd fr π x).map fun v => ⟨none, v, [], [], n⟩
  | .pick (.tmp d) a b => match asC (opnd fr π (.tmp d)) with
    | some (.bool g) => match asC (opnd fr ((d, true) :: π) a), asC (opnd fr ((d, false) :: π) b) with
      | some (.bool x), some (.bool y) => okv (.bool (bif g then x else y)) n
      | some (.int x), some (.int y) => okv (.int (bif g then x else y)) n
      | _, _ => none
    | _ => none
  | .alloc t => (E.T.get t).map fun ti => ⟨none, .v (.c (.ptr n 0)), [], [(n, .raw 1 ti.zero)], Nat.succ n⟩
  | .box t x => (asFV (opnd fr π x)).bind fun v => bif Nat.beq t E.markT then aMark H n v.cells else some ⟨none, .v (.c (.ptr n 0)), [], [(n, .raw 1 v.cells)], Nat.succ n⟩
  | .load t a => (E.T.get t).bind fun ti => (asC (opnd fr π a)).bind fun p => aLoad ti H n p
  | .store t a x => (E.T.get t).bind fun ti => (asC (opnd fr π a)).bind fun p => (asFV (opnd fr π x)).bind fun v => aStore ti H n p v.cells
  | .nilCheck x => match asC (opnd fr π x) with
    | some (.ptr i o) => okv (.ptr i o) n
    | some (.ep i sz k o) => okv (.ep i sz k o) n
    | some (.rp z e o) => okv (.rp z e o) n
    | some (.mk l o) => some ⟨some (l.l ≠ []), .v (.c (.mk l o)), [], [], n⟩
    | _ => none
  | .binOp op t x y _ => (asFV (opnd fr π x)).bind fun a => (asFV (opnd fr π y)).bind fun b => aBin (Nat.beq t E.boolT) (Nat.beq t E.pktT) (Nat.beq t E.mpT && !Nat.beq t 1000000000) op n a b
  | .unOp .not _ x => match asC (opnd fr π x) with
    | some (.bool b) => okv (.bool (!b)) n
    | _ => none
  | .unOp .neg _ x => match asC (opnd fr π x) with
    | some (.int a) => okv (.int (wrap (0 - a))) n
    | _ => none
  | .fieldAddr s x f => (E.T.get s).bind fun ti => (asC (opnd fr π x)).bind fun p => bif Nat.blt f ti.offs.length then aFieldAddr (nth f ti.offs) n p else none
  | .indexAddr t x i => (elemOf E.T t).bind fun te => match asC (opnd fr π x), asC (opnd fr π i) with
    | some x, some (.int i) => aIndexAddr (E.at o.dst) te.2.size H n x i
    | _, _ => none
  | .build t parts => (E.T.get t).bind fun ti => bif ti.offs.isEmpty && !(parts.isEmpty && ti.agg) then none else (fvs (parts.toList.map fun e => opnd fr π e.2)).bind fun vs =>
      (fill ti.offs ti.fsz ((parts.toList.map (·.1)).zip vs) ti.zero).map fun cs => ⟨none, .v (.agg (bif Nat.beq t E.linkT then cs.map nilMk else cs)), [], [], n⟩
  | .buildSlice t len parts => (elemOf E.T t).bind fun te => te.2.ek.bind fun k => (fvs (parts.toList.map fun e => opnd fr π e.2)).bind fun vs =>
      aBuildSlice k te.1 (memN t E.rawT) len H n (parts.toList.map (·.1)) vs
  | .makeSlice t x y => (elemOf E.T t).bind fun te => te.2.ek.bind fun k => match asC (opnd fr π x), asC (opnd fr π y) with
    | some (.int a), some (.int b) => some ⟨some (a = b ∧ 0 ≤ a ∧ a ≤ 4294967296), .v (.c (.own n k.size te.1)), [], [(n, .arr (.rep k a.toNat))], Nat.succ n⟩
    | _, _ => none
  | .makeMap t x => bif mapOk E t then (match x with
      | none => some ⟨none, .v (.c (.mp n)), [], [(n, .mp [])], Nat.succ n⟩
      | some x => match asC (opnd fr π x) with
        | some (.int _) => some ⟨none, .v (.c (.mp n)), [], [(n, .mp [])], Nat.succ n⟩
        | _ => none) else none
  | .lookup t m k ok => bif ok || !mapOk E t then none else (match asC (opnd fr π m), asC (opnd fr π k) with
      | some (.mp i), some (.int j) => (match H i with
        | .mp l => some ⟨some (1 ≤ j), .v (.c (.int (l.getD (j - 1).toNat 0))), [i], [], n⟩
        | _ => none)
      | _, _ => none)
  | .mapUpdate t m k x => bif !mapOk E t then none else (match asC (opnd fr π m), asC (opnd fr π k), asC (opnd fr π x) with
      | some (.mp i), some (.int j), some (.int v) => (match H i with
        | .mp l => some ⟨some (1 ≤ j ∧ j ≤ (l.length : Int) + 1), .top, [i], [(i, .mp (mpSet l j v))], n⟩
        | _ => none)
      | _, _, _ => none)
  | .makeInterface t x => (E.T.get t).bind fun ti => match asFV (opnd fr π x) with
    | some (.agg []) => bif ti.agg && Nat.blt 0 t then okv (.ifc t) n else none
    | _ => none
  | .typeAssert x _ t ok => bif !ok then none else (E.T.get t).bind fun ti => match asC (opnd fr π x) with
    | some (.ifc k) => bif ti.agg && ti.zv.isEmpty && Nat.blt 0 t then some ⟨none, .tup [.agg [], .c (.bool (Nat.beq k t))], [], [], n⟩ else none
    | _ => none
  | .convert s t x => bif Nat.beq s E.u8T && Nat.beq t E.intT then (match asC (opnd fr π x) with
    | some (.u8 a) => okv (.int (wrap a)) n
    | _ => none) else none
  | .slice t x lo hi mx => bif mx.isSome then none else (elemOf E.T t).bind fun te => (match lo, hi with
    | none, some h => (match asC (opnd fr π x), asC (opnd fr π h) with
      | some (.arr z a), some (.int i) => some ⟨some (0 ≤ i ∧ i ≤ (a.len : Int)), .v (.c (.arr z (a.sub 0 i.toNat))), [], [], n⟩
      | _, _ => none)
    | some l, none => (match asC (opnd fr π x), asC (opnd fr π l) with
      | some (.own i sz e), some (.int j) => (match H i with
        | .raw m _ => bif Nat.beq sz te.2.size && Nat.beq e te.1 then some ⟨some (0 ≤ j ∧ j < (m : Int)), .v (.c (.tail i sz e j.toNat)), [i], [], n⟩ else none
        | _ => aFro H n (.own i sz e) j te.2.size)
      | some c, some (.int j) => aFro H n c j te.2.size
      | _, _ => none)
    | _, _ => none)
  | .extract x i => match opnd fr π x with
    | some (.tup xs) => (xs[i]?).map fun v => ⟨none, .v v, [], [], n⟩
    | _ => none
  | .makeFunc (.func f) first cap => match first.toList, cap.toList with
    | [x], [] => (match asC (opnd fr π x) with
      | some (.ptr i 0) => okv (.clo f i) n
      | _ => none)
    | _, _ => none
  | .call { callee := .builtin .len, args, argTypes } => match args.toList, argTypes.toList with
    | [x], [t] => (elemOf E.T t).bind fun _ => (asC (opnd fr π x)).bind fun c => aLen H n c
    | _, _ => none
  | .call { callee := .builtin .max, args, .. } => match args.toList with
    | [x, y] => (match asC (opnd fr π x), asC (opnd fr π y) with
      | some (.int a), some (.int b) => okv (.int (bif decide (a < b) then b else a)) n
      | _, _ => none)
    | _ => none
  | .call { callee := .builtin .min, args, .. } => match args.toList with
    | [x, y] => (match asC (opnd fr π x), asC (opnd fr π y) with
      | some (.int a), some (.int b) => okv (.int (bif decide (b < a) then b else a)) n
      | _, _ => none)
    | _ => none
  | .call { callee := .builtin .append, args, argTypes } => match args.toList, argTypes.toList with
    | [s, x], [t, u] => bif Nat.beq t u then (elemOf E.T t).bind fun te => te.2.ek.bind fun k => (asC (opnd fr π s)).bind fun s => (asC (opnd fr π x)).bind fun x => aAppend k te.1 H n s x else none
    | _, _ => none
  | .call { callee := .builtin .copy, args, argTypes } => match args.toList, argTypes.toList with
    | [s, x], [t, u] => bif Nat.beq t u then (elemOf E.T t).bind fun te => te.2.ek.bind fun k => (asC (opnd fr π s)).bind fun s => (asC (opnd fr π x)).bind fun x => aCopy k te.1 H n s x else none
    | _, _ => none
  | .call { callee := .value (.func f), args, .. } => (ctrAt E.G f ((E.at o.dst).getD 0)).bind fun c => (fvs (args.toList.map (opnd fr π))).bind fun xs => aCall c H n xs
  | .call { callee := .value (.tmp d), args, .. } => match asC (opnd fr π (.tmp d)) with
    | some (.fnv f) => (E.G[(E.at o.dst).getD 0]?).bind fun c => (fvs (args.toList.map (opnd fr π))).bind fun xs => (aCall c H n xs).map fun r => ⟨andC (f = some c.fid) r.chk, r.v, r.rd, r.ws, r.nid⟩
    | some (.clo f i) => (ctrAt E.G f 0).bind fun c => (fvs (args.toList.map (opnd fr π))).bind fun xs => aCall c H n (.c (.ptr i 0) :: xs)
    | _ => none
  | .call { callee := .invoke (.tmp d) m, args, .. } => match asC (opnd fr π (.tmp d)) with
    | some (.ifc k) => (E.G[(E.at o.dst).getD 0]?).bind fun c => (E.mth.find? fun e => Nat.beq e.2.2 c.fid && decide (e.2.1 = m)).bind fun e => (fvs (args.toList.map (opnd fr π))).bind fun xs => (aCall c H n (.agg [] :: xs)).map fun r => ⟨andC (k = e.1) r.chk, r.v, r.rd, r.ws, r.nid⟩
    | _ => none
  | _ => none
def guardOf (ops:List Oper) (fr:Fr) (o:Oper):Option (List (Nat×Bool)) :=
 match o.guard with
 | none=>some []
 | some (j,b)=>match ops[j]? with
  | some oj=>match oj.dst with
   | some d=>match (fr d).v with
    | .v (.c (.bool _))=>some ((d,b) :: (fr d).g)
    | _=>none
   | none=>none
  | none=>none
def pathP (fr:Fr):List (Nat×Bool)→Prop
 | []=>True
 | (d,b) :: r=>(match (fr d).v with
  | .v (.c (.bool x))=>x = b
  | _=>True)∧pathP fr r
def Imp (p q:Prop):Prop:=p→q
def lit (b x:Bool):Bool:=bif b then x else !x
def pathB (fr:Fr):List (Nat×Bool)→Bool
 | []=>true
 | [(d,b)]=>match (fr d).v with
  | .v (.c (.bool x))=>lit b x
  | _=>false
 | (d,b) :: r=>match (fr d).v with
  | .v (.c (.bool x))=>and (pathB fr r) (lit b x)
  | _=>false
def mergeB (c:Bool):Blk→Blk→Option (Prop×Blk)
 | .raw m [.arr z (.u8s a),.int p],.raw m' [.arr z' (.u8s a'),.int p']=>bif Nat.beq m m' && eqB z z' then some (a = a',.raw m [.arr z (.u8s a'),.int (bif c then p else p')]) else none
 | _,_=>none
def calm (π:List (Nat×Bool)) (fr:Fr) (H:Hp) (x:OpR):Option OpR :=
 match π,x.ws with
 | [],_=>some x
 | _,[]=>some x
 | _,[(i,b)]=>(mergeB (pathB fr π) b (H i)).map fun y=>⟨andC y.1 x.chk,x.v,x.rd,[(i,y.2)],x.nid⟩
 | _,_=>none
def wsOk (H:Hp) (n nid:Nat) (ws:List (Nat×Blk)):Bool:=ws.all fun e=>Nat.blt e.1 nid && (e.2.isDead || Nat.ble n e.1 || !(H e.1).isDead)
structure Item where
 o:Oper
 π:List (Nat×Bool)
 r:OpR
 c:Option Prop
def Item.uses (x:Item):List Nat:=List.append (x.π.map (·.1)) (x.o.op.operands.toList.flatMap fun | .tmp t=>[t] | _=>[])
def Item.ids (x:Item):List Nat:=x.r.ws.map (·.1)
def chkOf (fr:Fr) (π:List (Nat×Bool)):Option Prop→Option Prop
 | none=>none
 | some p=>match π with
  | []=>some p
  | _=>some (Imp (pathP fr π) p)
def tr (E:Env) (ops:List Oper):List Oper→List Nat→Fr→Hp→Nat→Option (List Item×Fr×Hp×Nat)
 | [],_,fr,H,n=>some ([],fr,H,n)
 | o :: r,seen,fr,H,n =>
  (guardOf ops fr o).bind fun π=>((evOp E o π fr H n).bind (calm π fr H)).bind fun x =>
   bif Nat.ble n x.nid && wsOk H n x.nid x.ws && π.all (fun e=>memN e.1 seen) && (match o.dst with
    | some d=>!memN d seen
    | none=>true) then
    (tr E ops r (List.append o.dst.toList seen) (fr.put o.dst ⟨π,x.v⟩) (wr H x.ws) x.nid).map fun y=>(⟨o,π,x,chkOf fr π x.chk⟩ :: y.1,y.2)
   else none
def allC:List Item→Prop→Prop
 | [],p=>p
 | x :: r,p=>match x.c with
  | none=>allC r p
  | some q=>And q (allC r p)
def meet:List Nat→List Nat→Bool
 | [],_=>false
 | i :: r,l=>memN i l || meet r l
def Item.clash (x y:Item):Bool :=
 meet x.o.dst.toList y.uses || meet y.o.dst.toList x.uses || meet x.ids y.r.rd || meet x.ids y.ids || meet x.r.rd y.ids
def has (m j:Nat):Bool:=Nat.beq (Nat.land (Nat.shiftRight m j) 1) 1
def ancRow (acc:List Nat) (o:Oper):Nat:=o.after.toList.foldr (fun e m=>bif Region.binds .any e then Nat.lor (Nat.lor (Nat.shiftLeft 1 e.on) (getL 0 acc e.on)) m else m) 0
def ancs:List Oper→List Nat→List Nat
 | [],acc=>acc
 | o :: r,acc=>ancs r (List.append acc [ancRow acc o])
def clashOk (anc:List Nat):List Item→Nat→List (Nat×Item)→Bool
 | [],_,_=>true
 | x :: r,j,before=>(before.all fun e=>!(e.2.clash x) || has (getL 0 anc j) e.1) && clashOk anc r (Nat.succ j) ((j,x) :: before)
def edgesOk:List Oper→Nat→Bool
 | [],_=>true
 | o :: r,i=>(o.after.toList.all fun e=>!(Region.binds .any e) || Nat.blt e.on i) && edgesOk r (Nat.succ i)
def openOk (ops:List Oper) (its:List Item):Bool:=edgesOk ops 0 && clashOk (ancs ops []) its 0 []
def evReg (E:Env) (ops:List Oper) (draw:Bool) (fr:Fr) (H:Hp) (n:Nat) (K:Fr→Hp→Nat→Prop):Prop :=
 match tr E ops ops [] fr H n with
 | some (its,fr',H',n')=>bif !draw || openOk ops its then allC its (K fr' H' n') else False
 | none=>False
def firstR:Code→Nat
 | .region id _ _=>id
 | .seq a _=>firstR a
 | .block _ c=>firstR c
 | .loop c=>firstR c
 | .cond _ a _=>firstR a
 | .scope c=>firstR c
 | _=>0
def lcOf:List LCtr→Nat→Option LCtr
 | [],_=>none
 | c :: r,k=>bif Nat.beq c.key k then some c else lcOf r k
def flush (fr:Fr):Fr:=fun t=>bif (fr t).g.isEmpty then fr t else topS
def keepFr (ks:List Nat) (xs:List FV):Fr:=fun t=>bif memN t ks then (match xs[idx t ks]? with
  | some x=>⟨[],.v x⟩
  | none=>topS) else topS
def keptOf (fr:Fr) (ks:List Nat):Option (List FV):=fvs (ks.map fun t=>bif (fr t).g.isEmpty then some (fr t).v else none)
def ownC (H:Hp) (n:Nat) (s:Option (EK×Nat)) (c:Cell):Cell×Hp×Nat :=
 match s with
 | some (k,e)=>(match c with
  | .nilS=>(.own n k.size e,upd H n (.arr (.nil k)),Nat.succ n)
  | .own i sz e'=>(match k,H i with
   | .ws,.raw _ _=>(.tail i sz e' 0,H,n)
   | _,_=>(.own i sz e',H,n))
  | c=>(c,H,n))
 | none=>(c,H,n)
def ownCs:List Cell→List (Option (EK×Nat))→Hp→Nat→List Cell×Hp×Nat
 | [],_,H,n=>([],H,n)
 | c :: cs,ss,H,n=>match ss with
  | []=>(c :: cs,H,n)
  | s :: r=>(match ownC H n s c with
   | (c',H',n')=>(match ownCs cs r H' n' with
    | (cs',H'',n'')=>(c' :: cs',H'',n'')))
def ownF (H:Hp) (n:Nat) (ss:List (Option (EK×Nat))) (x:FV):FV×Hp×Nat :=
 match x with
 | .c x=>(match ss with
  | []=>(.c x,H,n)
  | s :: _=>(match ownC H n s x with
   | (x',H',n')=>(.c x',H',n')))
 | .agg cs=>(match ownCs cs ss H n with
  | (cs',H',n')=>(.agg cs',H',n'))
def ownFs:List FV→Shp→Hp→Nat→List FV×Hp×Nat
 | [],_,H,n=>([],H,n)
 | x :: xs,sh,H,n=>match sh with
  | []=>(x :: xs,H,n)
  | ss :: r=>(match ownF H n ss x with
   | (x',H',n')=>(match ownFs xs r H' n' with
    | (xs',H'',n'')=>(x' :: xs',H'',n'')))
def rangeN:Nat→List Nat
 | 0=>[]
 | k + 1=>List.append (rangeN k) [k]
def prefixOk:Nat→List Nat→Bool
 | 0,_=>true
 | k + 1,ids=>Nat.blt k ids.length && Nat.beq (nth k ids) k && prefixOk k ids
def evLoop (c : LCtr) (fr : Fr) (H : Hp) (n : Nat) (Q : Ex → Fr → Hp → Nat → Prop) : Prop :=
  match keptOf fr c.keep with
  | none => False
  | some xs0 => match ownFs xs0 c.shp H n with
   | (xs, H, n) =>
    let ids := gather H 64 (xs.flatMap FV.ids) []
    bif idsOk H n ids xs && allLive H ids && Nat.ble c.pn ids.length then
      c.S (handed H ids) (xs.map (FV.ren fun i => idx i ids)) fun e ys bs =>
        bif Nat.beq ys.length (c.kout e).length && Nat.ble c.pn bs.length then
          Q e (keepFr (c.kout e) (ys.map (FV.ren (sg n (ids.take c.pn))))) (wr H (List.append (deadOf ids) (wsFrom n (ids.take c.pn) 0 bs))) (Nat.add n (Nat.sub bs.length c.pn))
        else False
    else False
def anyAlt {α:Type} (K:α→Prop):List α→Prop
 | []=>False
 | a :: r=>match r with
  | []=>K a
  | _ :: _=>Or (K a) (anyAlt K r)
def ev (E : Env) (L : List LCtr) : Code → (Ex → Fr → Hp → Nat → Prop) → Fr → Hp → Nat → Prop
  | .skip, Q, fr, H, n => Q .normal fr H n
  | .ret, Q, fr, H, n => Q .ret fr H n
  | .exit i, Q, fr, H, n => Q (.exit i) fr H n
  | .seq a b, Q, fr, H, n => ev E L a (fun e fr H n => match e with
      | .normal => (match lcOf E.ct (firstR b) with
        | none => ev E L b Q fr H n
        | some l => evLoop l fr H n Q)
      | e => Q e fr H n) fr H n
  | .block i c, Q, fr, H, n => ev E L c (fun e fr H n => match e with
      | .exit j => bif Nat.beq j i then Q .normal fr H n else Q (.exit j) fr H n
      | e => Q e fr H n) fr H n
  | .cond c a b, Q, fr, H, n => match asC (opnd fr [] c) with
      | some (.bool t) => And (Imp (t = true) (ev E L a Q fr H n)) (Imp (t = false) (ev E L b Q fr H n))
      | _ => False
  | .region id ops draw, Q, fr, H, n => (match E.sp.find? fun e => Nat.beq e.1 id with
      | none => evReg E ops.toList draw (flush fr) H n (Q .normal)
      | some (_, alts) => anyAlt (fun ch => evReg { E with ch := ch } ops.toList draw (flush fr) H n (Q .normal)) alts)
  | .loop c, Q, fr, H, n => match lcOf L (firstR c) with
      | some l => evLoop l fr H n Q
      | none => False
  | _, _, _, _, _ => False
structure LDat where
 key:Nat
 keep:List Nat
 shp:Shp
 σ:Type
 dec:List Blk→List FV→Option σ
 inp:σ→List Blk×List FV
 pre:σ→Prop
 alts:σ→List (Bool×Ex×List FV×List Blk)
 last:σ→Ex×List FV×List Blk
 μ:σ→Nat
 pn:Nat
 kx:Ex→List Nat
 sx:Ex→Shp
def pickAlt {α:Type}:List (Bool×α)→α→α
 | [],l=>l
 | (g,a) :: r,l=>bif g then a else pickAlt r l
def LDat.out (d:LDat) (s:d.σ):Ex×List FV×List Blk:=pickAlt (d.alts s) (d.last s)
def allAlts (K:Ex→List FV→List Blk→Prop):List (Bool×Ex×List FV×List Blk)→Ex×List FV×List Blk→Prop
 | [],l=>K l.1 l.2.1 l.2.2
 | (g,a) :: r,l=>And (Imp (g = true) (K a.1 a.2.1 a.2.2)) (Imp (g = false) (allAlts K r l))
theorem allAlts_pick {K:Ex→List FV→List Blk→Prop}:∀{as:List (Bool×Ex×List FV×List Blk)} {l:Ex×List FV×List Blk},allAlts K as l→K (pickAlt as l).1 (pickAlt as l).2.1 (pickAlt as l).2.2
 | [],l,h=>h
 | (true,a) :: r,l,h=>h.1 rfl
 | (false,a) :: r,l,h=>allAlts_pick (as:=r) (h.2 rfl)
def LDat.Sf (d:LDat) (bs:List Blk) (xs:List FV) (K:Ex→List FV→List Blk→Prop):Prop:=match d.dec bs xs with
 | some s=>And (d.pre s) (allAlts K (d.alts s) (d.last s))
 | none=>False
def LDat.ctr (d:LDat):LCtr:=⟨d.key,d.keep,d.shp,d.Sf,d.kx,d.pn⟩
def LDat.QC (d : LDat) (s : d.σ) (e : Ex) (fr : Fr) (H : Hp) (n : Nat) : Prop :=
  match keptOf fr (d.kx e) with
  | none => False
  | some xs0 => match ownFs xs0 (d.sx e) H n with
   | (xs, H, n) =>
    let ids := gather H 64 (xs.flatMap FV.ids) []
    bif idsOk H n ids xs && allLive H ids && prefixOk d.pn ids then d.out s = (e, xs.map (FV.ren fun i => idx i ids), handed H ids)
    else False
def LDat.Q (d : LDat) (s : d.σ) (e : Ex) (fr : Fr) (H : Hp) (n : Nat) : Prop :=
  match e with
  | .normal => (match keptOf fr d.keep with
    | none => False
    | some xs0 => match ownFs xs0 d.shp H n with
     | (xs, H, n) =>
      let ids := gather H 64 (xs.flatMap FV.ids) []
      bif idsOk H n ids xs && allLive H ids && prefixOk d.pn ids then
        match d.dec (handed H ids) (xs.map (FV.ren fun i => idx i ids)) with
        | some s' => And (d.pre s') (And (d.μ s' < d.μ s) (d.out s' = d.out s))
        | none => False
      else False)
  | e => d.QC s e fr H n
def evBody (E:Env) (L:List LCtr) (c:Code) (d:LDat) (s:d.σ):Prop:=ev E L c (d.Q s) (keepFr d.keep (d.inp s).2) (hpOf (d.inp s).1) (d.inp s).1.length
def argFr (xs:List FV):Fr:=fun t=>match xs[t]? with
 | some x=>⟨[],.v x⟩
 | none=>topS
def resOf (E:Env) (fr:Fr) (H:Hp):ResultVar→Option FV
 | .tmp t=>bif (fr t).g.isEmpty then asFV (some (fr t).v) else none
 | .cell t ty=>(E.T.get ty).bind fun ti=>match asC (opnd fr [] (.tmp t)) with
  | some p=>match aLoad ti H 0 p with
   | some ⟨_,.v x,_,_,_⟩=>(match p with | .ptr _ _=>some x | _=>none)
   | _=>none
  | none=>none
def resAll (E:Env) (fr:Fr) (H:Hp):List ResultVar→Option (List FV)
 | []=>some []
 | r :: rs=>(resOf E fr H r).bind fun x=>(resAll E fr H rs).map fun xs=>x :: xs
def fin1 (k n:Nat) (H:Hp) (xs:List FV) (K:AV→List Blk→Prop):Prop :=
 let ids:=gather H 64 (List.append (xs.flatMap FV.ids) ((rangeN k).flatMap fun i=>(H i).ids)) (rangeN k)
 bif prefixOk k ids && idsOk H n ids xs then
  K (match xs.map (FV.ren fun i=>idx i ids) with
   | [x]=>.v x
   | ys=>.tup ys) (handed H ids)
 else False
def fin0 (tk : List Nat) (k n : Nat) (H : Hp) (xs : List FV) (K : AV → List Blk → Prop) : Prop :=
  match tk with
  | [] => fin1 k n H xs K
  | t :: r => bif Nat.beq t 1000 then (match H 0 with
      | .raw m cs =>
        let ids := gather H 64 (List.append (xs.flatMap FV.ids) (cs.flatMap Cell.ids)) []
        bif idsOk H n ids (.agg cs :: xs) && allLive H ids && !(memN 0 ids) && !(memN 0 r) then
          fin1 k (Nat.add n (handed H ids).length) (upd (wr (wr H (List.append (deadOf ids) (wsFrom n [] 0 (handed H ids)))) (deadOf r)) 0 (.raw m ((cs.map (Cell.ren fun i => idx i ids)).map (Cell.ren (sg n [])))))
            ((xs.map (FV.ren fun i => idx i ids)).map (FV.ren (sg n []))) K
        else False
      | _ => False)
    else
    let ids := gather H 64 (xs.flatMap FV.ids) []
    bif idsOk H n ids xs && allLive H ids then
      fin1 k (Nat.add n (handed H ids).length) (wr (wr H (List.append (deadOf ids) (wsFrom n [] 0 (handed H ids)))) (deadOf tk)) ((xs.map (FV.ren fun i => idx i ids)).map (FV.ren (sg n []))) K
    else False
def fin (lst : Bool) (sh : Shp) (tk : List Nat) (k n : Nat) (H : Hp) (xs0 : List FV) (K : AV → List Blk → Prop) : Prop :=
  match ownFs xs0 sh H n with
  | (xs, H, n) => bif lst then
      (let vs := gather H 64 (xs.flatMap FV.ids) []
       bif froOk H n vs xs then fin0 tk k n (wr H (deadOf vs)) (xs.map fun x => (x.view H).tt) K else False)
    else fin0 tk k n H xs K
def evFn (E : Env) (L : List LCtr) (sh : Shp) (tk : List Nat) (fn : Func) (bs : List Blk) (args : List FV) (K : AV → List Blk → Prop) : Prop :=
  match fn.body with
  | some c => ev E L c (fun e fr H n => match e with
      | .exit _ => False
      | _ => match resAll E (flush fr) H fn.results.toList with
        | some xs => fin E.lst sh tk bs.length n H xs K
        | none => False) (argFr args) (hpOf bs) bs.length
  | none => False
end Hw
end Go.Proofs.YtklmllaggigkfaaGreat
