/- What a Go function computes, told as a function of plain data, and that it is so. Of no condition. Primitive operations on plain data, by which the value machine (TV) computes. The value machine: what a Go function computes, on plain data; slices are lists, who owns them is followed. How the value machine's data stand in memory. -/
import Derived.Calls
import Derived.Orders
import Derived.RowKit3
set_option linter.unusedVariables false
set_option linter.unusedSimpArgs false
namespace Go.TV
def cnd {α:Type} (b:Bool) (x y:α):α:=cond b x y
def bnd {α β:Type} (x:Option α) (f:α→Option β):Option β:=x.bind f
open Classical in
noncomputable def agree {α:Type} (x y:Option α):Option α:=if x=y then x else none
def iadd (k:IntKind) (x y:Int):Int:=k.wrap (x+y)
def isub (k:IntKind) (x y:Int):Int:=k.wrap (x-y)
def imul (k:IntKind) (x y:Int):Int:=k.wrap (x*y)
def iquo (k:IntKind) (x y:Int):Int:=k.wrap (x.tdiv y)
def irem (x y:Int):Int:=x.tmod y
def ineg (k:IntKind) (x:Int):Int:=k.wrap (0-x)
def Czn (op:Nat) (k:IntKind) (x y:Int):Int:=
 let a:=BitVec.ofInt k.bits x
 let b:=BitVec.ofInt k.bits y
 k.wrap (match op with|0=>a&&&b|1=>a|||b|2=>a^^^b|_=>a&&& ~~~b:BitVec k.bits).toNat
def iand (k:IntKind) (x y:Int):Int:=Czn 0 k x y
def ior (k:IntKind) (x y:Int):Int:=Czn 1 k x y
def ixor (k:IntKind) (x y:Int):Int:=Czn 2 k x y
def iandn (k:IntKind) (x y:Int):Int:=Czn 3 k x y
def ishl (k:IntKind) (x y:Int):Int:=k.wrap (x*2^ (min y.toNat k.bits))
def ishr (k:IntKind) (x y:Int):Int:=x.fdiv (2^ (min y.toNat k.bits))
def inot (k:IntKind) (x:Int):Int:=Czn 2 k (if k.signed then-1 else k.max) x
def azx (k:IntKind) (x:Int):Int:=k.wrap x
def ieq (x y:Int):Bool:=x==y
def ine (x y:Int):Bool:=x !=y
def ilt (x y:Int):Bool:=decide (x<y)
def ile (x y:Int):Bool:=decide (x≤y)
def igt (x y:Int):Bool:=decide (x>y)
def ige (x y:Int):Bool:=decide (x≥y)
def imin (x y:Int):Int:=if y<x then y else x
def imax (x y:Int):Int:=if y>x then y else x
def bnot (b:Bool):Bool:=!b
def beqB (a b:Bool):Bool:=a==b
def bneB (a b:Bool):Bool:=!(a==b)
def nz (y:Int):Bool:=y !=0
def nn (y:Int):Bool:=decide (0≤y)
def ssz (s:ByteArray):Int:=s.size
def sat (s:ByteArray) (i:Int):Int:=((s[i.toNat]?).getD 0).toNat
def ssub (s:ByteArray) (i j:Int):ByteArray:=s.extract i.toNat j.toNat
def scat (s t:ByteArray):ByteArray:=s++t
def seq (x y:ByteArray):Bool:=x.toList==y.toList
def sne (x y:ByteArray):Bool:=!(x.toList==y.toList)
def slt (x y:ByteArray):Bool:=Op.bytesLess x.toList y.toList
def sle (x y:ByteArray):Bool:=Op.bytesLess x.toList y.toList||x.toList==y.toList
def sgt (x y:ByteArray):Bool:=!(Op.bytesLess x.toList y.toList||x.toList==y.toList)
def sge (x y:ByteArray):Bool:=!Op.bytesLess x.toList y.toList
def bzv (s:ByteArray):List Int:=s.data.toList.map fun b=>(b.toNat:Int)
def sof (xs:List Int):ByteArray:=⟨(xs.map fun n=>UInt8.ofNat n.toNat).toArray⟩
def len {α:Type} (xs:List α):Int:=xs.length
def rd {α:Type} (z:α) (xs:List α) (i:Int):α:=xs.getD i.toNat z
def upd {α:Type} (xs:List α) (i:Int) (x:α):List α:=xs.set i.toNat x
def app {α:Type} (xs ys:List α):List α:=xs++ys
def rep {α:Type} (n:Int) (x:α):List α:=List.replicate n.toNat x
def sub {α:Type} (xs:List α) (i j:Int):List α:=(xs.take j.toNat).drop i.toNat
def put {α:Type} (xs ys:List α):List α:=ys.take xs.length++xs.drop ys.length
def inb (i n:Int):Bool:=decide (0≤i)&&decide (i<n)
def inb2 (i j n:Int):Bool:=decide (0≤i)&&decide (i≤j)&&decide (j≤n)
def fits (n:Int) (sz:Nat):Bool:=Nat.ble (n.toNat*(sz+1)) 1099511627776
theorem rzZ {n:Int} {sz:Nat} (h0:0≤n):fits n sz=true↔n*((sz+1:Nat):Int)≤1099511627776:=by
 obtain ⟨m,rfl⟩:=Int.eq_ofNat_of_zero_le h0
 unfold fits
 rw[Nat.ble_eq,Int.toNat_natCast,←Int.natCast_mul]
 omega
def both (a b:Bool):Bool:=a&&b
inductive ItemT where
 |mk (list:Bool) (text:ByteArray) (kids:List ItemT)
def ItemT.l:ItemT→Bool| .mk l _ _=>l
def ItemT.s:ItemT→ByteArray| .mk _ s _=>s
def ItemT.k:ItemT→List ItemT| .mk _ _ k=>k
end Go.TV
namespace Go.TV
inductive Ty where
 |int (k:IntKind)|bool|str|sl (t:Ty)|unit|prod (a b:Ty)|item|arr (n:Nat) (t:Ty)
 deriving DecidableEq
@[reducible] def Ty.den:Ty→Type
  | .int _=>Int
  | .bool=>Bool
  | .str=>ByteArray
  | .sl t=>List t.den
  | .unit=>Unit
  | .prod a b=>a.den×b.den
  | .item=>ItemT
  | .arr _ t=>List t.den
def Ty.sz:Ty→Nat
 | .unit=>0
 | .prod a b=>a.sz+b.sz
 | .item=>3
 | .arr n t=>n*t.sz
 |_=>1
def Ty.zero:(t:Ty)→t.den
 | .int _=>(0:Int)
 | .bool=>false
 | .str=>(⟨#[]⟩:ByteArray)
 | .sl _=>[]
 | .unit=>()
 | .prod a b=>(a.zero,b.zero)
 | .item=> .mk false ⟨#[]⟩ []
 | .arr n t=>List.replicate n t.zero
inductive Mk where
 |no|sh|own (pin:Nat) (m:Mk)|pr (a b:Mk)
 deriving DecidableEq
def Mk.l:Mk→Mk| .pr a _=>a| .no=> .no|_=> .sh
def Mk.r:Mk→Mk| .pr _ b=>b| .no=> .no|_=> .sh
def Mk.e:Mk→Mk| .own _ m=>m| .no=> .no|_=> .sh
def Mk.isSh:Mk→Bool| .sh=>true|_=>false
def Mk.all:Mk→Bool
 | .no=>false
 | .sh=>true
 | .own _ m=>m.all
 | .pr a b=>bif a.all then b.all else false
def Mk.mkpr:Mk→Mk→Mk
 | .sh, .sh=> .sh
 |a,b=> .pr a b
def Ty.full:Ty→Mk
 | .sl t=> .own 0 t.full
 | .prod a b=> .mkpr a.full b.full
 | .item=> .own 0 .sh
 |_=> .sh
def Mk.meet:Mk→Mk→Mk
 | .no,_=> .no
 |_, .no=> .no
 | .own p a, .own q b=>bif Nat.beq p q then .own p (a.meet b) else .sh
 | .pr a b, .pr c d=> .mkpr (a.meet c) (b.meet d)
 |_,_=> .sh
def Mk.le:Mk→Mk→Bool
 | .no,_=>true
 | .sh,m=>m.all
 | .own p a, .own q b=>bif Nat.beq p q then a.le b else false
 | .pr a b, .pr c d=>bif a.le c then b.le d else false
 | .pr a b, .sh=>bif a.le .sh then b.le .sh else false
 |_,_=>false
def Mk.eqb:Mk→Mk→Bool
 | .no, .no=>true
 | .sh, .sh=>true
 | .own p a, .own q b=>bif Nat.beq p q then a.eqb b else false
 | .pr a b, .pr c d=>bif a.eqb c then b.eqb d else false
 |_,_=>false
def Mk.sim:Mk→Mk→Bool
 | .sh, .sh=>true
 | .own _ a, .own _ b=>a.sim b
 | .pr a b, .pr c d=>bif a.sim c then b.sim d else false
 |_,_=>false
def bzB (t:Ty) {u:Ty} (x:u.den):Option t.den:=if h:u=t then some (cast (congrArg Ty.den h) x) else none
def isTy (t u:Ty):Bool:=if t=u then true else false
def getAt (t:Ty):(T:Ty)→(o:Nat)→T.den→Option t.den
 | .prod a b,o,x=>
   bif Nat.beq o 0&&isTy (.prod a b) t then bzB t (u:= .prod a b) x
   else bif Nat.ble (o+1) a.sz then getAt t a o x.1 else getAt t b (o-a.sz) x.2
 | .item,o,x=>
   match o with
   |0=>bif isTy .item t then bzB t (u:= .item) x else bzB t (u:= .bool) x.l
   |1=>bzB t (u:= .str) x.s
   |2=>bzB t (u:= .sl .item) x.k
   |_=>none
 |T,o,x=>bif Nat.beq o 0 then bzB t x else none
def setAt (t:Ty) (y:t.den):(T:Ty)→(o:Nat)→T.den→Option T.den
 | .prod a b,o,x=>
   bif Nat.beq o 0&&isTy (.prod a b) t then bzB (.prod a b) y
   else bif Nat.ble (o+1) a.sz then (match setAt t y a o x.1 with|some z=>some (z,x.2)|none=>none)
    else (match setAt t y b (o-a.sz) x.2 with|some z=>some (x.1,z)|none=>none)
 | .item,o,x=>
   match o with
   |0=>bif isTy .item t then bzB .item y else match bzB .bool y with|some y=>some (.mk y x.s x.k)|none=>none
   |1=>match bzB .str y with|some y=>some (.mk x.l y x.k)|none=>none
   |2=>match bzB (.sl .item) y with|some y=>some (.mk x.l x.s y)|none=>none
   |_=>none
 |T,o,x=>bif Nat.beq o 0 then bzB T y else none
def azM (t:Ty):(T:Ty)→(o:Nat)→Mk→Mk
 | .prod a b,o,m=>
   bif Nat.beq o 0&&isTy (.prod a b) t then m
   else bif Nat.ble (o+1) a.sz then azM t a o m.l else azM t b (o-a.sz) m.r
 | .item,o,m=>bif isTy .item t then m else match o with
   |2=>match m with| .pr _ .no=> .no| .pr _ _=> .sh|m=>m
   |_=>match m with| .no=> .no|_=> .sh
 |_,_,m=>m
def azs (t:Ty) (m':Mk):(T:Ty)→(o:Nat)→Mk→Mk
 | .prod a b,o,m=>
   bif Nat.beq o 0&&isTy (.prod a b) t then m'
   else bif Nat.ble (o+1) a.sz then .mkpr (azs t m' a o m.l) m.r else .mkpr m.l (azs t m' b (o-a.sz) m.r)
 | .item,o,m=>bif isTy .item t then m' else match o with
   |2=>match m with
    | .no=> .no
    |_=>match m' with
     | .no=> .pr .sh .no
     |m'=>m'
   |_=>m
 |_,_,m=>m'
def qzr:(T:Ty)→Mk→T.den→T.den→T.den
 | .prod a b,m,x,y=>(qzr a m.l x.1 y.1,qzr b m.r x.2 y.2)
 | .sl _, .own _ _,_,y=>y
 |_,_,x,_=>x
structure Pl where
 bx:Bool
 n:Nat
 o:Nat
 t:Ty
def Pl.meets (p:Pl) (q:Pl):Bool:=(p.bx==q.bx)&&Nat.beq p.n q.n&&(Nat.beq p.t.sz 0||Nat.beq q.t.sz 0||Nat.ble (p.o+1) (q.o+q.t.sz)&&Nat.ble (q.o+1) (p.o+p.t.sz))
def Pl.same (p:Pl) (q:Pl):Bool:=(p.bx==q.bx)&&Nat.beq p.n q.n&&Nat.beq p.o q.o&&isTy p.t q.t
inductive VV where
 |junk
 |undef
 |nilp
 |v (t:Ty) (m:Mk) (x:t.den)
 |ref (p:Pl)
 |sref (p:Pl) (i:Int) (o:Nat) (t:Ty)
 |box (b o:Nat)
 |ep (p:Pl) (i:Int) (o:Nat)
 |cp (t:Ty) (x:t.den) (o:Nat)
 |tup (vs:List VV)
structure St where
 tm:Nat→VV
 bx:Nat→VV
def VV.jr (p:Pl):VV→VV
 | .ref q=>bif p.meets q then .junk else .ref q
 | .sref q i o t=>bif p.meets q then .junk else .sref q i o t
 | .ep q i o=>bif p.meets q then .junk else .ep q i o
 |w=>w
def VV.js (p:Pl):VV→VV
 | .sref q i o t=>bif p.meets q then .junk else .sref q i o t
 |w=>w
def VV.jt (u:Nat):VV→VV
 | .ref q=>bif !q.bx&&Nat.beq q.n u then .junk else .ref q
 | .sref q i o t=>bif !q.bx&&Nat.beq q.n u then .junk else .sref q i o t
 | .ep q i o=>bif !q.bx&&Nat.beq q.n u then .junk else .ep q i o
 |w=>w
def VV.jb (b:Nat):VV→VV
 | .ref q=>bif q.bx&&Nat.beq q.n b then .junk else .ref q
 | .sref q i o t=>bif q.bx&&Nat.beq q.n b then .junk else .sref q i o t
 | .ep q i o=>bif q.bx&&Nat.beq q.n b then .junk else .ep q i o
 | .box c o=>bif Nat.beq c b then .junk else .box c o
 |w=>w
def St.upd (s:St) (u:Nat) (v:VV):St:={s with tm:=fun j=>bif Nat.beq j u then v else s.tm j}
def St.updBx (s:St) (b:Nat) (v:VV):St:={s with bx:=fun j=>bif Nat.beq j b then v else s.bx j}
def St.jr (s:St) (p:Pl):St:={s with tm:=fun j=>(s.tm j).jr p}
def St.js (s:St) (p:Pl):St:={s with tm:=fun j=>(s.tm j).js p}
def St.jt (s:St) (u:Nat):St:={s with tm:=fun j=>(s.tm j).jt u}
def St.jb (s:St) (b:Nat):St:={s with tm:=fun j=>(s.tm j).jb b}
def St.set (s:St) (u:Nat) (v:VV):St:=
 match s.tm u with
 | .v _ .sh _=>s.upd u (v.jt u)
 | .v _ _ _=>(s.jt u).upd u (v.jt u)
 |_=>s.upd u (v.jt u)
def St.put (s:St) (d:Option Nat) (v:VV):St:=
 match d with
 |none=>s
 |some d=>s.set d v
def St.new (s:St) (b:Nat) (v:VV):St:=(s.jb b).updBx b v
def St.root (s:St) (bx:Bool) (n:Nat):VV:=bif bx then s.bx n else s.tm n
def St.setRoot (s:St) (bx:Bool) (n:Nat) (v:VV):St:=bif bx then s.updBx n v else s.upd n v
def St.get (s:St) (p:Pl):Option (p.t.den×Mk):=
 match s.root p.bx p.n with
 | .v T m x=>match getAt p.t T p.o x with
   |some y=>some (y,azM p.t T p.o m)
   |none=>none
 |_=>none
def St.setPl (s:St) (p:Pl) (m':Mk) (y:p.t.den):Option St:=
 match s.root p.bx p.n with
 | .v T m x=>match setAt p.t y T p.o x with
   |some z=>some (s.setRoot p.bx p.n (.v T (azs p.t m' T p.o m) z))
   |none=>none
 |_=>none
def St.maskPl (s:St) (p:Pl) (m':Mk):St:=
 match s.root p.bx p.n with
 | .v T m x=>s.setRoot p.bx p.n (.v T (azs p.t m' T p.o m) x)
 |_=>s
def St.out (s:St) (p:Pl):St:=(s.maskPl p .no).jr p
def St.frz (s:St) (p:Pl) (y:p.t.den):St:=
 let s':=s.maskPl p .sh
 {s' with tm:=fun j=>match s'.tm j with
  | .ref q=>bif p.same q then .v p.t .sh y else (VV.ref q).jr p
  |w=>w.jr p}
def VV.as (t:Ty):VV→Option (t.den×Mk)
 | .v u m x=>match bzB t x with|some y=>some (y,m)|none=>none
 |_=>none
def VV.kn:VV→VV
 | .v t m x=>match m with
   | .no=> .junk
   |m=> .v t m x
 |w=>w
def St.res (s:St):VV→VV
 | .ref p=>match s.get p with
   |some (y,m)=>VV.kn (.v p.t m y)
   |none=> .junk
 | .sref p i o t=>match p.t,s.get p with
   | .sl T,some (xs,m)=>match getAt t T o (rd T.zero xs i) with
     |some y=>VV.kn (.v t (azM t T o m.e) y)
     |none=> .junk
   |_,_=> .junk
 |w=>w.kn
def St.peek (s:St) (t:Ty) (w:VV):Option (t.den×Mk):=
 match (s.res w).as t with
 |some (y,m)=>bif m.all then some (y,m) else none
 |none=>none
inductive LV where
 |val (u:Nat) (t:Ty) (m:Mk)|box (b:Nat) (t:Ty) (m:Mk)|ptr (u b o:Nat)|ref (u:Nat) (p:Pl)
 |ep (u:Nat) (p:Pl) (o:Nat)|cp (u:Nat) (t:Ty) (o:Nat)
@[reducible] def izX:List LV→Type
  | []=>Unit
  | .val _ t _::ls=>t.den×izX ls
  | .box _ t _::ls=>t.den×izX ls
  | .ptr _ _ _::ls=>izX ls
  | .ref _ _::ls=>izX ls
  | .ep _ _ _::ls=>Int×izX ls
  | .cp _ t _::ls=>t.den×izX ls
structure Cut (R:Type) where
 live:List LV
 f:izX live→Option R
structure Par where
 t:Ty
 m:Mk:= .sh
 io:Bool:=false
 ptr:Bool:=false
 bx:Option Nat:=none
@[reducible] def azQ:List Par→Type
  | []=>Unit
  |p::ps=>p.t.den×azQ ps
structure Rt where
 t:Ty
 m:Mk:= .sh
 ptr:Bool:=false
@[reducible] def bzR:List Rt→Type
  | []=>Unit
  |r::rs=>r.t.den×bzR rs
@[reducible] def azP:List Par→Type
  | []=>Unit
  | ⟨t,_,true,_,_⟩::ps=>t.den×azP ps
  | ⟨_,_,false,_,_⟩::ps=>azP ps
structure Sig where
 ps:List Par
 rs:List Rt
 alias:Bool
 f:azQ ps→Option (bzR rs×azP ps)
structure Env (R:Type) where
 tt:Nat→Option Ty
 gl:Nat→Option VV:=fun _=>none
 call:Nat→Option Sig
 joins:List Nat
 cut:Nat→Option (Cut R)
 fz:List Nat:=[]
inductive Ev where
 |ok (w:VV) (s:St)
 |chk (g:Bool) (w:VV) (s:St)
 |call (σ:Sig) (x:azQ σ.ps) (k:bzR σ.rs×azP σ.ps→Option (VV×St))
 |any (z:Bool) (b:Bool) (s:St)
section
variable {R:Type} (E:Env R)
def zz3 (t:Nat):Value→VV
 | .int k n=> .v (.int k) .sh n
 | .bool b=> .v .bool .sh b
 | .string s=> .v .str .sh s
 | .pointer none=> .nilp
 | .slice none 0 0=>match E.tt t with
   |some (.sl e)=> .v (.sl e) (.own 0 e.full) []
   |_=> .junk
 |_=> .junk
def opd (t:Nat) (s:St):Operand→VV
 | .tmp u=>s.tm u
 | .const v=>zz3 E t v
 | .global g=>match E.gl g with|some (.cp t x o)=> .cp t x o|_=> .junk
 | .func _=> .junk
def opdT (T:Ty) (t:Nat) (s:St):Operand→VV
 | .const (.slice none 0 0)=>match T with
   | .sl e=> .v (.sl e) (.own 0 e.full) []
   |_=> .junk
 |x=>opd E t s x
def dz7:Operand→Bool
 | .tmp u=>E.fz.contains u
 |_=>false
def grab (s:St) (x:Operand) (w:VV):Option (VV×St):=
 match w with
 | .v T m a=>match x with
   | .tmp u=>match m with
     | .sh=>some (.v T .sh a,s)
     |m=>bif dz7 E x then (bif m.all then some (.v T .sh a,s.frz ⟨false,u,0,T⟩ a) else none) else some (.v T m a,s.out ⟨false,u,0,T⟩)
   |_=>some (.v T m a,s)
 | .ref p=>match s.get p with
   |some (y,m)=>bif dz7 E x then some (.v p.t .sh y,s.frz p y) else some (.v p.t m y,s.out p)
   |none=>none
 |_=>none
def grabT (T:Ty) (s:St) (x:Operand) (t:Nat):Option (T.den×Mk×St):=
 match grab E s x (opdT E T t s x) with
 |some (w,s)=>match w.as T with
  |some (y,m)=>bif m.all then some (y,m,s) else none
  |none=>none
 |none=>none
def qzZ:(ls:List LV)→St→Option (izX ls)
 | [],_=>some ()
 | .val u t m::ls,s=>match s.tm u with
   | .v T m' a=>bif m.le m' then (match bzB t a with
    |some y=>(match qzZ ls s with|some r=>some (y,r)|none=>none)
    |none=>none) else none
   |_=>none
 | .box b t m::ls,s=>match s.bx b with
   | .v T m' a=>bif m.le m' then (match bzB t a with
     |some y=>(match qzZ ls s with|some r=>some (y,r)|none=>none)
     |none=>none) else none
   |_=>none
 | .ptr u b o::ls,s=>match s.tm u with
   | .box b' o'=>bif Nat.beq b b'&&Nat.beq o o' then qzZ ls s else none
   |_=>none
 | .ref u p::ls,s=>match s.tm u with
   | .ref q=>bif p.same q then qzZ ls s else none
   |_=>none
 | .ep _ _ _::_,_=>none
 | .cp _ _ _::_,_=>none
def lvMk:(ls:List LV)→izX ls→St→St
 | [],_,s=>s
 | .val u t m::ls,x,s=>lvMk ls x.2 (s.upd u (.v t m x.1))
 | .box b t m::ls,x,s=>lvMk ls x.2 (s.updBx b (.v t m x.1))
 | .ptr u b o::ls,x,s=>lvMk ls x (s.upd u (.box b o))
 | .ref u p::ls,x,s=>lvMk ls x (s.upd u (.ref p))
 | .ep u p o::ls,x,s=>lvMk ls x.2 (s.upd u (.ep p x.1 o))
 | .cp u t o::ls,x,s=>lvMk ls x.2 (s.upd u (.cp t x.1 o))
def St.init:St:=⟨fun _=> .junk,fun _=> .junk⟩
def gza:List Nat→Bool
 | []=>true
 |x::xs=>bif xs.any (fun y=>Nat.beq x y) then false else gza xs
def qzG:List LV→St→Bool
 | [],_=>true
 | .ref _ p::ls,s=>match s.get p with
   |some (_,m)=>bif m.all&&!m.isSh then qzG ls s else false
   |none=>false
 |_::ls,s=>qzG ls s
def dzD:List LV→List Nat
 | []=>[]
 | .val u _ _::ls=>(2*u)::dzD ls
 | .box b _ _::ls=>(2*b+1)::dzD ls
 | .ptr u _ _::ls=>(2*u)::dzD ls
 | .ref u _::ls=>(2*u)::dzD ls
 | .ep u _ _::ls=>(2*u)::dzD ls
 | .cp u _ _::ls=>(2*u)::dzD ls
def gzU (r:Nat) (s:St):Option R:=
 match E.cut r with
 |some c=>match qzZ c.live s with
  |some x=>bif qzG c.live (lvMk c.live x .init)&&gza (dzD c.live) then c.f x else none
  |none=>none
 |none=>none
def Aze (op:BinOp) (k:IntKind) (x y:Int) (s:St):Option Ev:=
 match op with
 | .add=>some (.ok (.v (.int k) .sh (iadd k x y)) s)
 | .sub=>some (.ok (.v (.int k) .sh (isub k x y)) s)
 | .mul=>some (.ok (.v (.int k) .sh (imul k x y)) s)
 | .quo=>some (.chk (nz y) (.v (.int k) .sh (iquo k x y)) s)
 | .rem=>some (.chk (nz y) (.v (.int k) .sh (irem x y)) s)
 | .and=>some (.ok (.v (.int k) .sh (iand k x y)) s)
 | .or=>some (.ok (.v (.int k) .sh (ior k x y)) s)
 | .xor=>some (.ok (.v (.int k) .sh (ixor k x y)) s)
 | .andNot=>some (.ok (.v (.int k) .sh (iandn k x y)) s)
 | .eql=>some (.ok (.v .bool .sh (ieq x y)) s)
 | .neq=>some (.ok (.v .bool .sh (ine x y)) s)
 | .lss=>some (.ok (.v .bool .sh (ilt x y)) s)
 | .leq=>some (.ok (.v .bool .sh (ile x y)) s)
 | .gtr=>some (.ok (.v .bool .sh (igt x y)) s)
 | .geq=>some (.ok (.v .bool .sh (ige x y)) s)
 |_=>none
def zzX (op:BinOp) (x y:ByteArray) (s:St):Option Ev:=
 match op with
 | .eql=>some (.ok (.v .bool .sh (seq x y)) s)
 | .neq=>some (.ok (.v .bool .sh (sne x y)) s)
 | .lss=>some (.ok (.v .bool .sh (slt x y)) s)
 | .leq=>some (.ok (.v .bool .sh (sle x y)) s)
 | .gtr=>some (.ok (.v .bool .sh (sgt x y)) s)
 | .geq=>some (.ok (.v .bool .sh (sge x y)) s)
 | .add=>some (.chk (fits (ssz x+ssz y) 1) (.v .str .sh (scat x y)) s)
 |_=>none
def teq:(t:Ty)→t.den→t.den→Option Bool
 | .int _,a,b=>some (ieq a b)
 | .bool,a,b=>some (beqB a b)
 | .str,a,b=>some (seq a b)
 | .unit,_,_=>some true
 | .prod a b,x,y=>match teq a x.1 y.1,teq b x.2 y.2 with
   |some p,some q=>some (both p q)
   |_,_=>none
 |_,_,_=>none
def iiEv (op:BinOp) (k k':IntKind) (a b:Int) (s:St):Option Ev:=match op with
 | .shl=>some (.chk (nn b) (.v (.int k) .sh (ishl k a b)) s)
 | .shr=>some (.chk (nn b) (.v (.int k) .sh (ishr k a b)) s)
 |op=>if k=k' then Aze op k a b s else none
def bbEv (op:BinOp) (t:Nat) (a b:Bool) (s:St):Option Ev:=match E.tt t,op with
 |some .bool, .eql=>some (.ok (.v .bool .sh (beqB a b)) s)
 |some .bool, .neq=>some (.ok (.v .bool .sh (bneB a b)) s)
 |_,_=>none
def prEv (op:BinOp) (t:Nat) (s:St) (x y:VV):Option Ev:=match E.tt t with
 |some (.prod a b)=>match s.peek (.prod a b) x,s.peek (.prod a b) y with
  |some (p,_),some (q,_)=>match teq (.prod a b) p q,op with
   |some r, .eql=>some (.ok (.v .bool .sh r) s)
   |some r, .neq=>some (.ok (.v .bool .sh (bnot r)) s)
   |_,_=>none
  |_,_=>none
 |_=>none
def Dze (op:BinOp) (t:Nat) (s:St) (x y:VV):Option Ev:=
 match s.res x,s.res y with
 | .v (.int k) _ a, .v (.int k') _ b=>iiEv op k k' a b s
 | .v .str _ a, .v .str _ b=>zzX op a b s
 | .v .bool _ a, .v .bool _ b=>bbEv E op t a b s
 |x,y=>prEv E op t s x y
def nilB:Operand→Bool
 | .const (.slice none 0 0)=>true
 |_=>false
def Pz4 (op:BinOp) (t:Nat) (s:St) (w:VV):Option Ev:=match E.tt t,w,op with
 |some (.sl _), .v (.sl _) _ xs, .eql=>some (.any (ieq (len xs) 0) false s)
 |some (.sl _), .v (.sl _) _ xs, .neq=>some (.any (ieq (len xs) 0) true s)
 |_,_,_=>none
def azX:Ty→Nat→Option Nat
 | .prod _ _,0=>some 0
 | .prod a b,f+1=>match azX b f with|some o=>some (a.sz+o)|none=>none
 | .item,f=>bif Nat.ble f 2 then some f else none
 |_,_=>none
def czR:Ty→Nat→Option Ty
 | .prod a _,0=>some a
 | .prod _ b,f+1=>czR b f
 | .item,0=>some .bool
 | .item,1=>some .str
 | .item,2=>some (.sl .item)
 |_,_=>none
def shV:VV→Bool
 | .v _ .sh _=>true
 |_=>false
def czZ (s:St) (x:Operand) (w:VV):Option Ev:=
 match w with
 | .v t m a=>match m with
   | .sh=>some (.ok (.v t .sh a) s)
   |m=>match x with
    | .tmp u=>bif m.all then some (.ok (.ref ⟨false,u,0,t⟩) s) else none
    |_=>some (.ok (.v t m a) s)
 | .junk=>none
 | .undef=>none
 | .tup vs=>match x with
   | .tmp u=>some (.ok (.tup vs) (bif vs.all shV then s else s.upd u .junk))
   |_=>none
 |w=>some (.ok w s)
def pzC (s:St) (x:Operand) (t:Nat):Option Ev:=
 match opd E t s x with
 | .v _ _ _| .ref _=>match grab E s x (opd E t s x) with
   |some (w,s)=>some (.ok w s)
   |none=>none
 | .junk=>none
 | .undef=>none
 | .tup _=>none
 |w=>some (.ok w s)
def uzt (s:St) (x:Operand) (w:VV) (i:Int) (T:Ty):Option Ev:=
 match w with
 | .v (.sl t) m xs=>bif isTy T (.sl t) then (match m with
   | .sh=>some (.chk (inb i (len xs)) (.cp t (rd t.zero xs i) 0) s)
   | .own _ _=>match x with
     | .tmp u=>some (.chk (inb i (len xs)) (.ep ⟨false,u,0, .sl t⟩ i 0) s)
     |_=>none
   |_=>none) else none
 | .ref ⟨bx,n,q, .sl t⟩=>bif isTy T (.sl t) then (match s.get ⟨bx,n,q, .sl t⟩ with
   |some (xs, .own _ _)=>some (.chk (inb i (len xs)) (.ep ⟨bx,n,q, .sl t⟩ i 0) s)
   |_=>none) else none
 | .cp U xs o=>match T with
   | .arr n t=>match getAt (.arr n t) U o xs with
     |some xs=>some (.chk (inb i n) (.cp t (rd t.zero xs i) 0) s)
     |none=>none
   |_=>none
 | .box b o=>match T with
   | .arr n t=>some (.chk (inb i n) (.ep ⟨true,b,o, .arr n t⟩ i 0) s)
   |_=>none
 |_=>none
def zzi (s:St) (T:Ty) (w:VV):Option Ev:=
 match w with
 | .cp U a p=>match getAt T U p a with
   |some y=>some (.ok (.v T .sh y) s)
   |none=>none
 | .ep p i o=>match p.t,s.get p with
   | .sl U,some (xs,m)=>match getAt T U o (rd U.zero xs i) with
     |some y=>match azM T U o m.e with
      | .sh=>some (.ok (.v T .sh y) s)
      | .own _ _=>some (.ok (.sref p i o T) s)
      |_=>none
     |none=>none
   | .arr _ U,some (xs,m)=>match getAt T U o (rd U.zero xs i) with
     |some y=>bif m.all then some (.ok (.v T .sh y) s) else none
     |none=>none
   |_,_=>none
 | .box b o=>match s.get ⟨true,b,o,T⟩ with
   |some (y,m)=>match m with
    | .sh=>some (.ok (.v T .sh y) s)
    |m=>bif m.all then some (.ok (.ref ⟨true,b,o,T⟩) s) else none
   |none=>none
 |_=>none
def Fzc (s:St) (T:Ty) (w:VV) (y:Operand) (t:Nat):Option Ev:=
 match grabT E T s y t with
 |some (a,m,s)=>match w with
  | .box b o=>match s.setPl ⟨true,b,o,T⟩ m a with
    |some s=>some (.ok .junk (s.jr ⟨true,b,o,T⟩))
    |none=>none
  | .ep p i o=>match p with
    | ⟨bx,n,o', .sl U⟩=>match s.get ⟨bx,n,o', .sl U⟩ with
      |some (xs, .own pin me)=>match setAt T a U o (rd U.zero xs i) with
       |some z=>bif (azs T m U o me).eqb me then (match s.setPl ⟨bx,n,o', .sl U⟩ (.own pin me) (upd xs i z) with
        |some s=>some (.ok .junk (s.js ⟨bx,n,o', .sl U⟩))
        |none=>none) else none
       |none=>none
      |_=>none
    | ⟨bx,n,o', .arr k U⟩=>match s.get ⟨bx,n,o', .arr k U⟩ with
      |some (xs,M)=>match setAt T a U o (rd U.zero xs i) with
       |some z=>bif m.isSh&&M.all then (match s.setPl ⟨bx,n,o', .arr k U⟩ M (upd xs i z) with
        |some s=>some (.ok .junk (s.jr ⟨bx,n,o', .arr k U⟩))
        |none=>none) else none
       |none=>none
      |none=>none
    |_=>none
  |_=>none
 |none=>none
def uzi (s:St) (x:Operand) (T:Ty) (f:Nat) (w:VV):Option Ev:=
 match azX T f,czR T f with
 |some o,some t=>match w with
  | .v U m a=>bif isTy T U then (match getAt t U o a with
    |some y=>match azM t U o m with
     | .sh=>some (.ok (.v t .sh y) s)
     |m'=>match x with
      | .tmp u=>bif m'.all then some (.ok (.v t m' y) (s.out ⟨false,u,o,t⟩)) else none
      |_=>none
    |none=>none) else none
  | .ref p=>bif isTy T p.t then (match s.get ⟨p.bx,p.n,p.o+o,t⟩ with
    |some (y,m)=>match m with
     | .sh=>some (.ok (.v t .sh y) s)
     |m=>bif m.all then some (.ok (.ref ⟨p.bx,p.n,p.o+o,t⟩) s) else none
    |none=>none) else none
  |_=>none
 |_,_=>none
def yzc (ps:List (Nat×Operand)) (T:Ty) (i:Nat) (s:St):Option (T.den×Mk×St):=
 match ps.find? (fun p=>Nat.beq p.1 i) with
 |some (_,x)=>grabT E T s x 0
 |none=>some (T.zero,T.full,s)
def bzM (n:Nat):List (Nat×Operand)→Bool
 | []=>true
 |p::ps=>bif Nat.ble (p.1+1) n&&!(ps.any fun q=>Nat.beq q.1 p.1) then bzM n ps else false
def bzY:Ty→Nat
 | .prod _ b=>bzY b+1
 | .item=>3
 |_=>0
def ezu (ps:List (Nat×Operand)):(T:Ty)→(f:Nat)→St→Option (T.den×Mk×St)
 | .unit,_,s=>some ((), .sh,s)
 | .prod a b,f,s=>
   match yzc E ps a f s with
   |some (x,m,s)=>match ezu ps b (f+1) s with
    |some (y,n,s)=>some ((x,y), .mkpr m n,s)
    |none=>none
   |none=>none
 | .item,_,s=>
   match yzc E ps .bool 0 s with
   |some (l,_,s)=>match yzc E ps .str 1 s with
    |some (t,_,s)=>match yzc E ps (.sl .item) 2 s with
     |some (k, .own 0 _,s)=>some (.mk l t k, .own 0 .sh,s)
     |some (k, .sh,s)=>some (.mk l t k, .sh,s)
     |_=>none
    |none=>none
   |none=>none
 |_,_,_=>none
def nzA (t:Ty) (ps:List (Nat×Operand)):(i:Nat)→(n:Nat)→St→Option (List t.den×Mk×St)
 |_,0,s=>some ([],t.full,s)
 |i,n+1,s=>
  match yzc E ps t i s with
  |some (x,m,s)=>match nzA t ps (i+1) n s with
   |some (r,m',s)=>some (x::r,m.meet m',s)
   |none=>none
  |none=>none
def slT (t:Nat):Bool:=match E.tt t with|some (.sl _)=>true|some .str=>true|_=>false
def tyIs (t:Nat) (T:Ty):Bool:=match E.tt t with|some U=>isTy U T|none=>false
def Bzj (s:St) (t t2:Nat) (x y:Operand):Option Ev:=
 match grab E s x (opd E t s x) with
 |some (.v (.sl e) (.own 0 m) xs,s)=>bif m.all&&tyIs E t (.sl e)&&slT E t2 then (match s.res (opd E t s y) with
  | .v .str _ b=>match bzB (.sl e) (u:= .sl (.int .u8)) (bzv b) with
    |some b=>some (.chk (fits (len xs+len b) e.sz) (.v (.sl e) (.own 0 .sh) (app xs b)) s)
    |none=>none
  | .v u m' ys=>match bzB (.sl e) (u:=u) ys with
    |some ys=>bif e.full.isSh then (bif m'.all then some (.chk (fits (len xs+len ys) e.sz) (.v (.sl e) (.own 0 .sh) (app xs ys)) s) else none)
     else match grabT E (.sl e) s y t with
      |some (ys,m',s)=>some (.chk (fits (len xs+len ys) e.sz) (.v (.sl e) (.own 0 (m.meet m'.e)) (app xs ys)) s)
      |none=>none
    |none=>none
  |_=>none) else none
 |_=>none
def qzz (s:St):Option VV→Option (Option Int)
 |none=>some none
 |some w=>match s.res w with
  | .v (.int _) _ i=>some (some i)
  |_=>none
def bzT (lo hi:Option Int) (n:Int):Int×Int:=(match lo with|none=>0|some i=>i,match hi with|none=>n|some j=>j)
def tzI (s:St) (x:Operand) (t:Nat) (lo hi mx:Option VV):Option Ev:=
 match mx with
 |some _=>none
 |none=>
  match qzz s lo,qzz s hi with
  |some lo,some hi=>match E.tt t,s.res (opd E t s x) with
   |some .str, .v .str _ a=>match bzT lo hi (ssz a) with
    | (i,j)=>some (.chk (inb2 i j (ssz a)) (.v .str .sh (ssub a i j)) s)
   |some (.sl e'), .v (.sl e) m xs=>bif isTy e' e then (match m with
    | .sh=>match bzT lo hi (len xs) with
      | (i,j)=>some (.chk (inb2 i j (len xs)) (.v (.sl e) .sh (sub xs i j)) s)
    |_=>match lo with
     |none=>match grab E s x (opd E t s x) with
      |some (.v (.sl e) (.own 0 m) xs,s)=>match bzT none hi (len xs) with
       | (i,j)=>some (.chk (inb2 i j (len xs)) (.v (.sl e) (.own 0 m) (sub xs i j)) s)
      |_=>none
     |some lo=>match (match opd E t s x,x with
      | .ref p,_=>(match s.get p with|some (a,_)=>some (VV.v p.t .sh a,s.frz p a)|none=>none)
      | .v t m a, .tmp u=>(bif m.all&&!m.isSh then some (.v t .sh a,s.frz ⟨false,u,0,t⟩ a) else none)
      |_,_=>none) with
      |some (.v (.sl e) .sh xs,s)=>bif isTy e' e then (match bzT (some lo) hi (len xs) with
       | (i,j)=>some (.chk (inb2 i j (len xs)) (.v (.sl e) .sh (sub xs i j)) s)) else none
      |_=>none) else none
   |_,_=>none
  |_,_=>none
def wz8 (s:St) (a b:Nat) (w:VV):Option Ev:=
 match E.tt a,E.tt b,s.res w with
 |some (.int _),some (.int k), .v (.int _) _ n=>some (.ok (.v (.int k) .sh (azx k n)) s)
 |some .str,some .str, .v .str _ x=>some (.ok (.v .str .sh x) s)
 |some .str,some (.sl (.int .u8)), .v .str _ x=>some (.ok (.v (.sl (.int .u8)) (.own 0 .sh) (bzv x)) s)
 |some (.sl (.int .u8)),some .str, .v (.sl (.int .u8)) m xs=>bif m.all then some (.ok (.v .str .sh (sof xs)) s) else none
 |_,_,_=>none
def dzF:Mk→Bool
 | .own p m=>bif Nat.beq p 0 then dzF m else false
 | .pr a b=>bif dzF a then dzF b else false
 |_=>true
def izq:Mk→Bool
 | .sh=>true
 | .own _ m=>bif m.all then dzF m else false
 | .pr a b=>bif izq a then izq b else false
 | .no=>false
def alone:Ty→Mk→Bool
 | .prod a b,m=>bif alone a m.l then alone b m.r else false
 | .sl t, .own _ m=>alone t m
 | .sl _,_=>false
 | .item,_=>false
 | .arr _ t,_=>alone t .sh
 |_,_=>true
def qzc:Ty→Mk→Bool
 |_, .sh=>true
 | .prod a b, .pr m n=>bif qzc a m then qzc b n else false
 | .sl _, .own pin me=>bif Nat.beq pin 0 then false else dzF me
 |_,_=>false
def rzi:Mk→List Nat
 | .own p _=>[p]
 | .pr a b=>rzi a++rzi b
 |_=>[]
def Par.lent (p:Par):Bool:=p.io&&!p.ptr
def Sig.ok (σ:Sig):Bool:=
 (σ.alias||(σ.rs.all (fun r=>alone r.t r.m)&&σ.ps.all fun p=>!p.io||alone p.t p.m))&&σ.rs.all (fun r=>dzF r.m&&r.m.all)&&σ.ps.all (fun p=>bif p.lent then qzc p.t p.m else (dzF p.m&&p.m.all))&&
  gza (σ.ps.flatMap fun p=>bif p.lent then rzi p.m else [])&&Nat.ble σ.ps.length 1000&&Nat.ble σ.rs.length 1000&&σ.ps.all (fun p=>!p.ptr||p.io)
inductive Tk where
 |no
 |box (b:Nat) (t:Ty)
 |at (p:Pl) (m:Mk) (z:p.t.den)
 |el (bx:Bool) (n q:Nat) (U:Ty) (pin:Nat) (me:Mk) (xs:(Ty.sl U).den) (i:Int) (o:Nat) (t:Ty) (z:t.den)
def VV.lb (b:Nat):VV→VV
 | .ref q=>bif q.bx&&Nat.beq q.n b then .junk else .ref q
 | .sref q i o t=>bif q.bx&&Nat.beq q.n b then .junk else .sref q i o t
 | .ep q i o=>bif q.bx&&Nat.beq q.n b then .junk else .ep q i o
 |w=>w
def St.lb (s:St) (b:Nat):St:=⟨fun j=>(s.tm j).lb b,fun c=>bif Nat.beq c b then .junk else s.bx c⟩
def Hzg (t:Ty) (m':Mk) (p:Pl) (s:St):Option (t.den×Tk×St):=
 match s.get p with
 |some (y,m)=>match bzB t (u:=p.t) y with
  |some x=>bif m'.sim m&&izq m then some (x, .at p m y,s.out p) else none
  |none=>none
 |none=>none
def LzE (p:Par) (x:Operand) (s:St):Option (p.t.den×Tk×St):=
 bif p.ptr then
  match opd E 0 s x with
  | .box b 0=>match s.bx b with
    | .v T m y=>match bzB p.t (u:=T) y with
      |some y=>bif p.m.le m then some (y, .box b p.t,s.lb b) else none
      |none=>none
    |_=>none
  |_=>none
 else bif p.io then
  match opd E 0 s x with
  | .ref q=>Hzg p.t p.m q s
  | .v T m a=>match x with
    | .tmp u=>Hzg p.t p.m ⟨false,u,0,T⟩ s
    |_=>none
  | .sref ⟨bx,n,q, .sl U⟩ i o t=>match s.get ⟨bx,n,q, .sl U⟩ with
    |some (xs, .own pin me)=>match getAt t U o (rd U.zero xs i) with
     |some z=>match bzB p.t (u:=t) z with
      |some y=>bif p.m.sim (azM t U o me)&&izq (azM t U o me)&&me.all&&(azs t (azM t U o me) U o me).eqb me then some (y, .el bx n q U pin me xs i o t z,s.out ⟨bx,n,q, .sl U⟩) else none
      |none=>none
     |none=>none
    |_=>none
  |_=>none
 else bif p.m.isSh then some (p.t.zero, .no,s)
 else match grabT E p.t s x 0 with
  |some (y,m,s)=>bif p.m.le m then some (y, .no,s) else none
  |none=>none
def fz7:(ps:List Par)→List Operand→St→Option (azQ ps×List Tk×St)
 | [],[],s=>some ((),[],s)
 |p::ps,x::xs,s=>
  match LzE E p x s with
  |some (y,tk,s)=>match fz7 ps xs s with
   |some (r,tks,s)=>some ((y,r),tk::tks,s)
   |none=>none
  |none=>none
 |_,_,_=>none
def ezj (al:Bool):(ps:List Par)→List Operand→azQ ps→St→Option (azQ ps×St)
 | [],[],_,s=>some ((),s)
 |p::ps,x::xs,y,s=>
  bif p.ptr||p.io||!p.m.isSh then
   (match ezj al ps xs y.2 s with|some (r,s)=>some ((y.1,r),s)|none=>none)
  else match s.peek p.t (opdT E p.t 0 s x) with
   |some (z,m)=>(match (bif al&&!m.isSh then
    (match opdT E p.t 0 s x,x with
    | .ref p,_=>(match s.get p with|some (a,_)=>some (s.frz p a)|none=>none)
    | .v t m a, .tmp u=>some (s.frz ⟨false,u,0,t⟩ a)
    | .v _ _ _, .const _=>some s
    |_,_=>none) else some s) with
    |some s=>(match ezj al ps xs y.2 s with|some (r,s)=>some ((z,r),s)|none=>none)
    |none=>none)
   |none=>none
 |_,_,_,_=>none
def tkBx:Tk→Option Nat
 | .at p _ _=>bif p.bx then some p.n else none
 | .el bx n _ _ _ _ _ _ _ _ _=>bif bx then some n else none
 |_=>none
def FzL (tks:List Tk):Bool:=tks.all fun t=>match t with
 | .box b _=>tks.all fun u=>match tkBx u with
   |some n=>!(Nat.beq n b)
   |none=>true
 |_=>true
def bzL:(ps:List Par)→List Tk→azP ps→St→Option St
 | ⟨t,m,true,true,_⟩::ps, .box b _::tks,y,s=>match s.bx b with
   | .junk=>bzL ps tks y.2 (s.updBx b (.v t m y.1))
   |_=>none
 | ⟨t,m,true,false,_⟩::ps, .at p m' z::tks,y,s=>match bzB p.t (u:=t) y.1 with
   |some y1=>(match s.setPl p m' (qzr p.t m z y1) with
    |some s=>bzL ps tks y.2 (s.jr p)
    |none=>none)
   |none=>none
 | ⟨t,m,true,false,_⟩::ps, .el bx n q U pin me xs i o t' z::tks,y,s=>match bzB t' (u:=t) y.1 with
   |some y1=>match setAt t' (qzr t' m z y1) U o (rd U.zero xs i) with
    |some z'=>(match s.setPl ⟨bx,n,q, .sl U⟩ (.own pin me) (upd xs i z') with
     |some s=>bzL ps tks y.2 (s.jr ⟨bx,n,q, .sl U⟩)
     |none=>none)
    |none=>none
   |none=>none
 | ⟨_,_,false,_,_⟩::ps,_::tks,y,s=>bzL ps tks y s
 | [],[],_,s=>some s
 |_,_,_,_=>none
def rsVV:(rs:List Rt)→bzR rs→Option (List VV)
 | [],_=>some []
 | ⟨t,m,false⟩::rs,x=>match rsVV rs x.2 with|some ws=>some (.v t m x.1::ws)|none=>none
 | ⟨_,_,true⟩::_,_=>none
def nzT (d:Option Nat) (s:St):(rs:List Rt)→bzR rs→Option (VV×St)
 | [⟨t,m,true⟩],x=>(match d with|some b=>some (.box b 0,s.new b (.v t m x.1))|none=>none)
 | [⟨t,m,false⟩],x=>some (.v t m x.1,s)
 |rs,x=>match rsVV rs x with|some ws=>some (.tup ws,s)|none=>none
def gzf (s:St) (d:Option Nat) (σ:Sig) (xs:List Operand):Option Ev:=
 match fz7 E σ.ps xs s with
 |some (x0,tks,s1)=>match ezj E σ.alias σ.ps xs x0 s1 with
  |some (x,s2)=>bif FzL tks then some (.call σ x fun r=>match bzL σ.ps tks r.2 s2 with
   |some s3=>nzT d s3 σ.rs r.1
   |none=>none) else none
  |none=>none
 |none=>none
def czj (s:St) (b:Builtin) (ts:List Nat) (xs:List Operand):Option Ev:=
 match b,xs with
 | .len,[x]=>match ts with
   | []=>none
   |t::_=>match E.tt t,s.res (opd E 0 s x) with
    |some (.sl _), .v (.sl _) _ xs=>some (.ok (.v (.int .i64) .sh (len xs)) s)
    |some .str, .v .str _ a=>some (.ok (.v (.int .i64) .sh (ssz a)) s)
    |_,_=>none
 | .append,[x,y]=>match ts with
   |t::t2::_=>Bzj E s t t2 x y
   |_=>none
 | .min,[x,y]=>match s.res (opd E 0 s x),s.res (opd E 0 s y) with
   | .v (.int k) _ a, .v (.int _) _ b=>some (.ok (.v (.int k) .sh (imin a b)) s)
   |_,_=>none
 | .max,[x,y]=>match s.res (opd E 0 s x),s.res (opd E 0 s y) with
   | .v (.int k) _ a, .v (.int _) _ b=>some (.ok (.v (.int k) .sh (imax a b)) s)
   |_,_=>none
 |_,_=>none
def dzH (s:St) (o:Oper):Option Ev:=
 match o.op with
 | .move x=>czZ s x (opd E o.type s x)
 | .assign x=>pzC E s x o.type
 | .pick c a b=>match s.res (opd E 0 s c) with
   | .v .bool _ true=>czZ s a (opd E o.type s a)
   | .v .bool _ false=>czZ s b (opd E o.type s b)
   |_=>none
 | .binOp op t x y _=>bif nilB y then Pz4 E op t s (s.res (opd E t s x)) else Dze E op t s (opd E t s x) (opd E t s y)
 | .unOp op _ x=>match op,s.res (opd E o.type s x) with
   | .not, .v .bool _ b=>some (.ok (.v .bool .sh (bnot b)) s)
   | .neg, .v (.int k) _ a=>some (.ok (.v (.int k) .sh (ineg k a)) s)
   | .xor, .v (.int k) _ a=>some (.ok (.v (.int k) .sh (inot k a)) s)
   |_,_=>none
 | .convert a b x=>wz8 E s a b (opd E a s x)
 | .nilCheck x=>match opd E 0 s x with
   | .box b p=>some (.ok (.box b p) s)
   | .ep l i p=>some (.ok (.ep l i p) s)
   | .cp t a p=>some (.ok (.cp t a p) s)
   |_=>none
 | .fieldAddr t x f=>match E.tt t with
   |some T=>match azX T f,opd E 0 s x with
    |some d, .box b p=>some (.ok (.box b (p+d)) s)
    |some d, .ep l i p=>some (.ok (.ep l i (p+d)) s)
    |some d, .cp U a p=>some (.ok (.cp U a (p+d)) s)
    |_,_=>none
   |none=>none
 | .field t x f=>match E.tt t with
   |some T=>uzi s x T f (opd E t s x)
   |none=>none
 | .indexAddr t x i=>match s.res (opd E 0 s i),E.tt t with
   | .v (.int _) _ i,some T=>uzt s x (opd E 0 s x) i T
   |_,_=>none
 | .index t x i=>match s.res (opd E 0 s i),s.res (opd E 0 s x),E.tt t with
   | .v (.int _) _ i, .v .str _ a,some .str=>some (.chk (inb i (ssz a)) (.v (.int .u8) .sh (sat a i)) s)
   | .v (.int _) _ i, .v (.arr n t) .sh xs,some (.arr n' t')=>bif isTy (.arr n' t') (.arr n t) then some (.chk (inb i n) (.v t .sh (rd t.zero xs i)) s) else none
   |_,_,_=>none
 | .load t x=>match E.tt t with
   |some T=>zzi s T (opd E 0 s x)
   |none=>none
 | .store t x y=>match E.tt t with
   |some T=>Fzc E s T (opd E 0 s x) y t
   |none=>none
 | .box t x=>match E.tt t,o.dst with
   |some T,some d=>match grabT E T s x t with
    |some (a,m,s)=>some (.ok (.box d 0) (s.new d (.v T m a)))
    |none=>none
   |_,_=>none
 | .alloc t=>match E.tt t,o.dst with
   |some T,some d=>some (.ok (.box d 0) (s.new d (.v T T.full T.zero)))
   |_,_=>none
 | .build t ps=>match E.tt t with
   |some (.arr n e)=>bif bzM n ps.toList then (match nzA E e ps.toList 0 n s with
    |some (xs,m,s)=>bif m.isSh then some (.ok (.v (.arr n e) .sh xs) s) else none
    |none=>none) else none
   |some T=>bif bzM (bzY T) ps.toList then (match ezu E ps.toList T 0 s with
    |some (a,m,s)=>some (.ok (.v T m a) s)
    |none=>none) else none
   |none=>none
 | .buildSlice t n ps=>match E.tt t with
   |some (.sl e)=>bif bzM n ps.toList&&Nat.ble (n*e.sz) 16777216 then (match nzA E e ps.toList 0 n s with
    |some (xs,m,s)=>some (.ok (.v (.sl e) (.own 0 m) xs) s)
    |none=>none) else none
   |_=>none
 | .makeSlice t n c=>match E.tt t,s.res (opd E 0 s n),s.res (opd E 0 s c) with
   |some (.sl e), .v (.int _) _ n, .v (.int _) _ c=>
    some (.chk (both (inb2 0 n c) (fits c e.sz)) (.v (.sl e) (.own 0 e.full) (rep n e.zero)) s)
   |_,_,_=>none
 | .slice t x lo hi mx=>tzI E s x t (lo.map (opd E 0 s)) (hi.map (opd E 0 s)) (mx.map (opd E 0 s))
 | .extract x i=>match x,opd E 0 s x with
   | .tmp u, .tup vs=>match vs[i]? with
     |some (.v t m a)=>match m with
      | .sh=>some (.ok (.v t .sh a) s)
      |m=>some (.ok (.v t m a) (s.upd u (.tup (vs.set i .junk))))
     |_=>none
   |_,_=>none
 | .call c=>match c.callee with
   | .value (.func f)=>match E.call f with
     |some σ=>gzf E s o.dst σ c.args.toList
     |none=>none
   | .builtin b=>czj E s b c.argTypes.toList c.args.toList
   |_=>none
 |_=>none
noncomputable def opK (o:Oper) (κ:St→Option R) (s:St):Option R:=
 match dzH E s o with
 |some (.ok w s)=>κ (s.put o.dst w)
 |some (.chk g w s)=>cnd g (κ (s.put o.dst w)) none
 |some (.call σ x k)=>bnd (σ.f x) fun r=>match k r with
  |some (w,s)=>κ (s.put o.dst w)
  |none=>none
 |some (.any z b s)=>cnd z (agree (κ (s.put o.dst (.v .bool .sh (!b)))) (κ (s.put o.dst (.v .bool .sh b)))) (κ (s.put o.dst (.v .bool .sh b)))
 |none=>none
noncomputable def gzZ (ops:Array Oper) (κ:St→Option R):List Oper→St→Option R
 | [],s=>κ s
 |o::rest,s=>match o.guard with
  |none=>opK E o (gzZ ops κ rest) s
  |some (j,want)=>match (ops[j]?).bind (·.dst) with
   |some d=>match s.tm d with
    | .v .bool .sh b=>cnd b
     (bif want then opK E o (gzZ ops κ rest) (s.upd d (.v .bool .sh true)) else gzZ ops κ rest ((s.upd d (.v .bool .sh true)).put o.dst .undef))
     (bif want then gzZ ops κ rest ((s.upd d (.v .bool .sh false)).put o.dst .undef) else opK E o (gzZ ops κ rest) (s.upd d (.v .bool .sh false)))
    | .undef=>gzZ ops κ rest (s.put o.dst .undef)
    |_=>none
   |none=>none
def DzO:VV→Bool
 | .tup vs=>vs.all shV
 |_=>true
def EzC (s:St) (p:Nat×Operand):Bool:=match p.2 with
 | .tmp u=>shV (s.tm u)
 |_=>true
def szP (s:St):List Par→List Operand→Bool
 |p::ps,x::xs=>(match s.peek p.t (opdT E p.t 0 s x) with
  |some (_,m)=>m.isSh
  |none=>false)&&szP s ps xs
 |_,_=>true
def lz4 (s:St) (o:Oper):Bool:=match o.op with
 | .move x=>DzO (opd E o.type s x)
 | .pick _ a b=>DzO (opd E o.type s a)&&DzO (opd E o.type s b)
 | .binOp _ _ _ y _=>!nilB y
 | .unOp _ _ _=>true
 | .convert _ _ _=>true
 | .nilCheck _=>true
 | .fieldAddr _ _ _=>true
 | .indexAddr _ _ _=>true
 | .index _ _ _=>true
 | .load _ _=>true
 | .makeSlice _ _ _=>true
 | .slice t x _ _ _=>match s.res (opd E t s x) with
   | .v .str _ _=>true
   | .v (.sl _) .sh _=>true
   |_=>false
 | .field t x _=>match opd E t s x with
   | .v _ .sh _=>true
   | .ref _=>true
   |_=>false
 | .build _ ps=>ps.toList.all (EzC s)
 | .buildSlice _ _ ps=>ps.toList.all (EzC s)
 | .assign x=>shV (opd E o.type s x)
 | .extract x i=>match opd E 0 s x with
   | .tup vs=>shV (vs.getD i .junk)
   |_=>false
 | .call c=>match c.callee with
   | .value (.func f)=>match E.call f with
     |some σ=>(bif σ.alias then szP E s σ.ps c.args.toList else true)&&(σ.ps.all (fun p=>!p.ptr&&!p.io&&p.m.isSh)&&σ.rs.all fun r=>!r.ptr)
     |none=>false
   | .builtin .len=>true
   | .builtin .min=>true
   | .builtin .max=>true
   |_=>false
 |_=>false
def bitB (m n:Nat):Bool:=Nat.beq (Nat.land (Nat.shiftRight m n) 1) 1
def NzD {α:Type} (n:Nat) (k:Nat→α):α:=match n with
 |0=>k 0
 |n+1=>k (n+1)
def St.hide (s:St) (hid:Nat):St:={tm:=fun j=>bif bitB hid j then .junk else s.tm j,bx:=fun j=>bif bitB hid j then .junk else s.bx j}
def VV.nbB (d:Nat):VV→Bool
 | .ref q=>!(q.bx&&Nat.beq q.n d)
 | .sref q _ _ _=>!(q.bx&&Nat.beq q.n d)
 | .ep q _ _=>!(q.bx&&Nat.beq q.n d)
 | .box c _=>!Nat.beq c d
 |_=>true
def nbO (x:Option Nat) (W:VV):Bool:=match x with
 |some x=>W.nbB x
 |none=>true
def nbS (s:St) (d:Nat) (x:Option Nat):Bool:=match x with
 |some x=>(s.tm x).nbB d
 |none=>true
def St.fb (s:St) (d:Nat):St:=(s.jb d).updBx d .junk
def FzD (E:Env R) (o:Oper):Option Ty:=match o.op with
 | .alloc t=>E.tt t
 |_=>none
def bz0 (o:Oper):Bool:=match o.op with
 | .alloc _=>true
 |_=>false
def St.putB (s:St) (d:Option Nat) (W:VV) (B:Option VV):St:=match d,B with
 |some d,some v=>(s.put (some d) W).updBx d v
 |d,_=>s.put d W
def qzp (i:Nat) (acc:List Nat):List Edge→Nat
 | []=>0
 |e::es=>bif Region.binds .any e then Nat.lor (Nat.lor (2^e.on) (bif Nat.ble (e.on+1) i then acc.getD (i-1-e.on) 0 else 0)) (qzp i acc es) else qzp i acc es
def bz3:List Oper→(i:Nat)→List Nat→List Nat
 | [],_,acc=>acc.reverse
 |o::os,i,acc=>NzD (qzp i acc o.after.toList) fun m=>bz3 os (i+1) (m::acc)
def kz2 (anc:Nat):List (Nat×Option Nat)→Nat
 | []=>0
 | (j,some d)::seg=>bif bitB anc j then kz2 anc seg else Nat.lor (2^d) (kz2 anc seg)
 | (_,none)::seg=>kz2 anc seg
def ezK (anc:List Nat) (i:Nat) (o:Oper):Bool:=(match o.guard with|none=>true|some _=>false)&&Nat.beq (anc.getD i 0+1) (2^i)&&(anc.drop (i+1)).all fun a=>bitB a i
def St.clear (anc:List Nat):(i:Nat)→St→List Oper→St
 |_,s,[]=>s
 |i,s,o::os=>bif ezK anc i o then s else match o.dst with
  |some d=>match (bif bz0 o then s.fb d else s).tm d with
   | .junk=>St.clear anc (i+1) (bif bz0 o then s.fb d else s) os
   |_=>St.clear anc (i+1) ((bif bz0 o then s.fb d else s).set d .junk) os
  |none=>St.clear anc (i+1) s os
def lzD:List Oper→List Nat
 | []=>[]
 |o::os=>match o.dst with
  |some d=>d::lzD os
  |none=>lzD os
def yzg (o:Oper) (sr:St) (κ:VV→Option R):Option R:=
 match dzH E sr o with
 |some (.ok W _)=>κ W
 |some (.chk c W _)=>cnd c (κ W) none
 |some (.call σ x k)=>bnd (σ.f x) fun r=>match k r with
  |some (W,_)=>κ W
  |none=>none
 |_=>none
def frz1:VV→VV
 | .v t m x=>bif m.all then .v t .sh x else .junk
 |_=> .junk
def eW (d:Option Nat) (W:VV):VV:=match d with
 |some d=>bif E.fz.contains (1000000+d) then (match W with
  | .v t m x=>bif m.all then .v t .sh x else .v t m x
  | .tup vs=> .tup (vs.map frz1)
  |W=>W) else W
 |none=>W
def earlyS (r:Nat):List Nat→St→St
 | [],s=>s
 |z::zs,s=>bif Nat.beq (z/1000000) (r+2) then (match s.root (Nat.ble 500000 (z % 1000000)) (z % 500000) with
  | .v t m x=>bif m.all&&!m.isSh then earlyS r zs (s.frz ⟨Nat.ble 500000 (z % 1000000),z % 500000,0,t⟩ x) else earlyS r zs s
  |_=>earlyS r zs s) else earlyS r zs s
def qza (f:Oper) (d:Nat) (s:St):St:=bif bz0 f then (s.upd d .junk).updBx d .junk else s.upd d .junk
def mvIx (f k:Nat):Nat:=bif Nat.beq k f then 0 else bif Nat.ble (k+1) f then k+1 else k
def mvOp (f:Nat) (o:Oper):Oper:={o with after:=(o.after.toList.map fun e=>{e with on:=mvIx f e.on}).toArray,guard:=o.guard.map fun g=>(mvIx f g.1,g.2)}
def kz0 (f:Nat) (l:List Oper):List Oper:=match l[f]? with
 |some o=>(o::(l.take f++l.drop (f+1))).map (mvOp f)
 |none=>l
def qzx (id:Nat):List Nat→Array Oper→Array Oper
 | [],ops=>ops
 |z::zs,ops=>bif Nat.beq (z/1000) (1000000000+id) then qzx id zs ⟨kz0 (z % 1000) ops.toList⟩ else qzx id zs ops
def CzU (tt:Nat→Option Ty) (o:Oper):Bool:=(match o.guard with|none=>true|some _=>false)&&(match o.op with
 | .move _=>true
 | .pick _ _ _=>true
 | .extract _ _=>true
 | .fieldAddr t _ f=>(match tt t with
   |some T=>(match azX T f,czR T f with|some _,some _=>true|_,_=>false)
   |none=>false)
 |_=>false)
def NzU (tt:Nat→Option Ty) (ops:Array Oper) (k q:Nat):Bool:=match ops[k]?,ops[q]? with
 |some o,some _=>!(Nat.beq k q)&&CzU tt o&&Region.noSelect ops&&(o.after.toList.all fun e=>!(Region.binds .any e)||bitB ((bz3 ops.toList 0 []).getD q 0) e.on)&&
  (List.range ops.size).all fun j=>Nat.beq j k||(o.after.toList.any fun e=>Region.binds .any e&&Nat.beq e.on j)||(match ops[j]? with
   |some p=>(p.after.toList.any fun e=>Region.binds .any e&&Nat.beq e.on k)||o.apart ops p
   |none=>true)
 |_,_=>false
def addE (k q:Nat) (l:List Oper):List Oper:=match l[q]? with
 |some o=>l.set q {o with after:=o.after.push ⟨k, .data⟩}
 |none=>l
def addS (tt:Nat→Option Ty) (id:Nat):List Nat→Array Oper→Array Oper
 | [],ops=>ops
 |z::zs,ops=>bif Nat.beq (z/1000000) (1000000000+id) then (bif NzU tt ops (z % 1000000/1000) (z % 1000) then addS tt id zs ⟨addE (z % 1000000/1000) (z % 1000) ops.toList⟩ else addS tt id zs ops) else addS tt id zs ops
def wz4 (ops:Array Oper) (anc:List Nat) (i:Nat) (seg:List (Nat×Option Nat)):Option (Oper×Nat):=
 match seg.filter (fun j=>!bitB (anc.getD i 0) j.1) with
 | [(f,some d)]=>match ops[f]? with
   |some o=>bif (match o.guard with|none=>true|some _=>false)&&(anc.drop (i+1)).all (fun a=>bitB a f) then some (o,d) else none
   |none=>none
 |_=>none
noncomputable def azY (ops:Array Oper) (anc:List Nat) (κ:St→Option R):(i:Nat)→List Oper→(seg:List (Nat×Option Nat))→(bars:List Nat)→St→Option R
 |_,[],_,_,s=>κ s
 |i,o::rest,seg,bars,s=>
  let an:=anc.getD i 0
  bif bars.all (fun b=>bitB an b)&&Nat.ble (an+1) (2^i) then NzD (kz2 an seg) fun hid=>
   let run:St→Option R:=fun s=>
    let sr:=s.hide hid
    bif (bif ezK anc i o then false else lz4 E sr o) then yzg E o sr fun W=>bif seg.all (fun j=>nbO j.2 (eW E o.dst W)) then azY ops anc κ (i+1) rest ((i,o.dst)::seg) bars (s.put o.dst (eW E o.dst W)) else none
    else bif (bif (bif bz0 o then ezK anc i o else true) then seg.all (fun j=>bitB an j.1) else false) then opK E o (fun s=>azY ops anc κ (i+1) rest [] (i::bars) (St.clear anc (i+1) s rest)) s
    else match wz4 ops anc i seg with
    |some (f,df)=>agree (opK E o (fun s=>azY ops anc κ (i+1) rest [] (i::bars) (St.clear anc (i+1) s rest)) s)
     (opK E o (opK E f (fun s=>azY ops anc κ (i+1) rest [] (i::bars) (St.clear anc (i+1) s rest))) (qza f df s))
    |none=>match FzD E o,o.dst with
     |some T,some d=>bif (bif ezK anc i o then false else seg.all (fun j=>nbS s d j.2)) then azY ops anc κ (i+1) rest ((i,o.dst)::seg) bars (s.putB o.dst (.box d 0) (some (.v T T.full T.zero))) else none
     |_,_=>none
   let pass:St→Option R:=fun s=>azY ops anc κ (i+1) rest ((i,o.dst)::seg) bars (s.put o.dst .undef)
   match o.guard with
   |none=>run s
   |some (j,want)=>match (ops[j]?).bind (·.dst) with
    |some d=>match (s.hide hid).tm d with
     | .v .bool .sh b=>cnd b
      (bif want then run (s.upd d (.v .bool .sh true)) else pass (s.upd d (.v .bool .sh true)))
      (bif want then pass (s.upd d (.v .bool .sh false)) else run (s.upd d (.v .bool .sh false)))
     | .undef=>pass s
     |_=>none
    |none=>none
  else none
def AzE (ops:Array Oper) (done:List Nat):List Nat:=(List.range ops.size).filter fun j=>!(done.any (Nat.beq j))&&(match ops[j]? with
 |some o=>o.after.toList.all fun e=>!(Region.binds .any e)||done.any (Nat.beq e.on)
 |none=>false)
def HzY (ops:Array Oper) (done:List Nat) (i:Nat) (o:Oper):Bool:=(List.range ops.size).all fun j=>Nat.beq j i||done.any (Nat.beq j)||(match ops[j]? with
 |some p=>(p.after.toList.any fun e=>Region.binds .any e&&Nat.beq e.on i)||o.apart ops p
 |none=>true)
def uzJ (tt:Nat→Option Ty) (ops:Array Oper) (done:List Nat):List Nat→Option (Nat×Oper)
 | []=>none
 |i::is=>match ops[i]? with
  |some o=>bif CzU tt o&&HzY ops done i o then some (i,o) else uzJ tt ops done is
  |none=>uzJ tt ops done is
noncomputable def Azl (f:Nat→Option R):List Nat→Option R
 | []=>none
 |i::is=>match is with
  | []=>f i
  |_::_=>agree (f i) (Azl f is)
noncomputable def nzC (ops:Array Oper) (κ:St→Option R):Nat→List Nat→St→Option R
 |0,_,_=>none
 |m+1,done,s=>match AzE ops done with
  | []=>κ s
  |j::js=>match uzJ E.tt ops done (j::js) with
   |some (i,o)=>opK E o (nzC ops κ m (i::done)) s
   |none=>Azl (fun i=>match ops[i]? with
    |some o=>(match o.guard with
     |none=>opK E o (nzC ops κ m (i::done)) s
     |some _=>none)
    |none=>none) (j::js)
def jz0 (n:Nat) (prot:Nat→Bool):Code→Bool
 | .region _ ops _=>ops.toList.all fun o=>match o.dst with
   |some d=>Nat.ble (d+1) n&&!(prot d)
   |none=>true
 | .seq a b=>jz0 n prot a&&jz0 n prot b
 | .cond _ x y=>jz0 n prot x&&jz0 n prot y
 | .block _ c=>jz0 n prot c
 | .loop c=>jz0 n prot c
 |_=>true
def rid:Code→Nat
 | .region id _ _=>id
 | .seq a _=>rid a
 | .block _ c=>rid c
 | .loop c=>rid c
 | .scope c=>rid c
 | .cond _ x _=>rid x
 |_=>1000000
noncomputable def exec:Code→(Exit→St→Option R)→St→Option R
 | .skip,κ,s=>κ .normal s
 | .region id ops draw,κ,s=>bif draw then (bif E.fz.contains (1000000000000000000+id) then (bif Region.noSelect ops then nzC E ops (κ .normal) (ops.size+1) [] (earlyS id E.fz s) else none) else (let ops:=qzx id E.fz (addS E.tt id E.fz ops);bif gza (lzD ops.toList) then azY E ops (bz3 ops.toList 0 []) (κ .normal) 0 ops.toList [] [] (St.clear (bz3 ops.toList 0 []) 0 (earlyS id E.fz s) ops.toList) else none)) else gzZ E ops (κ .normal) ops.toList s
 | .seq a b,κ,s=>exec a (fun e s=>match e with
   | .normal=>bif E.joins.contains (rid b) then gzU E (rid b) s else exec b κ s
   |e=>κ e s) s
 | .cond c x y,κ,s=>match s.res (opd E 0 s c) with
   | .v .bool _ b=>cnd b (exec x κ s) (exec y κ s)
   |_=>none
 | .block id c,κ,s=>exec c (fun e s=>match e with
   | .exit i=>bif Nat.beq i id then κ .normal s else κ (.exit i) s
   |e=>κ e s) s
 | .loop c,_,s=>gzU E (rid c) s
 | .exit i,κ,s=>κ (.exit i) s
 | .ret,κ,s=>κ .ret s
 |_,_,_=>none
noncomputable def find (r:Nat):Code→(Exit→St→Option R)→Option (St→Option R)
 | .seq a b,κ=>bif E.joins.contains r&&Nat.beq (rid b) r then some (exec E b κ) else
   match find r a (fun e s=>match e with
    | .normal=>bif E.joins.contains (rid b) then gzU E (rid b) s else exec E b κ s
    |e=>κ e s) with
   |some m=>some m
   |none=>find r b κ
 | .cond _ x y,κ=>match find r x κ with|some m=>some m|none=>find r y κ
 | .block id c,κ=>find r c (fun e s=>match e with
   | .exit i=>bif Nat.beq i id then κ .normal s else κ (.exit i) s
   |e=>κ e s)
 | .loop c,κ=>bif Nat.beq (rid c) r then some (exec E c (fun e s=>match e with| .normal=>gzU E r s|e=>κ e s))
   else find r c (fun e s=>match e with| .normal=>gzU E (rid c) s|e=>κ e s)
 |_,_=>none
def zz0 (t:Ty) (m:Mk) (b:Nat) (s:St):Option (t.den×St):=
 match (s.bx b).as t with
 |some (x,m')=>bif m.le m'&&m.all then some (x,s.lb b) else none
 |none=>none
def Ezy:(rv:List ResultVar)→(rs:List Rt)→St→Option (bzR rs×St)
 | [],[],s=>some ((),s)
 |v::rv,r::rs,s=>
  match (match v with
   | .tmp u=>bif r.ptr then
    (match s.tm u with
    | .box b 0=>zz0 r.t r.m b s
    |_=>none)
     else match grabT E r.t s (.tmp u) 0 with
      |some (x,m',s)=>bif r.m.le m' then some (x,s) else none
      |none=>none
   | .cell u ty=>bif r.ptr then none else
     match s.tm u with
     | .box b 0=>bif tyIs E ty r.t then zz0 r.t r.m b s else none
     |_=>none:Option (r.t.den×St)) with
  |some (x,s)=>match Ezy rv rs s with
   |some (y,s)=>some ((x,y),s)
   |none=>none
  |none=>none
 |_,_,_=>none
def Gzq:(u:Nat)→(ps:List Par)→St→Option (azP ps)
 |_,[],_=>some ()
 |u,⟨_,_,false,_,_⟩::ps,s=>Gzq (u+1) ps s
 |u,⟨t,m,true,ptr,b⟩::ps,s=>
  match (bif ptr then
   (match s.tm u with
   | .box b 0=>bif Nat.beq b u then zz0 t m u s else none
   |_=>none)
   else match b with
   |some b=>zz0 t m b s
   |none=>match (s.tm u).as t with
    |some (x,m')=>bif m.le m'&&m.all then some (x,s.out ⟨false,u,0,t⟩) else none
    |none=>none:Option (t.den×St)) with
  |some (x,s)=>match Gzq (u+1) ps s with
   |some r=>some (x,r)
   |none=>none
  |none=>none
def fin (fn:Func) (ps:List Par) (rs:List Rt):Exit→St→Option (bzR rs×azP ps)
 | .ret,s| .normal,s=>match Ezy E fn.results.toList rs s with
   |some (r,s)=>match Gzq 0 ps s with
    |some o=>some (r,o)
    |none=>none
   |none=>none
 |_,_=>none
def zzJ:(u:Nat)→(ps:List Par)→azQ ps→St→St
 |_,[],_,s=>s
 |u,⟨t,m,_,true,_⟩::ps,x,s=>zzJ (u+1) ps x.2 ((s.upd u (.box u 0)).updBx u (.v t m x.1))
 |u,⟨t,m,_,false,_⟩::ps,x,s=>zzJ (u+1) ps x.2 (s.upd u (.v t m x.1))
end
noncomputable def Czz (fn:Func) (ps:List Par) (rs:List Rt) (E:Env (bzR rs×azP ps)) (x:azQ ps):Option (bzR rs×azP ps):=
 match fn.body with
 |some c=>exec E c (fin E fn ps rs) (zzJ 0 ps x .init)
 |none=>none
noncomputable def uzD (fn:Func) (ps:List Par) (rs:List Rt) (E:Env (bzR rs×azP ps)) (r:Nat) (ls:List LV) (x:izX ls):Option (bzR rs×azP ps):=
 match fn.body with
 |some c=>match find E r c (fin E fn ps rs) with
  |some m=>m (lvMk ls x .init)
  |none=>none
 |none=>none
end Go.TV
namespace Go.TV
abbrev Path:=List Nat
abbrev azw:=Nat→Option Path
abbrev Pins:=Nat→Option Value
def bzg (fr:Nat×Nat) (n:Nat):Prop:= ∀i,i<n→ ¬(fr.1≤i∧i<fr.2)
def gzo (w:World) (b o:Nat) (row:List Value):Prop:= ∀j v,row[j]?=some v→w.cell? ⟨b,o+j,none⟩=some v
def prOk:Mk→Bool
 | .own _ _=>false
 |_=>true
def Stab (w:World) (ω:azw) (b:Nat):Prop:=b<w.heap.size∧ω b=none
def azJ (w w':World) (ω ω':azw):Prop:= ∀b,b<w.heap.size→ω b=none→ω' b=none∧w'.heap[b]?=w.heap[b]?
theorem Stab.mono {w w':World} {ω ω':azw} {b:Nat} (h1:azJ w w' ω ω') (h:Stab w ω b):Stab w' ω' b∧w'.heap[b]?=w.heap[b]?:=by
 obtain ⟨h2,h3⟩:=h1 b h.1 h.2
 refine ⟨⟨?_,h2⟩,h3⟩
 rcases Nat.lt_or_ge b w'.heap.size with hb|hb
 ·exact hb
 ·rw[Array.getElem?_eq_none hb,Array.getElem?_eq_getElem h.1] at h3;cases h3
inductive RepI (w:World) (ω:azw):ItemT→List Value→Prop where
 |mk (l:Bool) (s:ByteArray) (k:List ItemT) (A:Option Addr) (c:Nat) (a:Nat→Addr) (row:Nat→List Value) (hc:k.length≤c)
  (hA: ∀i,i<k.length→A=some (a i)∧(a i).spot=none∧Stab w ω (a i).block∧(row i).length=3∧gzo w (a i).block ((a i).off+i*3) (row i))
  (hr: ∀i (h:i<k.length),RepI w ω k[i] (row i)):RepI w ω (.mk l s k) [.bool l, .string s, .slice A k.length c]
def Kn (m:Mk) (n:Nat) (cs:List Value) (Q:Prop):Prop:=match m with
 | .no=>cs.length=n
 |_=>Q
theorem Kn.map {m:Mk} {n:Nat} {cs:List Value} {Q Q':Prop} (h:m≠ .no→Q→Q') (k:Kn m n cs Q):Kn m n cs Q':=by
 cases m<;>first|exact k|exact h (by simp) k
theorem Kn.out {m:Mk} {n:Nat} {cs:List Value} {Q:Prop} (h:m≠ .no) (k:Kn m n cs Q):Q:=by
 cases m<;>first|exact absurd rfl h|exact k
theorem Kn.mk {m:Mk} {n:Nat} {cs:List Value} {Q:Prop} (hl:cs.length=n) (h:m≠ .no→Q):Kn m n cs Q:=by
 cases m<;>first|exact hl|exact h (by simp)
def bzq (w:World) (ω:azw) (η:Pins):Mk→Path→ItemT→List Value→Prop
 | .no,_,_,cs=>cs.length=3
 | .own pin me,p,x,cs=> ∃A c,cs=[.bool x.l, .string x.s, .slice A x.k.length c]∧(pin≠0→η pin=some (.slice A x.k.length c))∧
  ((A=none∧x.k=[]∧c=0)∨ ∃r cells e fr,A=some ⟨r,0,none⟩∧ω r=some p∧w.heap[r]?=some (.cells cells e fr)∧cells.size=c*3∧bzg fr cells.size∧
    x.k.length≤c∧ ∀i y,x.k[i]?=some y→bzq w ω η me (p++[i]) y ((cells.toList.drop (i*3)).take 3))
 | .pr _ .no,_,x,cs=> ∃v,cs=[.bool x.l, .string x.s,v]
 | .pr _ _,_,x,cs=>RepI w ω x cs
 | .sh,_,x,cs=>RepI w ω x cs
def Rep (w:World) (ω:azw) (η:Pins):(t:Ty)→Path→Mk→t.den→List Value→Prop
 | .int k,_,m,n,cs=>Kn m 1 cs (cs=[.int k n])
 | .bool,_,m,b,cs=>Kn m 1 cs (cs=[.bool b])
 | .str,_,m,s,cs=>Kn m 1 cs (cs=[.string s])
 | .unit,_,_,_,cs=>cs=[]
 | .prod a b,p,m,x,cs=>Kn m (a.sz+b.sz) cs (prOk m=true∧ ∃c1 c2,cs=c1++c2∧Rep w ω η a (p++[0]) m.l x.1 c1∧Rep w ω η b (p++[1]) m.r x.2 c2)
 | .item,p,m,x,cs=>bzq w ω η m p x cs
 | .arr n t,_,m,xs,cs=>Kn m (n*t.sz) cs<|xs.length=n∧cs.length=n*t.sz∧ ∀i x,xs[i]?=some x→Rep w ω η t [] .sh x ((cs.drop (i*t.sz)).take t.sz)
 | .sl t,p,m,xs,cs=>match m with
   | .no=>cs.length=1
   | .own pin me=> ∃A c,cs=[.slice A xs.length c]∧(pin≠0→η pin=some (.slice A xs.length c))∧
    ((A=none∧xs=[]∧c=0)∨ ∃r cells e fr,A=some ⟨r,0,none⟩∧ω r=some p∧w.heap[r]?=some (.cells cells e fr)∧cells.size=c*t.sz∧bzg fr cells.size∧
      xs.length≤c∧ ∀i x,xs[i]?=some x→Rep w ω η t (p++[i]) me x ((cells.toList.drop (i*t.sz)).take t.sz))
   |_=> ∃A c,cs=[.slice A xs.length c]∧xs.length≤c∧ ∀i x,xs[i]?=some x→ ∃a row,A=some a∧a.spot=none∧Stab w ω a.block∧row.length=t.sz∧
     gzo w a.block (a.off+i*t.sz) row∧Rep w ω η t [] .sh x row
theorem Kzj {w w':World} {b o:Nat} (h:w'.heap[b]?=w.heap[b]?):w'.cell? ⟨b,o,none⟩=w.cell? ⟨b,o,none⟩:=by
 simp only[World.cell?,h]
theorem xzH {w:World} {b:Nat} {o:Obj} (h:w.heap[b]?=some o):b<w.heap.size:=by
 rcases Nat.lt_or_ge b w.heap.size with hb|hb
 ·exact hb
 ·rw[Array.getElem?_eq_none hb] at h;cases h
theorem cell_lt {w:World} {b o:Nat} {v:Value} (h:w.cell? ⟨b,o,none⟩=some v):b<w.heap.size:=by
 rcases Nat.lt_or_ge b w.heap.size with hb|hb
 ·exact hb
 ·simp [World.cell?,Array.getElem?_eq_none hb] at h
theorem gzo.mono {w w':World} {b o:Nat} {row:List Value} (h:w'.heap[b]?=w.heap[b]?) (hr:gzo w b o row):gzo w' b o row:=by
 intro j v hj
 have:=hr j v hj
 rw[Kzj h];exact this
theorem RepI.mono {w w':World} {ω ω':azw} (h1:azJ w w' ω ω') {x:ItemT} {cs:List Value} (h:RepI w ω x cs):RepI w' ω' x cs:=by
 induction h with
 |mk l s k A c a row hc hA hr ih=>
  refine .mk l s k A c a row hc (fun i hi=>?_) ih
  obtain ⟨h0,h2,h3,h4,h5⟩:=hA i hi
  exact ⟨h0,h2,(h3.mono h1).1,h4,h5.mono (h3.mono h1).2⟩
def bzX:Mk→Path→Bool
 | .own _ _,[]=>true
 | .own _ m,_::q=>bzX m q
 | .pr a b,i::q=>if i=0 then bzX a q else if i=1 then bzX b q else false
 |_,_=>false
theorem tz6 {m:Mk} (h:prOk m=true) (q:Path):bzX m (0::q)=bzX m.l q:=by cases m<;>simp_all [bzX,Mk.l,prOk]
theorem uzd {m:Mk} (h:prOk m=true) (q:Path):bzX m (1::q)=bzX m.r q:=by cases m<;>simp_all [bzX,Mk.r,prOk]
theorem bzq.pr_known {w:World} {ω:azw} {η:Pins} {a b:Mk} {p:Path} {x:ItemT} {cs:List Value} (h:b≠ .no):bzq w ω η (.pr a b) p x cs=RepI w ω x cs:=by
 cases b<;>first|exact absurd rfl h|rfl
theorem RepI.shape {w:World} {ω:azw} {x:ItemT} {cs:List Value} (h:RepI w ω x cs): ∃v,cs=[.bool x.l, .string x.s,v]:=by
 cases h;exact ⟨_,rfl⟩
theorem bzq.mono {w w':World} {ω ω':azw} {η:Pins} (h1:azJ w w' ω ω'):
 ∀ (m:Mk) (p p':Path) (x:ItemT) (cs:List Value),(∀b q,bzX m q=true→ω b=some (p++q)→ω' b=some (p'++q)∧w'.heap[b]?=w.heap[b]?)→
   bzq w ω η m p x cs→bzq w' ω' η m p' x cs
 | .no,_,_,_,_,_,h=>h
 | .sh,_,_,_,_,_,h=>RepI.mono h1 h
 | .pr _ b,_,_,_,_,_,h=>by
   by_cases hb:b= .no
   ·subst hb;exact h
   ·rw[bzq.pr_known hb] at h⊢;exact RepI.mono h1 h
 | .own pin me,p,p',x,cs,h2,⟨A,c,e,hp,h⟩=>⟨A,c,e,hp,by
  rcases h with h| ⟨r,cells,el,fr,hA,ho,hh,hs,hf,hl,hx⟩
  ·exact .inl h
  ·have hr:=h2 r [] rfl (by simpa using ho)
   refine .inr ⟨r,cells,el,fr,hA,by simpa using hr.1,hr.2.trans hh,hs,hf,hl,fun i y hi=>?_⟩
   exact bzq.mono h1 me _ _ _ _ (fun b q hk hq=>by have:=h2 b ([i]++q) hk (by simpa using hq);simpa using this) (hx i y hi)⟩
theorem bzq.length {w:World} {ω:azw} {η:Pins} {m:Mk} {p:Path} {x:ItemT} {cs:List Value} (h:bzq w ω η m p x cs):cs.length=3:=by
 cases m with
 |no=>exact h
 |sh=>cases (show RepI w ω _ _ from h);rfl
 |own _ _=>obtain ⟨A,c,e,_⟩:=h;subst e;rfl
 |pr a b=>
  by_cases hb:b= .no
  ·subst hb;obtain ⟨v,e⟩:=h;subst e;rfl
  ·rw[bzq.pr_known hb] at h;obtain ⟨v,e⟩:=h.shape;subst e;rfl
theorem Rep.sh_mono {w w':World} {ω ω':azw} {η:Pins} (h1:azJ w w' ω ω'):
 ∀ (t:Ty) (p p':Path) (x:t.den) (cs:List Value),Rep w ω η t p .sh x cs→Rep w' ω' η t p' .sh x cs
 | .int _,_,_,_,_,h=>h
 | .bool,_,_,_,_,h=>h
 | .str,_,_,_,_,h=>h
 | .unit,_,_,_,_,h=>h
 | .prod a b,p,p',x,cs,⟨hm,c1,c2,e,ha,hb⟩=>⟨rfl,c1,c2,e,Rep.sh_mono h1 a _ _ _ _ ha,Rep.sh_mono h1 b _ _ _ _ hb⟩
 | .item,_,_,_,_,h=>RepI.mono h1 h
 | .arr n t,_,_,xs,cs,⟨e,e2,h⟩=>⟨e,e2,fun i x hx=>Rep.sh_mono h1 t _ _ _ _ (h i x hx)⟩
 | .sl t,_,_,xs,cs,⟨A,c,e,hc,h⟩=>⟨A,c,e,hc,fun i x hx=>by
  obtain ⟨a,row,hA,hs,ho,hl,hr,hx⟩:=h i x hx
  exact ⟨a,row,hA,hs,(ho.mono h1).1,hl,hr.mono (ho.mono h1).2,Rep.sh_mono h1 t _ _ _ _ hx⟩⟩
theorem Rep.mono {w w':World} {ω ω':azw} {η:Pins} (h1:azJ w w' ω ω'):
 ∀ (t:Ty) (p p':Path) (m:Mk) (x:t.den) (cs:List Value),(∀b q,bzX m q=true→ω b=some (p++q)→ω' b=some (p'++q)∧w'.heap[b]?=w.heap[b]?)→
   Rep w ω η t p m x cs→Rep w' ω' η t p' m x cs
 | .int _,_,_,_,_,_,_,h=>h
 | .bool,_,_,_,_,_,_,h=>h
 | .str,_,_,_,_,_,_,h=>h
 | .unit,_,_,_,_,_,_,h=>h
 | .prod a b,p,p',m,x,cs,h2,h=>Kn.map (fun _ ⟨hm,c1,c2,e,ha,hb⟩=>
   ⟨hm,c1,c2,e,Rep.mono h1 a _ _ _ _ _ (fun b q hk hq=>by have:=h2 b ([0]++q) (by rw[List.singleton_append,tz6 hm];exact hk) (by simpa using hq);simpa using this) ha,
    Rep.mono h1 b _ _ _ _ _ (fun b q hk hq=>by have:=h2 b ([1]++q) (by rw[List.singleton_append,uzd hm];exact hk) (by simpa using hq);simpa using this) hb⟩) h
 | .item,p,p',m,x,cs,h2,h=>bzq.mono h1 m p p' x cs h2 h
 | .arr n t,_,_,_,xs,cs,_,h=>Kn.map (fun _ ⟨e,e2,h⟩=>⟨e,e2,fun i x hx=>Rep.sh_mono h1 t _ _ _ _ (h i x hx)⟩) h
 | .sl t,p,p', .own pin me,xs,cs,h2,⟨A,c,e,hp,h⟩=>⟨A,c,e,hp,by
  rcases h with h| ⟨r,cells,el,fr,hA,ho,hh,hs,hf,hl,hx⟩
  ·exact .inl h
  ·have hr:=h2 r [] rfl (by simpa using ho)
   refine .inr ⟨r,cells,el,fr,hA,by simpa using hr.1,hr.2.trans hh,hs,hf,hl,fun i x hi=>?_⟩
   exact Rep.mono h1 t _ _ _ _ _ (fun b q hk hq=>by have:=h2 b ([i]++q) hk (by simpa using hq);simpa using this) (hx i x hi)⟩
 | .sl t,p,p', .no,xs,cs,_,h=>h
 | .sl t,p,p', .sh,xs,cs,_,h=>Rep.sh_mono h1 (.sl t) p p' xs cs h
 | .sl t,p,p', .pr _ _,xs,cs,_,h=>Rep.sh_mono h1 (.sl t) p p' xs cs h
theorem Rep.length {w:World} {ω:azw} {η:Pins}: ∀ (t:Ty) (p:Path) (m:Mk) (x:t.den) (cs:List Value),Rep w ω η t p m x cs→cs.length=t.sz
 | .int _,_,m,_,_,h=>by cases m<;>simp only[Rep,Kn] at h<;>simp [Ty.sz,h]
 | .bool,_,m,_,_,h=>by cases m<;>simp only[Rep,Kn] at h<;>simp [Ty.sz,h]
 | .str,_,m,_,_,h=>by cases m<;>simp only[Rep,Kn] at h<;>simp [Ty.sz,h]
 | .unit,_,_,_,_,h=>by simp only[Rep] at h;subst h;rfl
 | .prod a b,p,m,x,cs,h=>by
   have key: ∀c1 c2,cs=c1++c2→Rep w ω η a (p++[0]) m.l x.1 c1→Rep w ω η b (p++[1]) m.r x.2 c2→cs.length=a.sz+b.sz:=by
    intro c1 c2 e ha hb
    subst e;simp [Rep.length a _ _ _ _ ha,Rep.length b _ _ _ _ hb]
   cases m with
   |no=>exact h
   |sh=>obtain ⟨_,c1,c2,e,ha,hb⟩:=h;exact key c1 c2 e ha hb
   |own _ _=>obtain ⟨_,c1,c2,e,ha,hb⟩:=h;exact key c1 c2 e ha hb
   |pr _ _=>obtain ⟨_,c1,c2,e,ha,hb⟩:=h;exact key c1 c2 e ha hb
 | .item,_,m,_,_,h=>bzq.length h
 | .arr n t,_,m,xs,cs,h=>by
   cases m with
   |no=>exact h
   |sh=>exact h.2.1
   |own _ _=>exact h.2.1
   |pr _ _=>exact h.2.1
 | .sl t,p, .own pin me,xs,cs,⟨A,c,e,_⟩=>by subst e;rfl
 | .sl t,p, .no,xs,cs,h=>h
 | .sl t,p, .sh,xs,cs,⟨A,c,e,_⟩=>by subst e;rfl
 | .sl t,p, .pr _ _,xs,cs,⟨A,c,e,_⟩=>by subst e;rfl
def czo (ω:azw) (p:Path) (m:Mk):azw:=fun b=>match ω b with
 |none=>none
 |some r=>if p<+:r then (if bzX m (r.drop p.length) then some r else none) else some r
theorem az6 {ω:azw} {p:Path} {m:Mk} {b:Nat} (h:ω b=none):czo ω p m b=none:=by simp [czo,h]
theorem hzb {ω:azw} {p q:Path} {m:Mk} {b:Nat} (h:ω b=some (p++q)):czo ω p m b=if bzX m q then some (p++q) else none:=by
 simp [czo,h,List.prefix_append]
theorem bzj {ω:azw} {p r:Path} {m:Mk} {b:Nat} (h:ω b=some r) (hp: ¬p<+:r):czo ω p m b=some r:=by simp [czo,h,hp]
theorem zz4 {ω:azw} {p r:Path} {m:Mk} {b:Nat} (h:czo ω p m b=some r):ω b=some r:=by
 unfold czo at h
 split at h
 ·cases h
 ·rename_i r' hr
  split at h
  ·split at h<;>simp_all
  ·simp_all
theorem mzM {ω:azw} {p:Path} {i:Nat} {m m':Mk} (hk: ∀q,bzX m (i::q)=bzX m' q) (b:Nat):
 (czo ω (p++[i]) m' b=none→czo ω p m b=none)∧(∀q,czo ω (p++[i]) m' b=some (p++[i]++q)→czo ω p m b=some (p++[i]++q)):=by
 constructor
 ·intro h
  cases ho:ω b with
  |none=>exact az6 ho
  |some r=>
   by_cases hp:(p++[i])<+:r
   ·obtain ⟨q,rfl⟩:=hp
    rw[hzb ho] at h
    have h':bzX m' q=false:=by cases hq:bzX m' q<;>simp_all
    have:=hzb (p:=p) (q:=[i]++q) (m:=m) (by simpa using ho)
    rw[this];simp [hk,h']
   ·rw[bzj ho hp] at h;cases h
 ·intro q h
  have ho:=zz4 h
  rw[hzb ho] at h
  have h':bzX m' q=true:=by cases hq:bzX m' q<;>simp_all
  have:=hzb (p:=p) (q:=[i]++q) (m:=m) (by simpa using ho)
  rw[this];simp [hk,h']
theorem Mk.le_l {m' m:Mk} (h:m'.le m=true):m'.l.le m.l=true:=by
 cases m'<;>cases m<;>simp_all [Mk.le,Mk.l,Mk.all]
theorem Mk.le_r {m' m:Mk} (h:m'.le m=true):m'.r.le m.r=true:=by
 cases m'<;>cases m<;>simp_all [Mk.le,Mk.r,Mk.all]
theorem Mk.le_prOk {m' m:Mk} (h:m'.le m=true) (hm:prOk m=true):prOk m'=true:=by
 cases m'<;>cases m<;>simp_all [Mk.le,prOk]
theorem Mk.le_no {m:Mk} (h:m.le .no=true):m= .no:=by
 cases m<;>simp_all [Mk.le,Mk.all]
theorem Mk.le_known {m' m:Mk} (h:m'.le m=true) (hm:m'≠ .no):m≠ .no:=fun e=>hm (Mk.le_no (e▸h))
theorem Jzb {w:World} {ω ω':azw} {η:Pins} {t:Ty} {p:Path} {pin:Nat} {me:Mk} {xs:List t.den} {cs:List Value}
 (h:Rep w ω η (.sl t) p (.own pin me) xs cs) (hr: ∀r,ω r=some p→ω' r=none)
 (hx: ∀i x row,Rep w ω η t (p++[i]) me x row→Rep w ω' η t [] .sh x row):Rep w ω' η (.sl t) p .sh xs cs:=by
 obtain ⟨A,c,e,hp,h⟩:=h
 refine ⟨A,c,e,?_,fun i x hi=>?_⟩
 ·rcases h with ⟨_,h,_⟩| ⟨r,cells,el,fr,hA,ho,hh,hs,hf,hl,hx⟩
  ·simp [h]
  ·exact hl
 ·rcases h with ⟨_,h,_⟩| ⟨r,cells,el,fr,hA,ho,hh,hs,hf,hl,hx'⟩
  ·simp [h] at hi
  ·have hlt:i<xs.length:=by
    rcases Nat.lt_or_ge i xs.length with h|h
    ·exact h
    ·rw[List.getElem?_eq_none h] at hi;cases hi
   have hsz:i*t.sz+t.sz≤cells.toList.length:=by
    have:(i+1)*t.sz≤c*t.sz:=Nat.mul_le_mul_right _ (by omega)
    rw[Nat.add_mul,Nat.one_mul] at this
    simp only[Array.length_toList,hs];exact this
   refine ⟨⟨r,0,none⟩,(cells.toList.drop (i*t.sz)).take t.sz,hA,rfl,⟨xzH hh,hr r ho⟩,?_,?_,hx i x _ (hx' i x hi)⟩
   ·simp only[List.length_take,List.length_drop];omega
   ·intro j v hj
    simp only[World.cell?,hh,Nat.zero_add]
    have hj':j<t.sz:=by
     rcases Nat.lt_or_ge j t.sz with h|h
     ·exact h
     ·rw[List.getElem?_eq_none (by simp only[List.length_take];omega)] at hj;cases hj
    rw[List.getElem?_take_of_lt hj',List.getElem?_drop] at hj
    simpa using hj
theorem bzq.weaken {w:World} {η:Pins}: ∀ (m:Mk) (ω:azw) (p:Path) (m':Mk) (x:ItemT) (cs:List Value),m'.le m=true→
 bzq w ω η m p x cs→bzq w (czo ω p m') η m' p x cs
 |m,ω,p, .no,x,cs,_,h=>bzq.length h
 | .own pin me,ω,p, .own pin' me',x,cs,hle,⟨A,c,e,hp,h⟩=>by
   simp only[Mk.le] at hle
   cases hq:Nat.beq pin' pin with
   |false=>rw[hq] at hle;cases hle
   |true=>
    rw[hq] at hle
    have hpin:pin'=pin:=Nat.eq_of_beq_eq_true hq
    subst hpin
    refine ⟨A,c,e,hp,?_⟩
    rcases h with h| ⟨r,cells,el,fr,hA,ho,hh,hs,hf,hl,hx⟩
    ·exact .inl h
    ·refine .inr ⟨r,cells,el,fr,hA,?_,hh,hs,hf,hl,fun i y hi=>?_⟩
     ·have:=hzb (p:=p) (q:=[]) (m:= .own pin' me') (ω:=ω) (b:=r) (by simpa using ho)
      simpa [bzX] using this
     ·have hi':=fun b=>mzM (ω:=ω) (p:=p) (i:=i) (m:= .own pin' me') (m':=me') (fun q=>rfl) b
      exact bzq.mono (fun b _ hb=>⟨(hi' b).1 hb,rfl⟩) _ _ _ _ _ (fun b q _ hq=>⟨(hi' b).2 q hq,rfl⟩) (bzq.weaken me ω _ _ _ _ hle (hx i y hi))
 | .own pin me,ω,p, .sh,⟨l,s,k⟩,cs,hle,⟨A,c,e,hp,h⟩=>by
   subst e
   have hle':Mk.le .sh me=true:=by cases me<;>simp_all [Mk.le,Mk.all]
   rcases h with ⟨_,h,hc⟩| ⟨r,cells,el,fr,hA,ho,hh,hs,hf,hl,hx⟩
   ·simp only[ItemT.k] at h
    subst h
    exact .mk l s [] A c (fun _=>default) (fun _=>[]) (by simp) (fun i hi=>by simp at hi) (fun i hi=>by simp at hi)
   ·simp only[ItemT.k] at hl hx
    refine .mk l s k A c (fun _=>⟨r,0,none⟩) (fun i=>(cells.toList.drop (i*3)).take 3) hl (fun i hi=>?_) (fun i hi=>?_)
    ·have hsz:i*3+3≤cells.toList.length:=by simp only[Array.length_toList,hs];omega
     refine ⟨hA,rfl,⟨xzH hh,?_⟩,?_,?_⟩
     ·have:=hzb (p:=p) (q:=[]) (m:= .sh) (ω:=ω) (b:=r) (by simpa using ho)
      simpa [bzX] using this
     ·simp only[List.length_take,List.length_drop];omega
     ·intro j v hj
      simp only[World.cell?,hh,Nat.zero_add]
      have hj':j<3:=by
       rcases Nat.lt_or_ge j 3 with h|h
       ·exact h
       ·rw[List.getElem?_eq_none (by simp only[List.length_take];omega)] at hj;cases hj
      rw[List.getElem?_take_of_lt hj',List.getElem?_drop] at hj
      simpa using hj
    ·have hi':=fun b=>mzM (ω:=ω) (p:=p) (i:=i) (m:= .sh) (m':= .sh) (fun q=>rfl) b
     have h1:=bzq.weaken me ω (p++[i]) .sh k[i] _ hle' (hx i k[i] (List.getElem?_eq_getElem hi))
     exact RepI.mono (fun b _ hb=>⟨(hi' b).1 hb,rfl⟩) h1
 | .sh,ω,p, .sh,xs,cs,hle,h=>RepI.mono (fun b _ hb=>⟨az6 hb,rfl⟩) h
 | .pr a b,ω,p, .sh,xs,cs,hle,h=>by
   have hb:b≠ .no:=by rintro rfl;cases a<;>simp_all [Mk.le,Mk.all]
   rw[bzq.pr_known hb] at h
   exact RepI.mono (fun b _ hb=>⟨az6 hb,rfl⟩) h
 | .pr a b,ω,p, .pr c d,xs,cs,hle,h=>by
   by_cases hd:d= .no
   ·subst hd
    by_cases hb:b= .no
    ·subst hb;exact h
    ·rw[bzq.pr_known hb] at h;exact h.shape
   ·have hb:b≠ .no:=by
     rintro rfl
     simp only[Mk.le] at hle
     cases hc:c.le a<;>rw[hc] at hle
     ·cases hle
     ·exact hd (Mk.le_no hle)
    rw[bzq.pr_known hb] at h;rw[bzq.pr_known hd]
    exact RepI.mono (fun b _ hb=>⟨az6 hb,rfl⟩) h
 | .sh,ω,p, .pr c d,xs,cs,hle,h=>by
   by_cases hd:d= .no
   ·subst hd;exact RepI.shape h
   ·rw[bzq.pr_known hd];exact RepI.mono (fun b _ hb=>⟨az6 hb,rfl⟩) h
 | .own _ _,ω,p, .pr _ _,xs,cs,hle,h=>by simp [Mk.le] at hle
 | .sh,ω,p, .own _ _,xs,cs,hle,h=>by simp [Mk.le] at hle
 | .pr _ _,ω,p, .own _ _,xs,cs,hle,h=>by simp [Mk.le] at hle
 | .no,ω,p, .sh,xs,cs,hle,h=>by simp [Mk.le,Mk.all] at hle
 | .no,ω,p, .own _ _,xs,cs,hle,h=>by simp [Mk.le] at hle
 | .no,ω,p, .pr _ _,xs,cs,hle,h=>by simp [Mk.le] at hle
theorem Rep.weaken {w:World} {η:Pins}: ∀ (t:Ty) (ω:azw) (p:Path) (m m':Mk) (x:t.den) (cs:List Value),m'.le m=true→
 Rep w ω η t p m x cs→Rep w (czo ω p m') η t p m' x cs
 | .int _,_,_,_,_,_,_,hle,h=>Kn.mk (Rep.length _ _ _ _ _ h) fun hm=>Kn.out (Mk.le_known hle hm) h
 | .bool,_,_,_,_,_,_,hle,h=>Kn.mk (Rep.length _ _ _ _ _ h) fun hm=>Kn.out (Mk.le_known hle hm) h
 | .str,_,_,_,_,_,_,hle,h=>Kn.mk (Rep.length _ _ _ _ _ h) fun hm=>Kn.out (Mk.le_known hle hm) h
 | .unit,_,_,_,_,_,_,_,h=>h
 | .prod a b,ω,p,m,m',x,cs,hle,h=>Kn.mk (Rep.length _ _ _ _ _ h) fun hno=>by
   obtain ⟨hm,c1,c2,e,ha,hb⟩:=Kn.out (Mk.le_known hle hno) h
   have hp:=Mk.le_prOk hle hm
   refine ⟨hp,c1,c2,e,?_,?_⟩
   ·have hi:=fun b=>mzM (ω:=ω) (p:=p) (i:=0) (m:=m') (m':=m'.l) (fun q=>tz6 hp q) b
    exact Rep.mono (fun b _ hb=>⟨(hi b).1 hb,rfl⟩) a _ _ _ _ _ (fun b q _ hq=>⟨(hi b).2 q hq,rfl⟩) (Rep.weaken a ω _ _ _ _ _ (Mk.le_l hle) ha)
   ·have hi:=fun b=>mzM (ω:=ω) (p:=p) (i:=1) (m:=m') (m':=m'.r) (fun q=>uzd hp q) b
    exact Rep.mono (fun b _ hb=>⟨(hi b).1 hb,rfl⟩) b _ _ _ _ _ (fun b q _ hq=>⟨(hi b).2 q hq,rfl⟩) (Rep.weaken b ω _ _ _ _ _ (Mk.le_r hle) hb)
 | .item,ω,p,m,m',x,cs,hle,h=>bzq.weaken m ω p m' x cs hle h
 | .arr n t,ω,p,m,m',xs,cs,hle,h=>Kn.mk (Rep.length _ _ _ _ _ h) fun hno=>by
   obtain ⟨e,e2,h⟩:=Kn.out (Mk.le_known hle hno) h
   exact ⟨e,e2,fun i x hx=>Rep.sh_mono (fun b _ hb=>⟨az6 hb,rfl⟩) t _ _ _ _ (h i x hx)⟩
 | .sl t,ω,p,m, .no,xs,cs,_,h=>Rep.length _ _ _ _ _ h
 | .sl t,ω,p, .own pin me, .own pin' me',xs,cs,hle,⟨A,c,e,hp,h⟩=>by
   simp only[Mk.le] at hle
   cases hq:Nat.beq pin' pin with
   |false=>rw[hq] at hle;cases hle
   |true=>
    rw[hq] at hle
    have hpin:pin'=pin:=Nat.eq_of_beq_eq_true hq
    subst hpin
    refine ⟨A,c,e,hp,?_⟩
    rcases h with h| ⟨r,cells,el,fr,hA,ho,hh,hs,hf,hl,hx⟩
    ·exact .inl h
    ·refine .inr ⟨r,cells,el,fr,hA,?_,hh,hs,hf,hl,fun i x hi=>?_⟩
     ·have:=hzb (p:=p) (q:=[]) (m:= .own pin' me') (ω:=ω) (b:=r) (by simpa using ho)
      simpa [bzX] using this
     ·have hi':=fun b=>mzM (ω:=ω) (p:=p) (i:=i) (m:= .own pin' me') (m':=me') (fun q=>rfl) b
      exact Rep.mono (fun b _ hb=>⟨(hi' b).1 hb,rfl⟩) t _ _ _ _ _ (fun b q _ hq=>⟨(hi' b).2 q hq,rfl⟩) (Rep.weaken t ω _ _ _ _ _ hle (hx i x hi))
 | .sl t,ω,p, .own pin me, .sh,xs,cs,hle,h=>by
   refine Jzb h (fun r hr=>?_) (fun i x row hx=>?_)
   ·have:=hzb (p:=p) (q:=[]) (m:= .sh) (ω:=ω) (b:=r) (by simpa using hr)
    simpa [bzX] using this
   ·have hi':=fun b=>mzM (ω:=ω) (p:=p) (i:=i) (m:= .sh) (m':= .sh) (fun q=>rfl) b
    have hle':Mk.le .sh me=true:=by cases me<;>simp_all [Mk.le,Mk.all]
    exact Rep.sh_mono (fun b _ hb=>⟨(hi' b).1 hb,rfl⟩) t _ _ _ _ (Rep.weaken t ω _ _ _ _ _ hle' hx)
 | .sl t,ω,p, .sh, .sh,xs,cs,hle,h=>Rep.sh_mono (fun b _ hb=>⟨az6 hb,rfl⟩) (.sl t) p p xs cs h
 | .sl t,ω,p, .pr _ _, .sh,xs,cs,hle,h=>Rep.sh_mono (fun b _ hb=>⟨az6 hb,rfl⟩) (.sl t) p p xs cs h
 | .sl t,ω,p, .pr _ _, .pr _ _,xs,cs,hle,h=>Rep.sh_mono (fun b _ hb=>⟨az6 hb,rfl⟩) (.sl t) p p xs cs h
 | .sl t,ω,p, .sh, .pr _ _,xs,cs,hle,h=>Rep.sh_mono (fun b _ hb=>⟨az6 hb,rfl⟩) (.sl t) p p xs cs h
 | .sl t,ω,p, .own _ _, .pr _ _,xs,cs,hle,h=>by simp [Mk.le] at hle
 | .sl t,ω,p, .sh, .own _ _,xs,cs,hle,h=>by simp [Mk.le] at hle
 | .sl t,ω,p, .pr _ _, .own _ _,xs,cs,hle,h=>by simp [Mk.le] at hle
 | .sl t,ω,p, .no, .sh,xs,cs,hle,h=>by simp [Mk.le,Mk.all] at hle
 | .sl t,ω,p, .no, .own _ _,xs,cs,hle,h=>by simp [Mk.le] at hle
 | .sl t,ω,p, .no, .pr _ _,xs,cs,hle,h=>by simp [Mk.le] at hle
end Go.TV
namespace Go.TV
theorem azk {t u:Ty} {x:u.den} {y:t.den} (h:bzB t x=some y): ∃e:u=t,y=e▸x:=by
 unfold bzB at h
 split at h
 ·rename_i e;subst e
  simp only[cast_eq,Option.some.injEq] at h
  exact ⟨rfl,h.symm⟩
 ·cases h
@[simp] theorem dzX {t:Ty} (x:t.den):bzB t x=some x:=by simp [bzB]
theorem bzD {t u:Ty} (h:isTy t u=true):t=u:=by
 unfold isTy at h;split at h
 ·assumption
 ·cases h
@[simp] theorem isTy_self (t:Ty):isTy t t=true:=by simp [isTy]
def bzd (t:Ty):(T:Ty)→(o:Nat)→Path
 | .prod a b,o=>bif Nat.beq o 0&&isTy (.prod a b) t then []
   else bif Nat.ble (o+1) a.sz then 0::bzd t a o else 1::bzd t b (o-a.sz)
 |_,_=>[]
theorem ozG {α:Type} {l1 l2:List α} {o n:Nat} (h:o+n≤l1.length):((l1++l2).drop o).take n=(l1.drop o).take n:=by
 rw[List.drop_append_of_le_length (by omega),List.take_append_of_le_length (by simp;omega)]
theorem nzW {α:Type} {l1 l2:List α} {o n:Nat} (h:l1.length≤o):((l1++l2).drop o).take n=(l2.drop (o-l1.length)).take n:=by
 rw[List.drop_append,List.drop_eq_nil_of_le h,List.nil_append]
theorem lzH (t:Ty): ∀ (T:Ty) (o:Nat),azM t T o .no= .no
 | .prod a b,o=>by
   simp only[azM]
   cases (Nat.beq o 0&&isTy (.prod a b) t)
   ·simp only[cond_false,Mk.l,Mk.r]
    cases Nat.ble (o+1) a.sz
    ·exact lzH t b _
    ·exact lzH t a _
   ·rfl
 | .item,o=>by
   simp only[azM]
   cases isTy .item t
   ·simp only[cond_false];split<;>rfl
   ·rfl
 | .int _,_=>rfl
 | .bool,_=>rfl
 | .str,_=>rfl
 | .unit,_=>rfl
 | .sl _,_=>rfl
 | .arr _ _,_=>rfl
theorem azT {t:Ty}: ∀ (T:Ty) (o:Nat) (x:T.den) (y:t.den),getAt t T o x=some y→o+t.sz≤T.sz
 | .prod a b,o,x,y,h=>by
   simp only[getAt] at h
   cases hc:(Nat.beq o 0&&isTy (.prod a b) t)<;>rw[hc] at h
   ·simp only[cond_false] at h
    cases hb:Nat.ble (o+1) a.sz<;>rw[hb] at h
    ·have:=azT b _ _ _ h
     have hb': ¬(o+1≤a.sz):=by intro hh;rw[Nat.ble_eq_true_of_le hh] at hb;cases hb
     simp only[Ty.sz];omega
    ·have:=azT a _ _ _ h;simp only[Ty.sz];omega
   ·simp only[cond_true] at h
    obtain ⟨e,_⟩:=azk h
    simp only[Bool.and_eq_true] at hc
    have:=Nat.eq_of_beq_eq_true hc.1
    subst this;subst e;simp
 | .item,o,x,y,h=>by
   simp only[getAt] at h
   split at h
   ·cases hc:isTy .item t<;>rw[hc] at h
    ·obtain ⟨e,_⟩:=azk h;subst e;simp [Ty.sz]
    ·obtain ⟨e,_⟩:=azk h;subst e;simp [Ty.sz]
   ·obtain ⟨e,_⟩:=azk h;subst e;simp [Ty.sz]
   ·obtain ⟨e,_⟩:=azk h;subst e;simp [Ty.sz]
   ·cases h
 | .int k,o,x,y,h=>by
   simp only[getAt] at h
   cases hc:Nat.beq o 0<;>rw[hc] at h
   ·cases h
   ·obtain ⟨e,_⟩:=azk h;subst e;have:=Nat.eq_of_beq_eq_true hc;omega
 | .bool,o,x,y,h=>by
   simp only[getAt] at h
   cases hc:Nat.beq o 0<;>rw[hc] at h
   ·cases h
   ·obtain ⟨e,_⟩:=azk h;subst e;have:=Nat.eq_of_beq_eq_true hc;omega
 | .str,o,x,y,h=>by
   simp only[getAt] at h
   cases hc:Nat.beq o 0<;>rw[hc] at h
   ·cases h
   ·obtain ⟨e,_⟩:=azk h;subst e;have:=Nat.eq_of_beq_eq_true hc;omega
 | .unit,o,x,y,h=>by
   simp only[getAt] at h
   cases hc:Nat.beq o 0<;>rw[hc] at h
   ·cases h
   ·obtain ⟨e,_⟩:=azk h;subst e;have:=Nat.eq_of_beq_eq_true hc;omega
 | .sl k,o,x,y,h=>by
   simp only[getAt] at h
   cases hc:Nat.beq o 0<;>rw[hc] at h
   ·cases h
   ·obtain ⟨e,_⟩:=azk h;subst e;have:=Nat.eq_of_beq_eq_true hc;omega
 | .arr n k,o,x,y,h=>by
   simp only[getAt] at h
   cases hc:Nat.beq o 0<;>rw[hc] at h
   ·cases h
   ·obtain ⟨e,_⟩:=azk h;subst e;have:=Nat.eq_of_beq_eq_true hc;omega
section
variable {w:World} {ω:azw} {η:Pins}
theorem iz4 {t T:Ty} {o:Nat} {p:Path} {m:Mk} {x:T.den} {y:t.den} {cs:List Value}
 (hg:(bif Nat.beq o 0 then bzB t x else none)=some y) (h:Rep w ω η T p m x cs):Rep w ω η t (p++[]) m y ((cs.drop o).take t.sz):=by
 cases hc:Nat.beq o 0<;>rw[hc] at hg
 ·cases hg
 ·obtain ⟨e,he⟩:=azk hg
  subst e
  have:=Nat.eq_of_beq_eq_true hc
  subst this;subst he
  have hl:=Rep.length _ _ _ _ _ h
  simpa [←hl] using h
theorem Rep.no_of_length: ∀ {t:Ty} {p:Path} {x:t.den} {cs:List Value},cs.length=t.sz→Rep w ω η t p .no x cs
 | .int _,_,_,_,h=>h
 | .bool,_,_,_,h=>h
 | .str,_,_,_,h=>h
 | .unit,_,_,cs,h=>List.length_eq_zero_iff.1 h
 | .prod _ _,_,_,_,h=>h
 | .item,_,_,_,h=>h
 | .arr _ _,_,_,_,h=>h
 | .sl _,_,_,_,h=>h
theorem bzq.shape {m:Mk} {p:Path} {x:ItemT} {cs:List Value} (hm:m≠ .no) (h:bzq w ω η m p x cs): ∃v,cs=[.bool x.l, .string x.s,v]:=by
 cases m with
 |no=>exact absurd rfl hm
 |sh=>exact RepI.shape h
 |own _ _=>obtain ⟨A,c,e,_⟩:=h;exact ⟨_,e⟩
 |pr a b=>
  by_cases hb:b= .no
  ·subst hb;exact h
  ·rw[bzq.pr_known hb] at h;exact h.shape
theorem RepI.list {x:ItemT} {cs:List Value} {p:Path} {m:Mk} (hm:m= .sh∨ ∃a b,m= .pr a b) (h:RepI w ω x cs):Rep w ω η (.sl .item) p m x.k ((cs.drop 2).take 1):=by
 cases h with
 |mk l s k A c a row hc hA hr=>
  have: ∃A' c',((([Value.bool l, .string s, .slice A k.length c]:List Value).drop 2).take 1)=[.slice A' k.length c']∧k.length≤c'∧ ∀i x,k[i]?=some x→ ∃a row,A'=some a∧a.spot=none∧Stab w ω a.block∧row.length=3∧
   gzo w a.block (a.off+i*3) row∧bzq w ω η .sh [] x row:=by
   refine ⟨A,c,rfl,hc,fun i x hi=>?_⟩
   have hlt:i<k.length:=by
    rcases Nat.lt_or_ge i k.length with h|h
    ·exact h
    ·rw[List.getElem?_eq_none h] at hi;cases hi
   obtain ⟨h0,h1,h2,h3,h4⟩:=hA i hlt
   rw[List.getElem?_eq_getElem hlt] at hi
   cases hi
   exact ⟨a i,row i,h0,h1,h2,h3,h4,hr i hlt⟩
  rcases hm with rfl| ⟨_,_,rfl⟩<;>exact this
theorem Rep.getAt_item {t:Ty} {o:Nat} {p:Path} {m:Mk} {x:ItemT} {y:t.den} {cs:List Value} (hg:TV.getAt t .item o x=some y) (h:Rep w ω η .item p m x cs):
 Rep w ω η t (p++bzd t .item o) (azM t .item o m) y ((cs.drop o).take t.sz):=by
 have hlen:=Rep.length _ _ _ _ _ h
 have hfit:=azT _ _ _ _ hg
 by_cases hm:m= .no
 ·subst hm
  rw[lzH]
  exact Rep.no_of_length (by simp;omega)
 ·obtain ⟨v,hv⟩:=bzq.shape hm h
  simp only[TV.getAt] at hg
  simp only[bzd,azM,List.append_nil]
  split at hg
  ·cases hc:isTy .item t<;>rw[hc] at hg
   ·simp only[cond_false] at hg⊢
    obtain ⟨e,he⟩:=azk hg
    subst e;subst he
    subst hv
    cases m<;>first|exact absurd rfl hm|rfl
   ·simp only[cond_true] at hg⊢
    obtain ⟨e,he⟩:=azk hg
    subst e;subst he
    simpa [←hlen] using h
  ·obtain ⟨e,he⟩:=azk hg
   subst e;subst he
   have ht:isTy .item .str=false:=by simp [isTy]
   simp only[ht,cond_false]
   subst hv
   cases m<;>first|exact absurd rfl hm|rfl
  ·obtain ⟨e,he⟩:=azk hg
   subst e;subst he
   have ht:isTy .item (.sl .item)=false:=by simp [isTy]
   simp only[ht,cond_false]
   cases m with
   |no=>exact absurd rfl hm
   |sh=>exact RepI.list (.inl rfl) h
   |own pin me=>
    obtain ⟨A,c,e,hp,h⟩:=h
    subst e
    exact ⟨A,c,rfl,hp,h⟩
   |pr a b=>
    by_cases hb:b= .no
    ·subst hb
     obtain ⟨v',e⟩:=h
     subst e;rfl
    ·rw[show Rep w ω η .item p (.pr a b) x cs=bzq w ω η (.pr a b) p x cs from rfl,bzq.pr_known hb] at h
     have:=RepI.list (η:=η) (p:=p) (m:= .sh) (.inl rfl) h
     cases b<;>first|exact absurd rfl hb|exact this
  ·cases hg
theorem Rep.getAt {t:Ty}: ∀ (T:Ty) (o:Nat) (p:Path) (m:Mk) (x:T.den) (y:t.den) (cs:List Value),TV.getAt t T o x=some y→
 Rep w ω η T p m x cs→Rep w ω η t (p++bzd t T o) (azM t T o m) y ((cs.drop o).take t.sz)
 | .prod a b,o,p,m,x,y,cs,hg,h=>by
   have hfit:=azT _ _ _ _ hg
   have hlen:=Rep.length _ _ _ _ _ h
   by_cases hm:m= .no
   ·subst hm
    rw[lzH]
    have:((cs.drop o).take t.sz).length=t.sz:=by simp;omega
    exact Rep.no_of_length this
   ·have h':=Kn.out hm h
    obtain ⟨hp,c1,c2,e,ha,hb⟩:=h'
    have l1:=Rep.length _ _ _ _ _ ha
    simp only[TV.getAt] at hg
    simp only[bzd,azM]
    cases hc:(Nat.beq o 0&&isTy (.prod a b) t)<;>rw[hc] at hg
    ·simp only[cond_false] at hg⊢
     cases hbl:Nat.ble (o+1) a.sz<;>rw[hbl] at hg
     ·simp only[cond_false] at hg⊢
      have hb': ¬(o+1≤a.sz):=by intro hh;rw[Nat.ble_eq_true_of_le hh] at hbl;cases hbl
      have:=Rep.getAt b _ _ _ _ _ _ hg hb
      subst e
      rw[nzW (by omega),l1]
      simpa using this
     ·simp only[cond_true] at hg⊢
      have:=Rep.getAt a _ _ _ _ _ _ hg ha
      have hf:=azT _ _ _ _ hg
      subst e
      rw[ozG (by omega)]
      simpa using this
    ·simp only[cond_true] at hg⊢
     obtain ⟨e',he⟩:=azk hg
     subst e';subst he
     simp only[Bool.and_eq_true] at hc
     have:=Nat.eq_of_beq_eq_true hc.1
     subst this
     simpa [←hlen] using h
 | .item,o,p,m,x,y,cs,hg,h=>Rep.getAt_item hg h
 | .int k,o,p,m,x,y,cs,hg,h=>iz4 hg h
 | .bool,o,p,m,x,y,cs,hg,h=>iz4 hg h
 | .str,o,p,m,x,y,cs,hg,h=>iz4 hg h
 | .unit,o,p,m,x,y,cs,hg,h=>iz4 hg h
 | .sl k,o,p,m,x,y,cs,hg,h=>iz4 hg h
 | .arr n k,o,p,m,x,y,cs,hg,h=>iz4 hg h
@[simp] theorem Mk.mkpr_l (a b:Mk):(Mk.mkpr a b).l=a:=by cases a<;>cases b<;>rfl
@[simp] theorem Mk.mkpr_r (a b:Mk):(Mk.mkpr a b).r=b:=by cases a<;>cases b<;>rfl
@[simp] theorem Mk.mkpr_prOk (a b:Mk):prOk (Mk.mkpr a b)=true:=by cases a<;>cases b<;>rfl
theorem Mk.mkpr_ne (a b:Mk):Mk.mkpr a b≠ .no:=by cases a<;>cases b<;>simp [Mk.mkpr]
theorem Rep.pair {a b:Ty} {p:Path} {m n:Mk} {x:a.den} {y:b.den} {c1 c2:List Value} (ha:Rep w ω η a (p++[0]) m x c1) (hb:Rep w ω η b (p++[1]) n y c2):
 Rep w ω η (.prod a b) p (.mkpr m n) (x,y) (c1++c2):=by
 refine Kn.mk (by simp [Rep.length _ _ _ _ _ ha,Rep.length _ _ _ _ _ hb]) fun _=>⟨Mk.mkpr_prOk _ _,c1,c2,rfl,?_,?_⟩
 ·rw[Mk.mkpr_l];exact ha
 ·rw[Mk.mkpr_r];exact hb
theorem Rep.parts {a b:Ty} {p:Path} {m:Mk} {x:(Ty.prod a b).den} {cs:List Value} (h:Rep w ω η (.prod a b) p m x cs):
 ∃c1 c2,cs=c1++c2∧Rep w ω η a (p++[0]) m.l x.1 c1∧Rep w ω η b (p++[1]) m.r x.2 c2:=by
 by_cases hm:m= .no
 ·subst hm
  have hl:cs.length=a.sz+b.sz:=Rep.length _ _ _ _ _ h
  exact ⟨cs.take a.sz,cs.drop a.sz,(List.take_append_drop _ _).symm,Rep.no_of_length (by simp;omega),Rep.no_of_length (by simp;omega)⟩
 ·obtain ⟨_,h⟩:=Kn.out hm h
  exact h
theorem jzs {t T:Ty} {o:Nat} {p:Path} {m':Mk} {z:T.den} {y:t.den} {row cs:List Value} (hl:cs.length=T.sz)
 (hg:(bif Nat.beq o 0 then bzB T y else none)=some z) (h:Rep w ω η t (p++[]) m' y row):Rep w ω η T p m' z (cs.take o++row++cs.drop (o+t.sz)):=by
 cases hc:Nat.beq o 0<;>rw[hc] at hg
 ·cases hg
 ·obtain ⟨e,he⟩:=azk hg
  subst e
  have:=Nat.eq_of_beq_eq_true hc
  subst this;subst he
  simpa [←hl] using h
theorem wzn {α:Type} {l1 l2 row:List α} {o n:Nat} (h:o+n≤l1.length):(l1++l2).take o++row++(l1++l2).drop (o+n)=(l1.take o++row++l1.drop (o+n))++l2:=by
 rw[List.take_append_of_le_length (by omega),List.drop_append_of_le_length h];simp
theorem vzg {α:Type} {l1 l2 row:List α} {o n:Nat} (h:l1.length≤o):(l1++l2).take o++row++(l1++l2).drop (o+n)=l1++(l2.take (o-l1.length)++row++l2.drop (o-l1.length+n)):=by
 rw[List.take_append,List.take_of_length_le h,List.drop_append,List.drop_eq_nil_of_le (show l1.length≤o+n by omega)]
 simp only[List.append_assoc,List.nil_append]
 rw[show o+n-l1.length=o-l1.length+n from by omega]
theorem jzo {t:Ty} {y:t.den}: ∀ (T:Ty) (o:Nat) (x z:T.den),setAt t y T o x=some z→o+t.sz≤T.sz
 | .prod a b,o,x,z,h=>by
   simp only[setAt] at h
   cases hc:(Nat.beq o 0&&isTy (.prod a b) t)<;>rw[hc] at h
   ·simp only[cond_false] at h
    cases hb:Nat.ble (o+1) a.sz<;>rw[hb] at h
    ·simp only[cond_false] at h
     split at h
     ·rename_i z' hz
      have:=jzo b _ _ _ hz
      have hb': ¬(o+1≤a.sz):=by intro hh;rw[Nat.ble_eq_true_of_le hh] at hb;cases hb
      simp only[Ty.sz];omega
     ·cases h
    ·simp only[cond_true] at h
     split at h
     ·rename_i z' hz
      have:=jzo a _ _ _ hz;simp only[Ty.sz];omega
     ·cases h
   ·simp only[Bool.and_eq_true] at hc
    have:=Nat.eq_of_beq_eq_true hc.1
    subst this
    have e:=bzD hc.2
    subst e;simp
 | .item,o,x,z,h=>by
   simp only[setAt] at h
   split at h
   ·cases hc:isTy .item t<;>rw[hc] at h
    ·simp only[cond_false] at h
     split at h
     ·rename_i y' hy
      obtain ⟨e,_⟩:=azk hy;subst e;simp [Ty.sz]
     ·cases h
    ·have e:=bzD hc;subst e;simp [Ty.sz]
   ·split at h
    ·rename_i y' hy
     obtain ⟨e,_⟩:=azk hy;subst e;simp [Ty.sz]
    ·cases h
   ·split at h
    ·rename_i y' hy
     obtain ⟨e,_⟩:=azk hy;subst e;simp [Ty.sz]
    ·cases h
   ·cases h
 | .int k,o,x,z,h=>by
   simp only[setAt] at h
   cases hc:Nat.beq o 0<;>rw[hc] at h
   ·cases h
   ·obtain ⟨e,_⟩:=azk h;subst e;have:=Nat.eq_of_beq_eq_true hc;omega
 | .bool,o,x,z,h=>by
   simp only[setAt] at h
   cases hc:Nat.beq o 0<;>rw[hc] at h
   ·cases h
   ·obtain ⟨e,_⟩:=azk h;subst e;have:=Nat.eq_of_beq_eq_true hc;omega
 | .str,o,x,z,h=>by
   simp only[setAt] at h
   cases hc:Nat.beq o 0<;>rw[hc] at h
   ·cases h
   ·obtain ⟨e,_⟩:=azk h;subst e;have:=Nat.eq_of_beq_eq_true hc;omega
 | .unit,o,x,z,h=>by
   simp only[setAt] at h
   cases hc:Nat.beq o 0<;>rw[hc] at h
   ·cases h
   ·obtain ⟨e,_⟩:=azk h;subst e;have:=Nat.eq_of_beq_eq_true hc;omega
 | .sl k,o,x,z,h=>by
   simp only[setAt] at h
   cases hc:Nat.beq o 0<;>rw[hc] at h
   ·cases h
   ·obtain ⟨e,_⟩:=azk h;subst e;have:=Nat.eq_of_beq_eq_true hc;omega
 | .arr n k,o,x,z,h=>by
   simp only[setAt] at h
   cases hc:Nat.beq o 0<;>rw[hc] at h
   ·cases h
   ·obtain ⟨e,_⟩:=azk h;subst e;have:=Nat.eq_of_beq_eq_true hc;omega
theorem bzq.of_list {m:Mk} {p:Path} {l:Bool} {s:ByteArray} {k:List ItemT} {row:List Value} (hm:m≠ .no) (h:Rep w ω η (.sl .item) p m k row):
 bzq w ω η m p (.mk l s k) ([.bool l, .string s]++row):=by
 have sh: ∀ {m:Mk},(∃A c,row=[.slice A k.length c]∧k.length≤c∧ ∀i x,k[i]?=some x→ ∃a r,A=some a∧a.spot=none∧Stab w ω a.block∧r.length=3∧
  gzo w a.block (a.off+i*3) r∧Rep w ω η .item [] .sh x r)→RepI w ω (.mk l s k) ([.bool l, .string s]++row):=by
  intro _ hh
  obtain ⟨A,c,e,hc,hh⟩:=hh
  subst e
  have h': ∀i,∃ar:Addr×List Value,∀hi:i<k.length,A=some ar.1∧ar.1.spot=none∧Stab w ω ar.1.block∧ar.2.length=3∧gzo w ar.1.block (ar.1.off+i*3) ar.2∧RepI w ω k[i] ar.2:=by
   intro i
   by_cases hi:i<k.length
   ·obtain ⟨a,r,h⟩:=hh i k[i] (List.getElem?_eq_getElem hi)
    exact ⟨(a,r),fun _=>h⟩
   ·exact ⟨(default,[]),fun h=>absurd h hi⟩
  have ⟨f,hf⟩:=Classical.axiomOfChoice h'
  exact .mk l s k A c (fun i=>(f i).1) (fun i=>(f i).2) hc (fun i hi=>⟨(hf i hi).1,(hf i hi).2.1,(hf i hi).2.2.1,(hf i hi).2.2.2.1,(hf i hi).2.2.2.2.1⟩) (fun i hi=>(hf i hi).2.2.2.2.2)
 cases m with
 |no=>exact absurd rfl hm
 |sh=>exact sh (m:= .sh) h
 |own pin me=>
  obtain ⟨A,c,e,hp,h⟩:=h
  subst e
  exact ⟨A,c,rfl,hp,h⟩
 |pr a b=>
  have h2:=sh (m:= .sh) h
  by_cases hb:b= .no
  ·subst hb;exact h2.shape
  ·rw[bzq.pr_known hb];exact h2
theorem Rep.setAt_item {t:Ty} {y:t.den} {m':Mk} (hm':m'≠ .no) {row:List Value} {o:Nat} {p:Path} {m:Mk} {x z:ItemT} {cs:List Value} (hg:TV.setAt t y .item o x=some z)
 (h:Rep w ω η .item p m x cs) (hy:Rep w ω η t (p++bzd t .item o) m' y row):
 Rep w ω η .item p (azs t m' .item o m) z (cs.take o++row++cs.drop (o+t.sz)):=by
 have hlen:=Rep.length _ _ _ _ _ h
 have hrl:=Rep.length _ _ _ _ _ hy
 have hfit:=jzo _ _ _ _ hg
 simp only[TV.setAt] at hg
 simp only[azs]
 simp only[bzd,List.append_nil] at hy
 split at hg
 ·cases hc:isTy .item t<;>rw[hc] at hg
  ·simp only[cond_false] at hg⊢
   split at hg
   ·rename_i y' hy'
    obtain ⟨e,he⟩:=azk hy'
    subst e;subst he
    cases hg
    have hr:row=[.bool y']:=Kn.out hm' hy
    subst hr
    by_cases hm:m= .no
    ·subst hm;exact Rep.no_of_length (by simp [Ty.sz] at*;omega)
    ·cases m with
     |no=>exact absurd rfl hm
     |sh=>cases (show RepI w ω _ _ from h) with|mk l s k A c a row hc hA hr=>exact RepI.mk y' s k A c a row hc hA hr
     |own pin me=>obtain ⟨A,c,e,hp,h⟩:=h;subst e;exact ⟨A,c,rfl,hp,h⟩
     |pr a b=>
      by_cases hb:b= .no
      ·subst hb;obtain ⟨v,e⟩:=h;subst e;exact ⟨v,rfl⟩
      ·have h:RepI w ω x cs:=by rw[←bzq.pr_known (η:=η) (p:=p) (a:=a) hb];exact h
       show bzq w ω η _ _ _ _
       rw[bzq.pr_known hb]
       cases h with|mk l s k A c a row hc hA hr=>exact RepI.mk y' s k A c a row hc hA hr
   ·cases hg
  ·simp only[cond_true] at hg⊢
   obtain ⟨e,he⟩:=azk hg
   subst e;subst he
   simpa [←hlen] using hy
 ·split at hg
  ·rename_i y' hy'
   obtain ⟨e,he⟩:=azk hy'
   subst e;subst he
   cases hg
   have ht:isTy .item .str=false:=by simp [isTy]
   simp only[ht,cond_false]
   have hr:row=[.string y']:=Kn.out hm' hy
   subst hr
   by_cases hm:m= .no
   ·subst hm;exact Rep.no_of_length (by simp [Ty.sz] at*;omega)
   ·cases m with
    |no=>exact absurd rfl hm
    |sh=>cases (show RepI w ω _ _ from h) with|mk l s k A c a row hc hA hr=>exact RepI.mk l y' k A c a row hc hA hr
    |own pin me=>obtain ⟨A,c,e,hp,h⟩:=h;subst e;exact ⟨A,c,rfl,hp,h⟩
    |pr a b=>
     by_cases hb:b= .no
     ·subst hb;obtain ⟨v,e⟩:=h;subst e;exact ⟨v,rfl⟩
     ·have h:RepI w ω x cs:=by rw[←bzq.pr_known (η:=η) (p:=p) (a:=a) hb];exact h
      show bzq w ω η _ _ _ _
      rw[bzq.pr_known hb]
      cases h with|mk l s k A c a row hc hA hr=>exact RepI.mk l y' k A c a row hc hA hr
  ·cases hg
 ·split at hg
  ·rename_i y' hy'
   obtain ⟨e,he⟩:=azk hy'
   subst e;subst he
   cases hg
   have ht:isTy .item (.sl .item)=false:=by simp [isTy]
   simp only[ht,cond_false]
   by_cases hm:m= .no
   ·subst hm;exact Rep.no_of_length (by simp [Ty.sz] at*;omega)
   ·obtain ⟨v,hv⟩:=bzq.shape hm h
    subst hv
    have:=bzq.of_list (l:=x.l) (s:=x.s) hm' hy
    cases m<;>first|exact absurd rfl hm| (cases m'<;>first|exact absurd rfl hm'|simpa [Ty.sz,Rep] using this)
  ·cases hg
 ·cases hg
theorem Rep.setAt {t:Ty} {y:t.den} {m':Mk} (hm':m'≠ .no) {row:List Value}: ∀ (T:Ty) (o:Nat) (p:Path) (m:Mk) (x z:T.den) (cs:List Value),TV.setAt t y T o x=some z→
 Rep w ω η T p m x cs→Rep w ω η t (p++bzd t T o) m' y row→Rep w ω η T p (azs t m' T o m) z (cs.take o++row++cs.drop (o+t.sz))
 | .prod a b,o,p,m,x,z,cs,hg,h,hy=>by
   have hlen:=Rep.length _ _ _ _ _ h
   obtain ⟨c1,c2,e,ha,hb⟩:=Rep.parts h
   have l1:=Rep.length _ _ _ _ _ ha
   simp only[TV.setAt] at hg
   simp only[bzd] at hy
   simp only[azs]
   cases hc:(Nat.beq o 0&&isTy (.prod a b) t)<;>rw[hc] at hg hy
   ·simp only[cond_false] at hg hy⊢
    cases hbl:Nat.ble (o+1) a.sz<;>rw[hbl] at hg hy
    ·simp only[cond_false] at hg hy⊢
     have hb': ¬(o+1≤a.sz):=by intro hh;rw[Nat.ble_eq_true_of_le hh] at hbl;cases hbl
     split at hg
     ·rename_i z' hz
      cases hg
      have:=Rep.setAt hm' b _ _ _ _ _ _ hz hb (by simpa using hy)
      subst e
      rw[vzg (by omega),l1]
      exact Rep.pair ha this
     ·cases hg
    ·simp only[cond_true] at hg hy⊢
     split at hg
     ·rename_i z' hz
      cases hg
      have:=Rep.setAt hm' a _ _ _ _ _ _ hz ha (by simpa using hy)
      have hf:=jzo _ _ _ _ hz
      subst e
      rw[wzn (by omega)]
      exact Rep.pair this hb
     ·cases hg
   ·simp only[cond_true] at hg hy⊢
    simp only[Bool.and_eq_true] at hc
    have:=Nat.eq_of_beq_eq_true hc.1
    subst this
    have e':=bzD hc.2
    subst e'
    simp only[dzX,Option.some.injEq] at hg
    subst hg
    simpa [←hlen] using hy
 | .item,o,p,m,x,z,cs,hg,h,hy=>Rep.setAt_item hm' hg h hy
 | .int k,o,p,m,x,z,cs,hg,h,hy=>jzs (Rep.length _ _ _ _ _ h) hg hy
 | .bool,o,p,m,x,z,cs,hg,h,hy=>jzs (Rep.length _ _ _ _ _ h) hg hy
 | .str,o,p,m,x,z,cs,hg,h,hy=>jzs (Rep.length _ _ _ _ _ h) hg hy
 | .unit,o,p,m,x,z,cs,hg,h,hy=>jzs (Rep.length _ _ _ _ _ h) hg hy
 | .sl k,o,p,m,x,z,cs,hg,h,hy=>jzs (Rep.length _ _ _ _ _ h) hg hy
 | .arr n k,o,p,m,x,z,cs,hg,h,hy=>jzs (Rep.length _ _ _ _ _ h) hg hy
end
end Go.TV
namespace Go.TV
section
variable {w:World} {ω:azw} {η:Pins}
theorem azJ.refl (w:World) (ω:azw):azJ w w ω ω:=fun _ _ h=>⟨h,rfl⟩
theorem azJ.trans {w w' w'':World} {ω ω' ω'':azw} (h:azJ w w' ω ω') (h':azJ w' w'' ω' ω''):azJ w w'' ω ω'':=fun b hb ho=>by
 obtain ⟨⟨h3,h4⟩,h5⟩:=Stab.mono h ⟨hb,ho⟩
 obtain ⟨h6,h7⟩:=h' b h3 h4
 exact ⟨h6,h7.trans h5⟩
theorem Fzu {a b:Ty} {p:Path} {m:Mk} {x:(Ty.prod a b).den} {cs:List Value} (hm:m≠ .no) (h:Rep w ω η (.prod a b) p m x cs):prOk m=true:=(Kn.out hm h).1
theorem Rep.forget {t:Ty}: ∀ (T:Ty) (o:Nat) (p:Path) (m:Mk) (x:T.den) (cs:List Value),Rep w ω η T p m x cs→Rep w ω η T p (azs t .no T o m) x cs
 | .prod a b,o,p,m,x,cs,h=>by
   have hlen:=Rep.length _ _ _ _ _ h
   obtain ⟨c1,c2,e,ha,hb⟩:=Rep.parts h
   simp only[azs]
   cases (Nat.beq o 0&&isTy (.prod a b) t)
   ·simp only[cond_false]
    subst e
    cases Nat.ble (o+1) a.sz
    ·exact Rep.pair ha (Rep.forget b _ _ _ _ _ hb)
    ·exact Rep.pair (Rep.forget a _ _ _ _ _ ha) hb
   ·exact Rep.no_of_length hlen
 | .item,o,p,m,x,cs,h=>by
   have hlen:=Rep.length _ _ _ _ _ h
   simp only[azs]
   cases isTy .item t
   ·simp only[cond_false]
    split
    ·cases m with
     |no=>exact h
     |sh=>exact bzq.shape (by simp) h
     |own _ _=>exact bzq.shape (by simp) h
     |pr _ _=>exact bzq.shape (by simp) h
    ·exact h
   ·exact Rep.no_of_length hlen
 | .int k,o,p,m,x,cs,h=>Rep.no_of_length (Rep.length _ _ _ _ _ h)
 | .bool,o,p,m,x,cs,h=>Rep.no_of_length (Rep.length _ _ _ _ _ h)
 | .str,o,p,m,x,cs,h=>Rep.no_of_length (Rep.length _ _ _ _ _ h)
 | .unit,o,p,m,x,cs,h=>Rep.no_of_length (Rep.length _ _ _ _ _ h)
 | .sl k,o,p,m,x,cs,h=>Rep.no_of_length (Rep.length _ _ _ _ _ h)
 | .arr n k,o,p,m,x,cs,h=>Rep.no_of_length (Rep.length _ _ _ _ _ h)
theorem izM (a b:Mk):bzX (.mkpr a b) []=false:=by cases a<;>cases b<;>rfl
theorem mz5 (a b:Mk) (q:Path):bzX (.mkpr a b) (0::q)=bzX a q:=by
 rw[tz6 (Mk.mkpr_prOk a b),Mk.mkpr_l]
theorem mzw (a b:Mk) (q:Path):bzX (.mkpr a b) (1::q)=bzX b q:=by
 rw[uzd (Mk.mkpr_prOk a b),Mk.mkpr_r]
theorem nzm (a b:Mk) (i:Nat) (q:Path):bzX (.mkpr a b) ((i+2)::q)=false:=by cases a<;>cases b<;>rfl
theorem keep_no (q:Path):bzX .no q=false:=rfl
theorem QzX (q:Path):bzX .sh q=false:=rfl
theorem Rep.keep_no {t:Ty} {m':Mk} (hk: ∀q,bzX m' q=false): ∀ (T:Ty) (o:Nat) (p:Path) (m:Mk) (x:T.den) (cs:List Value) (y:t.den),TV.getAt t T o x=some y→azM t T o m≠ .sh→Rep w ω η T p m x cs→
 ∀q,bzX (azs t m' T o m) q=true→bzX m q=true∧ ¬(bzd t T o<+:q)
 | .prod a b,o,p,m,x,cs,y,hg,hs,h,q,hq=>by
   by_cases hm:m= .no
   ·subst hm
    simp only[TV.getAt] at hg
    simp only[azs] at hq
    simp only[azM] at hs
    cases hc:(Nat.beq o 0&&isTy (.prod a b) t)<;>rw[hc] at hq hg hs
    ·simp only[cond_false] at hq hg hs
     cases hbl:Nat.ble (o+1) a.sz<;>rw[hbl] at hq hg hs
     ·simp only[cond_false] at hq hg hs
      obtain ⟨c1,c2,e,ha,hb⟩:=Rep.parts h
      match q with
      | []=>rw[izM] at hq;cases hq
      |0::q=>rw[mz5] at hq;exact absurd hq (by simp [Mk.l,TV.keep_no])
      |1::q=>rw[mzw] at hq;have:=Rep.keep_no hk b _ _ _ _ _ _ hg hs hb q hq;exact absurd this.1 (by simp [Mk.r,TV.keep_no])
      | (i+2)::q=>rw[nzm] at hq;cases hq
     ·simp only[cond_true] at hq hg hs
      obtain ⟨c1,c2,e,ha,hb⟩:=Rep.parts h
      match q with
      | []=>rw[izM] at hq;cases hq
      |0::q=>rw[mz5] at hq;have:=Rep.keep_no hk a _ _ _ _ _ _ hg hs ha q hq;exact absurd this.1 (by simp [Mk.l,TV.keep_no])
      |1::q=>rw[mzw] at hq;exact absurd hq (by simp [Mk.r,TV.keep_no])
      | (i+2)::q=>rw[nzm] at hq;cases hq
    ·simp only[cond_true] at hq
     rw[hk] at hq;cases hq
   ·have hp:=Fzu hm h
    obtain ⟨c1,c2,e,ha,hb⟩:=Rep.parts h
    simp only[TV.getAt] at hg
    simp only[azs] at hq
    simp only[bzd]
    simp only[azM] at hs
    cases hc:(Nat.beq o 0&&isTy (.prod a b) t)<;>rw[hc] at hq hg hs
    ·simp only[cond_false] at hq hg hs⊢
     cases hbl:Nat.ble (o+1) a.sz<;>rw[hbl] at hq hg hs
     ·simp only[cond_false] at hq hg hs⊢
      match q with
      | []=>rw[izM] at hq;cases hq
      |0::q=>rw[mz5] at hq;exact ⟨by rw[tz6 hp];exact hq,by simp⟩
      |1::q=>
       rw[mzw] at hq
       have:=Rep.keep_no hk b _ _ _ _ _ _ hg hs hb q hq
       exact ⟨by rw[uzd hp];exact this.1,by simpa using this.2⟩
      | (i+2)::q=>rw[nzm] at hq;cases hq
     ·simp only[cond_true] at hq hg hs⊢
      match q with
      | []=>rw[izM] at hq;cases hq
      |0::q=>
       rw[mz5] at hq
       have:=Rep.keep_no hk a _ _ _ _ _ _ hg hs ha q hq
       exact ⟨by rw[tz6 hp];exact this.1,by simpa using this.2⟩
      |1::q=>rw[mzw] at hq;exact ⟨by rw[uzd hp];exact hq,by simp⟩
      | (i+2)::q=>rw[nzm] at hq;cases hq
    ·simp only[cond_true] at hq
     rw[hk] at hq;cases hq
 | .item,o,p,m,x,cs,y,hg,hs,h,q,hq=>by
   simp only[azs] at hq
   simp only[azM] at hs
   cases hc:isTy .item t<;>rw[hc] at hq hs
   ·simp only[cond_false] at hq hs
    split at hq
    ·have hz: ∀q,bzX (match m' with| .no=>Mk.pr .sh .no|m'=>m') q=false:=by
      intro q
      cases m'<;>first|exact hk q| (match q with| []=>rfl|0::_=>rfl|1::_=>rfl| (i+2)::_=>rfl)
     cases m with
     |no=>exact absurd hq (by simp [bzX])
     |sh=>exact absurd rfl hs
     |own _ _=>exact absurd ((hz q).symm.trans hq) (by simp)
     |pr _ _=>exact absurd ((hz q).symm.trans hq) (by simp)
    ·rename_i hne
     have:m= .no:=by cases m<;>first|rfl| (exfalso;simp at hs;done)
     subst this
     exact absurd hq (by simp [bzX])
   ·simp only[cond_true] at hq
    rw[hk] at hq;cases hq
 | .int k,o,p,m,x,cs,y,hg,hs,h,q,hq=>by simp only[azs] at hq;rw[hk] at hq;cases hq
 | .bool,o,p,m,x,cs,y,hg,hs,h,q,hq=>by simp only[azs] at hq;rw[hk] at hq;cases hq
 | .str,o,p,m,x,cs,y,hg,hs,h,q,hq=>by simp only[azs] at hq;rw[hk] at hq;cases hq
 | .unit,o,p,m,x,cs,y,hg,hs,h,q,hq=>by simp only[azs] at hq;rw[hk] at hq;cases hq
 | .sl k,o,p,m,x,cs,y,hg,hs,h,q,hq=>by simp only[azs] at hq;rw[hk] at hq;cases hq
 | .arr n k,o,p,m,x,cs,y,hg,hs,h,q,hq=>by simp only[azs] at hq;rw[hk] at hq;cases hq
theorem qzm {p0 p:Path} {m m':Mk} (hoff: ∀q,bzX m q=true→ ¬p0<+: (p++q)): ∀b q,bzX m q=true→ω b=some (p++q)→czo ω p0 m' b=some (p++q)∧w.heap[b]?=w.heap[b]?:=
 fun b q hk hq=>⟨bzj hq (hoff q hk),rfl⟩
theorem gzC {p0:Path} {m':Mk}:azJ w w ω (czo ω p0 m'):=fun b _ h=>⟨az6 h,rfl⟩
theorem Nzv {p:Path} {i j:Nat} {q r:Path} (h:i≠j): ¬(p++i::q)<+: (p++j::r):=by
 intro hp
 rw[List.prefix_append_right_inj] at hp
 rw[List.cons_prefix_cons] at hp
 exact h hp.1
theorem Rep.freeze {t:Ty}: ∀ (T:Ty) (o:Nat) (p:Path) (m:Mk) (x:T.den) (cs:List Value) (y:t.den),TV.getAt t T o x=some y→azM t T o m≠ .sh→(azM t T o m).all=true→Rep w ω η T p m x cs→
 Rep w (czo ω (p++bzd t T o) .sh) η T p (azs t .sh T o m) x cs
 | .prod a b,o,p,m,x,cs,y,hg,hs,hall,h=>by
   have hm:m≠ .no:=by rintro rfl;rw[lzH] at hall;cases hall
   have hp:=Fzu hm h
   have h0:=h
   obtain ⟨c1,c2,e,ha,hb⟩:=Rep.parts h
   simp only[TV.getAt] at hg
   simp only[azM] at hs hall
   simp only[azs,bzd]
   cases hc:(Nat.beq o 0&&isTy (.prod a b) t)<;>rw[hc] at hg hs hall
   ·simp only[cond_false] at hg hs hall⊢
    subst e
    cases hbl:Nat.ble (o+1) a.sz<;>rw[hbl] at hg hs hall
    ·simp only[cond_false] at hg hs hall⊢
     have:=Rep.freeze b _ _ _ _ _ _ hg hs hall hb
     refine Rep.pair (Rep.mono gzC a _ _ _ _ _ (qzm fun q _=>?_) ha) (by simpa using this)
     simp
    ·simp only[cond_true] at hg hs hall⊢
     have:=Rep.freeze a _ _ _ _ _ _ hg hs hall ha
     refine Rep.pair (by simpa using this) (Rep.mono gzC b _ _ _ _ _ (qzm fun q _=>?_) hb)
     simp
   ·simp only[cond_true] at hg hs hall⊢
    have hle:Mk.le .sh m=true:=by cases m<;>simp_all [Mk.le]
    simpa using Rep.weaken _ ω p m .sh x cs hle h0
 | .item,o,p,m,x,cs,y,hg,hs,hall,h=>by
   simp only[azM] at hs hall
   simp only[azs,bzd,List.append_nil]
   have hle:(m.all=true)→Mk.le .sh m=true:=by intro h;cases m<;>simp_all [Mk.le]
   cases hc:isTy .item t<;>rw[hc] at hs hall
   ·simp only[cond_false] at hs hall⊢
    split
    ·cases m with
     |no=>exact absurd hall (by simp [Mk.all])
     |sh=>exact absurd rfl hs
     |own pin me=>exact bzq.weaken _ ω p .sh x cs (hle hall) h
     |pr a b=>cases b<;>first| (exact absurd rfl hs;done)| (simp [Mk.all] at hall;done)
    ·rename_i hne
     exfalso
     have:m= .no:=by cases m<;>first|rfl| (exfalso;simp at hs;done)
     subst this
     exact absurd hall (by simp [Mk.all])
   ·simp only[cond_true] at hs hall⊢
    exact Rep.weaken .item ω p m .sh x cs (hle hall) h
 | .int k,o,p,m,x,cs,y,hg,hs,hall,h=>by
   have hle:Mk.le .sh m=true:=by cases m<;>simp_all [Mk.le,azM]
   simpa [bzd,azs] using Rep.weaken (.int k) ω p m .sh x cs hle h
 | .bool,o,p,m,x,cs,y,hg,hs,hall,h=>by
   have hle:Mk.le .sh m=true:=by cases m<;>simp_all [Mk.le,azM]
   simpa [bzd,azs] using Rep.weaken .bool ω p m .sh x cs hle h
 | .str,o,p,m,x,cs,y,hg,hs,hall,h=>by
   have hle:Mk.le .sh m=true:=by cases m<;>simp_all [Mk.le,azM]
   simpa [bzd,azs] using Rep.weaken .str ω p m .sh x cs hle h
 | .unit,o,p,m,x,cs,y,hg,hs,hall,h=>by
   have hle:Mk.le .sh m=true:=by cases m<;>simp_all [Mk.le,azM]
   simpa [bzd,azs] using Rep.weaken .unit ω p m .sh x cs hle h
 | .sl k,o,p,m,x,cs,y,hg,hs,hall,h=>by
   have hle:Mk.le .sh m=true:=by cases m<;>simp_all [Mk.le,azM]
   simpa [bzd,azs] using Rep.weaken (.sl k) ω p m .sh x cs hle h
 | .arr n k,o,p,m,x,cs,y,hg,hs,hall,h=>by
   have hle:Mk.le .sh m=true:=by cases m<;>simp_all [Mk.le,azM]
   simpa [bzd,azs] using Rep.weaken (.arr n k) ω p m .sh x cs hle h
end
end Go.TV
namespace Go.TV
def isAgg:Ty→Bool
 | .unit| .prod _ _| .item| .arr _ _=>true
 |_=>false
def mkV (t:Ty) (cs:List Value):Value:=if isAgg t then .agg cs.toArray else cs.headD undef
structure G where
 φ:Nat→Nat
 η:Pins
 ω:azw
 tc:Nat→List Value
 bc:Nat→List Value
def azC (bx:Bool) (n:Nat):Path:=[cond bx 1 0,n]
def G.rc (g:G) (bx:Bool) (n:Nat):List Value:=cond bx (g.bc n) (g.tc n)
def G.cells (g:G) (p:Pl):List Value:=((g.rc p.bx p.n).drop p.o).take p.t.sz
def ownM:Mk→Bool
 | .own _ _=>true
 |_=>false
def lenT:(t:Ty)→t.den→Nat
 | .sl _,xs=>xs.length
 |_,_=>0
def LzW (w:World) (ω:azw) (η:Pins) (pa:Path):VV→Value→Prop
 | .v t m x,v=> ∃cs,Rep w ω η t pa m x cs∧v=mkV t cs
 | .junk,_=>True
 |_,_=>False
def tupV (w:World) (ω:azw) (η:Pins) (pa:Path) (vs:List VV) (v:Value):Prop:=
 ∃vals:List Value,v= .tuple vals.toArray∧vals.length=vs.length∧ ∀i c v,vs[i]?=some c→vals[i]?=some v→LzW w ω η (pa++[i]) c v
def AV (s:St) (g:G) (w:World):VV→Value→Prop
 | .junk,_=>True
 | .undef,v=>v=Go.undef
 | .nilp,v=>v= .pointer none
 | .ref p,v=>v=mkV p.t (g.cells p)∧ ∃y m,s.get p=some (y,m)∧m.all=true∧m≠ .sh
 | .sref ⟨bx,n,q, .sl U⟩ i o t,v=> ∃xs m r N c cells e fr,s.get ⟨bx,n,q, .sl U⟩=some (xs,m)∧ownM m=true∧0≤i∧i<(lenT (.sl U) xs:Int)∧
  g.cells ⟨bx,n,q, .sl U⟩=[.slice (some ⟨r,0,none⟩) N c]∧w.heap[r]?=some (.cells cells e fr)∧
  v=mkV t ((cells.toList.drop (i.toNat*U.sz+o)).take t.sz)∧azM t U o m.e≠ .sh
 | .box b o,v=>v= .pointer (some ⟨g.φ b,o,none⟩)
 | .ep ⟨bx,n,q, .sl U⟩ i o,v=> ∃xs m r N c,s.get ⟨bx,n,q, .sl U⟩=some (xs,m)∧ownM m=true∧0≤i∧i<(lenT (.sl U) xs:Int)∧
  g.cells ⟨bx,n,q, .sl U⟩=[.slice (some ⟨r,0,none⟩) N c]∧v= .pointer (some ⟨r,i.toNat*U.sz+o,none⟩)
 | .ep ⟨true,n,q, .arr k U⟩ i o,v=>0≤i∧i<(k:Int)∧v= .pointer (some ⟨g.φ n,q+i.toNat*U.sz+o,none⟩)
 | .cp t x o,v=> ∃b off row,v= .pointer (some ⟨b,off+o,none⟩)∧Stab w g.ω b∧row.length=t.sz∧gzo w b off row∧Rep w g.ω g.η t [] .sh x row
 |_,_=>False
def RV (s:St) (g:G) (w:World) (pa:Path) (cs:List Value):VV→Value→Prop
 | .v t m x,v=>Rep w g.ω g.η t pa m x cs∧v=mkV t cs
 | .tup vs,v=>tupV w g.ω g.η pa vs v
 |W,v=>AV s g w W v
def BV (g:G) (w:World) (b:Nat):VV→Prop
 | .v T m x=>g.ω (g.φ b)=some [2,b]∧(∃cells e fr,w.heap[g.φ b]?=some (.cells cells e fr)∧bzg fr cells.size∧cells.toList=g.bc b)∧Rep w g.ω g.η T (azC true b) m x (g.bc b)
 | .junk=>True
 |_=>False
def GV (w:World) (ω:azw) (η:Pins) (t:Ty) (x:t.den) (o:Nat) (v:Value):Prop:= ∃b off row,v= .pointer (some ⟨b,off+o,none⟩)∧Stab w ω b∧row.length=t.sz∧gzo w b off row∧Rep w ω η t [] .sh x row∧ ∃cells e fr,w.heap[b]?=some (.cells cells e fr)∧cells.size=t.sz∧off=0
theorem GV.keep {w w':World} {ω ω':azw} {η η':Pins} {t:Ty} {x:t.den} {o:Nat} {v:Value} (h:GV w ω η t x o v) (hη:η'=η) (hst:azJ w w' ω ω') (_: ∀a _b:Nat,a=a) (_: ∀_q:Nat,False→False) (_: ∀_q:Nat,False→False):GV w' ω' η' t x o v:=by
 obtain ⟨b,off,row,h1,h2,h3,h4,h5,cells,e,fr,h6,h7,h8⟩:=h
 subst hη
 exact ⟨b,off,row,h1,(h2.mono hst).1,h3,h4.mono (h2.mono hst).2,Rep.sh_mono hst t _ _ _ _ h5,cells,e,fr,(h2.mono hst).2.trans h6,h7,h8⟩
theorem GV.av {s:St} {g:G} {w:World} {t:Ty} {x:t.den} {o:Nat} {v:Value} (h:GV w g.ω g.η t x o v):AV s g w (.cp t x o) v:=by
 obtain ⟨b,off,row,h1,h2,h3,h4,h5,_⟩:=h
 exact ⟨b,off,row,h1,h2,h3,h4,h5⟩
structure Rel (gl:Nat→Option VV) (gv:Nat→Value) (n:Nat) (s:St) (g:G) (a:Act) (w:World):Prop where
 tm: ∀u,RV s g w (azC false u) (g.tc u) (s.tm u) (a.tmps.getD u Go.undef)
 bx: ∀b,BV g w b (s.bx b)
 gl: ∀i t x o,gl i=some (.cp t x o)→GV w g.ω g.η t x o (gv i)
 lt: ∀b,g.ω b≠none→b<w.heap.size
 sz:n≤a.tmps.size
 df:a.defers=[]
def VV.pl:VV→Option Pl
 | .ref p=>some p
 | .sref p _ _ _=>some p
 | .ep p _ _=>some p
 |_=>none
def VV.isS:VV→Bool
 | .sref _ _ _ _=>true
 |_=>false
def VV.isB:VV→Option Nat
 | .box b _=>some b
 | .ep ⟨true,n,_,_⟩ _ _=>some n
 |_=>none
theorem AV.keep {s s':St} {g g':G} {w w':World} {W:VV} {v:Value} (h:AV s g w W v) (hη:g'.η=g.η) (hst:azJ w w' g.ω g'.ω)
 (hφ: ∀b,W.isB=some b→g'.φ b=g.φ b)
 (hpl: ∀q,W.pl=some q→(∀y m,s.get q=some (y,m)→ ∃y',s'.get q=some (y',m)∧lenT q.t y'=lenT q.t y)∧g'.cells q=g.cells q)
 (hsr: ∀q,W.isS=true→W.pl=some q→(∀z,s.get q=some z→s'.get q=some z)∧ ∀r N c,g.cells q=[.slice (some ⟨r,0,none⟩) N c]→w'.heap[r]?=w.heap[r]?):AV s' g' w' W v:=by
 match W,h with
 | .junk,_=>trivial
 | .undef,h=>exact h
 | .nilp,h=>exact h
 | .ref p,⟨h1,y,m,h2,h3,h4⟩=>
   obtain ⟨h5,h6⟩:=hpl p rfl
   obtain ⟨y',h7,_⟩:=h5 y m h2
   exact ⟨by rw[h6];exact h1,y',m,h7,h3,h4⟩
 | .sref ⟨bx,n,q, .sl U⟩ i o t,⟨xs,m,r,N,c,cells,e,fr,h1,h2,h3,h4,h5,h6,h7⟩=>
   obtain ⟨h8,h9⟩:=hsr _ rfl rfl
   exact ⟨xs,m,r,N,c,cells,e,fr,h8 _ h1,h2,h3,h4,(hpl _ rfl).2.trans h5,(h9 _ _ _ h5).trans h6,h7⟩
 | .box b o,h=>exact (show v= .pointer (some ⟨g'.φ b,o,none⟩) by rw[hφ b rfl];exact h)
 | .ep ⟨bx,n,q, .sl U⟩ i o,⟨xs,m,r,N,c,h1,h2,h3,h4,h5,h6⟩=>
   obtain ⟨h8,h9⟩:=hpl _ rfl
   obtain ⟨y',h10,h11⟩:=h8 _ _ h1
   exact ⟨y',m,r,N,c,h10,h2,h3,by rw[h11];exact h4,h9.trans h5,h6⟩
 | .ep ⟨true,n,q, .arr k U⟩ i o,⟨h1,h2,h3⟩=>exact ⟨h1,h2,by rw[hφ n rfl];exact h3⟩
 | .cp t x o,⟨b,off,row,h1,h2,h3,h4,h5⟩=>
   exact ⟨b,off,row,h1,(h2.mono hst).1,h3,h4.mono (h2.mono hst).2,by rw[hη];exact Rep.sh_mono hst t _ _ _ _ h5⟩
theorem LzW.keep {w w':World} {ω ω':azw} {η:Pins} {pa pa':Path} {c:VV} {v:Value} (h:LzW w ω η pa c v)
 (hr: ∀t m x cs,Rep w ω η t pa m x cs→Rep w' ω' η t pa' m x cs):LzW w' ω' η pa' c v:=by
 cases c with
 |v t m x=>obtain ⟨cs,h1,h2⟩:=h;exact ⟨cs,hr _ _ _ _ h1,h2⟩
 |junk=>trivial
 |_=>exact h
theorem RV.keep {s s':St} {g g':G} {w w':World} {pa pa':Path} {cs:List Value} {W:VV} {v:Value} (h:RV s g w pa cs W v) (hη:g'.η=g.η) (hst:azJ w w' g.ω g'.ω)
 (hown: ∀b q,g.ω b=some (pa++q)→g'.ω b=some (pa'++q)∧w'.heap[b]?=w.heap[b]?) (hal:AV s g w W v→AV s' g' w' W v):RV s' g' w' pa' cs W v:=by
 cases W with
 |v t m x=>exact ⟨by rw[hη];exact Rep.mono hst t _ _ _ _ _ (fun b q _ hq=>hown b q hq) h.1,h.2⟩
 |tup vs=>
  obtain ⟨vals,h1,h2,h3⟩:=h
  refine ⟨vals,h1,h2,fun i c v hc hv=>?_⟩
  rw[hη]
  exact (h3 i c v hc hv).keep fun t m x cs=>Rep.mono hst t _ _ _ _ _ fun b q _ hq=>by
   have:=hown b ([i]++q) (by simpa using hq);simpa using this
 |_=>exact hal h
theorem Rel.get {gl:Nat→Option VV} {gv:Nat→Value} {n:Nat} {s:St} {g:G} {a:Act} {w:World} (h:Rel gl gv n s g a w) {p:Pl} {y:p.t.den} {m:Mk} (hg:s.get p=some (y,m)):
 ∃T M x,s.root p.bx p.n= .v T M x∧getAt p.t T p.o x=some y∧azM p.t T p.o M=m∧Rep w g.ω g.η T (azC p.bx p.n) M x (g.rc p.bx p.n)∧Rep w g.ω g.η p.t (azC p.bx p.n++bzd p.t T p.o) m y (g.cells p):=by
 unfold St.get at hg
 split at hg
 ·rename_i T M x hr
  split at hg
  ·rename_i y' hy
   simp only[Option.some.injEq,Prod.mk.injEq] at hg
   obtain ⟨rfl,rfl⟩:=hg
   have hrep:Rep w g.ω g.η T (azC p.bx p.n) M x (g.rc p.bx p.n):=by
    cases hb:p.bx with
    |false=>
     simp only[hb,St.root,cond_false] at hr
     have:=h.tm p.n
     rw[hr] at this
     exact this.1
    |true=>
     simp only[hb,St.root,cond_true] at hr
     have:=h.bx p.n
     rw[hr] at this
     exact this.2.2
   exact ⟨T,M,x,hr,hy,rfl,hrep,Rep.getAt _ _ _ _ _ _ _ hy hrep⟩
  ·cases hg
 ·cases hg
theorem Rep.own_block {w:World} {ω:azw} {η:Pins} {U:Ty} {p:Path} {m:Mk} {xs:List U.den} {cs:List Value} (h:Rep w ω η (.sl U) p m xs cs) (hm:ownM m=true) {r N c:Nat}
 (hc:cs=[.slice (some ⟨r,0,none⟩) N c]):N=xs.length∧ω r=some p∧ ∃cells e fr,w.heap[r]?=some (.cells cells e fr)∧cells.size=c*U.sz∧bzg fr cells.size∧xs.length≤c∧
  ∀i x,xs[i]?=some x→Rep w ω η U (p++[i]) m.e x ((cells.toList.drop (i*U.sz)).take U.sz):=by
 cases m with
 |own pin me=>
  obtain ⟨A,c',e,hp,h⟩:=h
  subst hc
  simp only[List.cons.injEq,Value.slice.injEq,and_true] at e
  obtain ⟨rfl,rfl,rfl⟩:=e
  rcases h with ⟨h,_⟩| ⟨r',cells,el,fr,hA,ho,hh,hs,hf,hl,hx⟩
  ·cases h
  ·simp only[Option.some.injEq,Addr.mk.injEq,and_true] at hA
   subst hA
   exact ⟨rfl,ho,cells,el,fr,hh,hs,hf,hl,hx⟩
 |_=>cases hm
structure Kept (w w':World) (ω ω':azw):Prop where
 still:azJ w w' ω ω'
 own: ∀b p,ω b=some p→ω' b=some p∧w'.heap[b]?=w.heap[b]?
theorem Rel.kept {gl:Nat→Option VV} {gv:Nat→Value} {n:Nat} {s:St} {g:G} {a:Act} {w w':World} {ω':azw} (h:Rel gl gv n s g a w) (k:Kept w w' g.ω ω') (hlt: ∀b,ω' b≠none→b<w'.heap.size):
 Rel gl gv n s {g with ω:=ω'} a w' where
 tm u:=(h.tm u).keep rfl k.still (fun b q hq=>k.own b _ hq) fun ha=>ha.keep rfl k.still (fun _ _=>rfl) (fun q _=>⟨fun y m hy=>⟨y,hy,rfl⟩,rfl⟩) fun q hs hq=>⟨fun _ h=>h,fun r N c hc=>by
  generalize hW:s.tm u=W at*
  match W,hs,hq,ha with
  | .sref ⟨bx,n',q', .sl U⟩ i o t,_,hq,⟨xs,m,r',N',c',cells,e,fr,h1,h2,h3,h4,h5,h6,h7⟩=>
    simp only[VV.pl,Option.some.injEq] at hq
    subst hq
    obtain ⟨T,M,x,h8,h9,h10,h11,h12⟩:=h.get h1
    obtain ⟨_,h13,_⟩:=Rep.own_block h12 h2 hc
    exact (k.own _ _ h13).2⟩
 bx b:=by
  have hu:=h.bx b
  cases hv:s.bx b with
  |v T m x=>
   rw[hv] at hu
   obtain ⟨h1,⟨cells,e,fr,h2,h2',h3⟩,h4⟩:=hu
   exact ⟨(k.own _ _ h1).1,⟨cells,e,fr,(k.own _ _ h1).2.trans h2,h2',h3⟩,Rep.mono k.still _ _ _ _ _ _ (fun b q _ hq=>k.own b _ hq) h4⟩
  |junk=>trivial
  |_=>rw[hv] at hu;exact hu
 gl i t x o hi:=(h.gl i t x o hi).keep rfl k.still (fun _ _=>rfl) (fun q hq=>by cases hq) (fun q hq=>by cases hq)
 lt:=hlt
 sz:=h.sz
 df:=h.df
end Go.TV
namespace Go.TV
theorem ezA (t:Ty): ∀ (T:Ty) (o:Nat),azM t T o .sh= .sh
 | .prod a b,o=>by
   simp only[azM]
   cases (Nat.beq o 0&&isTy (.prod a b) t)
   ·simp only[cond_false,Mk.l,Mk.r]
    cases Nat.ble (o+1) a.sz
    ·exact ezA t b _
    ·exact ezA t a _
   ·rfl
 | .item,o=>by
   simp only[azM]
   cases isTy .item t
   ·simp only[cond_false];split<;>rfl
   ·rfl
 | .int _,_=>rfl
 | .bool,_=>rfl
 | .str,_=>rfl
 | .unit,_=>rfl
 | .sl _,_=>rfl
 | .arr _ _,_=>rfl
theorem ezy {a b:Nat} (h:Nat.ble a b=false):b<a:=by
 rcases Nat.lt_or_ge b a with h'|h'
 ·exact h'
 ·rw[Nat.ble_eq_true_of_le h'] at h;cases h
theorem azj {t T:Ty} {o:Nat} {x:T.den} {y:t.den} (h:(bif Nat.beq o 0 then bzB t x else none)=some y):o=0∧T=t:=by
 cases hb:Nat.beq o 0<;>rw[hb] at h
 ·cases h
 ·exact ⟨Nat.eq_of_beq_eq_true hb,(azk h).1⟩
theorem JzT {t T:Ty} {o:Nat} {x:T.den} (h:o≠0∨T≠t):(bif Nat.beq o 0 then bzB t x else none)=(none:Option t.den):=by
 cases hb:Nat.beq o 0
 ·rfl
 ·simp only[cond_true,bzB]
  rcases h with h|h
  ·exact absurd (Nat.eq_of_beq_eq_true hb) h
  ·rw[dif_neg h]
def apart (o n o' n':Nat):Prop:=n≠0∧n'≠0∧(o+n≤o'∨o'+n'≤o)
theorem apart.shift {o n o' n' k:Nat} (h:apart o n o' n') (h1:k≤o) (h2:k≤o'):apart (o-k) n (o'-k) n':=by
 obtain ⟨a,b,c|c⟩:=h
 ·exact ⟨a,b, .inl (by omega)⟩
 ·exact ⟨a,b, .inr (by omega)⟩
theorem czs {o n o' n' N:Nat} (h:apart o n o' n') (h1:o=0) (h2:o'=0):False:=by
 obtain ⟨a,b,c|c⟩:=h<;>omega
theorem czz {t t':Ty} {m':Mk}: ∀ (T:Ty) (o o':Nat) (m:Mk) (x:T.den) (y:t.den) (y':t'.den),getAt t T o x=some y→getAt t' T o' x=some y'→apart o t.sz o' t'.sz→
 azM t' T o' (azs t m' T o m)=azM t' T o' m
 | .prod a b,o,o',m,x,y,y',h,h',hd=>by
   have f:=azT _ _ _ _ h
   have f':=azT _ _ _ _ h'
   simp only[getAt] at h h'
   simp only[azs,azM]
   cases hc:(Nat.beq o 0&&isTy (.prod a b) t)<;>rw[hc] at h
   ·cases hc':(Nat.beq o' 0&&isTy (.prod a b) t')<;>rw[hc'] at h'
    ·simp only[cond_false] at h h'⊢
     cases hb:Nat.ble (o+1) a.sz<;>rw[hb] at h<;>cases hb':Nat.ble (o'+1) a.sz<;>rw[hb'] at h'
     ·simp only[cond_false,Mk.mkpr_r] at h h'⊢
      have:=ezy hb
      have:=ezy hb'
      exact czz b _ _ _ _ _ _ h h' (hd.shift (by omega) (by omega))
     ·simp only[cond_false,cond_true,Mk.mkpr_l]
     ·simp only[cond_false,cond_true,Mk.mkpr_r]
     ·simp only[cond_true,Mk.mkpr_l] at h h'⊢
      exact czz a _ _ _ _ _ _ h h' hd
    ·simp only[Bool.and_eq_true] at hc'
     have e:=bzD hc'.2
     have e0:=Nat.eq_of_beq_eq_true hc'.1
     subst e;subst e0
     obtain ⟨d1,d2,d3|d3⟩:=hd<;>omega
   ·simp only[Bool.and_eq_true] at hc
    have e:=bzD hc.2
    have e0:=Nat.eq_of_beq_eq_true hc.1
    subst e;subst e0
    obtain ⟨d1,d2,d3|d3⟩:=hd<;>omega
 | .item,o,o',m,x,y,y',h,h',hd=>by
   have f:=azT _ _ _ _ h
   have f':=azT _ _ _ _ h'
   have fi:Ty.item.sz=3:=rfl
   simp only[getAt] at h h'
   have ne:isTy .item t=false:=by
    cases hi:isTy .item t
    ·rfl
    ·have:=bzD hi;subst this;obtain ⟨d1,d2,d3|d3⟩:=hd<;>omega
   have ne':isTy .item t'=false:=by
    cases hi:isTy .item t'
    ·rfl
    ·have:=bzD hi;subst this;obtain ⟨d1,d2,d3|d3⟩:=hd<;>omega
   simp only[ne,ne',cond_false] at h h'
   simp only[azs,azM,ne,ne',cond_false]
   match o,o',h,h',hd with
   |0,1,_,_,_=>rfl
   |0,2,_,_,_=>rfl
   |1,0,_,_,_=>rfl
   |1,2,_,_,_=>rfl
   |2,0,_,_,_=>cases m<;>cases m'<;>rfl
   |2,1,_,_,_=>cases m<;>cases m'<;>rfl
   |0,0,_,_,hd=>obtain ⟨d1,d2,d3|d3⟩:=hd<;>omega
   |1,1,_,_,hd=>obtain ⟨d1,d2,d3|d3⟩:=hd<;>omega
   |2,2,_,_,hd=>obtain ⟨d1,d2,d3|d3⟩:=hd<;>omega
   |n+3,_,h,_,_=>cases h
   |_,n+3,_,h',_=>simp at h'
 | .int k,o,o',m,x,y,y',h,h',hd=>(czs hd (azj h).1 (azj h').1 (N:=0)).elim
 | .bool,o,o',m,x,y,y',h,h',hd=>(czs hd (azj h).1 (azj h').1 (N:=0)).elim
 | .str,o,o',m,x,y,y',h,h',hd=>(czs hd (azj h).1 (azj h').1 (N:=0)).elim
 | .unit,o,o',m,x,y,y',h,h',hd=>(czs hd (azj h).1 (azj h').1 (N:=0)).elim
 | .sl k,o,o',m,x,y,y',h,h',hd=>(czs hd (azj h).1 (azj h').1 (N:=0)).elim
 | .arr n k,o,o',m,x,y,y',h,h',hd=>(czs hd (azj h).1 (azj h').1 (N:=0)).elim
theorem ezo {t T:Ty} {o:Nat} {z:T.den} {y:t.den} (h:(bif Nat.beq o 0 then bzB T y else none)=some z):o=0∧t=T:=by
 cases hb:Nat.beq o 0<;>rw[hb] at h
 ·cases h
 ·exact ⟨Nat.eq_of_beq_eq_true hb,(azk h).1⟩
theorem yzX {t:Ty} {y:t.den} {o:Nat} {x z:ItemT} (ne:isTy .item t=false) (h:setAt t y .item o x=some z):
 (o=0∧z.s=x.s∧z.k=x.k)∨(o=1∧z.l=x.l∧z.k=x.k)∨(o=2∧z.l=x.l∧z.s=x.s):=by
 simp only[setAt] at h
 split at h
 ·simp only[ne,cond_false] at h
  split at h
  ·cases h;exact .inl ⟨rfl,rfl,rfl⟩
  ·cases h
 ·split at h
  ·cases h;exact .inr (.inl ⟨rfl,rfl,rfl⟩)
  ·cases h
 ·split at h
  ·cases h;exact .inr (.inr ⟨rfl,rfl,rfl⟩)
  ·cases h
 ·cases h
theorem dzP {t t':Ty} {y:t.den}: ∀ (T:Ty) (o o':Nat) (x z:T.den) (y':t'.den),setAt t y T o x=some z→getAt t' T o' x=some y'→apart o t.sz o' t'.sz→
 getAt t' T o' z=some y'
 | .prod a b,o,o',x,z,y',h,h',hd=>by
   have f:=jzo _ _ _ _ h
   have f':=azT _ _ _ _ h'
   simp only[setAt] at h
   simp only[getAt] at h'⊢
   cases hc:(Nat.beq o 0&&isTy (.prod a b) t)<;>rw[hc] at h
   ·cases hc':(Nat.beq o' 0&&isTy (.prod a b) t')<;>rw[hc'] at h'
    ·simp only[cond_false] at h h'⊢
     cases hb:Nat.ble (o+1) a.sz<;>rw[hb] at h<;>cases hb':Nat.ble (o'+1) a.sz<;>rw[hb'] at h'
     ·simp only[cond_false] at h h'⊢
      split at h
      ·rename_i z' hz
       cases h
       have:=ezy hb
       have:=ezy hb'
       exact dzP b _ _ _ _ _ hz h' (hd.shift (by omega) (by omega))
      ·cases h
     ·simp only[cond_false,cond_true] at h h'⊢
      split at h
      ·cases h;exact h'
      ·cases h
     ·simp only[cond_false,cond_true] at h h'⊢
      split at h
      ·cases h;exact h'
      ·cases h
     ·simp only[cond_true] at h h'⊢
      split at h
      ·rename_i z' hz
       cases h
       exact dzP a _ _ _ _ _ hz h' hd
      ·cases h
    ·simp only[Bool.and_eq_true] at hc'
     have e:=bzD hc'.2
     have e0:=Nat.eq_of_beq_eq_true hc'.1
     subst e;subst e0
     obtain ⟨d1,d2,d3|d3⟩:=hd<;>omega
   ·simp only[Bool.and_eq_true] at hc
    have e:=bzD hc.2
    have e0:=Nat.eq_of_beq_eq_true hc.1
    subst e;subst e0
    obtain ⟨d1,d2,d3|d3⟩:=hd<;>omega
 | .item,o,o',x,z,y',h,h',hd=>by
   have f:=jzo _ _ _ _ h
   have f':=azT _ _ _ _ h'
   have fi:Ty.item.sz=3:=rfl
   have ne:isTy .item t=false:=by
    cases hi:isTy .item t
    ·rfl
    ·have:=bzD hi;subst this;obtain ⟨d1,d2,d3|d3⟩:=hd<;>omega
   have ne':isTy .item t'=false:=by
    cases hi:isTy .item t'
    ·rfl
    ·have:=bzD hi;subst this;obtain ⟨d1,d2,d3|d3⟩:=hd<;>omega
   have hi:=yzX ne h
   simp only[getAt] at h'⊢
   simp only[ne',cond_false] at h'⊢
   match o',h',hd with
   |0,h',hd=>
    rcases hi with ⟨h1,h2,h3⟩| ⟨h1,h2,h3⟩| ⟨h1,h2,h3⟩
    ·subst h1;obtain ⟨d1,d2,d3|d3⟩:=hd<;>omega
    ·simpa only[h2] using h'
    ·simpa only[h2] using h'
   |1,h',hd=>
    rcases hi with ⟨h1,h2,h3⟩| ⟨h1,h2,h3⟩| ⟨h1,h2,h3⟩
    ·simpa only[h2] using h'
    ·subst h1;obtain ⟨d1,d2,d3|d3⟩:=hd<;>omega
    ·simpa only[h3] using h'
   |2,h',hd=>
    rcases hi with ⟨h1,h2,h3⟩| ⟨h1,h2,h3⟩| ⟨h1,h2,h3⟩
    ·simpa only[h3] using h'
    ·simpa only[h3] using h'
    ·subst h1;obtain ⟨d1,d2,d3|d3⟩:=hd<;>omega
   |n+3,h',_=>simp at h'
 | .int k,o,o',x,z,y',h,h',hd=>(czs hd (ezo h).1 (azj h').1 (N:=0)).elim
 | .bool,o,o',x,z,y',h,h',hd=>(czs hd (ezo h).1 (azj h').1 (N:=0)).elim
 | .str,o,o',x,z,y',h,h',hd=>(czs hd (ezo h).1 (azj h').1 (N:=0)).elim
 | .unit,o,o',x,z,y',h,h',hd=>(czs hd (ezo h).1 (azj h').1 (N:=0)).elim
 | .sl k,o,o',x,z,y',h,h',hd=>(czs hd (ezo h).1 (azj h').1 (N:=0)).elim
 | .arr n k,o,o',x,z,y',h,h',hd=>(czs hd (ezo h).1 (azj h').1 (N:=0)).elim
theorem mkpr_eta {m:Mk} (hm:m≠ .no) (hp:prOk m=true):Mk.mkpr m.l m.r=m∨(∃a b,m= .pr a b∧Mk.mkpr a b= .sh):=by
 cases m with
 |no=>exact absurd rfl hm
 |sh=>exact .inl rfl
 |own _ _=>cases hp
 |pr a b=>
  cases a<;>cases b<;>first|exact .inl rfl|exact .inr ⟨_,_,rfl,rfl⟩
theorem nz3 {w:World} {ω:azw} {η:Pins} {t:Ty}: ∀ (T:Ty) (o:Nat) (p:Path) (m:Mk) (x:T.den) (y:t.den) (cs:List Value),getAt t T o x=some y→ownM (azM t T o m)=true→Rep w ω η T p m x cs→
 azs t (azM t T o m) T o m=m
 | .prod a b,o,p,m,x,y,cs,hg,ho,h=>by
   have hm:m≠ .no:=by rintro rfl;rw[lzH] at ho;cases ho
   have hsh:m≠ .sh:=by rintro rfl;rw[ezA] at ho;cases ho
   have hp:=Fzu hm h
   obtain ⟨c1,c2,e,ha,hb⟩:=Rep.parts h
   cases m with
   |pr m1 m2=>
    simp only[getAt] at hg
    simp only[azM] at ho
    simp only[azM,azs]
    cases hc:(Nat.beq o 0&&isTy (.prod a b) t)<;>rw[hc] at hg ho
    ·simp only[cond_false,Mk.l,Mk.r] at hg ho⊢
     cases hbl:Nat.ble (o+1) a.sz<;>rw[hbl] at hg ho
     ·simp only[cond_false] at hg ho⊢
      rw[nz3 b _ _ _ _ _ _ hg ho hb]
      have:m2≠ .sh:=by rintro rfl;rw[ezA] at ho;cases ho
      cases m1<;>cases m2<;>first|rfl|exact absurd rfl this
     ·simp only[cond_true] at hg ho⊢
      rw[nz3 a _ _ _ _ _ _ hg ho ha]
      have:m1≠ .sh:=by rintro rfl;rw[ezA] at ho;cases ho
      cases m1<;>cases m2<;>first|rfl|exact absurd rfl this
    ·rfl
   |no=>exact absurd rfl hm
   |sh=>exact absurd rfl hsh
   |own _ _=>cases hp
 | .item,o,p,m,x,y,cs,hg,ho,h=>by
   simp only[azM] at ho
   simp only[azM,azs]
   cases hi:isTy .item t<;>rw[hi] at ho
   ·simp only[cond_false] at ho⊢
    split at ho
    ·cases m with
     |pr a b=>cases b<;>cases ho
     |own _ _=>rfl
     |no=>cases ho
     |sh=>cases ho
    ·cases m<;>cases ho
   ·rfl
 | .int k,o,p,m,x,y,cs,hg,ho,h=>rfl
 | .bool,o,p,m,x,y,cs,hg,ho,h=>rfl
 | .str,o,p,m,x,y,cs,hg,ho,h=>rfl
 | .unit,o,p,m,x,y,cs,hg,ho,h=>rfl
 | .sl k,o,p,m,x,y,cs,hg,ho,h=>rfl
 | .arr n k,o,p,m,x,y,cs,hg,ho,h=>rfl
def mv (ω:azw) (p p':Path):azw:=fun b=>match ω b with
 |none=>none
 |some r=>if p<+:r then some (p'++r.drop p.length) else some r
theorem tzO {ω:azw} {p p':Path} {b:Nat} (h:ω b=none):mv ω p p' b=none:=by simp [mv,h]
theorem ozy {ω:azw} {p p' q:Path} {b:Nat} (h:ω b=some (p++q)):mv ω p p' b=some (p'++q):=by simp [mv,h,List.prefix_append]
theorem bzk {ω:azw} {p p' r:Path} {b:Nat} (h:ω b=some r) (hp: ¬p<+:r):mv ω p p' b=some r:=by simp [mv,h,hp]
theorem nzX {ω:azw} {p p':Path} {b:Nat} (h:mv ω p p' b≠none):ω b≠none:=fun e=>h (tzO e)
theorem bzJ {w:World} {ω:azw} {p p':Path}:azJ w w ω (mv ω p p'):=fun b _ h=>⟨tzO h,rfl⟩
theorem kzC {i u j v:Nat} {q r:Path} (h:i≠j∨u≠v): ¬([i,u]++r)<+: ([j,v]++q):=by
 intro hp
 simp only[List.cons_append,List.nil_append,List.cons_prefix_cons] at hp
 rcases h with h|h
 ·exact h hp.1
 ·exact h hp.2.1
theorem azI {i u j v:Nat} {q:Path} (h:i≠j∨u≠v): ¬[i,u]<+: ([j,v]++q):=by simpa using kzC (q:=q) (r:=[]) h
end Go.TV
namespace Go.TV
theorem nzS {s s':St} {q:Pl} {z:q.t.den×Mk} (h: ∀T M x,s.root q.bx q.n= .v T M x→s'.root q.bx q.n= .v T M x) (hg:s.get q=some z):s'.get q=some z:=by
 unfold St.get at hg⊢
 split at hg
 ·rename_i T M x hr
  rw[h T M x hr]
  exact hg
 ·cases hg
theorem fzZ {s:St} {q:Pl} {z:q.t.den×Mk} (hg:s.get q=some z): ∃T M x,s.root q.bx q.n= .v T M x∧getAt q.t T q.o x=some z.1∧azM q.t T q.o M=z.2:=by
 unfold St.get at hg
 split at hg
 ·rename_i T M x hr
  split at hg
  ·rename_i y hy
   cases hg
   exact ⟨T,M,x,hr,hy,rfl⟩
  ·cases hg
 ·cases hg
theorem Dzm {s:St} {q:Pl} {T:Ty} {M:Mk} {x:T.den} {y:q.t.den} (hr:s.root q.bx q.n= .v T M x) (hy:getAt q.t T q.o x=some y):s.get q=some (y,azM q.t T q.o M):=by
 unfold St.get
 rw[hr]
 simp only[hy]
theorem Hzh (u:Nat) (W:VV):W.jt u= .junk∨(W.jt u=W∧ ∀q,W.pl=some q→q.bx=true∨q.n≠u):=by
 have key: ∀q:Pl,(!q.bx&&Nat.beq q.n u)=false→q.bx=true∨q.n≠u:=by
  intro q h
  cases hb:q.bx
  ·right
   simp only[hb,Bool.not_false,Bool.true_and] at h
   intro e;subst e;simp at h
  ·exact .inl rfl
 cases W with
 |ref q=>
  cases hc:(!q.bx&&Nat.beq q.n u)
  ·right;refine ⟨by simp [VV.jt,hc],fun q' h=>by simp only[VV.pl,Option.some.injEq] at h;subst h;exact key _ hc⟩
  ·left;simp [VV.jt,hc]
 |sref q i o t=>
  cases hc:(!q.bx&&Nat.beq q.n u)
  ·right;refine ⟨by simp [VV.jt,hc],fun q' h=>by simp only[VV.pl,Option.some.injEq] at h;subst h;exact key _ hc⟩
  ·left;simp [VV.jt,hc]
 |ep q i o=>
  cases hc:(!q.bx&&Nat.beq q.n u)
  ·right;refine ⟨by simp [VV.jt,hc],fun q' h=>by simp only[VV.pl,Option.some.injEq] at h;subst h;exact key _ hc⟩
  ·left;simp [VV.jt,hc]
 |_=>right;exact ⟨rfl,fun q h=>by cases h⟩
theorem sz1 (u:Nat) (W:VV):W.jb u= .junk∨(W.jb u=W∧(∀q,W.pl=some q→q.bx=false∨q.n≠u)∧W.isB≠some u):=by
 have key: ∀q:Pl,(q.bx&&Nat.beq q.n u)=false→q.bx=false∨q.n≠u:=by
  intro q h
  cases hb:q.bx
  ·exact .inl rfl
  ·right
   simp only[hb,Bool.true_and] at h
   intro e;subst e;simp at h
 cases W with
 |ref q=>
  cases hc:(q.bx&&Nat.beq q.n u)
  ·right;refine ⟨by simp [VV.jb,hc],fun q' h=>by simp only[VV.pl,Option.some.injEq] at h;subst h;exact key _ hc,by simp [VV.isB]⟩
  ·left;simp [VV.jb,hc]
 |sref q i o t=>
  cases hc:(q.bx&&Nat.beq q.n u)
  ·right;refine ⟨by simp [VV.jb,hc],fun q' h=>by simp only[VV.pl,Option.some.injEq] at h;subst h;exact key _ hc,by simp [VV.isB]⟩
  ·left;simp [VV.jb,hc]
 |ep q i o=>
  cases hc:(q.bx&&Nat.beq q.n u)
  ·right
   refine ⟨by simp [VV.jb,hc],fun q' h=>by simp only[VV.pl,Option.some.injEq] at h;subst h;exact key _ hc,?_⟩
   have:=key _ hc
   obtain ⟨bx,n,o',t⟩:=q
   cases bx
   ·simp [VV.isB]
   ·simp only[VV.isB,ne_eq,Option.some.injEq];rcases this with h|h
    ·cases h
    ·exact h
  ·left;simp [VV.jb,hc]
 |box b o=>
  cases hc:Nat.beq b u
  ·right
   refine ⟨by simp [VV.jb,hc],fun q' h=>(by cases h),?_⟩
   simp only[VV.isB,ne_eq,Option.some.injEq];intro e;subst e;simp at hc
  ·left;simp [VV.jb,hc]
 |_=>right;exact ⟨rfl,fun q h=>(by cases h),by simp [VV.isB]⟩
theorem Bzz (p:Pl) (W:VV):W.jr p= .junk∨(W.jr p=W∧ ∀q,W.pl=some q→p.meets q=false):=by
 cases W with
 |ref q=>
  cases hc:p.meets q
  ·right;refine ⟨by simp [VV.jr,hc],fun q' h=>by simp only[VV.pl,Option.some.injEq] at h;subst h;exact hc⟩
  ·left;simp [VV.jr,hc]
 |sref q i o t=>
  cases hc:p.meets q
  ·right;refine ⟨by simp [VV.jr,hc],fun q' h=>by simp only[VV.pl,Option.some.injEq] at h;subst h;exact hc⟩
  ·left;simp [VV.jr,hc]
 |ep q i o=>
  cases hc:p.meets q
  ·right;refine ⟨by simp [VV.jr,hc],fun q' h=>by simp only[VV.pl,Option.some.injEq] at h;subst h;exact hc⟩
  ·left;simp [VV.jr,hc]
 |_=>right;exact ⟨rfl,fun q h=>by cases h⟩
theorem NzT (p:Pl) (W:VV):W.js p= .junk∨(W.js p=W∧(W.isS=true→ ∀q,W.pl=some q→p.meets q=false)):=by
 cases W with
 |sref q i o t=>
  cases hc:p.meets q
  ·right;refine ⟨by simp [VV.js,hc],fun _ q' h=>by simp only[VV.pl,Option.some.injEq] at h;subst h;exact hc⟩
  ·left;simp [VV.js,hc]
 |_=>right;exact ⟨rfl,fun h=>by cases h⟩
theorem kzh {p q:Pl} (h:p.meets q=false):(p.bx≠q.bx∨p.n≠q.n)∨(p.bx=q.bx∧p.n=q.n∧apart p.o p.t.sz q.o q.t.sz):=by
 unfold Pl.meets at h
 by_cases hb:p.bx=q.bx
 ·by_cases hn:p.n=q.n
  ·right
   refine ⟨hb,hn,?_⟩
   have h1:(p.bx==q.bx)=true:=by simp [hb]
   have h2:Nat.beq p.n q.n=true:=by simp [hn]
   rw[h1,h2] at h
   simp only[Bool.true_and,Bool.or_eq_false_iff,Bool.and_eq_false_iff] at h
   obtain ⟨⟨h3,h4⟩,h5⟩:=h
   refine ⟨fun e=>by rw[e] at h3;simp at h3,fun e=>by rw[e] at h4;simp at h4,?_⟩
   rcases h5 with h5|h5
   ·have:=ezy h5;right;omega
   ·have:=ezy h5;left;omega
  ·exact .inl (.inr hn)
 ·exact .inl (.inl hb)
section
variable {gl:Nat→Option VV} {gv:Nat→Value} {n:Nat} {s:St} {g:G} {a:Act} {w:World}
theorem Ozg {a:Act} {u j:Nat} {v:Value} (h:u<a.tmps.size):(a.put (some u) v).tmps.getD j Go.undef=if j=u then v else a.tmps.getD j Go.undef:=by
 simp only[Act.put,Array.getD_eq_getD_getElem?,Array.getElem?_setIfInBounds]
 by_cases hj:u=j
 ·subst hj;simp [h]
 ·simp [hj,Ne.symm hj]
theorem Ozv {a:Act} {u:Option Nat} {v:Value}:(a.put u v).tmps.size=a.tmps.size:=by cases u<;>simp [Act.put]
theorem JzK {a:Act} {u:Option Nat} {v:Value}:(a.put u v).defers=a.defers:=by cases u<;>rfl
theorem off_t {u:Nat} {W:VV} {v:Value} (h:AV s g w W v) (hs: ∀T M x,s.tm u= .v T M x→M= .sh):W.jt u=W:=by
 have key: ∀ (q:Pl) z,s.get q=some z→z.2≠ .sh→(!q.bx&&Nat.beq q.n u)=false:=by
  intro q z hg hz
  obtain ⟨T,M,x,hr,_,hm⟩:=fzZ hg
  cases hc:(!q.bx&&Nat.beq q.n u)
  ·rfl
  ·simp only[Bool.and_eq_true,Bool.not_eq_true'] at hc
   rw[hc.1,Nat.eq_of_beq_eq_true hc.2] at hr
   have:=hs T M x (by simpa [St.root] using hr)
   subst this
   rw[ezA] at hm
   exact absurd hm.symm hz
 have own_ne: ∀m:Mk,ownM m=true→m≠ .sh:=by rintro m h rfl;cases h
 match W,h with
 | .ref p,⟨h1,y,m,h2,h3,h4⟩=>simp only[VV.jt,key p _ h2 h4,cond_false]
 | .sref ⟨bx,n',q, .sl U⟩ i o t,⟨xs,m,r,N,c,cells,e,fr,h1,h2,h3⟩=>simp only[VV.jt,key _ _ h1 (own_ne _ h2),cond_false]
 | .ep ⟨bx,n',q, .sl U⟩ i o,⟨xs,m,r,N,c,h1,h2,h3⟩=>simp only[VV.jt,key _ _ h1 (own_ne _ h2),cond_false]
 | .ep ⟨true,n',q, .arr k U⟩ i o,_=>simp [VV.jt]
 | .junk,_=>rfl
 | .undef,_=>rfl
 | .nilp,_=>rfl
 | .box _ _,_=>rfl
 | .cp _ _ _,_=>rfl
theorem RV.alias {pa:Path} {cs:List Value} {W:VV} {v:Value} (h:RV s g w pa cs W v):(∃t m x,W= .v t m x)∨(∃vs,W= .tup vs)∨AV s g w W v:=by
 cases W with
 |v t m x=>exact .inl ⟨t,m,x,rfl⟩
 |tup vs=>exact .inr (.inl ⟨vs,rfl⟩)
 |_=>exact .inr (.inr h)
theorem RV.of_AV {pa:Path} {cs:List Value} {W:VV} {v:Value} (h:AV s g w W v):RV s g w pa cs W v:=by
 cases W with
 |v t m x=>cases h
 |tup vs=>cases h
 |_=>exact h
theorem Rel.set_eq (h:Rel gl gv n s g a w) (u:Nat) (W:VV):s.set u W=(s.jt u).upd u (W.jt u):=by
 have key:(∀T M x,s.tm u= .v T M x→M= .sh)→s.upd u (W.jt u)=(s.jt u).upd u (W.jt u):=by
  intro hs
  simp only[St.upd,St.jt,St.mk.injEq,and_true]
  funext j
  cases hj:Nat.beq j u
  ·simp only[cond_false]
   rcases (h.tm j).alias with ⟨t,m,x,e⟩| ⟨vs,e⟩|ha
   ·rw[e];rfl
   ·rw[e];rfl
   ·exact (off_t ha hs).symm
  ·rfl
 unfold St.set
 split
 ·rename_i T x hv
  exact key fun T' M' x' h'=>by rw[hv] at h';cases h';rfl
 ·rfl
 ·rename_i h1 h2
  exact key fun T' M' x' h'=>(h2 _ _ _ h').elim
theorem Rel.set (h:Rel gl gv n s g a w) {k u:Nat} {W:VV} {v:Value} {cs:List Value} (hu:u<n) (hW:RV s g w [3,k] cs W v):
 Rel gl gv n (s.set u W) {g with ω:=mv g.ω [3,k] (azC false u),tc:=fun j=>if j=u then cs else g.tc j} (a.put (some u) v) w:=by
 rw[h.set_eq]
 have hst:azJ w w g.ω (mv g.ω [3,k] (azC false u)):=bzJ
 have hoff: ∀ (bx:Bool) j (b:Nat) (q:Path),g.ω b=some (azC bx j++q)→mv g.ω [3,k] (azC false u) b=some (azC bx j++q)∧w.heap[b]?=w.heap[b]?:=fun bx j b q hq=>
  ⟨bzk hq (azI (.inl (by cases bx<;>decide))),rfl⟩
 have hget: ∀ (q:Pl) z,(q.bx=true∨q.n≠u)→s.get q=some z→((s.jt u).upd u (W.jt u)).get q=some z:=fun q z hq hg=>
  nzS (fun T M x hr=>by
   cases hb:q.bx with
   |true=>rw[hb] at hr;exact hr
   |false=>
    rw[hb] at hr hq
    have hq':q.n≠u:=by rcases hq with hq|hq;cases hq;exact hq
    have:Nat.beq q.n u=false:=by cases hc:Nat.beq q.n u;rfl;exact absurd (Nat.eq_of_beq_eq_true hc) hq'
    simp only[St.root,cond_false] at hr
    simp only[St.root,St.upd,St.jt,this,cond_false,hr];rfl) hg
 have hav: ∀ (X:VV) (x:Value),AV s g w X x→AV ((s.jt u).upd u (W.jt u)) {g with ω:=mv g.ω [3,k] (azC false u),tc:=fun j=>if j=u then cs else g.tc j} w (X.jt u) x:=by
  intro X x hx
  rcases Hzh u X with e| ⟨e,hp⟩
  ·rw[e];trivial
  ·rw[e]
   refine hx.keep rfl hst (fun _ _=>rfl) (fun q hq=>⟨fun y m hy=>⟨y,hget q _ (hp q hq) hy,rfl⟩,?_⟩) (fun q _ hq=>⟨fun z hz=>hget q z (hp q hq) hz,fun _ _ _ _=>rfl⟩)
   simp only[G.cells,G.rc]
   cases hb:q.bx with
   |true=>rfl
   |false=>rcases hp q hq with h|h<;>simp_all
 constructor
 ·intro j
  rw[Ozg (Nat.lt_of_lt_of_le hu h.sz)]
  by_cases hj:j=u
  ·subst hj
   have hb:Nat.beq j j=true:=by simp
   simp only[St.upd,hb,cond_true,if_true]
   rcases hW.alias with ⟨t,m,x,e⟩| ⟨vs,e⟩|ha
   ·subst e
    exact hW.keep (g':={g with ω:=mv g.ω [3,k] (azC false j),tc:=fun i=>if i=j then cs else g.tc i}) rfl hst (fun b q hq=>⟨ozy hq,rfl⟩) (fun ha=>by cases ha)
   ·subst e
    exact hW.keep (g':={g with ω:=mv g.ω [3,k] (azC false j),tc:=fun i=>if i=j then cs else g.tc i}) rfl hst (fun b q hq=>⟨ozy hq,rfl⟩) (fun ha=>by cases ha)
   ·exact RV.of_AV (hav W v ha)
  ·have hb:Nat.beq j u=false:=by cases hc:Nat.beq j u;rfl;exact absurd (Nat.eq_of_beq_eq_true hc) hj
   simp only[St.upd,St.jt,hb,cond_false,if_neg hj]
   have hj':=h.tm j
   rcases hj'.alias with ⟨t,m,x,e⟩| ⟨vs,e⟩|ha
   ·rw[e] at hj'⊢
    exact hj'.keep (g':={g with ω:=mv g.ω [3,k] (azC false u),tc:=fun i=>if i=u then cs else g.tc i}) rfl hst (fun b q hq=>hoff false j b q hq) (fun ha=>by cases ha)
   ·rw[e] at hj'⊢
    exact hj'.keep (g':={g with ω:=mv g.ω [3,k] (azC false u),tc:=fun i=>if i=u then cs else g.tc i}) rfl hst (fun b q hq=>hoff false j b q hq) (fun ha=>by cases ha)
   ·exact RV.of_AV (hav _ _ ha)
 ·intro b
  have hu:=h.bx b
  show BV _ w b (s.bx b)
  cases hv:s.bx b with
  |v T m x=>
   rw[hv] at hu
   obtain ⟨h1,h2,h4⟩:=hu
   exact ⟨bzk h1 (by simp),h2,Rep.mono hst _ _ _ _ _ _ (fun b' q _ hq=>hoff true b b' q hq) h4⟩
  |junk=>trivial
  |_=>rw[hv] at hu;exact hu
 ·intro i t x o hi
  exact (h.gl i t x o hi).keep rfl hst (fun _ _=>rfl) (fun q hq=>by cases hq) (fun q hq=>by cases hq)
 ·intro b hb;exact h.lt b (nzX hb)
 ·rw[Ozv];exact h.sz
 ·rw[JzK];exact h.df
end
end Go.TV
namespace Go.TV
def Fl (w w':World) (ω ω':azw) (k:Nat):Prop:=
 azJ w w' ω ω'∧ ∀b j q,j≠k→ω b=some ([3,j]++q)→ω' b=some ([3,j]++q)∧w'.heap[b]?=w.heap[b]?
theorem Fl.refl (w:World) (ω:azw) (k:Nat):Fl w w ω ω k:=⟨azJ.refl w ω,fun _ _ _ _ h=>⟨h,rfl⟩⟩
theorem Fl.rep {w w':World} {ω ω':azw} {k:Nat} (h:Fl w w' ω ω' k) {η:Pins} {t:Ty} {j:Nat} {p:Path} {m:Mk} {x:t.den} {cs:List Value} (hj:j≠k) (hr:Rep w ω η t ([3,j]++p) m x cs):Rep w' ω' η t ([3,j]++p) m x cs:=
 Rep.mono h.1 t _ _ _ _ _ (fun b q _ hq=>by
  have:=h.2 b j (p++q) hj (by simpa using hq)
  simpa using this) hr
def az2 (p:Pl) (bx:Bool) (j:Nat):Bool:=(p.bx==bx)&&Nat.beq p.n j
theorem dzI {p:Pl} {bx:Bool} {j:Nat} (h:az2 p bx j=true):p.bx=bx∧p.n=j:=by
 simp only[az2,Bool.and_eq_true,beq_iff_eq] at h
 exact ⟨h.1,Nat.eq_of_beq_eq_true h.2⟩
theorem Dzd {p:Pl} {bx:Bool} {j:Nat} (h:az2 p bx j=false):bx≠p.bx∨j≠p.n:=by
 by_cases hb:p.bx=bx
 ·right;rintro rfl;simp [az2,hb] at h
 ·exact .inl (Ne.symm hb)
section
variable {gl:Nat→Option VV} {gv:Nat→Value} {n:Nat} {s s':St} {g g':G} {a:Act} {w w':World}
theorem Rel.root (h:Rel gl gv n s g a w) {p:Pl} {T:Ty} {M':Mk} {x':T.den} (f:Nat→VV→VV)
 (htm: ∀j,s'.tm j=bif az2 p false j then .v T M' x' else f j (s.tm j)) (hbx: ∀b,s'.bx b=bif az2 p true b then .v T M' x' else s.bx b)
 (hfv: ∀j t m x,f j (.v t m x)= .v t m x) (hft: ∀j vs,f j (.tup vs)= .tup vs)
 (hη:g'.η=g.η) (hφ:g'.φ=g.φ) (htc: ∀j,AV s g w (s.tm j) (a.tmps.getD j Go.undef)∨g'.tc j=g.tc j) (hbc: ∀b,az2 p true b=false→g'.bc b=g.bc b)
 (hst:azJ w w' g.ω g'.ω) (hoff: ∀bx j b q,az2 p bx j=false→g.ω b=some (azC bx j++q)→g'.ω b=some (azC bx j++q)∧w'.heap[b]?=w.heap[b]?)
 (hoff2: ∀b j,az2 p true j=false→g.ω b=some [2,j]→g'.ω b=some [2,j]∧w'.heap[b]?=w.heap[b]?)
 (hrep:Rep w' g'.ω g'.η T (azC p.bx p.n) M' x' (g'.rc p.bx p.n))
 (hval:p.bx=false→a.tmps.getD p.n Go.undef=mkV T (g'.tc p.n))
 (hbox:p.bx=true→g'.ω (g.φ p.n)=some [2,p.n]∧ ∃cells e fr,w'.heap[g.φ p.n]?=some (.cells cells e fr)∧bzg fr cells.size∧cells.toList=g'.bc p.n)
 (hal: ∀j v,az2 p false j=false→AV s g w (s.tm j) v→v=a.tmps.getD j Go.undef→RV s' g' w' (azC false j) (g'.tc j) (f j (s.tm j)) v)
 (hlt: ∀b,g'.ω b≠none→b<w'.heap.size):Rel gl gv n s' g' a w' where
 tm j:=by
  rw[htm]
  cases hr:az2 p false j
  ·simp only[cond_false]
   have hj:=h.tm j
   rcases hj.alias with ⟨t,m,x,e⟩| ⟨vs,e⟩|ha
   ·rcases htc j with hc|hc
    ·rw[e] at hc;cases hc
    ·rw[e,hfv];rw[e] at hj;rw[hc]
     exact hj.keep hη hst (fun b q hq=>hoff false j b q hr hq) (fun ha=>by cases ha)
   ·rcases htc j with hc|hc
    ·rw[e] at hc;cases hc
    ·rw[e,hft];rw[e] at hj;rw[hc]
     exact hj.keep hη hst (fun b q hq=>hoff false j b q hr hq) (fun ha=>by cases ha)
   ·exact hal j _ hr ha rfl
  ·obtain ⟨h1,h2⟩:=dzI hr
   subst h2
   simp only[cond_true]
   rw[h1] at hrep
   exact ⟨hrep,hval h1⟩
 bx b:=by
  rw[hbx]
  cases hr:az2 p true b
  ·simp only[cond_false]
   have hu:=h.bx b
   cases hv:s.bx b with
   |v T m x=>
    rw[hv] at hu
    obtain ⟨h1,⟨cells,e,fr,h2,h2',h3⟩,h4⟩:=hu
    have:=hoff2 _ _ hr h1
    refine ⟨by rw[hφ];exact this.1,⟨cells,e,fr,by rw[hφ];exact this.2.trans h2,h2',by rw[hbc b hr];exact h3⟩,?_⟩
    rw[hη,hbc b hr]
    exact Rep.mono hst _ _ _ _ _ _ (fun b' q _ hq=>hoff true b b' q hr hq) h4
   |junk=>trivial
   |_=>rw[hv] at hu;exact hu
  ·obtain ⟨h1,h2⟩:=dzI hr
   subst h2
   simp only[cond_true]
   rw[h1] at hrep
   obtain ⟨h3,h4⟩:=hbox h1
   exact ⟨by rw[hφ];exact h3,by rw[hφ];exact h4,hrep⟩
 gl i t x o hi:=(h.gl i t x o hi).keep hη hst (fun _ _=>rfl) (fun q hq=>by cases hq) (fun q hq=>by cases hq)
 lt:=hlt
 sz:=h.sz
 df:=h.df
theorem AV.root {p:Pl} {T:Ty} {M':Mk} {x':T.den} (h:Rel gl gv n s g a w) {W:VV} {v:Value} (hW:AV s g w W v)
 (hroot:s'.root p.bx p.n= .v T M' x') (hoth: ∀bx j,az2 p bx j=false→ ∀T' M x,s.root bx j= .v T' M x→s'.root bx j= .v T' M x)
 (hη:g'.η=g.η) (hφ:g'.φ=g.φ) (htc: ∀j t m x,s.tm j= .v t m x→g'.tc j=g.tc j) (hbc: ∀b,az2 p true b=false→g'.bc b=g.bc b)
 (hst:azJ w w' g.ω g'.ω) (hoff: ∀bx j b q,az2 p bx j=false→g.ω b=some (azC bx j++q)→g'.ω b=some (azC bx j++q)∧w'.heap[b]?=w.heap[b]?)
 (hq: ∀q,W.pl=some q→az2 p q.bx q.n=true→ ∀y m,s.get q=some (y,m)→(∃y',getAt q.t T q.o x'=some y'∧azM q.t T q.o M'=m∧lenT q.t y'=lenT q.t y∧(W.isS=true→y'=y))∧g'.cells q=g.cells q)
 (hs: ∀q,W.isS=true→W.pl=some q→az2 p q.bx q.n=true→ ∀r N c,g.cells q=[.slice (some ⟨r,0,none⟩) N c]→w'.heap[r]?=w.heap[r]?):AV s' g' w' W v:=by
 have hcell: ∀q:Pl,az2 p q.bx q.n=false→(∀z,s.get q=some z→s'.get q=some z)∧(∀z,s.get q=some z→g'.cells q=g.cells q):=by
  intro q hr
  refine ⟨fun z hz=>nzS (hoth _ _ hr) hz,fun z hz=>?_⟩
  obtain ⟨T',M,x,hrt,_⟩:=fzZ hz
  simp only[G.cells,G.rc]
  cases hb:q.bx with
  |false=>
   rw[hb] at hrt
   simp only[cond_false,htc _ _ _ _ (by simpa [St.root] using hrt)]
  |true=>
   rw[hb] at hr
   simp only[cond_true,hbc _ hr]
 have hget: ∀q y m,W.pl=some q→s.get q=some (y,m)→(∃y',s'.get q=some (y',m)∧lenT q.t y'=lenT q.t y∧(W.isS=true→y'=y))∧g'.cells q=g.cells q:=by
  intro q y m hp hz
  cases hr:az2 p q.bx q.n with
  |false=>exact ⟨⟨y,(hcell q hr).1 _ hz,rfl,fun _=>rfl⟩,(hcell q hr).2 _ hz⟩
  |true=>
   obtain ⟨h1,h2⟩:=dzI hr
   obtain ⟨⟨y',h3,h4,h5,h6⟩,h7⟩:=hq q hp hr y m hz
   have:=Dzm (s:=s') (q:=q) (by rw[←h1,←h2];exact hroot) h3
   rw[h4] at this
   exact ⟨⟨y',this,h5,h6⟩,h7⟩
 have hsr: ∀q y m,W.isS=true→W.pl=some q→s.get q=some (y,m)→ownM m=true→(∃U,q.t= .sl U)→ ∀r N c,g.cells q=[.slice (some ⟨r,0,none⟩) N c]→w'.heap[r]?=w.heap[r]?:=by
  intro q y m hs' hp hz hm ⟨U,hU⟩ r N c hc
  cases hr:az2 p q.bx q.n with
  |true=>exact hs q hs' hp hr r N c hc
  |false=>
   obtain ⟨bx,j,o,t⟩:=q
   subst hU
   obtain ⟨T',M,x,_,_,_,_,h12⟩:=h.get hz
   obtain ⟨_,h13,_⟩:=Rep.own_block h12 hm hc
   exact (hoff _ _ _ _ hr h13).2
 match W,hW with
 | .junk,_=>trivial
 | .undef,h=>exact h
 | .nilp,h=>exact h
 | .ref q,⟨h1,y,m,h2,h3,h4⟩=>
   obtain ⟨⟨y',h5,_⟩,h6⟩:=hget q y m rfl h2
   exact ⟨by rw[h6];exact h1,y',m,h5,h3,h4⟩
 | .sref ⟨bx,j,q, .sl U⟩ i o t,⟨xs,m,r,N,c,cells,e,fr,h1,h2,h3,h4,h5,h6,h7⟩=>
   obtain ⟨⟨y',h8,_,h9⟩,h10⟩:=hget _ _ _ rfl h1
   have:=h9 rfl
   subst this
   exact ⟨y',m,r,N,c,cells,e,fr,h8,h2,h3,h4,h10.trans h5,(hsr _ _ _ rfl rfl h1 h2 ⟨U,rfl⟩ _ _ _ h5).trans h6,h7⟩
 | .box b o,h=>exact (show v= .pointer (some ⟨g'.φ b,o,none⟩) by rw[hφ];exact h)
 | .ep ⟨bx,j,q, .sl U⟩ i o,⟨xs,m,r,N,c,h1,h2,h3,h4,h5,h6⟩=>
   obtain ⟨⟨y',h8,h9,_⟩,h10⟩:=hget _ _ _ rfl h1
   exact ⟨y',m,r,N,c,h8,h2,h3,by rw[h9];exact h4,h10.trans h5,h6⟩
 | .ep ⟨true,j,q, .arr k U⟩ i o,⟨h1,h2,h3⟩=>exact ⟨h1,h2,by rw[hφ];exact h3⟩
 | .cp t x o,⟨b,off,row,h1,h2,h3,h4,h5⟩=>
   exact ⟨b,off,row,h1,(h2.mono hst).1,h3,h4.mono (h2.mono hst).2,by rw[hη];exact Rep.sh_mono hst t _ _ _ _ h5⟩
end
end Go.TV
namespace Go.TV
section
variable {gl:Nat→Option VV} {gv:Nat→Value} {n:Nat} {s:St} {g:G} {a:Act} {w:World}
theorem xz2 {p:Pl} {bx:Bool} {j:Nat} (h:az2 p bx j=false) {q r:Path}: ¬(azC p.bx p.n++r)<+: (azC bx j++q):=by
 refine kzC ?_
 rcases Dzd h with h|h
 ·left;cases hb:p.bx<;>cases bx<;>simp_all
 ·exact .inr (Ne.symm h)
theorem NzM {t T:Ty} {o:Nat} {x:T.den} {y:t.den} (h:getAt t T o x=some y): ∃y',getAt t T o x=some y'∧lenT t y'=lenT t y∧y'=y:=⟨y,h,rfl,rfl⟩
theorem Pzm {p:Pl} {m':Mk} {T:Ty} {M:Mk} {x:T.den} (hr:s.root p.bx p.n= .v T M x) (j:Nat):
 ((s.maskPl p m').jr p).tm j=bif az2 p false j then .v T (azs p.t m' T p.o M) x else (s.tm j).jr p:=by
 simp only[St.jr,St.maskPl,hr]
 cases hb:p.bx with
 |true=>simp [az2,hb,St.setRoot,St.updBx]
 |false=>
  simp only[az2,hb,St.setRoot,cond_false,St.upd,BEq.rfl,Bool.true_and]
  cases hc:Nat.beq j p.n
  ·have:Nat.beq p.n j=false:=by cases h:Nat.beq p.n j;rfl;rw[Nat.eq_of_beq_eq_true h] at hc;simp at hc
   simp [this]
  ·have:=Nat.eq_of_beq_eq_true hc
   subst this;simp [VV.jr]
theorem MzT {p:Pl} {m':Mk} {T:Ty} {M:Mk} {x:T.den} (hr:s.root p.bx p.n= .v T M x) (b:Nat):
 ((s.maskPl p m').jr p).bx b=bif az2 p true b then .v T (azs p.t m' T p.o M) x else s.bx b:=by
 simp only[St.jr,St.maskPl,hr]
 cases hb:p.bx with
 |false=>simp [az2,hb,St.setRoot,St.upd]
 |true=>
  simp only[az2,hb,St.setRoot,cond_true,St.updBx,BEq.rfl,Bool.true_and]
  cases hc:Nat.beq b p.n
  ·have:Nat.beq p.n b=false:=by cases h:Nat.beq p.n b;rfl;rw[Nat.eq_of_beq_eq_true h] at hc;simp at hc
   simp [this]
  ·have:=Nat.eq_of_beq_eq_true hc
   subst this;simp
theorem vzP {s s':St} {p:Pl} {T:Ty} {M':Mk} {x':T.den} {f:Nat→VV→VV} (htm: ∀j,s'.tm j=bif az2 p false j then .v T M' x' else f j (s.tm j)) (hbx: ∀b,s'.bx b=bif az2 p true b then .v T M' x' else s.bx b)
 (hfv: ∀j t m x,f j (.v t m x)= .v t m x):s'.root p.bx p.n= .v T M' x'∧ ∀bx j,az2 p bx j=false→ ∀T' M x,s.root bx j= .v T' M x→s'.root bx j= .v T' M x:=by
 constructor
 ·cases hb:p.bx
  ·simp only[St.root,cond_false,htm];simp [az2,hb]
  ·simp only[St.root,cond_true,hbx];simp [az2,hb]
 ·intro bx j hr T' M x h
  cases bx
  ·simp only[St.root,cond_false] at h⊢
   rw[htm,hr,cond_false,h,hfv]
  ·simp only[St.root,cond_true] at h⊢
   rw[hbx,hr,cond_false,h]
theorem Rel.hoff_mv {p:Pl} {r p':Path} {ω:azw}: ∀bx j b q,az2 p bx j=false→ω b=some (azC bx j++q)→mv ω (azC p.bx p.n++r) p' b=some (azC bx j++q)∧w.heap[b]?=w.heap[b]?:=
 fun bx j b q hr hq=>⟨bzk hq (xz2 hr),rfl⟩
theorem Gzb {p:Pl} {r:Path} {j:Nat} {q:Path}: ¬(azC p.bx p.n++r)<+: ([2,j]++q):=kzC (.inl (by cases p.bx<;>decide))
theorem FzJ {p:Pl} {r:Path} {j:Nat} {q:Path}: ¬(azC p.bx p.n++r)<+: ([3,j]++q):=kzC (.inl (by cases p.bx<;>decide))
theorem Rel.rootval (h:Rel gl gv n s g a w) {p:Pl} {T:Ty} {M:Mk} {x:T.den} (hr:s.root p.bx p.n= .v T M x):
 (p.bx=false→a.tmps.getD p.n Go.undef=mkV T (g.tc p.n))∧
 (p.bx=true→g.ω (g.φ p.n)=some [2,p.n]∧ ∃cells e fr,w.heap[g.φ p.n]?=some (.cells cells e fr)∧bzg fr cells.size∧cells.toList=g.bc p.n):=by
 constructor
 ·intro hb
  have:=h.tm p.n
  rw[hb] at hr
  rw[show s.tm p.n= .v T M x from hr] at this
  exact this.2
 ·intro hb
  have:=h.bx p.n
  rw[hb] at hr
  rw[show s.bx p.n= .v T M x from hr] at this
  exact ⟨this.1,this.2.1⟩
theorem Rel.alias_mask (h:Rel gl gv n s g a w) {p:Pl} {y:p.t.den} {m m':Mk} {T:Ty} {M:Mk} {x:T.den} (hr:s.root p.bx p.n= .v T M x) (hy:getAt p.t T p.o x=some y) {s':St} {f:Nat→VV→VV} {g':G}
 (htm: ∀j,s'.tm j=bif az2 p false j then .v T (azs p.t m' T p.o M) x else f j (s.tm j)) (hbx: ∀b,s'.bx b=bif az2 p true b then .v T (azs p.t m' T p.o M) x else s.bx b)
 (hfv: ∀j t m x,f j (.v t m x)= .v t m x) (hη:g'.η=g.η) (hφ:g'.φ=g.φ) (htc: ∀j t m x,s.tm j= .v t m x→g'.tc j=g.tc j) (hbc:g'.bc=g.bc) (hst:azJ w w g.ω g'.ω)
 (hoff: ∀bx j b q,az2 p bx j=false→g.ω b=some (azC bx j++q)→g'.ω b=some (azC bx j++q)∧w.heap[b]?=w.heap[b]?)
 {W:VV} {v:Value} (hW:AV s g w W v):AV s' g' w (W.jr p) v:=by
 rcases Bzz p W with e| ⟨e,hp⟩
 ·rw[e];trivial
 ·rw[e]
  obtain ⟨h1,h2⟩:=vzP htm hbx hfv
  refine hW.root h h1 h2 hη hφ htc (fun _ _=>by rw[hbc]) hst hoff (fun q hq hrq y' mq hgq=>?_) (fun q _ hq hrq r N c hc=>rfl)
  obtain ⟨e1,e2⟩:=dzI hrq
  rcases kzh (hp q hq) with (h3|h3)| ⟨_,_,h3⟩
  ·exact absurd e1 h3
  ·exact absurd e2 h3
  ·obtain ⟨T',M',x',h4,h5,h6⟩:=fzZ hgq
   rw[←e1,←e2,hr] at h4
   cases h4
   refine ⟨⟨y',h5,?_,rfl,fun _=>rfl⟩,?_⟩
   ·rw[czz T p.o q.o M x y y' hy h5 h3];exact h6
   ·simp only[G.cells,G.rc,hbc]
    cases hb:q.bx with
    |true=>rfl
    |false=>
     rw[e1,hb] at hr
     rw[htc q.n _ _ _ (by rw[←e2];exact hr)]
theorem Rel.out (h:Rel gl gv n s g a w) {p:Pl} {y:p.t.den} {m:Mk} (hg:s.get p=some (y,m)) (k:Nat):
 ∃ω',Rel gl gv n (s.out p) {g with ω:=ω'} a w∧Rep w ω' g.η p.t [3,k] m y (g.cells p)∧Fl w w g.ω ω' k:=by
 obtain ⟨T,M,x,hr,hy,hm,hrep,hpl⟩:=h.get hg
 obtain ⟨hv,hb⟩:=h.rootval hr
 have key: ∀ω',azJ w w g.ω ω'→(∀bx j b q,az2 p bx j=false→g.ω b=some (azC bx j++q)→ω' b=some (azC bx j++q)∧w.heap[b]?=w.heap[b]?)→
  (∀b j,g.ω b=some [2,j]→ω' b=some [2,j])→(∀b,ω' b≠none→g.ω b≠none)→Rep w ω' g.η T (azC p.bx p.n) (azs p.t .no T p.o M) x (g.rc p.bx p.n)→Rel gl gv n (s.out p) {g with ω:=ω'} a w:=by
  intro ω' hst hoff h2 hne hrep'
  refine h.root (p:=p) (T:=T) (M':=azs p.t .no T p.o M) (x':=x) (fun _ W=>W.jr p) (Pzm hr) (MzT hr) (fun _ _ _ _=>rfl) (fun _ _=>rfl) rfl rfl (fun _=> .inr rfl) (fun _ _=>rfl) hst hoff
   (fun b j _ hq=>⟨h2 b j hq,rfl⟩) hrep' hv (fun hbx=>⟨h2 _ _ (hb hbx).1,(hb hbx).2⟩) (fun j v _ hW _=>RV.of_AV ?_) (fun b hb=>h.lt b (hne b hb))
  exact h.alias_mask (g':={g with ω:=ω'}) (m:=m) hr hy (Pzm hr) (MzT hr) (fun _ _ _ _=>rfl) rfl rfl (fun _ _ _ _ _=>rfl) rfl hst hoff hW
 by_cases hs:m= .sh
 ·subst hs
  exact ⟨g.ω,key g.ω (azJ.refl _ _) (fun _ _ _ _ _ hq=>⟨hq,rfl⟩) (fun _ _ hq=>hq) (fun _ hb=>hb) (Rep.forget _ _ _ _ _ _ hrep),Rep.sh_mono (azJ.refl _ _) _ _ _ _ _ hpl,Fl.refl _ _ _⟩
 ·refine ⟨mv g.ω (azC p.bx p.n++bzd p.t T p.o) [3,k],key _ bzJ Rel.hoff_mv (fun b j hq=>bzk hq (by simpa using Gzb (p:=p) (j:=j) (q:=[]))) (fun b hb=>nzX hb) ?_,?_,bzJ,fun b j q hj hq=>⟨bzk hq FzJ,rfl⟩⟩
  ·refine Rep.mono bzJ _ _ _ _ _ _ (fun b q hk hq=>?_) (Rep.forget T p.o _ _ _ _ hrep)
   have:=Rep.keep_no (m':= .no) keep_no T p.o _ _ _ _ y hy (by rw[hm];exact hs) hrep q hk
   exact ⟨bzk hq (by rw[List.prefix_append_right_inj];exact this.2),rfl⟩
  ·exact Rep.mono bzJ _ _ _ _ _ _ (fun b q hk hq=>⟨ozy hq,rfl⟩) hpl
theorem Qzu {p q:Pl} (h:p.same q=true):q=p:=by
 simp only[Pl.same,Bool.and_eq_true,beq_iff_eq] at h
 obtain ⟨⟨⟨h1,h2⟩,h3⟩,h4⟩:=h
 have h2:=Nat.eq_of_beq_eq_true h2
 have h3:=Nat.eq_of_beq_eq_true h3
 have h4:=bzD h4
 cases p;cases q;simp_all
def frzF (p:Pl) (y:p.t.den):VV→VV
 | .ref q=>bif p.same q then .v p.t .sh y else (VV.ref q).jr p
 |w=>w.jr p
theorem Pzn {p:Pl} {y:p.t.den} {T:Ty} {M:Mk} {x:T.den} (hr:s.root p.bx p.n= .v T M x) (j:Nat):
 (s.frz p y).tm j=bif az2 p false j then .v T (azs p.t .sh T p.o M) x else frzF p y (s.tm j):=by
 simp only[St.frz,St.maskPl,hr]
 cases hb:p.bx with
 |true=>
  simp only[az2,hb,St.setRoot,cond_true,St.updBx]
  cases s.tm j<;>rfl
 |false=>
  simp only[az2,hb,St.setRoot,cond_false,St.upd,BEq.rfl,Bool.true_and]
  cases hc:Nat.beq j p.n
  ·have:Nat.beq p.n j=false:=by cases h:Nat.beq p.n j;rfl;rw[Nat.eq_of_beq_eq_true h] at hc;simp at hc
   simp only[this,cond_false]
   cases s.tm j<;>rfl
  ·have:=Nat.eq_of_beq_eq_true hc
   subst this;simp [VV.jr]
theorem Pzr {p:Pl} {y:p.t.den} {T:Ty} {M:Mk} {x:T.den} (hr:s.root p.bx p.n= .v T M x) (b:Nat):
 (s.frz p y).bx b=bif az2 p true b then .v T (azs p.t .sh T p.o M) x else s.bx b:=by
 have:=MzT (m':= .sh) hr b
 simpa only[St.frz,St.jr] using this
theorem Rel.frz (h:Rel gl gv n s g a w) {p:Pl} {y:p.t.den} {m:Mk} (hg:s.get p=some (y,m)) (hs:m≠ .sh) (hall:m.all=true):
 ∃ω' tc',Rel gl gv n (s.frz p y) {g with ω:=ω',tc:=tc'} a w∧Rep w ω' g.η p.t [] .sh y (g.cells p)∧(∀k,Fl w w g.ω ω' k)∧(∀j t m x,s.tm j= .v t m x→tc' j=g.tc j):=by
 obtain ⟨T,M,x,hr,hy,hm,hrep,hpl⟩:=h.get hg
 obtain ⟨hv,hb⟩:=h.rootval hr
 subst hm
 let pa:=azC p.bx p.n++bzd p.t T p.o
 have hoff: ∀bx j b q,az2 p bx j=false→g.ω b=some (azC bx j++q)→czo g.ω pa .sh b=some (azC bx j++q)∧w.heap[b]?=w.heap[b]?:=
  fun bx j b q hr hq=>⟨bzj hq (xz2 hr),rfl⟩
 have h2: ∀b j,g.ω b=some [2,j]→czo g.ω pa .sh b=some [2,j]:=fun b j hq=>bzj hq (by simpa using Gzb (p:=p) (r:=bzd p.t T p.o) (j:=j) (q:=[]))
 let tc':Nat→List Value:=fun j=>match s.tm j with
  | .ref q=>if p.same q then g.cells p else g.tc j
  |_=>g.tc j
 have htc': ∀j t m x,s.tm j= .v t m x→tc' j=g.tc j:=fun j t m x e=>by simp only[tc',e]
 have hsh:Rep w (czo g.ω pa .sh) g.η p.t [] .sh y (g.cells p):=
  Rep.sh_mono (azJ.refl _ _) _ _ _ _ _ (Rep.weaken p.t g.ω pa _ .sh y _ (by cases hc:azM p.t T p.o M<;>simp_all [Mk.le]) hpl)
 have hfv: ∀ (j:Nat) t m x,frzF p y (.v t m x)= .v t m x:=fun _ _ _ _=>rfl
 refine ⟨czo g.ω pa .sh,tc',h.root (p:=p) (T:=T) (M':=azs p.t .sh T p.o M) (x':=x) (fun _=>frzF p y) (Pzn hr) (Pzr hr) hfv (fun _ _=>rfl) rfl rfl (fun j=>?_) (fun _ _=>rfl) gzC hoff
  (fun b j _ hq=>⟨h2 b j hq,rfl⟩) ?_ (fun hbx=>?_) (fun hbx=>⟨h2 _ _ (hb hbx).1,(hb hbx).2⟩) (fun j v hj hW _=>?_) (fun b hb=>h.lt b (fun e=>hb (az6 e))),hsh,fun k=>⟨gzC,fun b j q _ hq=>⟨bzj hq FzJ,rfl⟩⟩,htc'⟩
 ·rcases (h.tm j).alias with ⟨t,m,x,e⟩| ⟨vs,e⟩|ha
  ·right;exact htc' j _ _ _ e
  ·right;simp only[tc',e]
  ·exact .inl ha
 ·have:=Rep.freeze T p.o _ _ _ _ y hy hs hall hrep
  have e:(({g with ω:=czo g.ω pa .sh,tc:=tc'}:G)).rc p.bx p.n=g.rc p.bx p.n:=by
   simp only[G.rc]
   cases hbx:p.bx with
   |true=>rfl
   |false=>rw[hbx] at hr;simp only[cond_false];exact htc' _ _ _ _ hr
  rw[e];exact this
 ·rw[hbx] at hr;show _=mkV T (tc' p.n);rw[show tc' p.n=g.tc p.n from htc' _ _ _ _ hr];exact hv hbx
 ·have hjr:=h.alias_mask (g':={g with ω:=czo g.ω pa .sh,tc:=tc'}) (m:= .no) hr hy (Pzn hr) (Pzr hr) hfv rfl rfl htc' rfl gzC hoff hW
  cases hj':s.tm j with
  |ref q=>
   rw[hj'] at hW hjr
   simp only[frzF]
   cases hc:p.same q
   ·exact RV.of_AV hjr
   ·have:=Qzu hc
    subst this
    simp only[cond_true]
    refine ⟨?_,?_⟩
    ·rw[show tc' j=g.cells q by simp only[tc',hj',hc,if_true]]
     exact Rep.sh_mono (azJ.refl _ _) _ _ _ _ _ hsh
    ·rw[show tc' j=g.cells q by simp only[tc',hj',hc,if_true]]
     exact hW.1
  |_=>rw[hj'] at hjr;exact RV.of_AV hjr
end
end Go.TV
namespace Go.TV
theorem Mk.eqb_eq: ∀ {a b:Mk},a.eqb b=true→a=b
 | .no, .no,_=>rfl
 | .sh, .sh,_=>rfl
 | .own p a, .own q b,h=>by
   simp only[Mk.eqb] at h
   cases hc:Nat.beq p q<;>rw[hc] at h
   ·cases h
   ·rw[Nat.eq_of_beq_eq_true hc,Mk.eqb_eq h]
 | .pr a b, .pr c d,h=>by
   simp only[Mk.eqb] at h
   cases hc:a.eqb c<;>rw[hc] at h
   ·cases h
   ·rw[Mk.eqb_eq hc,Mk.eqb_eq h]
 | .no, .sh,h=>by cases h
 | .no, .own _ _,h=>by cases h
 | .no, .pr _ _,h=>by cases h
 | .sh, .no,h=>by cases h
 | .sh, .own _ _,h=>by cases h
 | .sh, .pr _ _,h=>by cases h
 | .own _ _, .no,h=>by cases h
 | .own _ _, .sh,h=>by cases h
 | .own _ _, .pr _ _,h=>by cases h
 | .pr _ _, .no,h=>by cases h
 | .pr _ _, .sh,h=>by cases h
 | .pr _ _, .own _ _,h=>by cases h
theorem fzd {t u:Ty} {x x':u.den} {y:t.den} (h:bzB t x=some y): ∃y',bzB t x'=some y':=by
 obtain ⟨e,_⟩:=azk h
 subst e
 exact ⟨x',dzX x'⟩
theorem jzi {t T:Ty} {o:Nat} {x x':T.den} {y:t.den} (h:(bif Nat.beq o 0 then bzB t x else none)=some y): ∃y',(bif Nat.beq o 0 then bzB t x' else none)=some y':=by
 cases hb:Nat.beq o 0<;>rw[hb] at h
 ·cases h
 ·exact fzd h
theorem mz0 {t:Ty}: ∀ (T:Ty) (o:Nat) (x x':T.den) (y:t.den),getAt t T o x=some y→ ∃y',getAt t T o x'=some y'
 | .prod a b,o,x,x',y,h=>by
   simp only[getAt] at h⊢
   cases hc:(Nat.beq o 0&&isTy (.prod a b) t)<;>rw[hc] at h
   ·simp only[cond_false] at h⊢
    cases hb:Nat.ble (o+1) a.sz<;>rw[hb] at h
    ·exact mz0 b _ _ _ _ h
    ·exact mz0 a _ _ _ _ h
   ·simp only[cond_true] at h⊢
    exact fzd (u:= .prod a b) h
 | .item,o,x,x',y,h=>by
   simp only[getAt] at h⊢
   split at h
   ·cases hc:isTy .item t<;>rw[hc] at h
    ·exact fzd (u:= .bool) h
    ·exact fzd (u:= .item) h
   ·exact fzd (u:= .str) h
   ·exact fzd (u:= .sl .item) h
   ·cases h
 | .int k,o,x,x',y,h=>jzi h
 | .bool,o,x,x',y,h=>jzi h
 | .str,o,x,x',y,h=>jzi h
 | .unit,o,x,x',y,h=>jzi h
 | .sl k,o,x,x',y,h=>jzi h
 | .arr n k,o,x,x',y,h=>jzi h
theorem lzA {t T:Ty} {o:Nat} {z:T.den} {y:t.den} (h:(bif Nat.beq o 0 then bzB T y else none)=some z):(bif Nat.beq o 0 then bzB t z else none)=some y:=by
 cases hb:Nat.beq o 0<;>rw[hb] at h
 ·cases h
 ·obtain ⟨e,he⟩:=azk h
  subst e;subst he
  exact dzX _
theorem ezS {t:Ty} {y:t.den}: ∀ (T:Ty) (o:Nat) (x z:T.den),setAt t y T o x=some z→getAt t T o z=some y
 | .prod a b,o,x,z,h=>by
   simp only[setAt] at h
   simp only[getAt]
   cases hc:(Nat.beq o 0&&isTy (.prod a b) t)<;>rw[hc] at h
   ·simp only[cond_false] at h⊢
    cases hb:Nat.ble (o+1) a.sz<;>rw[hb] at h
    ·simp only[cond_false] at h⊢
     split at h
     ·rename_i z' hz;cases h;exact ezS b _ _ _ hz
     ·cases h
    ·simp only[cond_true] at h⊢
     split at h
     ·rename_i z' hz;cases h;exact ezS a _ _ _ hz
     ·cases h
   ·simp only[cond_true] at h⊢
    obtain ⟨e,he⟩:=azk h
    subst e;subst he
    exact dzX _
 | .item,o,x,z,h=>by
   simp only[setAt] at h
   simp only[getAt]
   split at h
   ·cases hc:isTy .item t<;>rw[hc] at h
    ·simp only[cond_false] at h⊢
     split at h
     ·rename_i y' hy
      cases h
      obtain ⟨e,he⟩:=azk hy
      subst e;subst he
      exact dzX (t:= .bool) _
     ·cases h
    ·obtain ⟨e,he⟩:=azk h
     subst e;subst he
     exact dzX (t:= .item) _
   ·split at h
    ·rename_i y' hy
     cases h
     obtain ⟨e,he⟩:=azk hy
     subst e;subst he
     exact dzX (t:= .str) _
    ·cases h
   ·split at h
    ·rename_i y' hy
     cases h
     obtain ⟨e,he⟩:=azk hy
     subst e;subst he
     exact dzX (t:= .sl .item) _
    ·cases h
   ·cases h
 | .int k,o,x,z,h=>lzA h
 | .bool,o,x,z,h=>lzA h
 | .str,o,x,z,h=>lzA h
 | .unit,o,x,z,h=>lzA h
 | .sl k,o,x,z,h=>lzA h
 | .arr n k,o,x,z,h=>lzA h
theorem dzw {t:Ty} {y:t.den} {T:Ty} {o:Nat} {x z:T.den} (h:setAt t y T o x=some z): ∃y0,getAt t T o x=some y0:=
 mz0 T o z x y (ezS T o x z h)
theorem Bz3 {U U':Ty}: ∀ (T:Ty) (o:Nat) (x:T.den) (y:(Ty.sl U).den) (y':(Ty.sl U').den),getAt (.sl U) T o x=some y→getAt (.sl U') T o x=some y'→U=U'
 | .prod a b,o,x,y,y',h,h'=>by
   have e1:isTy (.prod a b) (.sl U)=false:=by simp [isTy]
   have e2:isTy (.prod a b) (.sl U')=false:=by simp [isTy]
   simp only[getAt,e1,e2,Bool.and_false,cond_false] at h h'
   cases hb:Nat.ble (o+1) a.sz<;>rw[hb] at h h'
   ·exact Bz3 b _ _ _ _ h h'
   ·exact Bz3 a _ _ _ _ h h'
 | .item,o,x,y,y',h,h'=>by
   have key: ∀ (V:Ty) (v:(Ty.sl V).den),getAt (.sl V) .item o x=some v→V= .item:=by
    intro V v h
    have e1:isTy .item (.sl V)=false:=by simp [isTy]
    simp only[getAt,e1,cond_false] at h
    split at h
    ·obtain ⟨e,_⟩:=azk (u:= .bool) h;cases e
    ·obtain ⟨e,_⟩:=azk (u:= .str) h;cases e
    ·obtain ⟨e,_⟩:=azk (u:= .sl .item) h;cases e;rfl
    ·cases h
   rw[key U y h,key U' y' h']
 | .int k,o,x,y,y',h,h'=>by have:=(azj h).2;cases this
 | .bool,o,x,y,y',h,h'=>by have:=(azj h).2;cases this
 | .str,o,x,y,y',h,h'=>by have:=(azj h).2;cases this
 | .unit,o,x,y,y',h,h'=>by have:=(azj h).2;cases this
 | .sl k,o,x,y,y',h,h'=>by have:=(azj h).2;have:=(azj h').2;simp_all
 | .arr n k,o,x,y,y',h,h'=>by have:=(azj h).2;cases this
theorem wzA {U U':Ty}: ∀ (T:Ty) (o o':Nat) (x:T.den) (y:(Ty.sl U).den) (y':(Ty.sl U').den),getAt (.sl U) T o x=some y→getAt (.sl U') T o' x=some y'→bzd (.sl U) T o=bzd (.sl U') T o'→o=o'
 | .prod a b,o,o',x,y,y',h,h',hp=>by
   have e1:isTy (.prod a b) (.sl U)=false:=by simp [isTy]
   have e2:isTy (.prod a b) (.sl U')=false:=by simp [isTy]
   simp only[getAt,bzd,e1,e2,Bool.and_false,cond_false] at h h' hp
   cases hb:Nat.ble (o+1) a.sz<;>rw[hb] at h hp<;>cases hb':Nat.ble (o'+1) a.sz<;>rw[hb'] at h' hp<;>simp only[cond_true,cond_false,List.cons.injEq,true_and] at h h' hp
   ·have:=ezy hb
    have:=ezy hb'
    have:=wzA b _ _ _ _ _ h h' hp
    omega
   ·exact absurd hp.1 (by decide)
   ·exact absurd hp.1 (by decide)
   ·exact wzA a _ _ _ _ _ h h' hp
 | .item,o,o',x,y,y',h,h',hp=>by
   have key: ∀ (V:Ty) (o:Nat) (v:(Ty.sl V).den),getAt (.sl V) .item o x=some v→o=2:=by
    intro V o v h
    have e1:isTy .item (.sl V)=false:=by simp [isTy]
    simp only[getAt,e1,cond_false] at h
    split at h
    ·obtain ⟨e,_⟩:=azk (u:= .bool) h;cases e
    ·obtain ⟨e,_⟩:=azk (u:= .str) h;cases e
    ·rfl
    ·cases h
   rw[key U o y h,key U' o' y' h']
 | .int k,o,o',x,y,y',h,h',hp=>by rw[(azj h).1,(azj h').1]
 | .bool,o,o',x,y,y',h,h',hp=>by rw[(azj h).1,(azj h').1]
 | .str,o,o',x,y,y',h,h',hp=>by rw[(azj h).1,(azj h').1]
 | .unit,o,o',x,y,y',h,h',hp=>by rw[(azj h).1,(azj h').1]
 | .sl k,o,o',x,y,y',h,h',hp=>by rw[(azj h).1,(azj h').1]
 | .arr n k,o,o',x,y,y',h,h',hp=>by rw[(azj h).1,(azj h').1]
theorem uzy {U U':Ty}: ∀ (T:Ty) (o o':Nat) (x:T.den) (y:(Ty.sl U).den) (y':(Ty.sl U').den),getAt (.sl U) T o x=some y→getAt (.sl U') T o' x=some y'→bzd (.sl U) T o<+:bzd (.sl U') T o'→o=o'
 | .prod a b,o,o',x,y,y',h,h',hp=>by
   have e1:isTy (.prod a b) (.sl U)=false:=by simp [isTy]
   have e2:isTy (.prod a b) (.sl U')=false:=by simp [isTy]
   simp only[getAt,bzd,e1,e2,Bool.and_false,cond_false] at h h' hp
   cases hb:Nat.ble (o+1) a.sz<;>rw[hb] at h hp<;>cases hb':Nat.ble (o'+1) a.sz<;>rw[hb'] at h' hp<;>simp only[cond_true,cond_false,List.cons_prefix_cons,true_and] at h h' hp
   ·have:=ezy hb
    have:=ezy hb'
    have:=uzy b _ _ _ _ _ h h' hp
    omega
   ·exact absurd hp.1 (by decide)
   ·exact absurd hp.1 (by decide)
   ·exact uzy a _ _ _ _ _ h h' hp
 | .item,o,o',x,y,y',h,h',hp=>wzA .item o o' x y y' h h' rfl
 | .int k,o,o',x,y,y',h,h',hp=>by rw[(azj h).1,(azj h').1]
 | .bool,o,o',x,y,y',h,h',hp=>by rw[(azj h).1,(azj h').1]
 | .str,o,o',x,y,y',h,h',hp=>by rw[(azj h).1,(azj h').1]
 | .unit,o,o',x,y,y',h,h',hp=>by rw[(azj h).1,(azj h').1]
 | .sl k,o,o',x,y,y',h,h',hp=>by rw[(azj h).1,(azj h').1]
 | .arr n k,o,o',x,y,y',h,h',hp=>by rw[(azj h).1,(azj h').1]
theorem gzb {t:Ty} {m' m'':Mk}: ∀ (T:Ty) (o:Nat) (m:Mk),azs t m' T o (azs t m'' T o m)=azs t m' T o m
 | .prod a b,o,m=>by
   simp only[azs]
   cases (Nat.beq o 0&&isTy (.prod a b) t)
   ·simp only[cond_false]
    cases Nat.ble (o+1) a.sz
    ·simp only[cond_false,Mk.mkpr_l,Mk.mkpr_r,gzb b]
    ·simp only[cond_true,Mk.mkpr_l,Mk.mkpr_r,gzb a]
   ·rfl
 | .item,o,m=>by
   simp only[azs]
   cases isTy .item t
   ·simp only[cond_false]
    match o with
    |0=>rfl
    |1=>rfl
    |2=>cases m<;>cases m''<;>cases m'<;>rfl
    |k+3=>rfl
   ·rfl
 | .int _,_,_=>rfl
 | .bool,_,_=>rfl
 | .str,_,_=>rfl
 | .unit,_,_=>rfl
 | .sl _,_,_=>rfl
 | .arr _ _,_,_=>rfl
def bzC {α:Type} (l:List α) (o:Nat) (row:List α):List α:=l.take o++row++l.drop (o+row.length)
theorem ezf {α:Type} {l row:List α} {o:Nat} (h:o+row.length≤l.length):(bzC l o row).length=l.length:=by
 simp only[bzC,List.length_append,List.length_take,List.length_drop];omega
theorem czP {α:Type} {l row:List α} {o:Nat} (h:o+row.length≤l.length) (i:Nat):(bzC l o row)[i]?=if i<o then l[i]? else if i<o+row.length then row[i-o]? else l[i]?:=by
 have ht:(l.take o).length=o:=by simp only[List.length_take];omega
 by_cases h1:i<o
 ·rw[if_pos h1,bzC,List.append_assoc,List.getElem?_append_left (by omega),List.getElem?_take_of_lt h1]
 ·rw[if_neg h1]
  by_cases h2:i<o+row.length
  ·rw[if_pos h2,bzC,List.append_assoc,List.getElem?_append_right (by omega),List.getElem?_append_left (by omega),ht]
  ·rw[if_neg h2,bzC,List.append_assoc,List.getElem?_append_right (by omega),List.getElem?_append_right (by omega),List.getElem?_drop,ht]
   congr 1;omega
theorem oz8 {α:Type} {l row:List α} {o o' n':Nat} (h:o+row.length≤l.length) (hd:o+row.length≤o'∨o'+n'≤o):((bzC l o row).drop o').take n'=(l.drop o').take n':=by
 refine List.ext_getElem? fun i=>?_
 by_cases hi:i<n'
 ·rw[List.getElem?_take_of_lt hi,List.getElem?_take_of_lt hi,List.getElem?_drop,List.getElem?_drop,czP h]
  rcases hd with hd|hd
  ·rw[if_neg (by omega),if_neg (by omega)]
  ·rw[if_pos (by omega)]
 ·rw[List.getElem?_eq_none (by simp only[List.length_take];omega),List.getElem?_eq_none (by simp only[List.length_take];omega)]
theorem Ezi {α:Type} {l row:List α} {b n o:Nat} (h:o+row.length≤n) (hl:b+n≤l.length):((bzC l (b+o) row).drop b).take n=bzC ((l.drop b).take n) o row:=by
 have hs:((l.drop b).take n).length=n:=by simp only[List.length_take,List.length_drop];omega
 refine List.ext_getElem? fun i=>?_
 rw[czP (by omega)]
 by_cases hi:i<n
 ·rw[List.getElem?_take_of_lt hi,List.getElem?_drop,czP (by omega),List.getElem?_take_of_lt hi,List.getElem?_drop]
  by_cases h1:i<o
  ·rw[if_pos (by omega),if_pos h1]
  ·rw[if_neg (by omega),if_neg h1]
   by_cases h2:i<o+row.length
   ·rw[if_pos (by omega),if_pos h2];congr 1;omega
   ·rw[if_neg (by omega),if_neg h2]
 ·rw[if_neg (by omega),if_neg (by omega),List.getElem?_eq_none (by simp only[List.length_take];omega),List.getElem?_eq_none (by omega)]
end Go.TV
namespace Go.TV
section
variable {gl:Nat→Option VV} {gv:Nat→Value} {n:Nat} {s:St} {g:G} {a:Act} {w w':World}
theorem uzn {p:Pl} {V:VV} {f:VV→VV} (hf:f V=V) (j:Nat):
 (fun j=>f ((s.setRoot p.bx p.n V).tm j)) j=bif az2 p false j then V else f (s.tm j):=by
 cases hb:p.bx with
 |true=>simp [az2,hb,St.setRoot,St.updBx]
 |false=>
  simp only[az2,hb,St.setRoot,cond_false,St.upd,BEq.rfl,Bool.true_and]
  cases hc:Nat.beq j p.n
  ·have:Nat.beq p.n j=false:=by cases h:Nat.beq p.n j;rfl;rw[Nat.eq_of_beq_eq_true h] at hc;simp at hc
   simp [this]
  ·have:=Nat.eq_of_beq_eq_true hc
   subst this;simp [hf]
theorem uzo {p:Pl} {V:VV} (b:Nat):(s.setRoot p.bx p.n V).bx b=bif az2 p true b then V else s.bx b:=by
 cases hb:p.bx with
 |false=>simp [az2,hb,St.setRoot,St.upd]
 |true=>
  simp only[az2,hb,St.setRoot,cond_true,St.updBx,BEq.rfl,Bool.true_and]
  cases hc:Nat.beq b p.n
  ·have:Nat.beq p.n b=false:=by cases h:Nat.beq p.n b;rfl;rw[Nat.eq_of_beq_eq_true h] at hc;simp at hc
   simp [this]
  ·have:=Nat.eq_of_beq_eq_true hc
   subst this;simp
theorem nzr {w w':World} {ω:azw} {η:Pins} {t:Ty} {k:Nat} {p':Path} {m:Mk} {x:t.den} {cs:List Value} (hh: ∀b q,ω b=some ([3,k]++q)→w'.heap[b]?=w.heap[b]?)
 (hst:azJ w w' ω (mv ω [3,k] p')) (h:Rep w ω η t [3,k] m x cs):Rep w' (mv ω [3,k] p') η t p' m x cs:=
 Rep.mono hst _ _ _ _ _ _ (fun b q _ hq=>⟨ozy hq,hh b q hq⟩) h
theorem Rel.setBox (h:Rel gl gv n s g a w) {p:Pl} (hbx:p.bx=true) {T:Ty} {M:Mk} {x z:T.den} {y:p.t.den} {m:Mk} {row:List Value} {k:Nat}
 (hr:s.root p.bx p.n= .v T M x) (hz:setAt p.t y T p.o x=some z) (hm:m≠ .no) (hy:Rep w g.ω g.η p.t [3,k] m y row)
 {cells':Array Value} {e:TypeId} {fr:Nat×Nat} {cells:Array Value} (h0:w.heap[g.φ p.n]?=some (.cells cells e fr)) (h1:w'.heap[g.φ p.n]?=some (.cells cells' e fr)) (h2:cells'.toList=bzC cells.toList p.o row)
 (h3: ∀b,b≠g.φ p.n→w'.heap[b]?=w.heap[b]?):
 ∃g',Rel gl gv n ((s.setRoot p.bx p.n (.v T (azs p.t m T p.o M) z)).jr p) g' a w'∧g'.φ=g.φ∧g'.η=g.η∧Fl w w' g.ω g'.ω k:=by
 obtain ⟨_,hb⟩:=h.rootval hr
 obtain ⟨ho,cells0,e0,fr0,h0',hu,hbc⟩:=hb hbx
 rw[h0] at h0'
 simp only[Option.some.injEq,Obj.cells.injEq] at h0'
 obtain ⟨rfl,rfl,rfl⟩:=h0'
 obtain ⟨y0,hy0⟩:=dzw hz
 have hrow:=Rep.length _ _ _ _ _ hy
 have hfit:=azT _ _ _ _ hy0
 have hrep:Rep w g.ω g.η T (azC p.bx p.n) M x (g.rc p.bx p.n):=by
  have:=h.bx p.n
  rw[hbx] at hr⊢
  rw[show s.bx p.n= .v T M x from hr] at this
  exact this.2.2
 have hrc:g.rc p.bx p.n=g.bc p.n:=by simp [G.rc,hbx]
 have hlen:=Rep.length _ _ _ _ _ hrep
 rw[hrc] at hrep hlen
 let ω':=mv g.ω [3,k] (azC p.bx p.n++bzd p.t T p.o)
 let g':G:={g with ω:=ω',bc:=fun b=>if b=p.n then bzC (g.bc p.n) p.o row else g.bc b}
 have hne: ∀b r,g.ω b=some r→r≠ [2,p.n]→w'.heap[b]?=w.heap[b]?:=fun b r hq hr=>h3 b (by rintro rfl;rw[ho] at hq;simp at hq;exact hr hq.symm)
 have hst:azJ w w' g.ω ω':=fun b _ hq=>⟨tzO hq,h3 b (by rintro rfl;rw[ho] at hq;cases hq)⟩
 have h23: ∀ (j i:Nat) (q:Path),([3,j]++q:Path)≠ [2,i]:=by intro j i q e;simp at e
 have hoff: ∀bx j b q,az2 p bx j=false→g.ω b=some (azC bx j++q)→ω' b=some (azC bx j++q)∧w'.heap[b]?=w.heap[b]?:=fun bx j b q _ hq=>
  ⟨bzk hq (azI (.inl (by cases bx<;>decide))),hne b _ hq (by cases bx<;>simp [azC])⟩
 have hfl:Fl w w' g.ω ω' k:=⟨hst,fun b j q hj hq=>⟨bzk hq (azI (.inr (Ne.symm hj))),hne b _ hq (h23 _ _ _)⟩⟩
 have hbcn: ∀b,az2 p true b=false→g'.bc b=g.bc b:=fun b hb'=>by
  simp only[g']
  rw[if_neg (by rintro rfl;simp [az2,hbx] at hb')]
 have htm:=fun j=>uzn (s:=s) (p:=p) (V:= .v T (azs p.t m T p.o M) z) (f:=fun W=>W.jr p) rfl j
 have hbxs:=fun b=>uzo (s:=s) (p:=p) (V:= .v T (azs p.t m T p.o M) z) b
 have hfv: ∀ (j:Nat) t m x,(fun (_:Nat) (W:VV)=>W.jr p) j (.v t m x)= .v t m x:=fun _ _ _ _=>rfl
 have hrep':Rep w' ω' g.η T (azC p.bx p.n) M x (g.bc p.n):=Rep.mono hst _ _ _ _ _ _ (fun b q _ hq=>
  ⟨bzk hq (azI (.inl (by cases p.bx<;>decide))),hne b _ hq (by cases p.bx<;>simp [azC])⟩) hrep
 refine ⟨g',h.root (p:=p) (T:=T) (M':=azs p.t m T p.o M) (x':=z) (fun _ W=>W.jr p) htm hbxs hfv (fun _ _=>rfl) rfl rfl (fun _=> .inr rfl) hbcn hst hoff
  (fun b j hj hq=>⟨bzk hq (by simp),hne b _ hq (by intro e;simp only[List.cons.injEq,and_true,true_and] at e;subst e;simp [az2,hbx] at hj)⟩) ?_ (fun hf=>by rw[hbx] at hf;cases hf)
  (fun _=>⟨bzk ho (by simp),cells',e,fr,h1,?_,?_⟩) (fun j v hj hW _=>RV.of_AV ?_) (fun b hb'=>?_),rfl,rfl,hfl⟩
 ·have hyy:Rep w' ω' g.η p.t (azC p.bx p.n++bzd p.t T p.o) m y row:=nzr (fun b q hq=>hne b _ hq (h23 _ _ _)) hst hy
  have:=Rep.setAt hm T p.o _ _ _ _ _ hz hrep' hyy
  rw[show g'.rc p.bx p.n=bzC (g.bc p.n) p.o row by simp [g',G.rc,hbx],bzC,hrow]
  exact this
 ·have:cells'.size=cells.size:=by
   rw[←Array.length_toList,h2,ezf (by rw[hrow,hbc,hlen];exact hfit),Array.length_toList]
  rw[this];exact hu
 ·rw[h2,hbc];simp [g']
 ·show AV _ g' w' ((s.tm j).jr p) v
  rcases Bzz p (s.tm j) with e1| ⟨e1,hp⟩
  ·rw[e1];trivial
  ·rw[e1]
   obtain ⟨r1,r2⟩:=vzP (s':=(s.setRoot p.bx p.n (.v T (azs p.t m T p.o M) z)).jr p) (f:=fun _ W=>W.jr p) htm hbxs hfv
   refine hW.root h r1 r2 rfl rfl (fun _ _ _ _ _=>rfl) hbcn hst hoff (fun q hq hrq y' mq hgq=>?_) (fun q _ hq hrq r N c hc=>?_)
   ·obtain ⟨e1,e2⟩:=dzI hrq
    rcases kzh (hp q hq) with (h4|h4)| ⟨_,_,h4⟩
    ·exact absurd e1 h4
    ·exact absurd e2 h4
    ·obtain ⟨T',M',x',h5,h6,h7⟩:=fzZ hgq
     rw[←e1,←e2,hr] at h5
     cases h5
     refine ⟨⟨y',dzP T p.o q.o x z y' hz h6 h4,?_,rfl,fun _=>rfl⟩,?_⟩
     ·rw[czz T p.o q.o M x y0 y' hy0 h6 h4];exact h7
     ·simp only[G.cells,G.rc,←e1,hbx,cond_true,g',←e2,if_true]
      refine oz8 (by rw[hrow,hlen];exact hfit) ?_
      rw[hrow]
      exact h4.2.2
   ·generalize hWj:s.tm j=W at*
    match W,hq,hW with
    | .sref ⟨bx,n',q', .sl U⟩ i o t,hq,⟨xs,m2,r',N',c',cells2,e2,fr2,g1,g2,g3⟩=>
      simp only[VV.pl,Option.some.injEq] at hq
      subst hq
      obtain ⟨_,_,_,_,_,_,_,g5⟩:=h.get g1
      obtain ⟨_,g6,_⟩:=Rep.own_block g5 g2 hc
      refine hne r _ g6 ?_
      cases bx<;>simp [azC]
 ·have:=h.lt b (nzX hb')
  rcases Nat.lt_or_ge b w'.heap.size with hlt|hge
  ·exact hlt
  ·exfalso
   have hn:w'.heap[b]?=none:=Array.getElem?_eq_none hge
   by_cases hb2:b=g.φ p.n
   ·subst hb2;rw[h1] at hn;cases hn
   ·rw[h3 b hb2,Array.getElem?_eq_getElem this] at hn;cases hn
end
end Go.TV
namespace Go.TV
section
variable {gl:Nat→Option VV} {gv:Nat→Value} {n:Nat} {s:St} {g:G} {a:Act} {w w':World}
theorem Gzx {α:Type} {xs:List α} {i:Int} {x:α} {j:Nat} {v:α} (h:(upd xs i x)[j]?=some v):(j=i.toNat∧v=x∧j<xs.length)∨(j≠i.toNat∧xs[j]?=some v):=by
 unfold upd at h
 rw[List.getElem?_set] at h
 by_cases hj:i.toNat=j
 ·subst hj
  simp only[if_true] at h
  by_cases hl:i.toNat<xs.length
  ·rw[if_pos hl] at h;cases h;exact .inl ⟨rfl,rfl,hl⟩
  ·rw[if_neg hl] at h;cases h
 ·rw[if_neg hj] at h
  exact .inr ⟨Ne.symm hj,h⟩
theorem fzv {α:Type} {xs:List α} {i:Int} {x:α}:(upd xs i x).length=xs.length:=by simp [upd]
theorem ezw {i j sz:Nat} (h:i<j):i*sz+sz≤j*sz:=by
 have:(i+1)*sz≤j*sz:=Nat.mul_le_mul_right _ h
 rwa [Nat.add_mul,Nat.one_mul] at this
theorem Rel.alias_el (h:Rel gl gv n s g a w) {bx:Bool} {n0 o':Nat} {U:Ty} {xs xs':List U.den} {T:Ty} {M:Mk} {x x':T.den} (hr:s.root bx n0= .v T M x) (hy:getAt (.sl U) T o' x=some xs)
 (hx:setAt (.sl U) xs' T o' x=some x') (hl:xs'.length=xs.length) {s':St} {f:Nat→VV→VV} {g':G}
 (htm: ∀j,s'.tm j=bif az2 ⟨bx,n0,o', .sl U⟩ false j then .v T M x' else f j (s.tm j)) (hbx: ∀b,s'.bx b=bif az2 ⟨bx,n0,o', .sl U⟩ true b then .v T M x' else s.bx b)
 (hfv: ∀j t m x,f j (.v t m x)= .v t m x) (hη:g'.η=g.η) (hφ:g'.φ=g.φ) (htc:g'.tc=g.tc) (hbc:g'.bc=g.bc) (hst:azJ w w' g.ω g'.ω)
 (hoff: ∀bx' j b q,az2 ⟨bx,n0,o', .sl U⟩ bx' j=false→g.ω b=some (azC bx' j++q)→g'.ω b=some (azC bx' j++q)∧w'.heap[b]?=w.heap[b]?)
 (hne: ∀b q,¬bzd (.sl U) T o'<+:q→g.ω b=some (azC bx n0++q)→w'.heap[b]?=w.heap[b]?)
 {W:VV} {v:Value} (hW:AV s g w W v):AV s' g' w' (W.js ⟨bx,n0,o', .sl U⟩) v:=by
 rcases NzT ⟨bx,n0,o', .sl U⟩ W with e| ⟨e,hp⟩
 ·rw[e];trivial
 ·rw[e]
  obtain ⟨r1,r2⟩:=vzP (s':=s') (p:=⟨bx,n0,o', .sl U⟩) htm hbx hfv
  refine hW.root h r1 r2 hη hφ (fun _ _ _ _ _=>by rw[htc]) (fun _ _=>by rw[hbc]) hst hoff (fun q hq hrq y mq hgq=>?_) (fun q hs hq hrq r' N c hc=>?_)
  ·obtain ⟨e1,e2⟩:=dzI hrq
   obtain ⟨T',M',x0,h5,h6,h7⟩:=fzZ hgq
   simp only at e1 e2
   rw[←e1,←e2,hr] at h5
   cases h5
   have hcell:g'.cells q=g.cells q:=by simp only[G.cells,G.rc,htc,hbc]
   by_cases hap:apart o' 1 q.o q.t.sz
   ·exact ⟨⟨y,dzP T o' q.o x x' y hx h6 hap,h7,rfl,fun _=>rfl⟩,hcell⟩
   ·obtain ⟨y',hy'⟩:=mz0 T q.o x x' y h6
    refine ⟨⟨y',hy',h7,?_,fun hs=>?_⟩,hcell⟩
    ·obtain ⟨qb,qn,qo,qt⟩:=q
     cases qt with
     |sl U'=>
      have:o'=qo:=by
       by_cases he:o'=qo
       ·exact he
       ·exact absurd ⟨by decide,by simp [Ty.sz],by simp only[Ty.sz];omega⟩ hap
      subst this
      have:=Bz3 T o' x _ _ hy h6
      subst this
      have h9:=ezS T o' x x' hx
      rw[h9] at hy'
      rw[hy] at h6
      cases hy';cases h6
      exact hl
     |_=>rfl
    ·exfalso
     apply hap
     rcases kzh (hp hs q hq) with (h4|h4)| ⟨_,_,h4⟩
     ·exact absurd e1 h4
     ·exact absurd e2 h4
     ·exact h4
  ·match W,hq,hs,hW,hp with
   | .sref ⟨bx2,n',q', .sl U'⟩ i o t,hq,_,⟨xs2,m2,r2',N',c',cells2,e2,fr2,g1,g2,g3⟩,hp=>
     simp only[VV.pl,Option.some.injEq] at hq
     subst hq
     obtain ⟨T',M',x0,h5,h6,h7,h8,h9⟩:=h.get g1
     obtain ⟨_,g6,_⟩:=Rep.own_block h9 g2 hc
     obtain ⟨e1,e2⟩:=dzI hrq
     simp only at e1 e2 h5
     subst e1;subst e2
     rw[hr] at h5
     cases h5
     refine hne r' _ (fun hpre=>?_) g6
     have hap:apart o' 1 q' 1:=by
      rcases kzh (hp rfl _ rfl) with (h4|h4)| ⟨_,_,h4⟩
      ·exact absurd rfl h4
      ·exact absurd rfl h4
      ·exact h4
     have:=uzy T o' q' x _ _ hy h6 hpre
     obtain ⟨_,_,hh|hh⟩:=hap<;>omega
theorem Rel.inSl (h:Rel gl gv n s g a w) {bx:Bool} {n0 o' k:Nat} {U:Ty} {xs xs':List U.den} {M:Mk} {T:Ty} {Mr:Mk} {x x':T.den} {ω':azw} (hg:s.get ⟨bx,n0,o', .sl U⟩=some (xs,M)) (hM:ownM M=true)
 (hr:s.root bx n0= .v T Mr x) (hx:setAt (.sl U) xs' T o' x=some x') (hl:xs'.length=xs.length) (hst:azJ w w' g.ω ω')
 (hpl':Rep w' ω' g.η (.sl U) (azC bx n0++bzd (.sl U) T o') M xs' (g.cells ⟨bx,n0,o', .sl U⟩))
 (hkeep: ∀b q,g.ω b=some q→ ¬(azC bx n0++bzd (.sl U) T o')<+:q→ ¬[3,k]<+:q→ω' b=some q∧w'.heap[b]?=w.heap[b]?) (hlt: ∀b,ω' b≠none→b<w'.heap.size):
 Rel gl gv n ((s.setRoot bx n0 (.v T (azs (.sl U) M T o' Mr) x')).js ⟨bx,n0,o', .sl U⟩) {g with ω:=ω'} a w'∧Fl w w' g.ω ω' k:=by
 obtain ⟨T',M',x0,hr',hy,hm,hrep,hpl⟩:=h.get hg
 simp only at hr' hy hm hrep hpl
 rw[hr] at hr'
 cases hr'
 obtain ⟨hv,hb⟩:=h.rootval (p:=⟨bx,n0,o', .sl U⟩) hr
 simp only at hv hb
 have hMself:azs (.sl U) M T o' Mr=Mr:=by
  rw[←hm];exact nz3 T o' _ Mr x xs _ hy (by rw[hm];exact hM) hrep
 rw[hMself]
 have h3k: ∀ (bx':Bool) (j:Nat) (q:Path),¬[3,k]<+: (azC bx' j++q):=fun bx' j q=>azI (.inl (by cases bx'<;>decide))
 have hoff: ∀bx' j b q,az2 ⟨bx,n0,o', .sl U⟩ bx' j=false→g.ω b=some (azC bx' j++q)→ω' b=some (azC bx' j++q)∧w'.heap[b]?=w.heap[b]?:=fun bx' j b q hrt hq=>
  hkeep b _ hq (xz2 (p:=⟨bx,n0,o', .sl U⟩) hrt) (h3k _ _ _)
 have h2: ∀b j,g.ω b=some [2,j]→ω' b=some [2,j]∧w'.heap[b]?=w.heap[b]?:=fun b j hq=>
  hkeep b _ hq (by simpa using Gzb (p:=⟨bx,n0,o', .sl U⟩) (r:=bzd (.sl U) T o') (j:=j) (q:=[])) (by simp)
 have hne: ∀b q,¬bzd (.sl U) T o'<+:q→g.ω b=some (azC bx n0++q)→ω' b=some (azC bx n0++q)∧w'.heap[b]?=w.heap[b]?:=fun b q hp hq=>
  hkeep b _ hq (by rw[List.prefix_append_right_inj];exact hp) (h3k _ _ _)
 have hsh:M≠ .sh:=by rintro rfl;cases hM
 have hno:M≠ .no:=by rintro rfl;cases hM
 have hfv: ∀ (j:Nat) t m x,(fun (_:Nat) (W:VV)=>W.js ⟨bx,n0,o', .sl U⟩) j (.v t m x)= .v t m x:=fun _ _ _ _=>rfl
 have htm:=fun j=>uzn (s:=s) (p:=⟨bx,n0,o', .sl U⟩) (V:= .v T Mr x') (f:=fun W=>W.js ⟨bx,n0,o', .sl U⟩) rfl j
 have hbxs:=fun b=>uzo (s:=s) (p:=⟨bx,n0,o', .sl U⟩) (V:= .v T Mr x') b
 refine ⟨h.root (s':=(s.setRoot bx n0 (.v T Mr x')).js ⟨bx,n0,o', .sl U⟩) (p:=⟨bx,n0,o', .sl U⟩) (T:=T) (M':=Mr) (x':=x') (fun _ W=>W.js ⟨bx,n0,o', .sl U⟩) htm hbxs hfv (fun _ _=>rfl) rfl rfl (fun _=> .inr rfl) (fun _ _=>rfl) hst hoff
  (fun b j _ hq=>h2 b j hq) ?_ hv (fun hbx=>?_) (fun j v hj hW _=>RV.of_AV ?_) hlt,hst,fun b j q hj hq=>hkeep b _ hq (FzJ (p:=⟨bx,n0,o', .sl U⟩)) (azI (.inr (Ne.symm hj)))⟩
 ·have hf:=Rep.forget (t:= .sl U) T o' _ _ _ _ hrep
  have hf':Rep w' ω' g.η T (azC bx n0) (azs (.sl U) .no T o' Mr) x (g.rc bx n0):=Rep.mono hst _ _ _ _ _ _ (fun b q hk hq=>by
   have:=Rep.keep_no (m':= .no) keep_no T o' _ _ _ _ xs hy (by rw[hm];exact hsh) hrep q hk
   exact hne b q this.2 hq) hf
  have:=Rep.setAt hno T o' _ _ _ _ _ hx hf' hpl'
  rw[gzb,hMself] at this
  have hfit:=azT _ _ _ _ hy
  have hlen:=Rep.length _ _ _ _ _ hrep
  have e:(g.rc bx n0).take o'++g.cells ⟨bx,n0,o', .sl U⟩++(g.rc bx n0).drop (o'+(Ty.sl U).sz)=g.rc bx n0:=by
   simp only[G.cells]
   rw[List.append_assoc,←List.drop_drop,List.take_append_drop,List.take_append_drop]
  rw[e] at this
  exact this
 ·obtain ⟨h3,cells,e,fr,h4,h5,h6⟩:=hb hbx
  exact ⟨(h2 _ _ h3).1,cells,e,fr,(h2 _ _ h3).2.trans h4,h5,h6⟩
 ·exact h.alias_el (s':=(s.setRoot bx n0 (.v T Mr x')).js ⟨bx,n0,o', .sl U⟩) (f:=fun _ W=>W.js ⟨bx,n0,o', .sl U⟩) (g':={g with ω:=ω'}) hr hy hx hl htm hbxs hfv rfl rfl rfl rfl hst hoff (fun b q hp hq=>(hne b q hp hq).2) hW
theorem Rel.setEl (h:Rel gl gv n s g a w) {bx:Bool} {n0 o' o k:Nat} {U:Ty} {xs:List U.den} {M:Mk} {Tr:Ty} {Mr:Mk} {x x':Tr.den} {i:Int} {T:Ty} {y:T.den} {m:Mk} {zel:U.den} {row:List Value}
 (hg:s.get ⟨bx,n0,o', .sl U⟩=some (xs,M)) (hM:ownM M=true) (h0i:0≤i) (hi:i<(xs.length:Int)) (hz:setAt T y U o (rd U.zero xs i)=some zel) (hmk:azs T m U o M.e=M.e) (hm:m≠ .no)
 (hyr:Rep w g.ω g.η T [3,k] m y row) (hr:s.root bx n0= .v Tr Mr x) (hx:setAt (.sl U) (upd xs i zel) Tr o' x=some x') {r N c:Nat} (hc:g.cells ⟨bx,n0,o', .sl U⟩=[.slice (some ⟨r,0,none⟩) N c])
 {cells cells':Array Value} {e:TypeId} {fr:Nat×Nat} (h0:w.heap[r]?=some (.cells cells e fr)) (h1:w'.heap[r]?=some (.cells cells' e fr)) (h2:cells'.toList=bzC cells.toList (i.toNat*U.sz+o) row)
 (h3: ∀b,b≠r→w'.heap[b]?=w.heap[b]?):
 ∃ω',Rel gl gv n ((s.setRoot bx n0 (.v Tr (azs (.sl U) M Tr o' Mr) x')).js ⟨bx,n0,o', .sl U⟩) {g with ω:=ω'} a w'∧Fl w w' g.ω ω' k:=by
 obtain ⟨T',M',x0,hr',hy,hmm,hrep,hpl⟩:=h.get hg
 simp only at hr' hy hmm hrep hpl
 rw[hr] at hr'
 cases hr'
 let pa:=azC bx n0++bzd (.sl U) Tr o'
 obtain ⟨hN,hro,cells0,e0,fr0,h0',hsz,hu,hle,hel⟩:=Rep.own_block hpl hM hc
 rw[h0] at h0'
 simp only[Option.some.injEq,Obj.cells.injEq] at h0'
 obtain ⟨rfl,rfl,rfl⟩:=h0'
 let ω':=mv g.ω [3,k] (pa++[i.toNat]++bzd T U o)
 have hin:i.toNat<xs.length:=by omega
 have hold:rd U.zero xs i=xs[i.toNat]:=by simp [rd,List.getD_eq_getElem?_getD,List.getElem?_eq_getElem hin]
 obtain ⟨y0,hy0⟩:=dzw hz
 have hfit:=azT _ _ _ _ hy0
 have hrow:=Rep.length _ _ _ _ _ hyr
 have hcl:cells.toList.length=c*U.sz:=by rw[Array.length_toList];exact hsz
 have hrows: ∀j,j<xs.length→j*U.sz+U.sz≤cells.toList.length:=fun j hj=>by rw[hcl];exact ezw (Nat.lt_of_lt_of_le hj hle)
 have hspl:i.toNat*U.sz+o+row.length≤cells.toList.length:=by have:=hrows _ hin;omega
 have hst:azJ w w' g.ω ω':=fun b _ hq=>⟨tzO hq,h3 b (by rintro rfl;rw[hro] at hq;cases hq)⟩
 have hkeep: ∀b q,g.ω b=some q→q≠pa→ ¬[3,k]<+:q→ω' b=some q∧w'.heap[b]?=w.heap[b]?:=fun b q hq hp hk=>
  ⟨bzk hq hk,h3 b (by rintro rfl;rw[hro] at hq;simp only[Option.some.injEq] at hq;exact hp hq.symm)⟩
 have h3k: ∀ (q:Path),¬[3,k]<+: (pa++q):=fun q=>by
  simp only[pa,List.append_assoc]
  exact azI (.inl (by cases bx<;>decide))
 have helm: ∀ (j:Nat) (m:Mk) (v:U.den) (cs:List Value),Rep w g.ω g.η U (pa++[j]) m v cs→Rep w' ω' g.η U (pa++[j]) m v cs:=fun j m v cs hj=>
  Rep.mono hst _ _ _ _ _ _ (fun b q _ hq=>hkeep b _ hq (by simp) (by simpa using h3k ([j]++q))) hj
 have hsize:cells'.size=cells.size:=by rw[←Array.length_toList,h2,ezf hspl,Array.length_toList]
 refine ⟨ω',h.inSl hg hM hr hx fzv hst ?_ (fun b q hq hp hk=>hkeep b q hq (by rintro rfl;exact hp List.prefix_rfl) hk) (fun b hb=>?_)⟩
 ·cases M with
  |own pin me=>
   obtain ⟨A,c',e',hpin,_⟩:=hpl
   rw[hc] at e'
   simp only[List.cons.injEq,Value.slice.injEq,and_true] at e'
   obtain ⟨rfl,hNx,rfl⟩:=e'
   refine ⟨some ⟨r,0,none⟩,c,by rw[hc,hNx,fzv],by rw[fzv];exact hpin, .inr ⟨r,cells',e,fr,rfl,bzk hro (by simpa using h3k []),h1,by rw[hsize];exact hsz,by rw[hsize];exact hu,by rw[fzv];exact hle,fun j v hj=>?_⟩⟩
   rcases Gzx hj with ⟨rfl,rfl,hl⟩| ⟨hne,hj'⟩
   ·have hxi:=helm i.toNat _ _ _ (hel i.toNat _ (List.getElem?_eq_getElem hin))
    rw[←hold] at hxi
    have hyy:Rep w' ω' g.η T ((pa++[i.toNat])++bzd T U o) m y row:=
     nzr (fun b q hq=>h3 b (by rintro rfl;rw[hro] at hq;simp only[Option.some.injEq] at hq;exact h3k [] (by rw[List.append_nil];rw[show pa=_ from hq];exact List.prefix_append _ _))) hst hyr
    have:=Rep.setAt hm U o _ _ _ _ _ hz hxi hyy
    rw[hmk] at this
    rw[h2,Ezi (by omega) (hrows _ hin)]
    simp only[bzC,hrow]
    exact this
   ·have hjl:j<xs.length:=by
     rcases Nat.lt_or_ge j xs.length with h|h
     ·exact h
     ·rw[List.getElem?_eq_none h] at hj';cases hj'
    have:=helm j _ _ _ (hel j v hj')
    rw[h2,oz8 hspl]
    ·exact this
    ·rcases Nat.lt_or_gt_of_ne hne with hlt|hgt
     ·right;have:=ezw (sz:=U.sz) hlt;omega
     ·left;have:=ezw (sz:=U.sz) hgt;omega
  |_=>cases hM
 ·have:=h.lt b (nzX hb)
  rcases Nat.lt_or_ge b w'.heap.size with hlt|hge
  ·exact hlt
  ·exfalso
   have hn:w'.heap[b]?=none:=Array.getElem?_eq_none hge
   by_cases hb2:b=r
   ·subst hb2;rw[h1] at hn;cases hn
   ·rw[h3 b hb2,Array.getElem?_eq_getElem this] at hn;cases hn
end
end Go.TV
namespace Go.TV
section
variable {gl:Nat→Option VV} {gv:Nat→Value} {n:Nat} {s:St} {g:G} {a:Act} {w w':World}
theorem Rel.new (h:Rel gl gv n s g a w) {k d:Nat} {T:Ty} {m:Mk} {x:T.den} {cs:List Value} {cells:Array Value} {e:TypeId} {fr:Nat×Nat} (hy:Rep w g.ω g.η T [3,k] m x cs) (hc:cells.toList=cs)
 (hu:bzg fr cells.size) (hw:w'.heap=w.heap.push (.cells cells e fr)):
 ∃g',Rel gl gv n (s.new d (.v T m x)) g' a w'∧g'.φ d=w.heap.size∧g'.η=g.η∧Fl w w' g.ω g'.ω k:=by
 let ω':azw:=fun b=>if b=w.heap.size then some [2,d] else mv g.ω [3,k] (azC true d) b
 let g':G:={g with ω:=ω',φ:=fun b=>if b=d then w.heap.size else g.φ b,bc:=fun b=>if b=d then cs else g.bc b}
 have hold: ∀b,b<w.heap.size→w'.heap[b]?=w.heap[b]?:=fun b hb=>by rw[hw,Array.getElem?_push,if_neg (by omega)]
 have hnew:w'.heap[w.heap.size]?=some (.cells cells e fr):=by rw[hw];simp
 have hlt: ∀b q,g.ω b=some q→b<w.heap.size:=fun b q hq=>h.lt b (by rw[hq];simp)
 have hω: ∀b,b<w.heap.size→ω' b=mv g.ω [3,k] (azC true d) b:=fun b hb=>by simp only[ω'];rw[if_neg (by omega)]
 have hst:azJ w w' g.ω ω':=fun b hb hq=>⟨by rw[hω b hb];exact tzO hq,hold b hb⟩
 have hkeep: ∀b q,g.ω b=some q→ ¬[3,k]<+:q→ω' b=some q∧w'.heap[b]?=w.heap[b]?:=fun b q hq hk=>
  ⟨by rw[hω b (hlt b q hq)];exact bzk hq hk,hold b (hlt b q hq)⟩
 have hoff: ∀ (bx:Bool) j (b:Nat) (q:Path),g.ω b=some (azC bx j++q)→ω' b=some (azC bx j++q)∧w'.heap[b]?=w.heap[b]?:=fun bx j b q hq=>
  hkeep b _ hq (azI (.inl (by cases bx<;>decide)))
 have hget: ∀ (q:Pl) z,(q.bx=false∨q.n≠d)→s.get q=some z→(s.new d (.v T m x)).get q=some z:=fun q z hq hg=>
  nzS (fun T' M x' hr=>by
   cases hb:q.bx with
   |false=>rw[hb] at hr;simp only[St.root,cond_false] at hr;simp only[St.root,cond_false,St.new,St.updBx,St.jb,hr];rfl
   |true=>
    rw[hb] at hr hq
    have hq':q.n≠d:=by rcases hq with hq|hq;cases hq;exact hq
    have:Nat.beq q.n d=false:=by cases hc:Nat.beq q.n d;rfl;exact absurd (Nat.eq_of_beq_eq_true hc) hq'
    simp only[St.root,cond_true] at hr
    simp only[St.root,cond_true,St.new,St.updBx,St.jb,this,cond_false,hr]) hg
 have hav: ∀ (X:VV) (v:Value),AV s g w X v→AV (s.new d (.v T m x)) g' w' (X.jb d) v:=by
  intro X v hx
  rcases sz1 d X with e| ⟨e,hp,hb⟩
  ·rw[e];trivial
  ·rw[e]
   refine hx.keep rfl hst (fun b hb'=>?_) (fun q hq=>⟨fun y m hy=>⟨y,hget q _ (hp q hq) hy,rfl⟩,?_⟩) (fun q hs hq=>⟨fun z hz=>hget q z (hp q hq) hz,fun r N c hc=>?_⟩)
   ·have:b≠d:=by rintro rfl;exact hb hb'
    simp only[g',if_neg this]
   ·simp only[G.cells,G.rc]
    cases hbx:q.bx with
    |false=>rfl
    |true=>
     rcases hp q hq with h|h
     ·rw[hbx] at h;cases h
     ·simp only[cond_true,g',if_neg h]
   ·match X,hq,hs,hx with
    | .sref ⟨bx,n',q', .sl U⟩ i o t,hq,_,⟨xs,m2,r',N',c',cells2,e2,fr2,g1,g2,g3⟩=>
      simp only[VV.pl,Option.some.injEq] at hq
      subst hq
      obtain ⟨_,_,_,_,_,_,_,g5⟩:=h.get g1
      obtain ⟨_,g6,_⟩:=Rep.own_block g5 g2 hc
      exact hold r (hlt _ _ g6)
 refine ⟨g',⟨fun j=>?_,fun b=>?_,fun i t x o hi=>?_,fun b hb=>?_,h.sz,h.df⟩,by simp [g'],rfl,hst,fun b j q hj hq=>hkeep b _ hq (azI (.inr (Ne.symm hj)))⟩
 ·show RV _ g' w' _ _ ((s.tm j).jb d) _
  have hj:=h.tm j
  rcases hj.alias with ⟨t,m2,x2,e⟩| ⟨vs,e⟩|ha
  ·rw[e] at hj⊢
   exact hj.keep (g':=g') rfl hst (fun b q hq=>hoff false j b q hq) (fun ha=>by cases ha)
  ·rw[e] at hj⊢
   exact hj.keep (g':=g') rfl hst (fun b q hq=>hoff false j b q hq) (fun ha=>by cases ha)
  ·exact RV.of_AV (hav _ _ ha)
 ·by_cases hbd:b=d
  ·subst hbd
   have e1:(s.new b (.v T m x)).bx b= .v T m x:=by simp [St.new,St.updBx]
   rw[e1]
   refine ⟨by simp [g',ω'],⟨cells,e,fr,by simp only[g',if_true];exact hnew,hu,by simp only[g',if_true];exact hc⟩,?_⟩
   simp only[g',if_true]
   exact Rep.mono hst _ _ _ _ _ _ (fun b' q _ hq=>⟨by rw[hω _ (hlt _ _ hq)];exact ozy hq,hold _ (hlt _ _ hq)⟩) hy
  ·have e1:(s.new d (.v T m x)).bx b=s.bx b:=by
    have:Nat.beq b d=false:=by cases hc:Nat.beq b d;rfl;exact absurd (Nat.eq_of_beq_eq_true hc) hbd
    simp [St.new,St.updBx,this,St.jb]
   rw[e1]
   have hu:=h.bx b
   cases hv:s.bx b with
   |v T' m' x'=>
    rw[hv] at hu
    obtain ⟨h1,⟨cells2,e2,fr2,h2,h3,h4⟩,h5⟩:=hu
    have:=hkeep _ _ h1 (by simp)
    refine ⟨by simp only[g',if_neg hbd];exact this.1,⟨cells2,e2,fr2,by simp only[g',if_neg hbd];exact this.2.trans h2,h3,by simp only[g',if_neg hbd];exact h4⟩,?_⟩
    simp only[g',if_neg hbd]
    exact Rep.mono hst _ _ _ _ _ _ (fun b' q _ hq=>hoff true b b' q hq) h5
   |junk=>trivial
   |_=>rw[hv] at hu;exact hu
 ·exact (h.gl i t x o hi).keep rfl hst (fun _ _=>rfl) (fun q hq=>by cases hq) (fun q hq=>by cases hq)
 ·by_cases hb2:b=w.heap.size
  ·subst hb2;exact xzH hnew
  ·simp only[g',ω',if_neg hb2] at hb
   have:=h.lt b (nzX hb)
   rw[hw,Array.size_push];omega
theorem Rel.forget (h:Rel gl gv n s g a w) (u:Nat) (hu: ∀T M x,s.tm u= .v T M x→M= .sh):Rel gl gv n (s.upd u .junk) g a w:=by
 have hget: ∀ (q:Pl) z,(q.bx=true∨q.n≠u)→s.get q=some z→(s.upd u .junk).get q=some z:=fun q z hq hg=>
  nzS (fun T M x hr=>by
   cases hb:q.bx with
   |true=>rw[hb] at hr;exact hr
   |false=>
    rw[hb] at hr hq
    have hq':q.n≠u:=by rcases hq with hq|hq;cases hq;exact hq
    have:Nat.beq q.n u=false:=by cases hc:Nat.beq q.n u;rfl;exact absurd (Nat.eq_of_beq_eq_true hc) hq'
    simpa only[St.root,St.upd,this,cond_false] using hr) hg
 refine ⟨fun j=>?_,h.bx,h.gl,h.lt,h.sz,h.df⟩
 by_cases hj:j=u
 ·subst hj;simp only[St.upd,show Nat.beq j j=true by simp,cond_true];exact RV.of_AV (W:= .junk) trivial
 ·have hb:Nat.beq j u=false:=by cases hc:Nat.beq j u;rfl;exact absurd (Nat.eq_of_beq_eq_true hc) hj
  simp only[St.upd,hb,cond_false]
  have hj':=h.tm j
  refine hj'.keep (g':=g) rfl (azJ.refl _ _) (fun b q hq=>⟨hq,rfl⟩) fun ha=>?_
  have ho:=off_t ha hu
  rcases Hzh u (s.tm j) with e| ⟨_,hp⟩
  ·rw[ho] at e;rw[e];trivial
  ·exact ha.keep rfl (azJ.refl _ _) (fun _ _=>rfl) (fun q hq=>⟨fun y m hy=>⟨y,hget q _ (hp q hq) hy,rfl⟩,rfl⟩) (fun q _ hq=>⟨fun z hz=>hget q z (hp q hq) hz,fun _ _ _ _=>rfl⟩)
end
end Go.TV
