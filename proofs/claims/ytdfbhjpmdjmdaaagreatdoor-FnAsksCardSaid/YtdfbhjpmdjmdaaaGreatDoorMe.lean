/- What a Go function computes, told as a function of plain data, and that it is so. Of no condition. What a function comes to: its cuts and itself tied. Plain laws: numbers, tests, lists; what is marked and held. A callee of numbers and texts that is told by a contract of the kit. -/
import Derived.Test.YtdfbhjpmdjmdaaaGreatDoorMd
import Derived.Lib.LaidTab
set_option linter.unusedVariables false
set_option linter.unusedSimpArgs false
namespace Go.TV
structure FnD where
 f:Nat
 fn:Func
 ps:List Par
 rs:List Rt
 al:Bool:=false
 joins:List Nat:=[]
 fz:List Nat:=[]
 cuts:List (Nat×List LV):=[]
def lvOf:List (Nat×List LV)→Nat→Option (List LV)
 | [],_=>none
 | (q,l)::cs,r=>bif Nat.beq q r then some l else lvOf cs r
abbrev FnD.R (F:FnD):Type:=bzR F.rs×azP F.ps
abbrev FnD.t (F:FnD):SigT:=⟨F.ps,F.rs,F.al⟩
@[reducible] def FnD.lv (F:FnD) (r:Nat):List LV:=match lvOf F.cuts r with
  |some l=>l
  |none=>[]
abbrev FnD.C (F:FnD):Type:= ∀r,izX (F.lv r)→Option F.R
def FnD.call (F:FnD) (cs:List (Nat×Sig)) (S:F.t.D) (g:Nat):Option Sig:=bif Nat.beq g F.f then some (F.t.sig S) else Azf cs g
def FnD.cut (F:FnD) (L:F.C) (r:Nat):Option (Cut F.R):=match lvOf F.cuts r with
 |some _=>some ⟨F.lv r,L r⟩
 |none=>none
structure Sur where
 tt:Nat→Option Ty
 gl:Nat→Option VV
section
variable (V:Sur) (cs:List (Nat×Sig)) (F:FnD)
def FnD.env (S:F.t.D) (L:F.C):Env F.R:=⟨V.tt,V.gl,F.call cs S,F.joins,F.cut L,F.fz⟩
noncomputable def FnD.it:Nat→F.t.D×F.C
 |0=>(fun _=>none,fun _ _=>none)
 |k+1=>(fun x=>Czz F.fn F.ps F.rs (F.env V cs (FnD.it k).1 (FnD.it k).2) x,fun r x=>uzD F.fn F.ps F.rs (F.env V cs (FnD.it k).1 (FnD.it k).2) r (F.lv r) x)
noncomputable def FnD.d (x:azQ F.ps):Option F.R:=lim (fun k x=>(F.it V cs k).1 x) x
noncomputable def FnD.D (r:Nat) (x:izX (F.lv r)):Option F.R:=lim (fun k x=>(F.it V cs k).2 r x) x
def FnD.ct {ι:Type} (φ:ι→F.t.D) (g:Nat):Option ((s:SigT)× (ι→s.D)):=bif Nat.beq g F.f then some ⟨F.t,φ⟩ else match Azf cs g with
 |some σ=>some ⟨⟨σ.ps,σ.rs,σ.alias⟩,fun _=>σ.f⟩
 |none=>none
def FnD.cu {ι:Type} (L:ι→F.C) (r:Nat):Option ((ls:List LV)× (ι→izX ls→Option F.R)):=match lvOf F.cuts r with
 |some _=>some ⟨F.lv r,fun i=>L i r⟩
 |none=>none
theorem FnD.env_fam {ι:Type} (φ:ι→F.t.D) (L:ι→F.C) (i:ι):F.env V cs (φ i) (L i)=famE V.tt V.gl (F.ct cs φ) F.joins (F.cu L) F.fz i:=by
 have h1:F.call cs (φ i)=uzg (F.ct cs φ) i:=by
  funext g
  simp only[FnD.call,uzg,FnD.ct]
  cases Nat.beq g F.f
  ·simp only[cond_false]
   cases Azf cs g<;>rfl
  ·rfl
 have h2:F.cut (L i)=Hz3 (F.cu L) i:=by
  funext r
  simp only[FnD.cut,Hz3,FnD.cu]
  cases lvOf F.cuts r<;>rfl
 simp only[FnD.env,h1,h2]
theorem FnD.ct_K {ι:Type} {C:Cls ι} {φ:ι→F.t.D} (h: ∀x,C.K fun i=>φ i x): ∀f s ψ,F.ct cs φ f=some ⟨s,ψ⟩→ ∀x,C.K fun i=>ψ i x:=by
 intro f s ψ e
 simp only[FnD.ct] at e
 cases hb:Nat.beq f F.f<;>rw[hb] at e
 ·simp only[cond_false] at e
  split at e
  ·cases e;exact fun x=>C.const _
  ·cases e
 ·cases e;exact h
theorem FnD.cu_K {ι:Type} {C:Cls ι} {L:ι→F.C} (h: ∀r x,C.K fun i=>L i r x): ∀r ls c,F.cu L r=some ⟨ls,c⟩→ ∀x,C.K fun i=>c i x:=by
 intro r ls c e
 simp only[FnD.cu] at e
 split at e
 ·cases e;exact h r
 ·cases e
theorem FnD.run_K {ι:Type} [Inhabited ι] (C:Cls ι) {φ:ι→F.t.D} {L:ι→F.C} (h: ∀x,C.K fun i=>φ i x) (k: ∀r x,C.K fun i=>L i r x) (x:azQ F.ps):C.K fun i=>Czz F.fn F.ps F.rs (F.env V cs (φ i) (L i)) x:=by
 simp only[F.env_fam V cs φ L]
 exact Qzq C (F.ct_K cs h) (F.cu_K k) _ _
theorem FnD.runCut_K {ι:Type} [Inhabited ι] (C:Cls ι) {φ:ι→F.t.D} {L:ι→F.C} (h: ∀x,C.K fun i=>φ i x) (k: ∀r x,C.K fun i=>L i r x) (r:Nat) (x:izX (F.lv r)):C.K fun i=>uzD F.fn F.ps F.rs (F.env V cs (φ i) (L i)) r (F.lv r) x:=by
 simp only[F.env_fam V cs φ L]
 exact TV.runCut_K C (F.ct_K cs h) (F.cu_K k) _ _ _ _
theorem FnD.mono: ∀k,(∀x,Le ((F.it V cs k).1 x) ((F.it V cs (k+1)).1 x))∧ ∀r x,Le ((F.it V cs k).2 r x) ((F.it V cs (k+1)).2 r x)
 |0=>⟨fun _ _ h=>(by cases h),fun _ _ _ h=>(by cases h)⟩
 |k+1=>by
  obtain ⟨h1,h2⟩:=FnD.mono k
  exact ⟨F.run_K V cs Nz5 (φ:=fun b=>bif b then (F.it V cs (k+1)).1 else (F.it V cs k).1) (L:=fun b=>bif b then (F.it V cs (k+1)).2 else (F.it V cs k).2) h1 h2,
   F.runCut_K V cs Nz5 (φ:=fun b=>bif b then (F.it V cs (k+1)).1 else (F.it V cs k).1) (L:=fun b=>bif b then (F.it V cs (k+1)).2 else (F.it V cs k).2) h1 h2⟩
theorem FnD.mono' {k m:Nat} (h:k≤m):(∀x,Le ((F.it V cs k).1 x) ((F.it V cs m).1 x))∧ ∀r x,Le ((F.it V cs k).2 r x) ((F.it V cs m).2 r x):=by
 obtain ⟨d,rfl⟩:=Nat.le.dest h
 induction d with
 |zero=>exact ⟨fun _=>Le.refl _,fun _ _=>Le.refl _⟩
 |succ d ih=>
  obtain ⟨h1,h2⟩:=ih (by omega)
  exact ⟨fun x=>(h1 x).trans ((F.mono V cs (k+d)).1 x),fun r x=>(h2 r x).trans ((F.mono V cs (k+d)).2 r x)⟩
theorem FnD.lims (x:azQ F.ps):Lims (fun k=>(F.it V cs k).1 x) (F.d V cs x):=Gz8 (fun k x=>(F.mono V cs k).1 x) x
theorem FnD.limsC (r:Nat) (x:izX (F.lv r)):Lims (fun k=>(F.it V cs k).2 r x) (F.D V cs r x):=Gz8 (fun k x=>(F.mono V cs k).2 r x) x
def optN {α:Type} (f:Nat→α) (a:α):Option Nat→α
 |some k=>f k
 |none=>a
theorem FnD.eq (x:azQ F.ps):F.d V cs x=Czz F.fn F.ps F.rs (F.env V cs (F.d V cs) (F.D V cs)) x:=
 Lims.uniq (F.lims V cs x).shift (F.run_K V cs KzH (φ:=optN (fun k=>(F.it V cs k).1) (F.d V cs)) (L:=optN (fun k=>(F.it V cs k).2) (F.D V cs)) (F.lims V cs) (F.limsC V cs) x)
theorem FnD.eqC (r:Nat) (x:izX (F.lv r)):F.D V cs r x=uzD F.fn F.ps F.rs (F.env V cs (F.d V cs) (F.D V cs)) r (F.lv r) x:=
 Lims.uniq (F.limsC V cs r x).shift (F.runCut_K V cs KzH (φ:=optN (fun k=>(F.it V cs k).1) (F.d V cs)) (L:=optN (fun k=>(F.it V cs k).2) (F.D V cs)) (F.lims V cs) (F.limsC V cs) r x)
noncomputable def FnD.itC (S:F.t.D):Nat→F.C
 |0=>fun _ _=>none
 |k+1=>fun r x=>uzD F.fn F.ps F.rs (F.env V cs S (FnD.itC S k)) r (F.lv r) x
theorem FnD.itC_le {m:Nat}: ∀k,k≤m→ ∀r x,Le ((F.it V cs k).2 r x) (F.itC V cs (F.it V cs m).1 k r x)
 |0,_=>fun _ _ _ h=>(by cases h)
 |k+1,hk=>F.runCut_K V cs Nz5 (φ:=fun b=>bif b then (F.it V cs m).1 else (F.it V cs k).1) (L:=fun b=>bif b then F.itC V cs (F.it V cs m).1 k else (F.it V cs k).2) (F.mono' V cs (by omega)).1 (FnD.itC_le k (by omega))
end
structure SurOk (P:Program) (V:Sur) (gv:Nat→Value):Prop where
 hgv: ∀ (a:Act) i,a.eval (.global i)=gv i
 hT: ∀t T,V.tt t=some T→TyOk P T t
 deep: ∀t T,V.tt t=some T→deep T<10000
 mix:P.follows .mixedOrders=true
section
variable {P:Program} {V:Sur} {gv:Nat→Value} {cs:List (Nat×Sig)} {F:FnD}
def FnD.okB (F:FnD):Bool:=match F.fn.body with
 |some c=>jz0 F.fn.ntmps (Ozj F.ps) c&&gza (czV F.joins c)&&Sig.ok ⟨F.ps,F.rs,F.al,fun _=>none⟩
 |none=>false
theorem Sig.ok_f {ps:List Par} {rs:List Rt} {al:Bool} {f g:azQ ps→Option (bzR rs×azP ps)} (h:Sig.ok ⟨ps,rs,al,f⟩=true):Sig.ok ⟨ps,rs,al,g⟩=true:=h
theorem FnD.ok (hV:SurOk P V gv) (hc: ∀e∈cs,CallsOk P V.gl gv e.1 e.2) (hf:P.funcs[F.f]?=some F.fn) (hname:F.fn.name≠ "runtime.NumGoroutine") (hok:F.okB=true):CallsOk P V.gl gv F.f (F.t.sig (F.d V cs)):=by
 cases hb:F.fn.body with
 |none=>simp [FnD.okB,hb] at hok
 |some c=>
  simp only[FnD.okB,hb,Bool.and_eq_true] at hok
  obtain ⟨⟨hd,hids⟩,hsig⟩:=hok
  have step: ∀ (S:F.t.D),CallsOk P V.gl gv F.f (F.t.sig S)→ ∀k,CallsOk P V.gl gv F.f (F.t.sig fun x=>Czz F.fn F.ps F.rs (F.env V cs S (F.itC V cs S k)) x):=by
   intro S hS k
   have hE:Sound P (F.env V cs S (F.itC V cs S 0)) gv:=⟨hV.hgv,hV.hT,hV.deep,fun g σ h=>by
    simp only[FnD.env,FnD.call] at h
    cases hg:Nat.beq g F.f<;>rw[hg] at h
    ·exact Cz7 cs hc g σ h
    ·cases h
     rw[Nat.eq_of_beq_eq_true hg]
     exact hS,hV.mix⟩
   exact Nz9 hE hf hb hname hd hids (al:=F.al) (f0:=fun _=>none) hsig (cf:=fun k=>F.cut (F.itC V cs S k)) (fun r c h x=>by
    simp only[FnD.cut] at h
    split at h
    ·cases h;rfl
    ·cases h) (fun k r c h x=>by
    simp only[FnD.cut] at h
    split at h
    ·cases h;rfl
    ·cases h) k
  have h0:CallsOk P V.gl gv F.f (F.t.sig fun _=>none):=⟨hsig,fun args w=>by
   simp [callFunc,hf,hb,hname],fun w ω η x vals r _ _ _ h=>by cases h⟩
  have hk: ∀k,CallsOk P V.gl gv F.f (F.t.sig (F.it V cs k).1):=by
   intro k
   induction k with
   |zero=>exact h0
   |succ k ih=>exact CallsOk.close (step _ ih) fun x r h=>⟨k,F.run_K V cs Nz5 (φ:=fun b=>(F.it V cs k).1) (L:=fun b=>bif b then F.itC V cs (F.it V cs k).1 k else (F.it V cs k).2) (fun _=>Le.refl _) (F.itC_le V cs k (Nat.le_refl k)) x r h⟩
  exact CallsOk.close hk fun x r h=>(F.lims V cs x).out r h
end
end Go.TV
namespace Go.TV
theorem azd {α β:Type} {x:α} {f:α→Option β}:bnd (some x) f=f x:=rfl
theorem bnd_n {α β:Type} {f:α→Option β}:bnd none f=none:=rfl
theorem aza {α:Type} {x y:α}:cnd true x y=x:=rfl
theorem azc {α:Type} {x y:α}:cnd false x y=y:=rfl
theorem yzw {α:Type} {p:Prop} [Decidable p] {x y:α}:cnd (decide p) x y=if p then x else y:=by by_cases h:p<;>simp [h,cnd]
theorem kzd {α:Type} {b:Bool} {x y:α}:cnd (!b) x y=cnd b y x:=by cases b<;>rfl
theorem cnd_if {α:Type} {b:Bool} {x y:α}:cnd b x y=if b=true then x else y:=by cases b<;>rfl
theorem bnd_step {α β:Type} {x:Option α} {a:α} {f:α→Option β} {r:Option β} (h:x=some a) (k:f a=r):bnd x f=r:=by rw[h];exact k
theorem cnd_stepf {α:Type} {c:Bool} {x y r:α} (h:c=false) (k:y=r):cnd c x y=r:=by rw[h];exact k
theorem cnd_stept {α:Type} {c:Bool} {x y r:α} (h:c=true) (k:x=r):cnd c x y=r:=by rw[h];exact k
theorem ilt_d {x y:Int}:ilt x y=decide (x<y):=rfl
theorem gzB {x y:Int}:ile x y=decide (x≤y):=rfl
theorem igt_d {x y:Int}:igt x y=decide (y<x):=rfl
theorem czX {x y:Int}:ige x y=decide (y≤x):=rfl
theorem czd {x y:Int}:ieq x y=decide (x=y):=by by_cases h:x=y<;>simp [ieq,h]
theorem czY {x y:Int}:ine x y=!decide (x=y):=by by_cases h:x=y<;>simp [ine,h]
theorem nz_d {x:Int}:nz x=!decide (x=0):=by by_cases h:x=0<;>simp [nz,h]
theorem nn_d {x:Int}:nn x=decide (0≤x):=rfl
theorem GzA {b:Bool}:bnot b=!b:=rfl
theorem Pzp {a b:Bool}:beqB a b=(a==b):=rfl
theorem bneB_d {a b:Bool}:bneB a b=!(a==b):=rfl
theorem both_d {a b:Bool}:both a b=(a&&b):=rfl
theorem inb_d {i n:Int}:inb i n=decide (0≤i∧i<n):=by by_cases h:0≤i<;>by_cases k:i<n<;>simp [inb,h,k]
theorem inb2_d {i j n:Int}:inb2 i j n=decide (0≤i∧i≤j∧j≤n):=by by_cases h:0≤i<;>by_cases k:i≤j<;>by_cases l:j≤n<;>simp [inb2,h,k,l]
theorem bzI {i n:Int} (h0:0≤i) (h1:i<n):inb i n=true:=by simp [inb,h0,h1]
theorem bzu {i j n:Int} (h0:0≤i) (h1:i≤j) (h2:j≤n):inb2 i j n=true:=by simp [inb2,h0,h1,h2]
theorem bzW {x y:Int} (h:x<y):ilt x y=true:=decide_eq_true h
theorem az7 {x y:Int} (h:y≤x):ilt x y=false:=decide_eq_false (by omega)
theorem cze {x y:Int} (h:y<x):igt x y=true:=decide_eq_true h
theorem bzy {x y:Int} (h:x≤y):igt x y=false:=decide_eq_false (by omega)
theorem Pzq {n:Int} {z:Nat} (h0:0≤n) (h:n*((z+1:Nat):Int)≤1099511627776):fits n z=true:=(rzZ h0).2 h
theorem len_c {α:Type} {x:α} {xs:List α}:len (x::xs)=len xs+1:=by simp [len]
theorem len_n {α:Type}:len ([]:List α)=0:=rfl
theorem len_app {α:Type} {xs ys:List α}:len (app xs ys)=len xs+len ys:=by simp [len,app]
theorem len_0 {α:Type} {xs:List α}:0≤len xs:=by simp [len]
theorem ssz_0 {s:ByteArray}:0≤ssz s:=by simp [ssz]
theorem azH {x y:Int} (h0: -9223372036854775808≤x+y) (h1:x+y≤9223372036854775807):iadd .i64 x y=x+y:=ezF h0 h1
theorem bzi {x y:Int} (h0: -9223372036854775808≤x-y) (h1:x-y≤9223372036854775807):isub .i64 x y=x-y:=ezF h0 h1
theorem fz9 {x y:Int} (h0: -9223372036854775808≤x*y) (h1:x*y≤9223372036854775807):imul .i64 x y=x*y:=ezF h0 h1
theorem ineg_64 {x:Int} (h0: -9223372036854775808<x) (h1:x≤9223372036854775807):ineg .i64 x= -x:=by
 unfold ineg;rw[ezF (by omega) (by omega)];omega
theorem tzN {x y:Int} (h0:0≤x) (h1:x≤9223372036854775807) (hy:0<y):iquo .i64 x y=x/y:=by
 unfold iquo
 rw[Int.tdiv_eq_ediv_of_nonneg h0]
 have h2:=Int.ediv_le_self y h0
 have h3:=Int.ediv_nonneg h0 (Int.le_of_lt hy)
 exact ezF (by omega) (by omega)
theorem fzW {x y:Int} (h0:0≤x):irem x y=x % y:=Int.tmod_eq_emod_of_nonneg h0
section
variable {α:Type} {z v w:α} {xs:List α} {i:Nat}
theorem bzA (h:i<xs.length):rd z xs (i:Int)=xs[i]:=by simp [rd,h]
theorem upd_at:upd xs (i:Int) v=xs.set i v:=by simp [upd]
theorem rd_upd (h:i<xs.length):rd z (upd xs (i:Int) v) (i:Int)=v:=by simp [rd,upd,h]
theorem upd_upd:upd (upd xs (i:Int) v) (i:Int) w=upd xs (i:Int) w:=by simp [upd]
theorem len_upd:len (upd xs (i:Int) v)=len xs:=by simp [len,upd]
theorem az0 (h:i<xs.length):inb (i:Int) (len xs)=true:=bzI (by omega) (by simp only[len];omega)
theorem bzp (h:i<xs.length):ilt (i:Int) (len xs)=true:=bzW (by simp only[len];omega)
theorem bzb:ilt (xs.length:Int) (len xs)=false:=az7 (by simp only[len];omega)
theorem azq (h:i<4611686018427387904):iadd .i64 (i:Int) 1=((i+1:Nat):Int):=by rw[azH (by omega) (by omega)];omega
end
theorem Qze (s:ByteArray): ∀ (n i:Nat) (r:List UInt8),s.size-i=n→ByteArray.toList.loop s i r=r.reverse++s.data.toList.drop i:=by
 intro n
 induction n with
 |zero=>
  intro i r h
  unfold ByteArray.toList.loop
  rw[if_neg (by omega),List.drop_eq_nil_of_le (by rw[Array.length_toList];show s.size≤i;omega)]
  simp
 |succ n ih=>
  intro i r h
  unfold ByteArray.toList.loop
  rw[if_pos (by omega),ih (i+1) _ (by omega)]
  have hi:i<s.data.toList.length:=by rw[Array.length_toList];show i<s.size;omega
  rw[List.drop_eq_getElem_cons hi]
  have:s.get! i=s.data.toList[i]:=by
   have h2:i<s.data.size:=by simpa using hi
   rw[Array.getElem_toList]
   show s.data.get!Internal i=s.data[i]
   rw[Array.get!Internal_eq_getElem!]
   exact getElem!_pos s.data i h2
  rw[this]
  simp
theorem rz2 (s:ByteArray):s.toList=s.data.toList:=by
 unfold ByteArray.toList
 rw[Qze s _ 0 [] rfl];simp
theorem szW {x y:ByteArray} (h:x.data.toList=y.data.toList):x=y:=ByteArray.ext (Array.toList_inj.1 h)
theorem QzH {x y:ByteArray}:seq x y=true↔x=y:=by
 unfold seq
 rw[beq_iff_eq,rz2,rz2]
 exact ⟨szW,fun h=>by rw[h]⟩
theorem nzV {x y:ByteArray}:seq x y=decide (x=y):=by
 by_cases h:x=y
 ·simp [h,seq]
 ·have: ¬seq x y=true:=fun e=>h (QzH.1 e)
  simp [h,this]
theorem qzb {x y:ByteArray}:sne x y=!decide (x=y):=by rw[←nzV];rfl
theorem gzq {l:List Nat}:(bs l).size=l.length:=by simp [bs,ByteArray.size]
theorem azK {l:List Int}:(sof l).size=l.length:=by simp [sof,ByteArray.size]
theorem azu {x y:ByteArray}:(scat x y).size=x.size+y.size:=by simp [scat,ByteArray.size_append]
theorem azN {x:ByteArray}:ssz x=(x.size:Int):=by simp [ssz]
theorem azA {α:Type} {xs:List α}:len xs=(xs.length:Int):=by simp [len]
theorem ezs {x y:ByteArray} (h:x.size+y.size≤549755813888):fits (ssz x+ssz y) 1=true:=Pzq (by simp only[azN];omega) (by simp only[azN];omega)
theorem azv {α:Type} {xs ys:List α} {z:Nat} (hz:z<128) (h:xs.length+ys.length≤8589934592):fits (len xs+len ys) z=true:=by
 refine Pzq (by simp only[azA];omega) ?_
 simp only[azA]
 refine Int.le_trans (Int.mul_le_mul (c:=(8589934592:Int)) (d:=(128:Int)) (by omega) (by omega) (by omega) (by omega)) (by omega)
theorem SzOk.congr {t:Ty} {f g:t.den× (Int×Unit)→Option ((Int×Unit)×Unit)} (h:SzOk t g) (e: ∀x n,f (x,(n,()))=g (x,(n,()))):SzOk t f:=fun x n hg h0 hn=>by rw[e];exact h x n hg h0 hn
theorem ToOk.congr {t:Ty} {f g:t.den×Unit→Option ((t.den×Unit)×Unit)} (h:ToOk t g) (e: ∀x,f (x,())=g (x,())):ToOk t f:=fun x hg=>by rw[e];exact h x hg
theorem EqOk.congr {t:Ty} {f g:t.den× (t.den×Unit)→Option ((Bool×Unit)×Unit)} (h:EqOk t g) (e: ∀x y,f (x,(y,()))=g (x,(y,()))):EqOk t f:=fun x hg=>by rw[e];exact h x hg
theorem sz_len {t:Ty} (ht: ∀x:t.den,KzQ t x):SzOk (.sl t) (fun x=>cnd (ilt (isub .i64 x.2.1 (len x.1)) 0) (some ((-1,()),())) (some (((isub .i64 x.2.1 (len x.1)),()),()))):=by
 intro xs n hg h0 hn
 change List t.den at xs
 have hl:xs.length≤maxLen:=hg.1
 have hm:(xs.length:Int)≤9223372036854775807:=by
  have:maxLen=9223372036854775807:=rfl
  omega
 have hq:isub .i64 n (len xs)=n-xs.length:=tzJ h0 hn (by simp [len]) hm
 simp only[hq]
 by_cases hc:n-xs.length<0
 ·simp only[ilt,hc,decide_true,cnd,cond_true]
  exact ⟨-1,rfl,fun h=>by omega⟩
 ·simp only[ilt,hc,decide_false,cnd,cond_false]
  exact ⟨_,rfl,fun h=>⟨by omega,by omega,fun x _=>ht x⟩⟩
def mkL {E:Type} (e:E→Int→E×Int):List E→Int→List E×Int
 | [],k=>([],k)
 |y::ys,k=>((e y k).1::(mkL e ys (e y k).2).1,(mkL e ys (e y k).2).2)
theorem QzQ {E:Type} {e:E→Int→E×Int}: ∀ (xs:List E) (k:Int),(mkL e xs k).1.length=xs.length
 | [],_=>rfl
 |y::ys,k=>by simp [mkL,QzQ ys]
def MkOk (t:Ty) (fm:t.den× (Int×Unit)→Option ((Int×Unit)× (t.den×Unit))) (fh:t.den× (Int×Unit)→Option ((Int×Unit)×Unit)) (B:Nat) (mk:t.den→Int→t.den×Int):Prop:=
 ∀x k,Fine t x→0<k→k+(B:Int)≤1152921504606846976→fm (x,(k,()))=some (((mk x k).2,()),((mk x k).1,()))∧fh ((mk x k).1,(k,()))=some (((mk x k).2,()),())∧k≤(mk x k).2∧(mk x k).2≤k+(B:Int)
def Mk1 (t:Ty) (fm:t.den× (Int×Unit)→Option ((Int×Unit)× (t.den×Unit))) (B:Nat) (mk:t.den→Int→t.den×Int):Prop:=
 ∀x k,Fine t x→0<k→k+(B:Int)≤1152921504606846976→fm (x,(k,()))=some (((mk x k).2,()),((mk x k).1,()))∧k≤(mk x k).2∧(mk x k).2≤k+(B:Int)
theorem MkOk.one {t:Ty} {fm:t.den× (Int×Unit)→Option ((Int×Unit)× (t.den×Unit))} {fh:t.den× (Int×Unit)→Option ((Int×Unit)×Unit)} {B:Nat} {mk:t.den→Int→t.den×Int} (h:MkOk t fm fh B mk):Mk1 t fm B mk:=fun x k a b c=>⟨(h x k a b c).1,(h x k a b c).2.2⟩
theorem MkOk.slice {t:Ty} {B:Nat} {Dm:List t.den× (Int× (Int×Unit))→Option ((Int×Unit)× (List t.den×Unit))} {Dh:List t.den× (Int× (Int×Unit))→Option ((Int×Unit)×Unit)}
 {fm:List t.den× (Int×Unit)→Option ((Int×Unit)× (List t.den×Unit))} {fh:List t.den× (Int×Unit)→Option ((Int×Unit)×Unit)} (e:t.den→Int→t.den×Int)
 (hfm: ∀x k,fm (x,(k,()))=Dm (x,(k,(0,())))) (hfh: ∀x k,fh (x,(k,()))=Dh (x,(k,(0,()))))
 (sm: ∀ (xs:List t.den) (k:Int) (i:Nat) (h:i<xs.length),i<16777216→0<k→k+(B:Int)≤1152921504606846976→Fine t xs[i]→Dm (xs,(k,((i:Int),())))=Dm (upd xs (i:Int) (e xs[i] k).1,((e xs[i] k).2,(((i+1:Nat):Int),()))))
 (em: ∀ (xs:List t.den) (k:Int),Dm (xs,(k,((xs.length:Int),())))=some ((k,()),(xs,())))
 (sh: ∀ (xs:List t.den) (k:Int) (i:Nat) (h:i<xs.length) (y:t.den),i<16777216→0<k→k+(B:Int)≤1152921504606846976→Fine t y→xs[i]=(e y k).1→Dh (xs,(k,((i:Int),())))=Dh (xs,((e y k).2,(((i+1:Nat):Int),()))))
 (eh: ∀ (xs:List t.den) (k:Int),Dh (xs,(k,((xs.length:Int),())))=some ((k,()),()))
 (le: ∀y k,Fine t y→0<k→k+(B:Int)≤1152921504606846976→k≤(e y k).2∧(e y k).2≤k+B):
 MkOk (.sl t) fm fh (16777216*B) (mkL e):=by
 have bound: ∀ (suf:List t.den) (k:Int),(∀y∈suf,Fine t y)→0<k→k+(suf.length*B:Nat)≤1152921504606846976→k≤(mkL e suf k).2∧(mkL e suf k).2≤k+(suf.length*B:Nat):=by
  intro suf
  induction suf with
  |nil=>intro k _ _ _;simp [mkL]
  |cons y ys ih=>
   intro k hf h0 hk
   simp only[List.length_cons,Nat.add_mul,Nat.one_mul] at hk
   obtain ⟨l1,l2⟩:=le y k (hf y (by simp)) h0 (by omega)
   obtain ⟨q1,q2⟩:=ih (e y k).2 (fun z hz=>hf z (by simp [hz])) (by omega) (by omega)
   simp only[mkL,List.length_cons,Nat.add_mul,Nat.one_mul]
   omega
 have runM: ∀ (suf pre:List t.den) (k:Int),pre.length+suf.length≤16777216→(∀y∈suf,Fine t y)→0<k→k+(suf.length*B:Nat)≤1152921504606846976→Dm (pre++suf,(k,((pre.length:Int),())))=some (((mkL e suf k).2,()),(pre++(mkL e suf k).1,())):=by
  intro suf
  induction suf with
  |nil=>intro pre k _ _ _ _;simp only[List.append_nil,mkL];exact em pre k
  |cons y ys ih=>
   intro pre k hl hf h0 hk
   simp only[List.length_cons,Nat.add_mul,Nat.one_mul] at hk hl
   obtain ⟨l1,l2⟩:=le y k (hf y (by simp)) h0 (by omega)
   have hi:pre.length<(pre++y::ys).length:=by simp
   have hy:(pre++y::ys)[pre.length]=y:=by simp
   rw[sm (pre++y::ys) k pre.length hi (by omega) h0 (by omega) (by rw[hy];exact hf y (by simp)),hy,upd_at]
   have hs:(pre++y::ys).set pre.length (e y k).1=(pre++[(e y k).1])++ys:=by simp
   rw[hs]
   have:=ih (pre++[(e y k).1]) (e y k).2 (by simp;omega) (fun z hz=>hf z (by simp [hz])) (by omega) (by omega)
   simp only[List.length_append,List.length_singleton] at this
   rw[this]
   simp [mkL]
 have runH: ∀ (suf pre:List t.den) (k:Int),pre.length+suf.length≤16777216→(∀y∈suf,Fine t y)→0<k→k+(suf.length*B:Nat)≤1152921504606846976→Dh (pre++(mkL e suf k).1,(k,((pre.length:Int),())))=some (((mkL e suf k).2,()),()):=by
  intro suf
  induction suf with
  |nil=>intro pre k _ _ _ _;simp only[List.append_nil,mkL];exact eh pre k
  |cons y ys ih=>
   intro pre k hl hf h0 hk
   simp only[List.length_cons,Nat.add_mul,Nat.one_mul] at hk hl
   obtain ⟨l1,l2⟩:=le y k (hf y (by simp)) h0 (by omega)
   simp only[mkL]
   have hi:pre.length<(pre++(e y k).1::(mkL e ys (e y k).2).1).length:=by simp
   rw[sh _ k pre.length hi y (by omega) h0 (by omega) (hf y (by simp)) (by simp)]
   have:=ih (pre++[(e y k).1]) (e y k).2 (by simp;omega) (fun z hz=>hf z (by simp [hz])) (by omega) (by omega)
   simp only[List.length_append,List.length_singleton,List.append_assoc,List.singleton_append] at this
   exact this
 have hB: ∀ (x:List t.den),x.length≤16777216→(x.length*B:Nat)≤16777216*B:=fun x h=>Nat.mul_le_mul_right _ h
 intro x k hf h0 hk
 have:=hB x hf.1
 have h1:=runM x [] k (by simpa using hf.1) hf.2 h0 (by omega)
 have h2:=runH x [] k (by simpa using hf.1) hf.2 h0 (by omega)
 have h3:=bound x k hf.2 h0 (by omega)
 rw[hfm,hfh]
 exact ⟨by simpa using h1,by simpa using h2,h3.1,by omega⟩
end Go.TV
namespace Go.TV
open Go.RowKit
def Pze:Ty→Bool
 | .int _=>true
 | .bool=>true
 | .str=>true
 |_=>false
def Pzd:(t:Ty)→t.den→Value
 | .int k,n=> .int k n
 | .bool,b=> .bool b
 | .str,s=> .string s
 |_,_=>Go.undef
def uzS:(ps:List Par)→azQ ps→List Value
 | [],_=>[]
 |p::ps,x=>Pzd p.t x.1::uzS ps x.2
def zzF:(rs:List Rt)→bzR rs→List Value
 | [],_=>[]
 |r::rs,x=>Pzd r.t x.1::zzF rs x.2
def Izm (p:Par):Bool:=Pze p.t&&!p.ptr&&!p.io&&p.m.isSh
def Ozy (r:Rt):Bool:=Pze r.t&&!r.ptr&&r.m.isSh
section
variable {P:Program} {gl:Nat→Option VV} {gv:Nat→Value} {w:World} {ω:azw} {η:Pins}
theorem OzC: ∀ {t:Ty} {pa:Path} {x:t.den} {cs:List Value},Pze t=true→Rep w ω η t pa .sh x cs→mkV t cs=Pzd t x
 | .int k,_,x,cs,_,h=>by
   have:cs=[.int k x]:=h
   rw[this];rfl
 | .bool,_,x,cs,_,h=>by
   have:cs=[.bool x]:=h
   rw[this];rfl
 | .str,_,x,cs,_,h=>by
   have:cs=[.string x]:=h
   rw[this];rfl
theorem Pzc: ∀ {t:Ty} (pa:Path) (x:t.den),Pze t=true→ ∃cs,Rep w ω η t pa .sh x cs∧Pzd t x=mkV t cs
 | .int k,_,x,_=>⟨[.int k x],rfl,rfl⟩
 | .bool,_,x,_=>⟨[.bool x],rfl,rfl⟩
 | .str,_,x,_=>⟨[.string x],rfl,rfl⟩
theorem wzB: ∀ (ps:List Par) (k:Nat) (x:azQ ps) (vs:List Value),ps.all Izm=true→izf w ω η k ps x vs→vs=uzS ps x
 | [],_,_,[],_,_=>rfl
 |p::ps,k,x,v::vs,h,ha=>by
  simp only[List.all_cons,Bool.and_eq_true] at h
  obtain ⟨hp,hps⟩:=h
  simp only[Izm,Bool.and_eq_true,Bool.not_eq_true'] at hp
  obtain ⟨⟨⟨h1,h2⟩,h3⟩,h4⟩:=hp
  obtain ⟨ha1,ha2⟩:=ha
  rw[h2] at ha1
  obtain ⟨cs,h5,h6⟩:=ha1
  rw[yzi h4] at h5
  simp only[uzS]
  rw[wzB ps (k+1) x.2 vs hps ha2,h6,OzC h1 h5]
 | [],_,_,_::_,_,h=>by cases h
 |_::_,_,_,[],_,h=>by cases h
theorem xzF: ∀ (ps:List Par) (k:Nat) (y:azP ps) (x:azQ ps),ps.all Izm=true→kzM w ω η k ps y (uzS ps x)
 | [],_,_,_,_=>trivial
 | ⟨t,m,io,ptr,bx⟩::ps,k,y,x,h=>by
   simp only[List.all_cons,Bool.and_eq_true] at h
   obtain ⟨hp,hps⟩:=h
   simp only[Izm,Bool.and_eq_true,Bool.not_eq_true'] at hp
   obtain ⟨⟨⟨h1,h2⟩,h3⟩,h4⟩:=hp
   subst h3
   exact xzF ps (k+1) y x.2 hps
theorem xzo: ∀ (rs:List Rt) (k:Nat) (x:bzR rs),rs.all Ozy=true→kzS w ω η k rs x (zzF rs x)
 | [],_,_,_=>trivial
 |r::rs,k,x,h=>by
  simp only[List.all_cons,Bool.and_eq_true] at h
  obtain ⟨hp,hps⟩:=h
  simp only[Ozy,Bool.and_eq_true,Bool.not_eq_true'] at hp
  obtain ⟨⟨h1,h2⟩,h4⟩:=hp
  refine ⟨?_,xzo rs (k+1) x.2 hps⟩
  rw[h2,yzi h4]
  exact Pzc _ x.1 h1
theorem wzS {w':World} (h:Below w.heap.size w w') (hlt: ∀b,ω b≠none→b<w.heap.size):Evo w w' ω ω:=
 ⟨h.os,h.tape,h.output,h.size,fun b hb hn=>⟨hn,h.block b hb⟩,fun b q hq=>⟨hq,h.block b (hlt b (by rw[hq];simp))⟩⟩
theorem CallsOk.leaf {f:Nat} {ps:List Par} {rs:List Rt} {F:azQ ps→Option (bzR rs×azP ps)} (hok:Sig.ok ⟨ps,rs,false,F⟩=true) (he: ∀args w,(callFunc f args).run P w= .ok (.enter f args) w) (hp:ps.all Izm=true) (hr:rs.all Ozy=true)
 (h: ∀x r w,F x=some r→Calls P f (uzS ps x).toArray w fun e w'=>e= .returned (retV (zzF rs r.1))∧Below w.heap.size w w'):CallsOk P gl gv f ⟨ps,rs,false,F⟩:=
 ⟨hok,he,fun w ω η x vals r _ ha hl hF=>by
  have hv:vals=uzS ps x:=wzB ps 0 x vals hp ha
  subst hv
  refine (h x r w hF).mono fun e w' h=>?_
  obtain ⟨rfl,hb⟩:=h
  exact ⟨ω,zzF rs r.1,wzS hb hl,fun b hb'=>Nat.lt_of_lt_of_le (hl b hb') hb.size,xzo rs 0 r.1 hr,rfl,xzF ps 0 r.2 x hp⟩⟩
theorem tab_is (hg:vzF gl gv w ω η) {i n:Nat} {k:IntKind} {xs:List Int} {name:String} (hi:gl i=some (.cp (.arr n (.int k)) xs 0)) (hv:gv i= .pointer (some ⟨i,0,none⟩)) (hn:P.globalNamed name=some i):Lib.TabIs P w name k xs:=by
 obtain ⟨b,off,row,h1,h2,h3,h4,h5,cells,e,fr,h6,h7,h8⟩:=hg i _ _ _ hi
 subst h8
 rw[hv] at h1
 cases h1
 obtain ⟨q1,q2,q3⟩:xs.length=n∧row.length=n*(Ty.int k).sz∧ ∀i x,xs[i]?=some x→Rep w ω η (.int k) [] .sh x ((row.drop (i*(Ty.int k).sz)).take (Ty.int k).sz):=h5
 have hs:(Ty.int k).sz=1:=rfl
 have hsz:(Ty.arr n (.int k)).sz=n:=by simp [Ty.sz]
 rw[hsz] at h7
 simp only[hs,Nat.mul_one] at q2 q3
 unfold Lib.TabIs World.var?
 rw[hn]
 simp only[Option.bind_some,h6]
 congr 1
 apply Array.ext'
 refine List.ext_getElem? fun j=>?_
 rcases Nat.lt_or_ge j n with hj|hj
 ·have hx:xs[j]?=some xs[j]:=List.getElem?_eq_getElem (by omega)
  have h9:(row.drop j).take 1=[.int k xs[j]]:=q3 j _ hx
  have h10:row[j]?=some (.int k xs[j]):=by
   have:=congrArg (·[0]?) h9
   simpa [List.getElem?_take,List.getElem?_drop] using this
  have h11:=h4 j _ h10
  simp only[World.cell?,h6,Nat.zero_add] at h11
  simp only[Array.getElem?_toList,List.getElem?_map,hx,Option.map_some]
  simpa using h11
 ·rw[List.getElem?_eq_none (by rw[Array.length_toList];omega),List.getElem?_eq_none (by simp;omega)]
theorem PzF {i n:Nat} {k:IntKind} {xs:List Int} {name:String} (h:Lib.TabIs P w name k xs) (hn:P.globalNamed name=some i) (hl:xs.length=n):GV w (fun _=>none) η (.arr n (.int k)) xs 0 (.pointer (some ⟨i,0,none⟩)):=by
 unfold Lib.TabIs World.var? at h
 rw[hn] at h
 simp only[Option.bind_some] at h
 split at h
 ·rename_i cs e fr hi
  cases h
  have hsz:(Ty.arr n (.int k)).sz=n:=by simp [Ty.sz]
  refine ⟨i,0,xs.map fun z=>Value.int k z,rfl,⟨(Array.getElem?_eq_some_iff.1 hi).1,rfl⟩,by rw[hsz,List.length_map,hl],fun j v hj=>?_,?_,_,e,fr,hi,by rw[hsz];simp [hl],rfl⟩
  ·simp only[World.cell?,hi,Nat.zero_add]
   simpa using hj
  ·refine ⟨hl,by simp [Ty.sz,hl],fun j x hx=>?_⟩
   show List.take 1 (List.drop (j*1) _)=[Value.int k x]
   rw[Nat.mul_one]
   have hj:j<xs.length:=(List.getElem?_eq_some_iff.1 hx).1
   have hx':xs[j]=x:=(List.getElem?_eq_some_iff.1 hx).2
   rw[List.drop_eq_getElem_cons (by simpa using hj)]
   simp [hx']
 ·cases h
theorem CallsOk.leafG {f:Nat} {ps:List Par} {rs:List Rt} {F:azQ ps→Option (bzR rs×azP ps)} (hok:Sig.ok ⟨ps,rs,false,F⟩=true) (he: ∀args w,(callFunc f args).run P w= .ok (.enter f args) w) (hp:ps.all Izm=true) (hr:rs.all Ozy=true)
 (h: ∀x r w ω η,vzF gl gv w ω η→F x=some r→Calls P f (uzS ps x).toArray w fun e w'=>e= .returned (retV (zzF rs r.1))∧Below w.heap.size w w'):CallsOk P gl gv f ⟨ps,rs,false,F⟩:=
 ⟨hok,he,fun w ω η x vals r hg ha hl hF=>by
  have hv:vals=uzS ps x:=wzB ps 0 x vals hp ha
  subst hv
  refine (h x r w ω η hg hF).mono fun e w' h=>?_
  obtain ⟨rfl,hb⟩:=h
  exact ⟨ω,zzF rs r.1,wzS hb hl,fun b hb'=>Nat.lt_of_lt_of_le (hl b hb') hb.size,xzo rs 0 r.1 hr,rfl,xzF ps 0 r.2 x hp⟩⟩
end
end Go.TV
