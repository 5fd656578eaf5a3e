/- What a Go function computes, told as a function of plain data, and that it is so. Of no condition. Items are built; all operations but calls. Ownership across a call: pins, what shares nothing. What is lent for a call and comes back. -/
import Derived.Test.YtdfbhjpmdjmdaaaGreatDoorMb
import Derived.Orders
set_option linter.unusedVariables false
set_option linter.unusedSimpArgs false
namespace Go.TV
theorem Hzy {P:Program}: ∀ (T:Ty) (fs:List Field) (o:Nat),FlOk P T fs o→mzU T=true
 | .unit,_,_,_=>rfl
 | .prod a b,fs,o,h=>by
   simp only[FlOk] at h
   obtain ⟨f,rest,_,_,_,_,_,h⟩:=h
   exact Hzy b rest _ h
 | .int _,_,_,h=>by simp [FlOk] at h
 | .bool,_,_,h=>by simp [FlOk] at h
 | .str,_,_,h=>by simp [FlOk] at h
 | .sl _,_,_,h=>by simp [FlOk] at h
 | .item,_,_,h=>by simp [FlOk] at h
 | .arr _ _,_,_,h=>by simp [FlOk] at h
theorem zz9: ∀ (T:Ty) (f d:Nat),azX T f=some d→ ∃U,czR T f=some U
 | .prod a b,0,_,_=>⟨a,rfl⟩
 | .prod a b,f+1,d,h=>by
   simp only[azX] at h
   split at h
   ·rename_i d' hd;exact zz9 b f d' hd
   ·cases h
 | .item,0,_,_=>⟨_,rfl⟩
 | .item,1,_,_=>⟨_,rfl⟩
 | .item,2,_,_=>⟨_,rfl⟩
 | .item,f+3,d,h=>by
   simp only[azX] at h
   cases hc:Nat.ble (f+3) 2 with
   |false=>rw[hc] at h;cases h
   |true=>have:=Nat.le_of_ble_eq_true hc;omega
 | .int _,_,_,h=>by simp [azX] at h
 | .bool,_,_,h=>by simp [azX] at h
 | .str,_,_,h=>by simp [azX] at h
 | .sl _,_,_,h=>by simp [azX] at h
 | .unit,_,_,h=>by simp [azX] at h
 | .arr _ _,_,_,h=>by simp [azX] at h
section
variable {P:Program} {gv:Nat→Value} {n:Nat} {s s':St} {g:G} {a:Act} {w w':World} {R:Type} {E:Env R} {o:Oper}
abbrev vz5:Ty:= .prod .bool (.prod .str (.prod (.sl .item) .unit))
theorem yzY (h:Rel E.gl gv n s g a w) (hgv: ∀i,a.eval (.global i)=gv i) {t:Nat} {parts:Array (Nat×Operand)} {y:ItemT} {m:Mk} (hT:TyOk P .item t) (hop:o.op= .build t parts)
 (hp:bzM 3 parts.toList=true) (e:ezu E parts.toList .item 0 s=some (y,m,s')):Does P E gv n g a w o (.ok (.v .item m y) s'):=by
 simp only[ezu] at e
 split at e
 case h_2=>cases e
 rename_i l m0 s1 e1
 split at e
 case h_2=>cases e
 rename_i tx m1 s2 e2
 obtain ⟨g1,c0,k1,a0,r0,v0⟩:=ozm h hgv [0] e1
 obtain ⟨g2,c1,k2,a1,r1,v1⟩:=ozm k1.rel hgv [1] e2
 have key: ∀ (k:List ItemT) (mk:Mk) (s3:St),yzc E parts.toList (.sl .item) 2 s2=some (k,mk,s3)→(∃me,mk= .own 0 me∧m= .own 0 .sh)∨(mk= .sh∧m= .sh)→y= .mk l tx k→s3=s'→Does P E gv n g a w o (.ok (.v .item m y) s'):=by
  rintro k mk s3 e3 hm rfl rfl
  obtain ⟨g3,c2,k3,a2,r2,v2⟩:=ozm k2.rel hgv [] e3
  have hk0:c0=[.bool l]:=Kn.out (by rintro rfl;cases a0) r0
  have hk1:c1=[.string tx]:=Kn.out (by rintro rfl;cases a1) r1
  let rows:Nat→List Value:=fun i=>if i=0 then c0 else if i=1 then c1 else c2
  have hro:tzi a parts.toList vz5 0 rows:=by
   refine ⟨⟨Rep.length _ _ _ _ _ r0,Rep.cellsOk _ _ _ _ _ a0 r0,v0⟩,⟨Rep.length _ _ _ _ _ r1,Rep.cellsOk _ _ _ _ _ a1 r1,v1⟩,⟨Rep.length _ _ _ _ _ r2,Rep.cellsOk _ _ _ _ _ a2 r2,v2⟩,trivial⟩
  have hf:=wzT (a:=a) (T:=vz5) rfl hp hro
  have hcat:cat vz5 0 rows=[.bool l, .string tx]++c2:=by simp [cat,rows,hk0,hk1]
  rw[hcat] at hf
  have hz:=ezP (dzr .item).1 (dzr .item).2
  have hb:=hT.b
  simp only[TyOk] at hT
  obtain ⟨_,f1,f2,f3,el,h1,h2,h3,h4,h5,h6,h7,h8,b1,b2,b3⟩:=hT
  let row:List Value:=[.bool l, .string tx]++c2
  have hrun:(execOp a.eval o).run P w= .ok (.value (mkV .item row)) w:=by
   simp [execOp,hop,Instr.build,hb.run_zero,hz,azg h1,mkV,isAgg,b1.run_sizeOf,b2.run_sizeOf,b3.run_sizeOf,h2,h3,h4,Ty.sz]
   simp only[hzq,vz5,List.getElem?_toArray] at hf
   rw[show (Value.agg (azO .item).toArray).cells=(azO .item).toArray from rfl]
   simp only[show azO (Ty.bool.prod (Ty.str.prod (Ty.item.sl.prod Ty.unit)))=azO .item from rfl] at hf
   have hf2:Instr.fill (fun x=>[(0,1),(1,1),(2,1)][x]?) (azO Ty.item).toArray (parts.toList.map fun p=>(p.1,a.eval p.2))=some row.toArray:=hf
   rw[hf2]
   rfl
  have hst3:=(k1.trans (k2.trans k3)).fl.1
  have hst3f:=(k1.trans (k2.trans k3)).fl.far
  have hη3:=(k1.trans (k2.trans k3)).η
  have r2':Rep w g3.ω g3.η (.sl .item) [3,0] mk k c2:=by simpa using r2
  rcases hm with ⟨me,rfl,rfl⟩| ⟨rfl,rfl⟩
  ·have hle:Mk.le (.own 0 .sh) (.own 0 me)=true:=Mk.le_sh a2
   have hw:=Rep.weaken (.sl .item) g3.ω [3,0] _ _ _ _ hle r2'
   obtain ⟨k4,k5,k5f,_⟩:=k3.rel.handWeak (m:= .sh)
   exact .pure hrun ⟨_,row,0,k4,hη3,⟨bzq.of_list (l:=l) (s:=tx) (by simp) hw,rfl⟩,Evo.same (hst3.trans k5) (hst3f.trans k5f)⟩
  ·exact .pure hrun ⟨g3,row,0,k3.rel,hη3,⟨bzq.of_list (l:=l) (s:=tx) (by simp) r2',rfl⟩,Evo.same hst3 hst3f⟩
 split at e
 ·rename_i k me s3 e3
  cases e
  exact key k _ _ e3 (.inl ⟨me,rfl,rfl⟩) rfl rfl
 ·rename_i k s3 e3
  cases e
  exact key k _ _ e3 (.inr ⟨rfl,rfl⟩) rfl rfl
 ·cases e
theorem nzz (h:Rel E.gl gv n s g a w) (hgv: ∀i,a.eval (.global i)=gv i) (hT: ∀t T,E.tt t=some T→TyOk P T t) (hdeep: ∀t T,E.tt t=some T→deep T<10000) {ev:Ev} (e:dzH E s o=some ev)
 (hnc: ∀c f,o.op= .call c→c.callee≠ .value (.func f)):Does P E gv n g a w o ev:=by
 unfold dzH at e
 cases hop:o.op<;>simp only[hop] at e
 case move x=>exact KzE h hgv hop e
 case assign x=>exact Ez3 h hgv hop e
 case pick c x y=>exact Lz0 h hgv hop e
 case binOp op t x y yt=>
  cases hb:nilB y<;>rw[hb] at e
  ·exact Jzq h hgv hT hdeep hop e
  ·exact Iz0 h hgv hT hop hb e
 case unOp op t x=>
  refine Mzc h hgv hop ?_
  generalize s.res (TV.opd E o.type s x)=W at*
  cases W with
  |v T m y=>cases op<;>cases T<;>exact e
  |_=>cases op<;>exact e
 case convert t1 t2 x=>exact Lzv h hgv hT hop e
 case nilCheck x=>exact BzS h hgv hop e
 case fieldAddr t x f=>
  cases ht:E.tt t with
  |none=>rw[ht] at e;cases e
  |some T=>
   rw[ht] at e
   simp only at e
   cases hd:azX T f with
   |none=>rw[hd] at e;cases e
   |some d=>exact yz8 h hgv (hT _ _ ht) (zz9 T f d hd) hop e
 case field t x f=>
  cases ht:E.tt t with
  |none=>rw[ht] at e;cases e
  |some T=>rw[ht] at e;exact Izv h hgv (hT _ _ ht) hop e
 case indexAddr t x ix=>
  split at e
  ·rename_i i T hi ht
   exact yzx h hgv (hT _ _ ht) (h.int hgv hi) hop e
  ·cases e
 case index t x ix=>exact Izy h hgv (hT t) hop e
 case load t x=>
  cases ht:E.tt t with
  |none=>rw[ht] at e;cases e
  |some T=>rw[ht] at e;exact MzO h hgv (hT _ _ ht) hop e
 case store t x y=>
  cases ht:E.tt t with
  |none=>rw[ht] at e;cases e
  |some T=>rw[ht] at e;exact Hz9 h hgv (hT _ _ ht) hop e
 case box t x=>
  split at e
  ·exact OzQ h hgv hop e
  ·cases e
 case alloc t=>
  split at e
  ·rename_i T d ht hd
   cases e
   exact JzF h (hT _ _ ht) hop
  ·cases e
 case build t ps=>
  cases ht:E.tt t with
  |none=>rw[ht] at e;cases e
  |some T=>
   rw[ht] at e
   have hTt:=hT _ _ ht
   have hchain:mzU T=true→(bif bzM (bzY T) ps.toList then (match ezu E ps.toList T 0 s with
    |some (a,m,s)=>some (Ev.ok (.v T m a) s)
    |none=>none) else none)=some ev→Does P E gv n g a w o ev:=by
    intro hc e
    cases hp:bzM (bzY T) ps.toList<;>rw[hp] at e
    ·cases e
    simp only[cond_true] at e
    split at e
    ·rename_i y m s2 hb
     cases e
     exact IzC h hgv hTt hc hop hp hb
    ·cases e
   cases T with
   |arr k U=>
    simp only at e
    cases hp:bzM k ps.toList<;>rw[hp] at e
    ·cases e
    simp only[cond_true] at e
    split at e
    ·rename_i xs m s2 hb
     cases hm:m.isSh<;>rw[hm] at e
     ·cases e
     cases e
     have:=yzi hm
     subst this
     exact AzG h hgv hTt hop hp hb
    ·cases e
   |item=>
    simp only at e
    cases hp:bzM (bzY .item) ps.toList<;>rw[hp] at e
    ·cases e
    simp only[cond_true] at e
    split at e
    ·rename_i y m s2 hb
     cases e
     exact yzY h hgv hTt hop hp hb
    ·cases e
   |prod A B=>
    have hc:mzU (.prod A B)=true:=by
     simp only[TyOk] at hTt
     obtain ⟨_,f,fs,_,_,_,_,_,_,_,hfl⟩:=hTt
     exact Hzy B fs _ hfl
    exact hchain hc e
   |unit=>
    exact hchain rfl e
   |_=>simp only[ezu] at e;exact absurd e (by generalize bzM _ _=b;cases b<;>simp)
 case buildSlice t k ps=>
  split at e
  ·rename_i U ht
   cases hp:(bzM k ps.toList&&Nat.ble (k*U.sz) 16777216)<;>rw[hp] at e
   ·cases e
   simp only[Bool.and_eq_true] at hp
   simp only[cond_true] at e
   split at e
   ·rename_i xs m s2 hb
    cases e
    exact wzY h hgv (hT _ _ ht) hop hp.1 (Nat.le_of_ble_eq_true hp.2) hb
   ·cases e
  ·cases e
 case makeSlice t ln cp=>
  split at e
  ·rename_i U k m N k' m' c ht h1 h2
   cases e
   exact yzM h hgv (hT _ _ ht) hop (h.int hgv h1) (h.int hgv h2)
  ·cases e
 case slice t x lo hi mx=>exact Izd h hgv hT hop e
 case extract x i=>
  refine EzS h hop ?_
  cases x with
  |tmp u=>
   generalize TV.opd E 0 s (.tmp u)=W at*
   cases W with
   |tup vs=>
    simp only at e⊢
    generalize vs[i]?=c at*
    cases c with
    |some c=>
     cases c with
     |v t m y=>cases m<;>exact e
     |_=>exact e
    |none=>exact e
   |_=>exact e
  |_=>exact e
 case call c=>
  split at e
  ·rename_i f hc
   exact absurd hc (hnc c f hop)
  ·rename_i b hc
   unfold czj at e
   split at e
   ·rename_i x hx
    exact NzS h hgv hT hop hc hx e
   ·rename_i x y hx
    split at e
    ·rename_i t t2 rest hts
     exact Gzh h hgv hT hop hc hx hts e
    ·cases e
   ·rename_i x y hx
    refine wz0 (b:=true) h hgv hop hc hx ?_
    generalize s.res (TV.opd E 0 s x)=W at*
    generalize s.res (TV.opd E 0 s y)=W' at*
    cases W with
    |v T m y1=>
     cases W' with
     |v T' m' y2=>cases T<;>cases T'<;>exact e
     |_=>cases T<;>exact e
    |_=>exact e
   ·rename_i x y hx
    refine wz0 (b:=false) h hgv hop hc hx ?_
    generalize s.res (TV.opd E 0 s x)=W at*
    generalize s.res (TV.opd E 0 s y)=W' at*
    cases W with
    |v T m y1=>
     cases W' with
     |v T' m' y2=>cases T<;>cases T'<;>exact e
     |_=>cases T<;>exact e
    |_=>exact e
   ·cases e
  ·cases e
 all_goals (first|cases e|simp at e)
end
end Go.TV
namespace Go.TV
theorem czk {a b:Bool} (h:(bif a then b else false)=true):a=true∧b=true:=by
 cases a
 ·cases h
 ·exact ⟨rfl,h⟩
theorem vzZ {m:Mk} (h:dzF m=true):dzF m.l=true:=by
 cases m<;>first|rfl|exact (czk h).1
theorem vz0 {m:Mk} (h:dzF m=true):dzF m.r=true:=by
 cases m<;>first|rfl|exact (czk h).2
theorem jzd {p:Nat} {m:Mk} (h:dzF (.own p m)=true):p=0∧dzF m=true:=by
 obtain ⟨h1,h2⟩:=czk h
 exact ⟨Nat.eq_of_beq_eq_true h1,h2⟩
theorem bzq.reη {w:World} {ω:azw} {η η':Pins}: ∀ (m:Mk) (p:Path) (x:ItemT) (cs:List Value),dzF m=true→bzq w ω η m p x cs→bzq w ω η' m p x cs
 | .no,_,_,_,_,h=>h
 | .sh,_,_,_,_,h=>h
 | .pr _ b,_,_,_,_,h=>by
   by_cases hb:b= .no
   ·subst hb;exact h
   ·rw[bzq.pr_known hb] at h⊢;exact h
 | .own pin me,p,x,cs,hn,⟨A,c,e,hp,h⟩=>by
   obtain ⟨h0,h1⟩:=jzd hn
   refine ⟨A,c,e,fun hh=>absurd h0 hh,?_⟩
   rcases h with h| ⟨r,cells,el,fr,hA,ho,hh,hs,hf,hl,hx⟩
   ·exact .inl h
   ·exact .inr ⟨r,cells,el,fr,hA,ho,hh,hs,hf,hl,fun i y hi=>bzq.reη me _ _ _ h1 (hx i y hi)⟩
theorem Rep.reη {w:World} {ω:azw} {η η':Pins}: ∀ (t:Ty) (p:Path) (m:Mk) (x:t.den) (cs:List Value),dzF m=true→Rep w ω η t p m x cs→Rep w ω η' t p m x cs
 | .int _,_,_,_,_,_,h=>h
 | .bool,_,_,_,_,_,h=>h
 | .str,_,_,_,_,_,h=>h
 | .unit,_,_,_,_,_,h=>h
 | .prod a b,p,m,x,cs,hn,h=>Kn.map (fun _ ⟨hm,c1,c2,e,ha,hb⟩=>⟨hm,c1,c2,e,Rep.reη a _ _ _ _ (vzZ hn) ha,Rep.reη b _ _ _ _ (vz0 hn) hb⟩) h
 | .item,p,m,x,cs,hn,h=>bzq.reη m p x cs hn h
 | .arr n t,_,m,xs,cs,_,h=>Kn.map (fun _ ⟨e,e2,h⟩=>⟨e,e2,fun i x hx=>Rep.reη t _ _ _ _ rfl (h i x hx)⟩) h
 | .sl t,p, .own pin me,xs,cs,hn,⟨A,c,e,hp,h⟩=>by
   obtain ⟨h0,h1⟩:=jzd hn
   refine ⟨A,c,e,fun hh=>absurd h0 hh,?_⟩
   rcases h with h| ⟨r,cells,el,fr,hA,ho,hh,hs,hf,hl,hx⟩
   ·exact .inl h
   ·exact .inr ⟨r,cells,el,fr,hA,ho,hh,hs,hf,hl,fun i y hi=>Rep.reη t _ _ _ _ h1 (hx i y hi)⟩
 | .sl t,p, .no,xs,cs,_,h=>h
 | .sl t,p, .sh,xs,cs,_,⟨A,c,e,hc,h⟩=>⟨A,c,e,hc,fun i x hx=>by
  obtain ⟨a,row,hA,hs,ho,hl,hr,hx⟩:=h i x hx
  exact ⟨a,row,hA,hs,ho,hl,hr,Rep.reη t _ _ _ _ rfl hx⟩⟩
 | .sl t,p, .pr _ _,xs,cs,_,⟨A,c,e,hc,h⟩=>⟨A,c,e,hc,fun i x hx=>by
  obtain ⟨a,row,hA,hs,ho,hl,hr,hx⟩:=h i x hx
  exact ⟨a,row,hA,hs,ho,hl,hr,Rep.reη t _ _ _ _ rfl hx⟩⟩
theorem tzR {a b:Ty} {m:Mk} (h:alone (.prod a b) m=true):alone a m.l=true∧alone b m.r=true:=czk h
theorem Rep.alone {w w':World} {ω ω':azw} {η:Pins}: ∀ (t:Ty) (p p':Path) (m:Mk) (x:t.den) (cs:List Value),alone t m=true→
 (∀b q,bzX m q=true→ω b=some (p++q)→ω' b=some (p'++q)∧w'.heap[b]?=w.heap[b]?)→Rep w ω η t p m x cs→Rep w' ω' η t p' m x cs
 | .int _,_,_,_,_,_,_,_,h=>h
 | .bool,_,_,_,_,_,_,_,h=>h
 | .str,_,_,_,_,_,_,_,h=>h
 | .unit,_,_,_,_,_,_,_,h=>h
 | .prod a b,p,p',m,x,cs,ha,h2,h=>Kn.map (fun _ ⟨hm,c1,c2,e,h3,h4⟩=>
   ⟨hm,c1,c2,e,Rep.alone a _ _ _ _ _ (tzR ha).1 (fun b q hk hq=>by have:=h2 b ([0]++q) (by rw[List.singleton_append,tz6 hm];exact hk) (by simpa using hq);simpa using this) h3,
    Rep.alone b _ _ _ _ _ (tzR ha).2 (fun b q hk hq=>by have:=h2 b ([1]++q) (by rw[List.singleton_append,uzd hm];exact hk) (by simpa using hq);simpa using this) h4⟩) h
 | .item,_,_,_,_,_,h,_,_=>by cases h
 | .arr n t,_,_,m,xs,cs,ha,_,h=>Kn.map (fun _ ⟨e,e2,h⟩=>⟨e,e2,fun i x hx=>Rep.alone t [] [] .sh _ _ ha (fun b q hk _=>by cases hk) (h i x hx)⟩) h
 | .sl t,p,p', .own pin me,xs,cs,ha,h2,⟨A,c,e,hp,h⟩=>⟨A,c,e,hp,by
  rcases h with h| ⟨r,cells,el,fr,hA,ho,hh,hs,hf,hl,hx⟩
  ·exact .inl h
  ·have hr:=h2 r [] rfl (by simpa using ho)
   refine .inr ⟨r,cells,el,fr,hA,by simpa using hr.1,hr.2.trans hh,hs,hf,hl,fun i x hi=>?_⟩
   exact Rep.alone t _ _ _ _ _ ha (fun b q hk hq=>by have:=h2 b ([i]++q) hk (by simpa using hq);simpa using this) (hx i x hi)⟩
 | .sl t,p,p', .no,xs,cs,h,_,_=>by cases h
 | .sl t,p,p', .sh,xs,cs,h,_,_=>by cases h
 | .sl t,p,p', .pr _ _,xs,cs,h,_,_=>by cases h
theorem Czx {m:Mk} (h:Mk.sim .sh m=true):m= .sh:=by cases m<;>first|rfl|cases h
theorem qz4 {p:Nat} {a m:Mk} (h:Mk.sim (.own p a) m=true): ∃q b,m= .own q b∧a.sim b=true:=by cases m<;>first|exact ⟨_,_,rfl,h⟩|cases h
theorem zzn {a b m:Mk} (h:Mk.sim (.pr a b) m=true): ∃c d,m= .pr c d∧a.sim c=true∧b.sim d=true:=by cases m<;>first|exact ⟨_,_,rfl,czk h⟩|cases h
theorem sim_l {m' m:Mk} (h:m'.sim m=true):m'.l.sim m.l=true:=by
 cases m'<;>cases m<;>first|rfl|exact (czk h).1|cases h
theorem sim_r {m' m:Mk} (h:m'.sim m=true):m'.r.sim m.r=true:=by
 cases m'<;>cases m<;>first|rfl|exact (czk h).2|cases h
theorem rzU {m' m:Mk} (h:m'.sim m=true):m'≠ .no∧m≠ .no:=by
 cases m'<;>cases m<;>simp_all [Mk.sim]
theorem Oz7 {m' m:Mk} (h:m'.sim m=true) (hp:prOk m=true):prOk m'=true:=by
 cases m'<;>cases m<;>first|rfl|cases h|cases hp
theorem Fz6: ∀ {m' m:Mk},m'.sim m=true→m'.all=true∧m.all=true
 | .sh,m,h=>by rw[Czx h];exact ⟨rfl,rfl⟩
 | .own p a,m,h=>by obtain ⟨q,b,rfl,h1⟩:=qz4 h;exact Fz6 (m':=a) (m:=b) h1
 | .pr a b,m,h=>by
   obtain ⟨c,d,rfl,h1,h2⟩:=zzn h
   obtain ⟨k1,k2⟩:=Fz6 (m':=a) (m:=c) h1
   obtain ⟨k3,k4⟩:=Fz6 (m':=b) (m:=d) h2
   simp [Mk.all,k1,k2,k3,k4]
 | .no,m,h=>by cases m<;>cases h
theorem HzB: ∀ {a b:Mk},a.sim b=true→dzF a=true→dzF b=true→a=b
 | .sh,m,h,_,_=>(Czx h).symm
 | .own p a,m,h,h1,h2=>by
   obtain ⟨q,b,rfl,h3⟩:=qz4 h
   obtain ⟨rfl,h4⟩:=jzd h1
   obtain ⟨rfl,h5⟩:=jzd h2
   rw[HzB h3 h4 h5]
 | .pr a b,m,h,h1,h2=>by
   obtain ⟨c,d,rfl,h3,h4⟩:=zzn h
   rw[HzB h3 (vzZ h1) (vzZ h2),HzB h4 (vz0 h1) (vz0 h2)]
 | .no,m,h,_,_=>by cases m<;>cases h
theorem xzy: ∀ {m:Mk},izq m=true→m.all=true
 | .sh,_=>rfl
 | .own _ _,h=>(czk h).1
 | .pr a b,h=>by
   obtain ⟨h1,h2⟩:=czk h
   simp [Mk.all,xzy h1,xzy h2]
 | .no,h=>by cases h
def szL:Ty→Mk→List Value→List (Nat×Value)
 | .prod a b, .pr m n,cs=>szL a m (cs.take a.sz)++szL b n (cs.drop a.sz)
 | .sl _, .own pin _,cs=>[(pin,cs.headD Go.undef)]
 |_,_,_=>[]
theorem qz8: ∀ (t:Ty) (m:Mk) (cs:List Value),qzc t m=true→(szL t m cs).map (·.1)=rzi m
 | .prod a b, .pr m n,cs,h=>by
   obtain ⟨h1,h2⟩:=czk (show (bif qzc a m then qzc b n else false)=true from h)
   simp only[szL,rzi,List.map_append,qz8 a m _ h1,qz8 b n _ h2]
 | .sl _, .own _ _,cs,_=>rfl
 | .int _, .sh,_,_=>rfl
 | .bool, .sh,_,_=>rfl
 | .str, .sh,_,_=>rfl
 | .unit, .sh,_,_=>rfl
 | .prod _ _, .sh,_,_=>rfl
 | .item, .sh,_,_=>rfl
 | .arr _ _, .sh,_,_=>rfl
 | .sl _, .sh,_,_=>rfl
 | .int _, .own _ _,_,h=>by cases h
 | .bool, .own _ _,_,h=>by cases h
 | .str, .own _ _,_,h=>by cases h
 | .unit, .own _ _,_,h=>by cases h
 | .prod _ _, .own _ _,_,h=>by cases h
 | .item, .own _ _,_,h=>by cases h
 | .arr _ _, .own _ _,_,h=>by cases h
 | .int _, .pr _ _,_,h=>by cases h
 | .bool, .pr _ _,_,h=>by cases h
 | .str, .pr _ _,_,h=>by cases h
 | .unit, .pr _ _,_,h=>by cases h
 | .sl _, .pr _ _,_,h=>by cases h
 | .item, .pr _ _,_,h=>by cases h
 | .arr _ _, .pr _ _,_,h=>by cases h
 | .int _, .no,_,h=>by cases h
 | .bool, .no,_,h=>by cases h
 | .str, .no,_,h=>by cases h
 | .unit, .no,_,h=>by cases h
 | .prod _ _, .no,_,h=>by cases h
 | .sl _, .no,_,h=>by cases h
 | .item, .no,_,h=>by cases h
 | .arr _ _, .no,_,h=>by cases h
theorem lzn {w:World} {ω:azw} {η:Pins} {a b:Ty} {p:Path} {m:Mk} {x:(Ty.prod a b).den} {cs:List Value} (hm:m≠ .no) (h:Rep w ω η (.prod a b) p m x cs):
 prOk m=true∧Rep w ω η a (p++[0]) m.l x.1 (cs.take a.sz)∧Rep w ω η b (p++[1]) m.r x.2 (cs.drop a.sz):=by
 obtain ⟨h1,c1,c2,e,h2,h3⟩:=Kn.out hm h
 have hl:=Rep.length _ _ _ _ _ h2
 subst e
 refine ⟨h1,?_,?_⟩
 ·rw[←hl,List.take_left];exact h2
 ·rw[←hl,List.drop_left];exact h3
theorem xz4 {w:World} {ω:azw} {η:Pins} {a b:Ty} {p:Path} {m:Mk} {x:(Ty.prod a b).den} {cs:List Value} (hp:prOk m=true) (h1:Rep w ω η a (p++[0]) m.l x.1 (cs.take a.sz)) (h2:Rep w ω η b (p++[1]) m.r x.2 (cs.drop a.sz)):
 Rep w ω η (.prod a b) p m x cs:=
 Kn.mk (by rw[←List.take_append_drop a.sz cs,List.length_append,Rep.length _ _ _ _ _ h1,Rep.length _ _ _ _ _ h2]) fun _=>⟨hp,_,_,(List.take_append_drop a.sz cs).symm,h1,h2⟩
theorem bzq.unpin {w:World} {ω:azw} {η η':Pins}: ∀ (m' m:Mk) (p:Path) (x:ItemT) (cs:List Value),m'.sim m=true→dzF m'=true→bzq w ω η m p x cs→bzq w ω η' m' p x cs
 | .sh,m,p,x,cs,hs,_,h=>by rw[Czx hs] at h;exact h
 | .own pin me,m,p,x,cs,hs,hn,h=>by
   obtain ⟨q,b,rfl,h1⟩:=qz4 hs
   obtain ⟨h0,h2⟩:=jzd hn
   obtain ⟨A,c,e,hp,h⟩:=h
   refine ⟨A,c,e,fun hh=>absurd h0 hh,?_⟩
   rcases h with h| ⟨r,cells,el,fr,hA,ho,hh,hs,hf,hl,hx⟩
   ·exact .inl h
   ·exact .inr ⟨r,cells,el,fr,hA,ho,hh,hs,hf,hl,fun i y hi=>bzq.unpin me b _ _ _ h1 h2 (hx i y hi)⟩
 | .pr a b,m,p,x,cs,hs,hn,h=>by
   obtain ⟨c,d,rfl,h1,h2⟩:=zzn hs
   rw[bzq.pr_known (rzU h2).2] at h
   rw[bzq.pr_known (rzU h2).1]
   exact h
 | .no,m,_,_,_,h,_,_=>by cases m<;>cases h
theorem Rep.unpin {w:World} {ω:azw} {η η':Pins}: ∀ (t:Ty) (p:Path) (m m':Mk) (x:t.den) (cs:List Value),m'.sim m=true→dzF m'=true→Rep w ω η t p m x cs→Rep w ω η' t p m' x cs
 | .int _,p,m,m',_,_,hs,_,h=>Kn.mk (Rep.length _ _ _ _ _ h) fun _=>Kn.out (rzU hs).2 h
 | .bool,p,m,m',_,_,hs,_,h=>Kn.mk (Rep.length _ _ _ _ _ h) fun _=>Kn.out (rzU hs).2 h
 | .str,p,m,m',_,_,hs,_,h=>Kn.mk (Rep.length _ _ _ _ _ h) fun _=>Kn.out (rzU hs).2 h
 | .unit,_,_,_,_,_,_,_,h=>h
 | .prod a b,p,m,m',x,cs,hs,hn,h=>by
   obtain ⟨h1,h2,h3⟩:=lzn (rzU hs).2 h
   exact xz4 (Oz7 hs h1) (Rep.unpin a _ _ _ _ _ (sim_l hs) (vzZ hn) h2) (Rep.unpin b _ _ _ _ _ (sim_r hs) (vz0 hn) h3)
 | .item,p,m,m',x,cs,hs,hn,h=>bzq.unpin m' m p x cs hs hn h
 | .arr n t,p,m,m',xs,cs,hs,_,h=>Kn.mk (Rep.length _ _ _ _ _ h) fun _=>by
   obtain ⟨e,e2,h⟩:=Kn.out (rzU hs).2 h
   exact ⟨e,e2,fun i x hx=>Rep.reη t _ _ _ _ rfl (h i x hx)⟩
 | .sl t,p,m, .own pin me,xs,cs,hs,hn,h=>by
   obtain ⟨q,b,rfl,h1⟩:=qz4 hs
   obtain ⟨h0,h2⟩:=jzd hn
   obtain ⟨A,c,e,hp,h⟩:=h
   refine ⟨A,c,e,fun hh=>absurd h0 hh,?_⟩
   rcases h with h| ⟨r,cells,el,fr,hA,ho,hh,hs,hf,hl,hx⟩
   ·exact .inl h
   ·exact .inr ⟨r,cells,el,fr,hA,ho,hh,hs,hf,hl,fun i y hi=>Rep.unpin t _ _ _ _ _ h1 h2 (hx i y hi)⟩
 | .sl t,p,m, .sh,xs,cs,hs,_,h=>by
   rw[Czx hs] at h
   exact Rep.reη (.sl t) p .sh xs cs rfl h
 | .sl t,p,m, .pr a b,xs,cs,hs,_,h=>by
   obtain ⟨c,d,rfl,_⟩:=zzn hs
   exact Rep.reη (.sl t) p .sh xs cs rfl h
 | .sl t,p,m, .no,xs,cs,hs,_,_=>by cases m<;>cases hs
theorem Rep.repin {w:World} {ω:azw} {η η':Pins}: ∀ (t:Ty) (p:Path) (m m':Mk) (x:t.den) (cs:List Value),m'.sim m=true→qzc t m'=true→(∀e∈szL t m' cs,η' e.1=some e.2)→Rep w ω η t p m x cs→Rep w ω η' t p m' x cs
 |t,p,m, .sh,x,cs,hs,_,_,h=>Rep.unpin t p m .sh x cs hs rfl h
 | .prod a b,p,m, .pr m1 m2,x,cs,hs,hk,hp,h=>by
   obtain ⟨c,d,rfl,s1,s2⟩:=zzn hs
   obtain ⟨h1,h2,h3⟩:=lzn (by simp) h
   obtain ⟨k1,k2⟩:=czk (show (bif qzc a m1 then qzc b m2 else false)=true from hk)
   exact xz4 rfl (Rep.repin a _ _ _ _ _ s1 k1 (fun e he=>hp e (List.mem_append_left _ he)) h2) (Rep.repin b _ _ _ _ _ s2 k2 (fun e he=>hp e (List.mem_append_right _ he)) h3)
 | .sl t,p,m, .own pin me,xs,cs,hs,hk,hp,h=>by
   obtain ⟨q,b,rfl,h1⟩:=qz4 hs
   have hn:dzF me=true:=by
    simp only[qzc] at hk
    cases hc:Nat.beq pin 0<;>rw[hc] at hk
    ·exact hk
    ·cases hk
   obtain ⟨A,c,e,_,h⟩:=h
   subst e
   refine ⟨A,c,rfl,fun _=>hp (pin, .slice A xs.length c) (by simp [szL]),?_⟩
   rcases h with h| ⟨r,cells,el,fr,hA,ho,hh,hs,hf,hl,hx⟩
   ·exact .inl h
   ·exact .inr ⟨r,cells,el,fr,hA,ho,hh,hs,hf,hl,fun i y hi=>Rep.unpin t _ _ _ _ _ h1 hn (hx i y hi)⟩
 | .int _,_,_, .own _ _,_,_,_,h,_,_=>by cases h
 | .bool,_,_, .own _ _,_,_,_,h,_,_=>by cases h
 | .str,_,_, .own _ _,_,_,_,h,_,_=>by cases h
 | .unit,_,_, .own _ _,_,_,_,h,_,_=>by cases h
 | .prod _ _,_,_, .own _ _,_,_,_,h,_,_=>by cases h
 | .item,_,_, .own _ _,_,_,_,h,_,_=>by cases h
 | .arr _ _,_,_, .own _ _,_,_,_,h,_,_=>by cases h
 | .int _,_,_, .pr _ _,_,_,_,h,_,_=>by cases h
 | .bool,_,_, .pr _ _,_,_,_,h,_,_=>by cases h
 | .str,_,_, .pr _ _,_,_,_,h,_,_=>by cases h
 | .unit,_,_, .pr _ _,_,_,_,h,_,_=>by cases h
 | .sl _,_,_, .pr _ _,_,_,_,h,_,_=>by cases h
 | .item,_,_, .pr _ _,_,_,_,h,_,_=>by cases h
 | .arr _ _,_,_, .pr _ _,_,_,_,h,_,_=>by cases h
 | .int _,_,m, .no,_,_,h,_,_,_=>by cases m<;>cases h
 | .bool,_,m, .no,_,_,h,_,_,_=>by cases m<;>cases h
 | .str,_,m, .no,_,_,h,_,_,_=>by cases m<;>cases h
 | .unit,_,m, .no,_,_,h,_,_,_=>by cases m<;>cases h
 | .prod _ _,_,m, .no,_,_,h,_,_,_=>by cases m<;>cases h
 | .sl _,_,m, .no,_,_,h,_,_,_=>by cases m<;>cases h
 | .item,_,m, .no,_,_,h,_,_,_=>by cases m<;>cases h
 | .arr _ _,_,m, .no,_,_,h,_,_,_=>by cases m<;>cases h
theorem wzz: ∀ (t:Ty) (x y:t.den),qzr t .sh x y=x
 | .prod a b,(x1,x2),(y1,y2)=>by simp only[qzr];rw[show Mk.sh.l= .sh from rfl,show Mk.sh.r= .sh from rfl,wzz a,wzz b]
 | .int _,_,_=>rfl
 | .bool,_,_=>rfl
 | .str,_,_=>rfl
 | .unit,_,_=>rfl
 | .item,_,_=>rfl
 | .arr _ _,_,_=>rfl
 | .sl _,_,_=>rfl
theorem Rep.remerge {w0 w1:World} {ω0 ω1:azw} {η η0:Pins} {wc:World} {ωc:azw}: ∀ (t:Ty) (p0 p1 pc:Path) (m m0:Mk) (x y x0:t.den) (cs cs':List Value),qzc t m=true→m.sim m0=true→izq m0=true→azJ w0 w1 ω0 ω1→
 Rep w0 ω0 η t p0 m x cs→Rep w1 ω1 η t p1 m y cs'→Rep wc ωc η0 t pc m0 x0 cs→Rep w1 ω1 η0 t p1 m0 (qzr t m x y) cs
 |t,p0,p1,pc, .sh,m0,x,y,x0,cs,cs',_,hs,_,hst,h0,_,_=>by
  rw[Czx hs,wzz]
  exact Rep.reη t _ _ _ _ rfl (Rep.sh_mono hst t _ _ _ _ h0)
 | .prod a b,p0,p1,pc, .pr m1 m2,m0,x,y,x0,cs,cs',hk,hs,ht,hst,h0,h1,hc=>by
   obtain ⟨c,d,rfl,s1,s2⟩:=zzn hs
   obtain ⟨k1,k2⟩:=czk (show (bif qzc a m1 then qzc b m2 else false)=true from hk)
   obtain ⟨t1,t2⟩:=czk (show (bif izq c then izq d else false)=true from ht)
   obtain ⟨_,h2,h3⟩:=lzn (by simp) h0
   obtain ⟨_,h4,h5⟩:=lzn (by simp) h1
   obtain ⟨_,h6,h7⟩:=lzn (by simp) hc
   exact xz4 rfl (Rep.remerge a _ _ _ m1 c _ _ _ _ _ k1 s1 t1 hst h2 h4 h6) (Rep.remerge b _ _ _ m2 d _ _ _ _ _ k2 s2 t2 hst h3 h5 h7)
 | .sl t,p0,p1,pc, .own pin me,m0,x,y,x0,cs,cs',hk,hs,ht,hst,h0,h1,hc=>by
   obtain ⟨q,b,rfl,s1⟩:=qz4 hs
   have hkk:pin≠0∧dzF me=true:=by
    simp only[qzc] at hk
    cases hc:Nat.beq pin 0<;>rw[hc] at hk
    ·refine ⟨?_,hk⟩
     rintro rfl
     cases hc
    ·cases hk
   obtain ⟨_,hb⟩:=czk (show (bif b.all then dzF b else false)=true from ht)
   have:=HzB s1 hkk.2 hb
   subst this
   obtain ⟨A,c,e,hp,_⟩:=h0
   obtain ⟨A',c',e',hp',h⟩:=h1
   obtain ⟨A2,c2,e2,hp2,_⟩:=hc
   have e3:=hp hkk.1
   rw[hp' hkk.1] at e3
   have e4:cs=cs':=by rw[e,e',Option.some.inj e3]
   subst e4
   refine ⟨A',c',e',fun hq=>?_,?_⟩
   ·have:=hp2 hq
    rw[this]
    rw[e2] at e'
    simp only[List.cons.injEq,and_true] at e'
    rw[e']
    rfl
   ·rcases h with h| ⟨r,cells,el,fr,hA,ho,hh,hs,hf,hl,hx⟩
    ·exact .inl h
    ·exact .inr ⟨r,cells,el,fr,hA,ho,hh,hs,hf,hl,fun i z hi=>Rep.reη t _ _ _ _ hb (hx i z hi)⟩
 | .int _,_,_,_, .own _ _,_,_,_,_,_,_,h,_,_,_,_,_,_=>by cases h
 | .bool,_,_,_, .own _ _,_,_,_,_,_,_,h,_,_,_,_,_,_=>by cases h
 | .str,_,_,_, .own _ _,_,_,_,_,_,_,h,_,_,_,_,_,_=>by cases h
 | .unit,_,_,_, .own _ _,_,_,_,_,_,_,h,_,_,_,_,_,_=>by cases h
 | .prod _ _,_,_,_, .own _ _,_,_,_,_,_,_,h,_,_,_,_,_,_=>by cases h
 | .item,_,_,_, .own _ _,_,_,_,_,_,_,h,_,_,_,_,_,_=>by cases h
 | .arr _ _,_,_,_, .own _ _,_,_,_,_,_,_,h,_,_,_,_,_,_=>by cases h
 | .int _,_,_,_, .pr _ _,_,_,_,_,_,_,h,_,_,_,_,_,_=>by cases h
 | .bool,_,_,_, .pr _ _,_,_,_,_,_,_,h,_,_,_,_,_,_=>by cases h
 | .str,_,_,_, .pr _ _,_,_,_,_,_,_,h,_,_,_,_,_,_=>by cases h
 | .unit,_,_,_, .pr _ _,_,_,_,_,_,_,h,_,_,_,_,_,_=>by cases h
 | .sl _,_,_,_, .pr _ _,_,_,_,_,_,_,h,_,_,_,_,_,_=>by cases h
 | .item,_,_,_, .pr _ _,_,_,_,_,_,_,h,_,_,_,_,_,_=>by cases h
 | .arr _ _,_,_,_, .pr _ _,_,_,_,_,_,_,h,_,_,_,_,_,_=>by cases h
 |t,_,_,_, .no,m0,_,_,_,_,_,_,h,_,_,_,_,_=>by cases m0<;>cases h
end Go.TV
namespace Go.TV
section
variable {gl:Nat→Option VV} {gv:Nat→Value} {n:Nat} {s:St} {g:G} {a:Act} {w w':World}
theorem Rel.back (h:Rel gl gv n s g a w) {p:Pl} {T:Ty} {M:Mk} {x z:T.den} {y:p.t.den} {m:Mk} {k:Nat}
 (hr:s.root p.bx p.n= .v T M x) (hz:setAt p.t y T p.o x=some z) (hm:m≠ .no) (hy:Rep w g.ω g.η p.t [3,k] m y (g.cells p)):
 Rel gl gv n ((s.setRoot p.bx p.n (.v T (azs p.t m T p.o M) z)).jr p) {g with ω:=mv g.ω [3,k] (azC p.bx p.n++bzd p.t T p.o)} a w:=by
 obtain ⟨hval,hb⟩:=h.rootval hr
 obtain ⟨y0,hy0⟩:=dzw hz
 have hfit:=azT _ _ _ _ hy0
 have hrep:Rep w g.ω g.η T (azC p.bx p.n) M x (g.rc p.bx p.n):=by
  cases hbx:p.bx with
  |true=>
   have:=h.bx p.n
   rw[hbx] at hr
   rw[show s.bx p.n= .v T M x from hr] at this
   exact this.2.2
  |false=>
   have:=h.tm p.n
   rw[hbx] at hr
   rw[show s.tm p.n= .v T M x from hr] at this
   exact this.1
 have hlen:=Rep.length _ _ _ _ _ hrep
 let ω':=mv g.ω [3,k] (azC p.bx p.n++bzd p.t T p.o)
 have hst:azJ w w g.ω ω':=bzJ
 have hoff: ∀bx j b q,g.ω b=some (azC bx j++q)→ω' b=some (azC bx j++q)∧w.heap[b]?=w.heap[b]?:=fun bx j b q hq=>
  ⟨bzk hq (azI (.inl (by cases bx<;>decide))),rfl⟩
 have htm:=fun j=>uzn (s:=s) (p:=p) (V:= .v T (azs p.t m T p.o M) z) (f:=fun W=>W.jr p) rfl j
 have hbxs:=fun b=>uzo (s:=s) (p:=p) (V:= .v T (azs p.t m T p.o M) z) b
 have hfv: ∀ (j:Nat) t m x,(fun (_:Nat) (W:VV)=>W.jr p) j (.v t m x)= .v t m x:=fun _ _ _ _=>rfl
 refine h.root (g':={g with ω:=ω'}) (p:=p) (T:=T) (M':=azs p.t m T p.o M) (x':=z) (fun _ W=>W.jr p) htm hbxs hfv (fun _ _=>rfl) rfl rfl (fun _=> .inr rfl) (fun _ _=>rfl) hst (fun bx j b q _ hq=>hoff bx j b q hq)
  (fun b j _ hq=>⟨bzk hq (by simp),rfl⟩) ?_ hval (fun hbx=>?_) (fun j v hj hW _=>RV.of_AV ?_) (fun b hb'=>h.lt b (nzX hb'))
 ·have hrep':Rep w ω' g.η T (azC p.bx p.n) M x (g.rc p.bx p.n):=Rep.mono hst _ _ _ _ _ _ (fun b q _ hq=>hoff _ _ b q hq) hrep
  have hyy:Rep w ω' g.η p.t (azC p.bx p.n++bzd p.t T p.o) m y (g.cells p):=nzr (fun _ _ _=>rfl) hst hy
  have:=Rep.setAt hm T p.o _ _ _ _ _ hz hrep' hyy
  have e:(g.rc p.bx p.n).take p.o++g.cells p++(g.rc p.bx p.n).drop (p.o+p.t.sz)=g.rc p.bx p.n:=by
   simp only[G.cells]
   rw[List.append_assoc,←List.drop_drop,List.take_append_drop,List.take_append_drop]
  rw[e] at this
  exact this
 ·obtain ⟨ho,cells,e,fr,h4,h5,h6⟩:=hb hbx
  exact ⟨bzk ho (by simp),cells,e,fr,h4,h5,h6⟩
 ·show AV _ _ w ((s.tm j).jr p) v
  rcases Bzz p (s.tm j) with e1| ⟨e1,hp⟩
  ·rw[e1];trivial
  ·rw[e1]
   obtain ⟨r1,r2⟩:=vzP (s':=(s.setRoot p.bx p.n (.v T (azs p.t m T p.o M) z)).jr p) (f:=fun _ W=>W.jr p) htm hbxs hfv
   refine hW.root h r1 r2 rfl rfl (fun _ _ _ _ _=>rfl) (fun _ _=>rfl) hst (fun bx j b q _ hq=>hoff bx j b q hq) (fun q hq hrq y' mq hgq=>?_) (fun q _ hq hrq r N c hc=>rfl)
   obtain ⟨e1,e2⟩:=dzI hrq
   rcases kzh (hp q hq) with (h4|h4)| ⟨_,_,h4⟩
   ·exact absurd e1 h4
   ·exact absurd e2 h4
   ·obtain ⟨T',M',x',h5,h6,h7⟩:=fzZ hgq
    rw[←e1,←e2,hr] at h5
    cases h5
    refine ⟨⟨y',dzP T p.o q.o x z y' hz h6 h4,?_,rfl,fun _=>rfl⟩,rfl⟩
    rw[czz T p.o q.o M x y0 y' hy0 h6 h4];exact h7
theorem NzB (u:Nat) (W:VV):W.lb u= .junk∨(W.lb u=W∧ ∀q,W.pl=some q→q.bx=false∨q.n≠u):=by
 have key: ∀q:Pl,(q.bx&&Nat.beq q.n u)=false→q.bx=false∨q.n≠u:=by
  intro q h
  cases hb:q.bx
  ·exact .inl rfl
  ·right
   rintro e
   rw[hb,e] at h
   simp at h
 cases W with
 |ref q=>
  cases hc:(q.bx&&Nat.beq q.n u)
  ·right;refine ⟨by simp only[VV.lb,hc,cond_false],fun q' h=>by simp only[VV.pl,Option.some.injEq] at h;subst h;exact key _ hc⟩
  ·left;simp only[VV.lb,hc,cond_true]
 |sref q i o t=>
  cases hc:(q.bx&&Nat.beq q.n u)
  ·right;refine ⟨by simp only[VV.lb,hc,cond_false],fun q' h=>by simp only[VV.pl,Option.some.injEq] at h;subst h;exact key _ hc⟩
  ·left;simp only[VV.lb,hc,cond_true]
 |ep q i o=>
  cases hc:(q.bx&&Nat.beq q.n u)
  ·right;refine ⟨by simp only[VV.lb,hc,cond_false],fun q' h=>by simp only[VV.pl,Option.some.injEq] at h;subst h;exact key _ hc⟩
  ·left;simp only[VV.lb,hc,cond_true]
 |_=>right;exact ⟨rfl,fun q h=>by cases h⟩
theorem Rel.takeBox (h:Rel gl gv n s g a w) {b k:Nat} {T:Ty} {M:Mk} {x:T.den} (hb:s.bx b= .v T M x):
 ∃ω',Rel gl gv n (s.lb b) {g with ω:=ω'} a w∧Rep w ω' g.η T [3,k] M x (g.bc b)∧ω' (g.φ b)=some [3,500000+k]∧(∃cells e fr,w.heap[g.φ b]?=some (.cells cells e fr)∧bzg fr cells.size∧cells.toList=g.bc b)∧
  azJ w w g.ω ω'∧ ∀c j q,g.ω c=some ([3,j]++q)→ω' c=some ([3,j]++q):=by
 let ω':=mv (mv g.ω (azC true b) [3,k]) [2,b] [3,500000+k]
 have hst:azJ w w g.ω ω':=bzJ.trans bzJ
 have hu:=h.bx b
 rw[hb] at hu
 obtain ⟨h1,h2,h3⟩:=hu
 have hkeep: ∀c q,g.ω c=some q→ ¬azC true b<+:q→ ¬[2,b]<+:q→ω' c=some q:=fun c q hq p1 p2=>bzk (bzk hq p1) p2
 have hget: ∀ (q:Pl) z,(q.bx=false∨q.n≠b)→s.get q=some z→(s.lb b).get q=some z:=fun q z hq hg=>
  nzS (fun T M x hr=>by
   cases hbx:q.bx with
   |true=>
    rw[hbx] at hr hq
    have hq':q.n≠b:=by rcases hq with hq|hq;cases hq;exact hq
    have:Nat.beq q.n b=false:=by cases hc:Nat.beq q.n b;rfl;exact absurd (Nat.eq_of_beq_eq_true hc) hq'
    simp only[St.root,cond_true] at hr
    simp only[St.root,St.lb,cond_true,this,cond_false];exact hr
   |false=>
    rw[hbx] at hr
    simp only[St.root,cond_false] at hr
    simp only[St.root,St.lb,cond_false,hr,VV.lb]) hg
 refine ⟨ω',⟨fun j=>?_,fun c=>?_,fun i t x o hi=>?_,fun c hc=>h.lt c (nzX (nzX hc)),h.sz,h.df⟩,?_,?_,h2,hst,fun c j q hq=>hkeep c _ hq (azI (.inl (by decide))) (azI (.inl (by decide)))⟩
 ·show RV _ _ w _ _ ((s.tm j).lb b) _
  have hj:=h.tm j
  have hown: ∀c q,g.ω c=some (azC false j++q)→ω' c=some (azC false j++q)∧w.heap[c]?=w.heap[c]?:=fun c q hq=>⟨hkeep c _ hq (by simp [azC]) (by simp [azC]),rfl⟩
  rcases hj.alias with ⟨t,m,y,e⟩| ⟨vs,e⟩|ha
  ·rw[e] at hj⊢
   exact hj.keep (g':={g with ω:=ω'}) rfl hst hown (fun ha=>by cases ha)
  ·rw[e] at hj⊢
   exact hj.keep (g':={g with ω:=ω'}) rfl hst hown (fun ha=>by cases ha)
  ·refine RV.of_AV ?_
   rcases NzB b (s.tm j) with e| ⟨e,hp⟩
   ·rw[e];trivial
   ·rw[e]
    exact ha.keep rfl hst (fun _ _=>rfl) (fun q hq=>⟨fun y m hy=>⟨y,hget q _ (hp q hq) hy,rfl⟩,rfl⟩) (fun q _ hq=>⟨fun z hz=>hget q z (hp q hq) hz,fun _ _ _ _=>rfl⟩)
 ·show BV _ w c (bif Nat.beq c b then .junk else s.bx c)
  cases hc:Nat.beq c b
  ·simp only[cond_false]
   have hcb:c≠b:=by rintro rfl;simp at hc
   have hu:=h.bx c
   cases hv:s.bx c with
   |v T m x=>
    rw[hv] at hu
    obtain ⟨h4,h5,h6⟩:=hu
    exact ⟨hkeep _ _ h4 (by simp [azC]) (by simpa using Ne.symm hcb),h5,Rep.mono hst _ _ _ _ _ _ (fun b' q _ hq=>⟨hkeep _ _ hq (azI (.inr (Ne.symm hcb))) (azI (.inl (by decide))),rfl⟩) h6⟩
   |junk=>trivial
   |_=>rw[hv] at hu;exact hu
  ·simp only[cond_true];trivial
 ·exact (h.gl i t x o hi).keep rfl hst (fun _ _=>rfl) (fun q hq=>by cases hq) (fun q hq=>by cases hq)
 ·exact Rep.mono hst _ _ _ _ _ _ (fun c q _ hq=>⟨bzk (ozy hq) (by simp),rfl⟩) h3
 ·have e1:mv g.ω (azC true b) [3,k] (g.φ b)=some [2,b]:=bzk h1 (by simp [azC])
  have:=ozy (ω:=mv g.ω (azC true b) [3,k]) (p:=[2,b]) (p':=[3,500000+k]) (q:=[]) (b:=g.φ b) (by simpa using e1)
  simpa using this
theorem Rel.giveBox (h:Rel gl gv n s g a w) {b k:Nat} {T:Ty} {m:Mk} {y:T.den} {cells:Array Value} {e:TypeId} {fr:Nat×Nat} (hj:s.bx b= .junk) (hω:g.ω (g.φ b)=some [3,500000+k]) (hk:k<500000)
 (hh:w.heap[g.φ b]?=some (.cells cells e fr)) (hu:bzg fr cells.size) (hy:Rep w g.ω g.η T [3,k] m y cells.toList):
 ∃ω',Rel gl gv n (s.updBx b (.v T m y)) {g with ω:=ω',bc:=fun c=>if c=b then cells.toList else g.bc c} a w∧azJ w w g.ω ω'∧
  ∀c j q,j≠k→j≠500000+k→g.ω c=some ([3,j]++q)→ω' c=some ([3,j]++q):=by
 let ω':=mv (mv g.ω [3,k] (azC true b)) [3,500000+k] [2,b]
 let g':G:={g with ω:=ω',bc:=fun c=>if c=b then cells.toList else g.bc c}
 have hst:azJ w w g.ω ω':=bzJ.trans bzJ
 have hkeep: ∀c q,g.ω c=some q→ ¬[3,k]<+:q→ ¬[3,500000+k]<+:q→ω' c=some q:=fun c q hq p1 p2=>bzk (bzk hq p1) p2
 have hroot: ∀bx j q,¬[3,k]<+: (azC bx j++q)∧ ¬[3,500000+k]<+: (azC bx j++q):=fun bx j q=>⟨azI (.inl (by cases bx<;>decide)),azI (.inl (by cases bx<;>decide))⟩
 have hget: ∀ (q:Pl) z,s.get q=some z→(s.updBx b (.v T m y)).get q=some z∧g'.cells q=g.cells q:=fun q z hg=>by
  obtain ⟨T',M',x',hr,_⟩:=fzZ hg
  have hq:q.bx=false∨q.n≠b:=by
   cases hbx:q.bx with
   |false=>exact .inl rfl
   |true=>
    right
    rintro e
    rw[hbx,e] at hr
    simp only[St.root,cond_true,hj] at hr
    cases hr
  refine ⟨nzS (fun T M x hr=>?_) hg,?_⟩
  ·cases hbx:q.bx with
   |false=>rw[hbx] at hr;exact hr
   |true=>
    rw[hbx] at hr hq
    have hq':q.n≠b:=by rcases hq with hq|hq;cases hq;exact hq
    have:Nat.beq q.n b=false:=by cases hc:Nat.beq q.n b;rfl;exact absurd (Nat.eq_of_beq_eq_true hc) hq'
    simp only[St.root,cond_true] at hr
    simp only[St.root,St.updBx,cond_true,this,cond_false];exact hr
  ·simp only[G.cells,G.rc]
   cases hbx:q.bx with
   |false=>rfl
   |true=>
    rw[hbx] at hq
    have hq':q.n≠b:=by rcases hq with hq|hq;cases hq;exact hq
    simp only[cond_true,g',if_neg hq']
 refine ⟨ω',⟨fun j=>?_,fun c=>?_,fun i t x o hi=>?_,fun c hc=>h.lt c (nzX (nzX hc)),h.sz,h.df⟩,hst,fun c j q h1 h2 hq=>hkeep c _ hq (azI (.inr (Ne.symm h1))) (azI (.inr (Ne.symm h2)))⟩
 ·show RV _ g' w _ _ (s.tm j) _
  refine (h.tm j).keep (g':=g') rfl hst (fun c q hq=>⟨hkeep c _ hq (hroot _ _ _).1 (hroot _ _ _).2,rfl⟩) fun ha=>?_
  generalize s.tm j=W at*
  match W,ha with
  | .junk,_=>trivial
  | .undef,h=>exact h
  | .nilp,h=>exact h
  | .ref q,⟨h1,z,mz,h2,h3,h4⟩=>
    obtain ⟨h5,h6⟩:=hget q _ h2
    exact ⟨by rw[h6];exact h1,z,mz,h5,h3,h4⟩
  | .sref ⟨bx,j',q, .sl U⟩ i o t,⟨xs,mz,r,N,c,cells',e',fr',h1,h2,h3,h4,h5,h6⟩=>
    obtain ⟨h7,h8⟩:=hget _ _ h1
    exact ⟨xs,mz,r,N,c,cells',e',fr',h7,h2,h3,h4,h8.trans h5,h6⟩
  | .box _ _,h=>exact h
  | .ep ⟨bx,j',q, .sl U⟩ i o,⟨xs,mz,r,N,c,h1,h2,h3,h4,h5,h6⟩=>
    obtain ⟨h7,h8⟩:=hget _ _ h1
    exact ⟨xs,mz,r,N,c,h7,h2,h3,h4,h8.trans h5,h6⟩
  | .ep ⟨true,j',q, .arr _ U⟩ i o,h=>exact h
  | .cp t x o,ha=>exact AV.keep (s:=s) (s':=s.updBx b (.v T m y)) (g:=g) (g':=g') (W:= .cp t x o) ha rfl hst (fun _ _=>rfl) (fun q hq=>by cases hq) (fun q hq=>by cases hq)
 ·show BV g' w c (bif Nat.beq c b then .v T m y else s.bx c)
  cases hc:Nat.beq c b
  ·simp only[cond_false]
   have hcb:c≠b:=by rintro rfl;simp at hc
   have hu:=h.bx c
   cases hv:s.bx c with
   |v T m x=>
    rw[hv] at hu
    obtain ⟨h4,⟨cs2,e2,fr2,h5,h5',h5''⟩,h6⟩:=hu
    refine ⟨hkeep _ _ h4 (by simp) (by simp),⟨cs2,e2,fr2,h5,h5',by simp only[g',if_neg hcb];exact h5''⟩,?_⟩
    simp only[g',if_neg hcb]
    exact Rep.mono hst _ _ _ _ _ _ (fun b' q _ hq=>⟨hkeep _ _ hq (hroot true _ _).1 (hroot true _ _).2,rfl⟩) h6
   |junk=>trivial
   |_=>rw[hv] at hu;exact hu
  ·simp only[cond_true]
   have:=Nat.eq_of_beq_eq_true hc
   subst this
   refine ⟨?_,⟨cells,e,fr,hh,hu,by simp [g']⟩,?_⟩
   ·have e1:mv g.ω [3,k] (azC true c) (g.φ c)=some [3,500000+k]:=bzk hω (by simp<;>omega)
    have:=ozy (ω:=mv g.ω [3,k] (azC true c)) (p:=[3,500000+k]) (p':=[2,c]) (q:=[]) (b:=g.φ c) (by simpa using e1)
    simpa using this
   ·simp only[g',if_true]
    exact Rep.mono hst _ _ _ _ _ _ (fun b' q _ hq=>⟨bzk (ozy hq) (by simp [azC]),rfl⟩) hy
 ·exact (h.gl i t x o hi).keep rfl hst (fun _ _=>rfl) (fun q hq=>by cases hq) (fun q hq=>by cases hq)
end
end Go.TV
namespace Go.TV
theorem Kzt {t u:Ty} (e:u=t) {x:u.den} {y:t.den} (h:y=e▸x):y=cast (congrArg Ty.den e) x:=by subst e;exact h
def SV (s s':St):Prop:= ∀j T M x,s.tm j= .v T M x→ ∃M',s'.tm j= .v T M' x
theorem SV.refl (s:St):SV s s:=fun _ _ M _ h=>⟨M,h⟩
theorem SV.trans {s1 s2 s3:St} (h:SV s1 s2) (k:SV s2 s3):SV s1 s3:=fun j T M x hj=>by
 obtain ⟨M',h'⟩:=h j T M x hj
 exact k j T M' x h'
theorem Dzt {s:St} {p:Pl} {m:Mk}:SV s (s.maskPl p m):=fun j T M x hj=>by
 unfold St.maskPl
 split
 ·rename_i T' M' x' hr
  cases hb:p.bx with
  |true=>exact ⟨M,by simpa [St.setRoot,St.updBx] using hj⟩
  |false=>
   rw[hb] at hr
   simp only[St.root,cond_false] at hr
   cases hc:Nat.beq j p.n
   ·exact ⟨M,by simpa [St.setRoot,St.upd,hc] using hj⟩
   ·have:=Nat.eq_of_beq_eq_true hc
    rw[←this,hj] at hr
    cases hr
    exact ⟨_,by simp [St.setRoot,St.upd,hc];rfl⟩
 ·exact ⟨M,hj⟩
theorem sv_jr {s:St} {p:Pl}:SV s (s.jr p):=fun j T M x hj=>⟨M,by simp only[St.jr,hj,VV.jr]⟩
theorem vzr {s:St} {p:Pl}:SV s (s.out p):=Dzt.trans sv_jr
theorem Hzu {s:St} {p:Pl} {y:p.t.den}:SV s (s.frz p y):=fun j T M x hj=>by
 obtain ⟨M',h⟩:=(Dzt (s:=s) (p:=p) (m:= .sh)) j T M x hj
 exact ⟨M',by simp only[St.frz,h,VV.jr]⟩
theorem sv_lb {s:St} {b:Nat}:SV s (s.lb b):=fun j T M x hj=>⟨M,by simp only[St.lb,hj,VV.lb]⟩
theorem Pz8 {R:Type} {E:Env R} {s s':St} {x:Operand} {W W':VV} (e:grab E s x W=some (W',s')):SV s s':=by
 unfold grab at e
 split at e
 ·rename_i T m y
  cases x with
  |tmp u=>
   simp only at e
   cases m with
   |sh=>cases e;exact SV.refl _
   |no=>
    cases hf:dz7 E (.tmp u)<;>simp only[hf,cond_true,cond_false,Mk.all] at e
    ·cases e;exact vzr
    ·cases e
   |own p m=>
    cases hf:dz7 E (.tmp u)<;>simp only[hf,cond_true,cond_false] at e
    ·cases e;exact vzr
    ·cases ha:(Mk.own p m).all<;>simp only[ha,cond_true,cond_false] at e<;>cases e
     exact Hzu
   |pr p m=>
    cases hf:dz7 E (.tmp u)<;>simp only[hf,cond_true,cond_false] at e
    ·cases e;exact vzr
    ·cases ha:(Mk.pr p m).all<;>simp only[ha,cond_true,cond_false] at e<;>cases e
     exact Hzu
  |_=>cases e;exact SV.refl _
 ·split at e
  ·cases hf:dz7 E x<;>simp only[hf,cond_true,cond_false] at e<;>cases e
   ·exact vzr
   ·exact Hzu
  ·cases e
 ·cases e
theorem OzX {R:Type} {E:Env R} {s s':St} {x:Operand} {T:Ty} {t:Nat} {y:T.den} {m:Mk} (e:grabT E T s x t=some (y,m,s')):SV s s':=by
 unfold grabT at e
 split at e
 ·rename_i W s1 he
  have:=Pz8 he
  split at e
  ·rename_i y2 m2 hy
   cases ha:m2.all<;>rw[ha] at e<;>cases e
   exact this
  ·cases e
 ·cases e
structure Later (K:Nat→Prop) (w:World) (s:St) (g:G) (s':St) (g':G):Prop where
 φ:g'.φ=g.φ
 η:g'.η=g.η
 bc:g'.bc=g.bc
 tc: ∀j T m x,s.tm j= .v T m x→g'.tc j=g.tc j
 sv:SV s s'
 still:azJ w w g.ω g'.ω
 hands: ∀c j q,¬K j→g.ω c=some ([3,j]++q)→g'.ω c=some ([3,j]++q)
theorem Later.refl (K:Nat→Prop) (w:World) (s:St) (g:G):Later K w s g s g:=⟨rfl,rfl,rfl,fun _ _ _ _ _=>rfl,SV.refl _,azJ.refl _ _,fun _ _ _ _ h=>h⟩
theorem Later.trans {K:Nat→Prop} {w:World} {s1 s2 s3:St} {g1 g2 g3:G} (h:Later K w s1 g1 s2 g2) (k:Later K w s2 g2 s3 g3):Later K w s1 g1 s3 g3:=
 ⟨k.φ.trans h.φ,k.η.trans h.η,k.bc.trans h.bc,fun j T m x hj=>by
  obtain ⟨m',h'⟩:=h.sv j T m x hj
  exact (k.tc j T m' x h').trans (h.tc j T m x hj),h.sv.trans k.sv,h.still.trans k.still,fun c j q hj hq=>k.hands c j q hj (h.hands c j q hj hq)⟩
theorem Later.weak {K K':Nat→Prop} {w:World} {s1 s2:St} {g1 g2:G} (h:Later K w s1 g1 s2 g2) (hk: ∀j,K j→K' j):Later K' w s1 g1 s2 g2:=
 ⟨h.φ,h.η,h.bc,h.tc,h.sv,h.still,fun c j q hj hq=>h.hands c j q (fun hh=>hj (hk j hh)) hq⟩
theorem Later.rep {K:Nat→Prop} {w:World} {s1 s2:St} {g1 g2:G} (h:Later K w s1 g1 s2 g2) {t:Ty} {j:Nat} {p:Path} {m:Mk} {x:t.den} {cs:List Value} (hj: ¬K j) (hr:Rep w g1.ω g1.η t ([3,j]++p) m x cs):
 Rep w g2.ω g2.η t ([3,j]++p) m x cs:=by
 rw[h.η]
 exact Rep.mono h.still t _ _ _ _ _ (fun b q _ hq=>⟨by simpa using h.hands b j (p++q) hj (by simpa using hq),rfl⟩) hr
theorem Later.cells {K:Nat→Prop} {w:World} {s1 s2:St} {g1 g2:G} (h:Later K w s1 g1 s2 g2) {p:Pl} (hp:p.bx=false→ ∃T M x,s1.tm p.n= .v T M x):g2.cells p=g1.cells p:=by
 simp only[G.cells,G.rc,h.bc]
 cases hb:p.bx with
 |true=>rfl
 |false=>
  obtain ⟨T,M,x,hx⟩:=hp hb
  simp only[cond_false,h.tc _ _ _ _ hx]
def Kf (k j:Nat):Prop:=(k≤j∧j≤1000)∨(250000+k≤j∧j≤251000)∨(500000+k≤j∧j≤501000)
def K1 (k j:Nat):Prop:=j=k∨j=250000+k∨j=500000+k
section
variable {gv:Nat→Value} {n:Nat} {s s':St} {g g':G} {a:Act} {w w':World} {R:Type} {E:Env R}
def Ezb (s':St) (w:World) (g:G) (a:Act) (k:Nat) (p:Par) (x:Operand) (y:p.t.den):Tk→Prop
 | .no=>p.ptr=false∧p.io=false∧(p.m.isSh=false→ ∃cs,Rep w g.ω g.η p.t [3,k] p.m y cs∧a.eval x=mkV p.t cs)
 | .box b t=>p.ptr=true∧a.eval x= .pointer (some ⟨g.φ b,0,none⟩)∧g.ω (g.φ b)=some [3,500000+k]∧
  ∃cells e fr,w.heap[g.φ b]?=some (.cells cells e fr)∧bzg fr cells.size∧Rep w g.ω g.η p.t [3,k] p.m y cells.toList
 | .at q m z=>p.ptr=false∧p.io=true∧p.m.sim m=true∧izq m=true∧(∃e:p.t=q.t,y=cast (congrArg Ty.den e.symm) z)∧a.eval x=mkV q.t (g.cells q)∧Rep w g.ω g.η q.t [3,k] m z (g.cells q)∧
  (q.bx=false→ ∃T M x,s'.tm q.n= .v T M x)
 | .el bx n q U pin me xs i o t z=>p.ptr=false∧p.io=true∧p.m.sim (azM t U o me)=true∧izq (azM t U o me)=true∧(∃e:p.t=t,y=cast (congrArg Ty.den e.symm) z)∧azs t (azM t U o me) U o me=me∧
  0≤i∧i<((xs:List U.den).length:Int)∧getAt t U o (rd U.zero xs i)=some z∧(bx=false→ ∃T M x,s'.tm n= .v T M x)∧
  ∃r cells e fr c,g.cells ⟨bx,n,q, .sl U⟩=[.slice (some ⟨r,0,none⟩) (xs:List U.den).length c]∧(pin≠0→g.η pin=some (.slice (some ⟨r,0,none⟩) (xs:List U.den).length c))∧g.ω r=some [3,250000+k]∧
   w.heap[r]?=some (.cells cells e fr)∧cells.size=c*U.sz∧bzg fr cells.size∧(xs:List U.den).length≤c∧
   (∀j x,j≠i.toNat→(xs:List U.den)[j]?=some x→Rep w g.ω g.η U ([3,250000+k]++[j]) me x ((cells.toList.drop (j*U.sz)).take U.sz))∧
   Rep w g.ω g.η U ([3,250000+k]++[i.toNat]) (azs t .no U o me) (rd U.zero xs i) ((cells.toList.drop (i.toNat*U.sz)).take U.sz)∧
   Rep w g.ω g.η t [3,k] (azM t U o me) z ((((cells.toList.drop (i.toNat*U.sz)).take U.sz).drop o).take t.sz)∧
   a.eval x=mkV t ((((cells.toList.drop (i.toNat*U.sz)).take U.sz).drop o).take t.sz)
theorem Ezb.later {K:Nat→Prop} {k:Nat} {p:Par} {x:Operand} {y:p.t.den} {tk:Tk} (h:Later K w s g s' g') (h1: ¬K k) (h2: ¬K (250000+k)) (h3: ¬K (500000+k)) (t:Ezb s w g a k p x y tk):Ezb s' w g' a k p x y tk:=by
 have r0: ∀ {t:Ty} {m:Mk} {x:t.den} {cs:List Value},Rep w g.ω g.η t [3,k] m x cs→Rep w g'.ω g'.η t [3,k] m x cs:=fun hr=>by simpa using h.rep (p:=[]) h1 (by simpa using hr)
 have hω: ∀c j,¬K j→g.ω c=some [3,j]→g'.ω c=some [3,j]:=fun c j hj hc=>by simpa using h.hands c j [] hj (by simpa using hc)
 have hsv: ∀ {u:Nat},(∃T M x,s.tm u= .v T M x)→ ∃T M x,s'.tm u= .v T M x:=fun ⟨T,M,x,hx⟩=>by
  obtain ⟨M',h'⟩:=h.sv _ T M x hx
  exact ⟨T,M',x,h'⟩
 cases tk with
 |no=>
  obtain ⟨t1,t2,t3⟩:=t
  exact ⟨t1,t2,fun hh=>by obtain ⟨cs,t4,t5⟩:=t3 hh;exact ⟨cs,r0 t4,t5⟩⟩
 |box b T=>
  obtain ⟨t1,t3,t4,cells,e,fr,t5,t6,t7⟩:=t
  exact ⟨t1,by rw[h.φ];exact t3,by rw[h.φ];exact hω _ _ h3 t4,cells,e,fr,by rw[h.φ];exact t5,t6,r0 t7⟩
 |«at» q m z=>
  obtain ⟨t1,t2,t3,t4,t5,t6,t7,t8⟩:=t
  have hc:=h.cells (p:=q) t8
  exact ⟨t1,t2,t3,t4,t5,by rw[hc];exact t6,by rw[hc];exact r0 t7,fun hb=>hsv (t8 hb)⟩
 |el bx n q U pin me xs i o T z=>
  obtain ⟨t1,t2,t3,t4,t5,t6,t7,t8,t9,t10,r,cells,e,fr,c,t11,t12,t13,t14,t15,t16,t17,t18,t19,t20,t21⟩:=t
  have hc:=h.cells (p:=⟨bx,n,q, .sl U⟩) t10
  exact ⟨t1,t2,t3,t4,t5,t6,t7,t8,t9,fun hb=>hsv (t10 hb),r,cells,e,fr,c,by rw[hc];exact t11,by rw[h.η];exact t12,hω _ _ h2 t13,t14,t15,t16,t17,
   fun j x hj hx=>h.rep h2 (t18 j x hj hx),h.rep h2 t19,r0 t20,t21⟩
theorem CzX (h:Rel E.gl gv n s g a w) {p:Par} {x:Operand} {q:Pl} {y:p.t.den} {tk:Tk} {k:Nat} (hp:p.ptr=false) (hio:p.io=true) (hx:a.eval x=mkV q.t (g.cells q)) (e:Hzg p.t p.m q s=some (y,tk,s')):
 ∃g',Rel E.gl gv n s' g' a w∧Later (K1 k) w s g s' g'∧Ezb s' w g' a k p x y tk:=by
 unfold Hzg at e
 split at e
 ·rename_i z m hg
  split at e
  ·rename_i y' hy
   cases hc:(p.m.sim m&&izq m)<;>rw[hc] at e
   ·cases e
   simp only[Bool.and_eq_true] at hc
   cases e
   obtain ⟨e1,e2⟩:=azk hy
   obtain ⟨ω',h1,h2,h3⟩:=h.out hg k
   refine ⟨_,h1,⟨rfl,rfl,rfl,fun _ _ _ _ _=>rfl,vzr,h3.1,fun c j q hj hq=>(h3.2 c j q (fun e=>hj (.inl e)) hq).1⟩,hp,hio,hc.1,hc.2,⟨e1.symm,?_⟩,hx,h2,fun hb=>?_⟩
   ·exact Kzt e1 e2
   ·obtain ⟨T,M,x0,hr,_⟩:=fzZ hg
    rw[hb] at hr
    obtain ⟨M',h'⟩:=vzr (s:=s) (p:=q) _ T M x0 hr
    exact ⟨T,M',x0,h'⟩
  ·cases e
 ·cases e
theorem Ozb (h:Rel E.gl gv n s g a w) (hgv: ∀i,a.eval (.global i)=gv i) {p:Par} {x:Operand} {y:p.t.den} {tk:Tk} {k:Nat} (hk:k<1000) (e:LzE E p x s=some (y,tk,s')):
 ∃g',Rel E.gl gv n s' g' a w∧Later (K1 k) w s g s' g'∧Ezb s' w g' a k p x y tk:=by
 unfold LzE at e
 cases hp:p.ptr<;>simp only[hp,cond_false,cond_true] at e
 ·cases hio:p.io<;>simp only[hio,cond_false,cond_true] at e
  ·cases hsh:p.m.isSh<;>simp only[hsh,cond_false,cond_true] at e
   ·split at e
    ·rename_i z m s1 hg
     cases hl:p.m.le m<;>rw[hl] at e
     ·cases e
     cases e
     obtain ⟨ha,g1,ht⟩:=h.grabT hgv k hg
     obtain ⟨cs,hr,hv⟩:=ht.rep
     have hst:azJ w w g1.ω (czo g1.ω [3,k] p.m):=fun b _ hb=>⟨az6 hb,rfl⟩
     have h2:=ht.rel.reown (ω':=czo g1.ω [3,k] p.m) (fun b q hq hp=>bzj hq fun hh=>hp (List.IsPrefix.trans (by simp) hh)) hst (fun b hb hn=>hb (az6 hn))
     refine ⟨_,h2,⟨ht.φ,ht.η,ht.bc,fun j T m x hj=>ht.tc j T m x hj,OzX hg,ht.fl.1.trans hst,fun c j q hj hq=>?_⟩,hp,hio,fun _=>⟨cs,Rep.weaken _ _ _ _ _ _ _ hl hr,hv⟩⟩
     have:=(ht.fl.2 c j q (fun e=>hj (.inl e)) hq).1
     exact bzj this (azI (.inr fun e=>hj (.inl e.symm)))
    ·cases e
   ·cases e
    exact ⟨g,h,Later.refl _ _ _ _,hp,hio,fun hh=>by rw[hsh] at hh;cases hh⟩
  ·obtain ⟨pa,cs,hrv⟩:=h.opd' hgv 0 x
   split at e
   ·rename_i q hq
    rw[hq] at hrv
    exact CzX h hp hio hrv.1 e
   ·rename_i T m z hq
    split at e
    ·rename_i u
     have hq':s.tm u= .v T m z:=hq
     have:=h.tm u
     rw[hq'] at this
     exact CzX h hp hio (by rw[jz3 h hq'];exact this.2) e
    ·cases e
   ·rename_i bx n0 q U i o t hq
    rw[hq] at hrv
    obtain ⟨xs,m0,r,N,c,cells,el,fr,a1,a2,a3,a4,a5,a6,a7,a8⟩:=hrv
    split at e
    ·rename_i xs' pin me hg
     rw[a1] at hg
     simp only[Option.some.injEq,Prod.mk.injEq] at hg
     obtain ⟨hg1,hg2⟩:=hg
     subst hg1;subst hg2
     split at e
     ·rename_i z hz
      split at e
      ·rename_i y' hy
       cases hc:(p.m.sim (azM t U o me)&&izq (azM t U o me)&&me.all&&(azs t (azM t U o me) U o me).eqb me)<;>rw[hc] at e
       ·cases e
       simp only[Bool.and_eq_true] at hc
       obtain ⟨⟨⟨c1,c2⟩,c3⟩,c4⟩:=hc
       cases e
       obtain ⟨e1,e2⟩:=azk hy
       obtain ⟨ω1,h1,h2,h3⟩:=h.out a1 (250000+k)
       obtain ⟨hN,ho,cells',el',fr',b1,b2,b3,b4,b5⟩:=Rep.own_block h2 rfl a5
       have b1':=b1
       rw[a6] at b1'
       simp only[Option.some.injEq,Obj.cells.injEq] at b1'
       obtain ⟨rfl,rfl,rfl⟩:=b1'
       have hpin:pin≠0→g.η pin=some (.slice (some ⟨r,0,none⟩) (xs:List U.den).length c):=by
        obtain ⟨A,c',e',hpin,_⟩:=h2
        rw[a5] at e'
        simp only[List.cons.injEq,Value.slice.injEq,and_true] at e'
        obtain ⟨rfl,_,rfl⟩:=e'
        exact hpin
       have hi:i.toNat<(xs:List U.den).length:=by simp only[lenT] at a4;omega
       have hrd:rd U.zero xs i=(xs:List U.den)[i.toNat]:=by simp [rd,List.getD_eq_getElem?_getD,List.getElem?_eq_getElem hi]
       have hel:=b5 i.toNat _ (List.getElem?_eq_getElem hi)
       rw[←hrd] at hel
       let π:Path:=[3,250000+k]++[i.toNat]++bzd t U o
       let ω2:=mv ω1 π [3,k]
       have hst:azJ w w ω1 ω2:=bzJ
       have hrel:=h1.reown (ω':=ω2) (fun b q hq hp=>bzk hq fun hh=>hp (List.IsPrefix.trans (by simp [π]) hh)) hst (fun b hb=>nzX hb)
       have hpart:=Rep.getAt U o _ _ _ _ _ hz hel
       have hs:azM t U o me≠ .sh:=a8
       have hkn:=Rep.keep_no (m':= .no) keep_no U o _ _ _ _ z hz hs hel
       refine ⟨_,hrel,⟨rfl,rfl,rfl,fun _ _ _ _ _=>rfl,vzr,h3.1.trans hst,fun c j q hj hq=>?_⟩,hp,hio,c1,c2,⟨e1.symm,Kzt e1 e2⟩,Mk.eqb_eq c4,a3,a4,hz,fun hb=>?_,r,cells,el,fr,c,?_,hpin,?_,a6,b2,b3,b4,fun j x hj hx=>?_,?_,?_,?_⟩
       ·have:=(h3.2 c j q (fun e=>hj (.inr (.inl e))) hq).1
        refine bzk this ?_
        simp only[π,List.append_assoc]
        exact kzC (.inr fun e=>hj (.inr (.inl e.symm)))
       ·obtain ⟨T,M,x0,hr,_⟩:=fzZ a1
        have hr':s.tm n0= .v T M x0:=by simpa [hb,St.root] using hr
        obtain ⟨M',h'⟩:=vzr (s:=s) (p:=⟨bx,n0,q, .sl U⟩) _ T M x0 hr'
        exact ⟨T,M',x0,h'⟩
       ·show g.cells _=_
        rw[a5,hN]
       ·refine bzk ho ?_
        intro hh
        have:=hh.length_le
        simp [π] at this
       ·refine Rep.mono hst _ _ _ _ _ _ (fun b q _ hq=>⟨bzk hq ?_,rfl⟩) (b5 j x hx)
        simp only[π,List.append_assoc,List.prefix_append_right_inj,List.singleton_append,List.cons_prefix_cons]
        exact fun hh=>hj hh.1.symm
       ·refine Rep.mono hst _ _ _ _ _ _ (fun b q hk' hq=>⟨bzk hq ?_,rfl⟩) (Rep.forget (t:=t) U o _ _ _ _ hel)
        simp only[π,List.append_assoc,List.prefix_append_right_inj]
        exact (hkn q hk').2
       ·exact Rep.mono hst _ _ _ _ _ _ (fun b q _ hq=>⟨ozy hq,rfl⟩) hpart
       ·have hfit:=azT _ _ _ _ hz
        rw[a7,List.drop_take,List.take_take,List.drop_drop,Nat.min_eq_left (by omega)]
      ·cases e
     ·cases e
    ·cases e
   ·cases e
 ·split at e
  ·rename_i b hb
   split at e
   ·rename_i T m z hbx
    split at e
    ·rename_i y' hy
     cases hl:p.m.le m<;>rw[hl] at e
     ·cases e
     cases e
     obtain ⟨e1,e2⟩:=azk hy
     obtain ⟨pa,cs,hrv⟩:=h.opd' hgv 0 x
     rw[hb] at hrv
     have hv:a.eval x= .pointer (some ⟨g.φ b,0,none⟩):=hrv
     obtain ⟨ω1,h1,h2,h3,⟨cells,el,fr,h4,h5,h6⟩,h7,h8⟩:=h.takeBox (k:=k) hbx
     have hst:azJ w w ω1 (czo ω1 [3,k] p.m):=fun b _ hb=>⟨az6 hb,rfl⟩
     have hrel:=h1.reown (ω':=czo ω1 [3,k] p.m) (fun b q hq hp=>bzj hq fun hh=>hp (List.IsPrefix.trans (by simp) hh)) hst (fun b hb hn=>hb (az6 hn))
     subst e1
     have hyz:=e2
     simp only[cast_eq] at hyz
     subst hyz
     refine ⟨_,hrel,⟨rfl,rfl,rfl,fun _ _ _ _ _=>rfl,sv_lb,h7.trans hst,fun c j q hj hq=>bzj (h8 c j q hq) (azI (.inr fun e=>hj (.inl e.symm)))⟩,hp,hv,bzj h3 (by simp<;>omega),cells,el,fr,h4,h5,?_⟩
     rw[h6]
     exact Rep.weaken _ _ _ _ _ _ _ hl h2
    ·cases e
   ·cases e
  ·cases e
def tzC (s':St) (w:World) (g:G) (a:Act):Nat→(ps:List Par)→List Operand→azQ ps→List Tk→Prop
 |_,[],[],_,[]=>True
 |k,p::ps,x::xs,y,tk::tks=>Ezb s' w g a k p x y.1 tk∧tzC s' w g a (k+1) ps xs y.2 tks
 |_,_,_,_,_=>False
theorem tzC.later {K:Nat→Prop} (h:Later K w s g s' g'): ∀ (ps:List Par) (k:Nat) (xs:List Operand) (y:azQ ps) (tks:List Tk),(∀i,k≤i→i<k+ps.length→ ¬K i∧ ¬K (250000+i)∧ ¬K (500000+i))→
 tzC s w g a k ps xs y tks→tzC s' w g' a k ps xs y tks
 | [],_,[],_,[],_,_=>trivial
 |p::ps,k,x::xs,y,tk::tks,hk,⟨h1,h2⟩=>by
  obtain ⟨k1,k2,k3⟩:=hk k (Nat.le_refl _) (by simp)
  exact ⟨h1.later h k1 k2 k3,tzC.later h ps (k+1) xs y.2 tks (fun i h1 h2=>hk i (by omega) (by simp only[List.length_cons];omega)) h2⟩
 | [],_,_::_,_,_,_,h=>by cases h
 | [],_,[],_,_::_,_,h=>by cases h
 |_::_,_,[],_,_,_,h=>by cases h
 |_::_,_,_::_,_,[],_,h=>by cases h
theorem wzy (hgv: ∀i,a.eval (.global i)=gv i): ∀ (ps:List Par) (xs:List Operand) (k:Nat) (s s':St) (g:G) (y:azQ ps) (tks:List Tk),k+ps.length≤1000→Rel E.gl gv n s g a w→fz7 E ps xs s=some (y,tks,s')→
 ∃g',Rel E.gl gv n s' g' a w∧Later (Kf k) w s g s' g'∧tzC s' w g' a k ps xs y tks
 | [],[],k,s,s',g,y,tks,_,h,e=>by
   simp only[fz7] at e
   cases e
   exact ⟨g,h,Later.refl _ _ _ _,trivial⟩
 |p::ps,x::xs,k,s,s',g,y,tks,hk,h,e=>by
  simp only[List.length_cons] at hk
  simp only[fz7] at e
  split at e
  ·rename_i y1 tk s1 e1
   split at e
   ·rename_i r tks' s2 e2
    cases e
    obtain ⟨g1,h1,h2,h3⟩:=Ozb h hgv (k:=k) (by omega) e1
    obtain ⟨g2,h4,h5,h6⟩:=wzy hgv ps xs (k+1) s1 _ g1 r tks' (by omega) h1 e2
    refine ⟨g2,h4,(h2.weak fun j hj=>?_).trans (h5.weak fun j hj=>?_),h3.later h5 ?_ ?_ ?_,h6⟩
    ·simp only[K1,Kf] at*;omega
    ·simp only[Kf] at*;omega
    ·simp only[Kf];omega
    ·simp only[Kf];omega
    ·simp only[Kf];omega
   ·cases e
  ·cases e
 | [],_::_,_,_,_,_,_,_,_,_,e=>by simp [fz7] at e
 |_::_,[],_,_,_,_,_,_,_,_,e=>by simp [fz7] at e
end
end Go.TV
namespace Go.TV
def izw (N:Nat):Path→Bool
 |3::j::_=>Nat.ble (j+1) N||(Nat.ble 500000 j&&Nat.ble (j+1) (500000+N))
 |_=>false
def bzs (ω:azw) (N:Nat) (al:Bool):azw:=fun b=>match ω b with
 |none=>none
 |some q=>bif izw N q then some q else bif al then some ([3,1000000]++q) else none
section
variable {ω ω':azw} {N:Nat} {al:Bool} {b:Nat}
theorem ozV (h:ω b=none):bzs ω N al b=none:=by simp [bzs,h]
theorem QzU {j:Nat} {q:Path} (h:ω b=some ([3,j]++q)) (hj:j<N):bzs ω N al b=some ([3,j]++q):=by
 have e:Nat.ble (j+1) N=true:=Nat.ble_eq_true_of_le hj
 simp only[bzs,h]
 simp only[List.cons_append,List.nil_append,izw,e,Bool.true_or,cond_true]
theorem co_box {j:Nat} (h:ω b=some [3,500000+j]) (hj:j<N):bzs ω N al b=some [3,500000+j]:=by
 have e:Nat.ble (500000+j+1) (500000+N)=true:=Nat.ble_eq_true_of_le (by omega)
 have e2:Nat.ble 500000 (500000+j)=true:=Nat.ble_eq_true_of_le (by omega)
 simp only[bzs,h]
 simp only[izw,e,e2,Bool.and_true,Bool.or_true,cond_true]
theorem GzF {q:Path} (h:ω b=some q) (hq:izw N q=false):bzs ω N al b=bif al then some ([3,1000000]++q) else none:=by
 simp [bzs,h,hq]
theorem wzP {i:Nat} {q:Path} (h:i≠3):izw N (i::q)=false:=by
 unfold izw
 split
 ·rename_i e;cases e;exact absurd rfl h
 ·rfl
theorem zzP {q:Path} (h: ¬[3]<+:q):izw N q=false:=by
 cases q with
 |nil=>rfl
 |cons i q=>exact wzP (by rintro rfl;exact h (by simp))
def n3 (pa:Path):Prop:= ∃c r,pa=c::r∧c≠3
theorem Mza {bx:Bool} {j:Nat} {q:Path}:n3 (azC bx j++q):=by cases bx<;>exact ⟨_,_,rfl,by decide⟩
theorem Ozr {bx:Bool} {j:Nat}:n3 (azC bx j):=by cases bx<;>exact ⟨_,_,rfl,by decide⟩
theorem Nzs {pa q:Path} (h:n3 pa) (hp:pa<+:q):izw N q=false:=by
 obtain ⟨c,r,rfl,hc⟩:=h
 obtain ⟨t,rfl⟩:=hp
 exact wzP hc
end
def Reads3 (g:G) (w:World) (W:VV) (v:Value):Prop:= ∀T m x,W= .v T m x→m≠ .no∧ ∃pa cs,n3 pa∧Rep w g.ω g.η T pa m x cs∧v=mkV T cs
section
variable {gl:Nat→Option VV} {gv:Nat→Value} {n:Nat} {s s':St} {g:G} {a:Act} {w:World} {R:Type} {E:Env R}
theorem Rel.res3 (h:Rel gl gv n s g a w) {pa:Path} {cs:List Value} {W:VV} {v:Value} (hpa:n3 pa) (hW:RV s g w pa cs W v):Reads3 g w (s.res W) v:=by
 intro T m x e
 rcases hW.alias with ⟨t,m',x',e'⟩| ⟨vs,e'⟩|ha
 ·subst e'
  obtain ⟨e1,e2⟩:=kn_v (show VV.kn (.v t m' x')=_ from e)
  cases e1
  exact ⟨e2,pa,cs,hpa,hW.1,hW.2⟩
 ·subst e';cases e
 ·match W,ha with
  | .ref p,⟨h1,y,m',h2,h3,h4⟩=>
    simp only[St.res,h2] at e
    obtain ⟨e1,e2⟩:=kn_v e
    cases e1
    obtain ⟨_,_,_,_,_,_,_,h5⟩:=h.get h2
    exact ⟨e2,_,_,Mza,h5,h1⟩
  | .sref ⟨bx,n',q, .sl U⟩ i o t,⟨xs,m',r,N,c,cells,el,fr,h1,h2,h3,h4,h5,h6,h7,h8⟩=>
    simp only[St.res,h1] at e
    split at e
    ·rename_i y hy
     obtain ⟨e1,e2⟩:=kn_v e
     cases e1
     obtain ⟨_,_,_,_,_,_,_,h9⟩:=h.get h1
     obtain ⟨_,_,cells',el',fr',h10,h11,_,h12,h13⟩:=Rep.own_block h9 h2 h5
     rw[h6] at h10
     simp only[Option.some.injEq,Obj.cells.injEq] at h10
     obtain ⟨rfl,rfl,rfl⟩:=h10
     have hl:i.toNat<(xs:List U.den).length:=by simp only[lenT] at h4;omega
     have hrd:rd U.zero xs i=(xs:List U.den)[i.toNat]:=by simp [rd,List.getD_eq_getElem?_getD,List.getElem?_eq_getElem hl]
     have h14:=h13 i.toNat _ (List.getElem?_eq_getElem hl)
     rw[←hrd] at h14
     have hfit:=azT _ _ _ _ hy
     have h15:=Rep.getAt U o _ _ _ _ _ hy h14
     refine ⟨e2,_,_,by rw[List.append_assoc,List.append_assoc];exact Mza,h15,?_⟩
     rw[h7,List.drop_take,List.take_take,List.drop_drop,Nat.min_eq_left (by omega)]
    ·cases e
  | .junk,_=>cases e
  | .undef,_=>cases e
  | .nilp,_=>cases e
  | .box _ _,_=>cases e
  | .ep _ _ _,_=>cases e
  | .cp _ _ _,_=>cases e
theorem Rel.peek3 (h:Rel gl gv n s g a w) {pa:Path} {cs:List Value} {W:VV} {v:Value} (hpa:n3 pa) (hW:RV s g w pa cs W v) {T:Ty} {y:T.den} {m:Mk} (e:s.peek T W=some (y,m)):
 m.all=true∧ ∃pa' cs',n3 pa'∧Rep w g.ω g.η T pa' m y cs'∧v=mkV T cs':=by
 unfold St.peek at e
 split at e
 ·rename_i y' m' hy
  cases ha:m'.all<;>rw[ha] at e
  ·cases e
  ·cases e
   refine ⟨ha,?_⟩
   have hr:=h.res3 hpa hW
   generalize s.res W=V at*
   cases V with
   |v u m2 x=>
    simp only[VV.as] at hy
    split at hy
    ·rename_i y2 hy2
     obtain ⟨e1,e2⟩:=azk hy2
     subst e1;subst e2
     cases hy
     exact (hr _ _ _ rfl).2
    ·cases hy
   |_=>cases hy
 ·cases e
theorem Rel.opdT_rv (h:Rel E.gl gv n s g a w) (hgv: ∀i,a.eval (.global i)=gv i) (pa:Path) (T:Ty) (t:Nat) (x:Operand):
 (∃u,x= .tmp u∧opdT E T t s x=s.tm u∧RV s g w (azC false u) (g.tc u) (opdT E T t s x) (a.eval x))∨((∀u,x≠ .tmp u)∧ ∃cs,RV s g w pa cs (opdT E T t s x) (a.eval x)):=by
 unfold opdT
 split
 ·split
  ·exact .inr ⟨(fun u e=>by cases e),[.slice none 0 0],⟨none,0,rfl,fun h=>absurd rfl h, .inl ⟨rfl,rfl,rfl⟩⟩,rfl⟩
  ·exact .inr ⟨(fun u e=>by cases e),[],RV.of_AV (W:= .junk) trivial⟩
 ·rcases h.opd hgv t x pa with ⟨u,h1,h2,h3⟩| ⟨h1,h2⟩
  ·exact .inl ⟨u,h1,h2,h3⟩
  ·exact .inr ⟨fun u e=>h1 ⟨u,e⟩,h2⟩
theorem Hz8 {T:Ty} {t:Nat} {v:Value} {u:Ty} {m:Mk} {x:u.den} (h:opdT E T t s (.const v)= .v u m x) (hm:m≠ .sh):v= .slice none 0 0∧ ∃e,∃hu:u= .sl e,x=cast (congrArg Ty.den hu.symm) ([]:List e.den):=by
 unfold opdT at h
 split at h
 ·rename_i x' hx
  cases hx
  split at h
  ·cases h;exact ⟨rfl,_,rfl,rfl⟩
  ·cases h
 ·simp only[TV.opd] at h
  unfold zz3 at h
  split at h<;>try (cases h;done)
  ·cases h;exact absurd rfl hm
  ·cases h;exact absurd rfl hm
  ·cases h;exact absurd rfl hm
  ·split at h
   ·cases h;exact ⟨rfl,_,rfl,rfl⟩
   ·cases h
def ozZ (w:World) (ωc:azw) (η:Pins) (a:Act):(ps:List Par)→List Operand→azQ ps→azQ ps→Prop
 | [],[],_,_=>True
 |p::ps,x::xs,y,z=>((p.ptr||p.io||!p.m.isSh)=true→z.1=y.1)∧((p.ptr||p.io||!p.m.isSh)=false→ ∃cs,a.eval x=mkV p.t cs∧Rep w ωc η p.t [] .sh z.1 cs)∧ozZ w ωc η a ps xs y.2 z.2
 |_,_,_,_=>False
theorem ozZ.still {ωc ωc':azw} {η:Pins} (h:azJ w w ωc ωc'): ∀ (ps:List Par) (xs:List Operand) (y z:azQ ps),ozZ w ωc η a ps xs y z→ozZ w ωc' η a ps xs y z
 | [],[],_,_,_=>trivial
 |p::ps,x::xs,y,z,⟨h1,h2,h3⟩=>⟨h1,fun e=>by
   obtain ⟨cs,h4,h5⟩:=h2 e
   exact ⟨cs,h4,Rep.sh_mono h _ _ _ _ _ h5⟩,ozZ.still h ps xs y.2 z.2 h3⟩
 | [],_::_,_,_,h=>by cases h
 |_::_,[],_,_,h=>by cases h
theorem vz3 {ω:azw} {η:Pins} {t u:Ty} (e:u=t) {x:u.den} {y:t.den} (hy:y=e▸x) {pa:Path} {m:Mk} {cs:List Value} (h:Rep w ω η u pa m x cs):Rep w ω η t pa m y cs:=by
 subst e;subst hy;exact h
theorem KzA {T u:Ty} {m0 m:Mk} {y:u.den} {z:T.den} (h:s.peek T (.v u m0 y)=some (z,m)): ∃e:u=T,z=e▸y:=by
 unfold St.peek at h
 split at h
 ·rename_i y' m' hy
  cases ha:m'.all<;>rw[ha] at h<;>cases h
  cases m0 with
  |no=>cases hy
  |_=>
   simp only[St.res,VV.kn,VV.as] at hy
   split at hy
   ·rename_i y2 hy2
    cases hy
    exact azk hy2
   ·cases hy
 ·cases h
theorem OzA {T:Ty} {q:Pl} {m0 m:Mk} {y:q.t.den} {z:T.den} (hg:s.get q=some (y,m0)) (h:s.peek T (.ref q)=some (z,m)): ∃e:q.t=T,z=e▸y:=by
 refine KzA (s:=s) (m0:=m0) (m:=m) ?_
 rw[←h]
 have:s.res (.ref q)=s.res (.v q.t m0 y):=by simp only[St.res,hg]
 unfold St.peek
 rw[this]
theorem qz7 (hgv: ∀i,a.eval (.global i)=gv i) (N:Nat) (al:Bool): ∀ (ps:List Par) (xs:List Operand) (y z:azQ ps) (s s':St) (g:G),Rel E.gl gv n s g a w→ezj E al ps xs y s=some (z,s')→
 ∃g',Rel E.gl gv n s' g' a w∧Later (fun _=>False) w s g s' g'∧(al=false→g'=g)∧ozZ w (bzs g'.ω N al) g'.η a ps xs y z
 | [],[],y,z,s,s',g,h,e=>by
   simp only[ezj] at e
   cases e
   exact ⟨g,h,Later.refl _ _ _ _,fun _=>rfl,trivial⟩
 |p::ps,x::xs,y,z,s,s',g,h,e=>by
  simp only[ezj] at e
  cases hc:(p.ptr||p.io||!p.m.isSh)<;>rw[hc] at e
  ·simp only[cond_false] at e
   split at e
   ·rename_i zv m hpk
    have hrv:=h.opdT_rv hgv [8,8] p.t 0 x
    have hpk3:m.all=true∧ ∃pa cs,n3 pa∧Rep w g.ω g.η p.t pa m zv cs∧a.eval x=mkV p.t cs:=by
     rcases hrv with ⟨u,_,_,hr⟩| ⟨_,cs,hr⟩
     ·exact h.peek3 Ozr hr hpk
     ·exact h.peek3 ⟨8,[8],rfl,by decide⟩ hr hpk
    obtain ⟨ha,pa,cs,hpa,hrep,hv⟩:=hpk3
    have key: ∀ (s1:St) (g1:G),Rel E.gl gv n s1 g1 a w→Later (fun _=>False) w s g s1 g1→(al=false→g1=g)→(∃cs,a.eval x=mkV p.t cs∧Rep w (bzs g1.ω N al) g1.η p.t [] .sh zv cs)→
     (match ezj E al ps xs y.2 s1 with|some (r,s)=>some ((zv,r),s)|none=>none)=some (z,s')→
     ∃g',Rel E.gl gv n s' g' a w∧Later (fun _=>False) w s g s' g'∧(al=false→g'=g)∧ozZ w (bzs g'.ω N al) g'.η a (p::ps) (x::xs) y z:=by
     rintro s1 g1 h1 hl hg ⟨cs,hv,hr⟩ e
     split at e
     ·rename_i r s2 e2
      cases e
      obtain ⟨g2,h2,hl2,hg2,hr2⟩:=qz7 hgv N al ps xs y.2 r s1 _ g1 h1 e2
      refine ⟨g2,h2,hl.trans hl2,fun hal=>(hg2 hal).trans (hg hal),fun hh=>absurd hh (by rw[hc];simp),fun _=>⟨cs,hv,?_⟩,hr2⟩
      have hstc:azJ w w (bzs g1.ω N al) (bzs g2.ω N al):=by
       cases hal:al with
       |false=>rw[hg2 hal];exact azJ.refl _ _
       |true=>
        intro b hb hn
        have h1n:g1.ω b=none:=by
         cases ho:g1.ω b with
         |none=>rfl
         |some q=>
          exfalso
          simp only[bzs,ho] at hn
          cases hh:izw N q<;>rw[hh] at hn<;>simp at hn
        exact ⟨ozV (hl2.still b hb h1n).1,rfl⟩
      rw[hl2.η]
      exact Rep.sh_mono hstc _ _ _ _ _ hr
     ·cases e
    have plain:(al=true→m= .sh)→ ∃cs,a.eval x=mkV p.t cs∧Rep w (bzs g.ω N al) g.η p.t [] .sh zv cs:=by
     intro hm
     refine ⟨cs,hv,?_⟩
     cases hal:al with
     |true=>
      rw[hm hal] at hrep
      exact Rep.sh_mono (fun b _ hb=>⟨ozV hb,rfl⟩) _ _ _ _ _ hrep
     |false=>
      have hw:=Rep.weaken p.t g.ω pa m .sh zv cs (Mk.le_sh ha) hrep
      refine Rep.sh_mono (fun b _ hb=>⟨?_,rfl⟩) _ _ _ _ _ hw
      cases ho:g.ω b with
      |none=>exact ozV ho
      |some q=>
       by_cases hp:pa<+:q
       ·exact (GzF ho (Nzs hpa hp)).trans rfl
       ·rw[bzj ho hp] at hb;cases hb
    have frozen: ∀ (q:Pl) (yq:q.t.den) (mq:Mk),s.get q=some (yq,mq)→mq≠ .sh→mq.all=true→a.eval x=mkV q.t (g.cells q)→(∃e:q.t=p.t,zv=e▸yq)→al=true→
     ∃g1,Rel E.gl gv n (s.frz q yq) g1 a w∧Later (fun _=>False) w s g (s.frz q yq) g1∧(∃cs,a.eval x=mkV p.t cs∧Rep w (bzs g1.ω N al) g1.η p.t [] .sh zv cs):=by
     rintro q yq mq hg hs hall hv ⟨hT,hz⟩ hal
     obtain ⟨ω',tc',f1,f2,f3,f4⟩:=h.frz hg hs hall
     exact ⟨_,f1,⟨rfl,rfl,rfl,fun j T m x hj=>f4 j T m x hj,Hzu,(f3 0).1,fun c j q _ hq=>((f3 (j+1)).2 c j q (by omega) hq).1⟩,_,by rw[←hT];exact hv,vz3 hT hz (Rep.sh_mono (fun b _ hb=>⟨ozV hb,rfl⟩) _ _ _ _ _ f2)⟩
    cases hb:(al&&!m.isSh)<;>rw[hb] at e
    ·simp only[cond_false] at e
     refine key s g h (Later.refl _ _ _ _) (fun _=>rfl) (plain fun hal=>?_) e
     rw[hal] at hb
     simp only[Bool.true_and,Bool.not_eq_false'] at hb
     exact yzi hb
    ·simp only[Bool.and_eq_true,Bool.not_eq_true'] at hb
     simp only[cond_true] at e
     have hnal:al=false→ ∀g1:G,g1=g:=fun hh=>by rw[hb.1] at hh;cases hh
     split at e
     ·rename_i s1 hs1
      split at hs1
      ·rename_i q hq
       rw[hq] at hpk
       rcases hrv with ⟨u,hxu,_,hr⟩| ⟨hnt,cs2,hr⟩
       all_goals
        rw[hq] at hr
        obtain ⟨hv2,yq,mq,hg,hall,hne⟩:=hr
        rw[hg] at hs1
        cases hs1
        obtain ⟨g1,k1,k2,k3⟩:=frozen q yq mq hg hne hall hv2 (OzA hg hpk) hb.1
        exact key _ g1 k1 k2 (fun hh=>hnal hh g1) k3 e
      ·rename_i T m2 a2 u hq
       cases hs1
       rcases hrv with ⟨u',hxu,hu,hr⟩| ⟨hnt,cs2,hr⟩
       ·cases hxu
        rw[hq] at hu hr hpk
        have hu':=hu.symm
        have hm2:m2≠ .sh∧m2.all=true:=by
         unfold St.peek at hpk
         split at hpk
         ·rename_i y' m' hy
          cases hall:m'.all<;>rw[hall] at hpk<;>cases hpk
          cases m2 with
          |no=>cases hy
          |_=>
           simp only[St.res,VV.kn,VV.as] at hy
           split at hy<;>cases hy
           refine ⟨?_,hall⟩
           first
           | (intro h0;cases h0;done)
           | (rw[show Mk.sh.isSh=true from rfl] at hb;exact absurd hb.2 (by simp))
         ·cases hpk
        obtain ⟨g1,k1,k2,k3⟩:=frozen ⟨false,u,0,T⟩ a2 m2 (nzj hu') hm2.1 hm2.2 (by rw[jz3 h hu'];exact hr.2) (KzA hpk) hb.1
        exact key _ g1 k1 k2 (fun hh=>hnal hh g1) k3 e
       ·exact absurd rfl (hnt _)
      ·rename_i u m2 a2 v hq
       cases hs1
       rw[hq] at hpk
       have hm2:m2≠ .sh:=by
        rintro rfl
        unfold St.peek at hpk
        simp only[St.res,VV.kn,VV.as] at hpk
        split at hpk
        ·rename_i y' m' hy
         split at hy<;>cases hy
         cases hpk
         exact absurd hb.2 (by simp [Mk.isSh])
        ·cases hpk
       obtain ⟨rfl,el,rfl,rfl⟩:=Hz8 hq hm2
       obtain ⟨e1,hz1⟩:=KzA hpk
       subst hz1
       refine key s g h (Later.refl _ _ _ _) (fun _=>rfl) ⟨[.slice none 0 0],?_,?_⟩ e
       ·rw[←e1];rfl
       ·exact vz3 e1 rfl (show Rep w (bzs g.ω N al) g.η (.sl el) [] .sh ([]:List el.den) [.slice none 0 0] from ⟨none,0,rfl,Nat.le_refl _,fun i x hx=>by simp at hx⟩)
      ·cases hs1
     ·cases e
   ·cases e
  ·simp only[cond_true] at e
   split at e
   ·rename_i r s2 e2
    cases e
    obtain ⟨g2,h2,hl2,hg2,hr2⟩:=qz7 hgv N al ps xs y.2 r s _ g h e2
    exact ⟨g2,h2,hl2,hg2,fun _=>rfl,fun hh=>absurd hh (by rw[hc];simp),hr2⟩
   ·cases e
 | [],_::_,_,_,_,_,_,_,e=>by simp [ezj] at e
 |_::_,[],_,_,_,_,_,_,e=>by simp [ezj] at e
end
end Go.TV
namespace Go.TV
def izf (w:World) (ω:azw) (η:Pins):Nat→(ps:List Par)→azQ ps→List Value→Prop
 |_,[],_,[]=>True
 |k,p::ps,x,v::vs=>(bif p.ptr then (∃b cells e fr,v= .pointer (some ⟨b,0,none⟩)∧ω b=some [3,500000+k]∧w.heap[b]?=some (.cells cells e fr)∧bzg fr cells.size∧Rep w ω η p.t [3,k] p.m x.1 cells.toList)
  else∃cs,Rep w ω η p.t [3,k] p.m x.1 cs∧v=mkV p.t cs)∧izf w ω η (k+1) ps x.2 vs
 |_,_,_,_=>False
def kzM (w:World) (ω:azw) (η:Pins):Nat→(ps:List Par)→azP ps→List Value→Prop
 |_,[],_,[]=>True
 |k,⟨t,m,true,ptr,_⟩::ps,y,v::vs=>(bif ptr then (∃b cells e fr,v= .pointer (some ⟨b,0,none⟩)∧ω b=some [3,500000+k]∧w.heap[b]?=some (.cells cells e fr)∧bzg fr cells.size∧Rep w ω η t [3,k] m y.1 cells.toList)
  else∃cs,Rep w ω η t [3,k] m y.1 cs)∧kzM w ω η (k+1) ps y.2 vs
 |k,⟨_,_,false,_,_⟩::ps,y,_::vs=>kzM w ω η (k+1) ps y vs
 |_,_,_,_=>False
def kzS (w:World) (ω:azw) (η:Pins):Nat→(rs:List Rt)→bzR rs→List Value→Prop
 |_,[],_,[]=>True
 |k,r::rs,x,v::vs=>(bif r.ptr then (∃b cells e fr,v= .pointer (some ⟨b,0,none⟩)∧ω b=some [3,502000+k]∧w.heap[b]?=some (.cells cells e fr)∧bzg fr cells.size∧Rep w ω η r.t ([3,2000]++[k]) r.m x.1 cells.toList)
  else∃cs,Rep w ω η r.t ([3,2000]++[k]) r.m x.1 cs∧v=mkV r.t cs)∧kzS w ω η (k+1) rs x.2 vs
 |_,_,_,_=>False
def retV:List Value→Value
 | [v]=>v
 |vs=> .tuple vs.toArray
def vzF (gl:Nat→Option VV) (gv:Nat→Value) (w:World) (ω:azw) (η:Pins):Prop:=
 ∀i t x o,gl i=some (.cp t x o)→GV w ω η t x o (gv i)
structure CallsOk (P:Program) (gl:Nat→Option VV) (gv:Nat→Value) (f:Nat) (σ:Sig):Prop where
 ok:σ.ok=true
 enter: ∀args w,(callFunc f args).run P w= .ok (.enter f args) w
 calls: ∀ (w:World) (ω:azw) (η:Pins) (x:azQ σ.ps) (vals:List Value) (r:bzR σ.rs×azP σ.ps),vzF gl gv w ω η→izf w ω η 0 σ.ps x vals→(∀b,ω b≠none→b<w.heap.size)→σ.f x=some r→
  Calls P f vals.toArray w fun
   | .returned v,w'=> ∃ω' vs,Evo w w' ω ω'∧(∀b,ω' b≠none→b<w'.heap.size)∧kzS w' ω' η 0 σ.rs r.1 vs∧v=retV vs∧kzM w' ω' η 0 σ.ps r.2 vals
   |_,_=>False
def qz2 (w:World) (g:G):Tk→List Value
 | .at q _ _=>g.cells q
 | .el bx n q U _ _ _ i o t _=>match g.cells ⟨bx,n,q, .sl U⟩ with
   | [.slice (some ad) _ _]=>match w.heap[ad.block]? with
     |some (.cells cells _ _)=>(((cells.toList.drop (i.toNat*U.sz)).take U.sz).drop o).take t.sz
     |_=>[]
   |_=>[]
 |_=>[]
def hzj (w:World) (g:G):List Par→List Tk→List (Nat×Value)
 |p::ps,tk::tks=>(bif p.lent then szL p.t p.m (qz2 w g tk) else [])++hzj w g ps tks
 |_,_=>[]
def HzW (L:List (Nat×Value)):Pins:=fun i=>(L.find? fun e=>Nat.beq e.1 i).map (·.2)
theorem Cz4: ∀ (L:List (Nat×Value)),gza (L.map (·.1))=true→ ∀e∈L,HzW L e.1=some e.2
 |x::L,h,e,he=>by
  simp only[List.map_cons,gza] at h
  cases hc:(L.map (·.1)).any (fun y=>Nat.beq x.1 y)<;>rw[hc] at h
  ·simp only[cond_false] at h
   rcases List.mem_cons.1 he with rfl|he
   ·simp [HzW]
   ·have hne:Nat.beq x.1 e.1=false:=by
     cases hb:Nat.beq x.1 e.1
     ·rfl
     ·rw[List.any_eq_false] at hc
      exact absurd hb (by simpa using hc e.1 (List.mem_map_of_mem he))
    have:=Cz4 L h e he
    simp only[HzW] at this⊢
    rw[List.find?_cons_of_neg (by simp only[hne];simp)]
    exact this
  ·cases h
theorem rzG (w:World) (g:G): ∀ (ps:List Par) (tks:List Tk),ps.length=tks.length→(∀p∈ps,p.lent=true→qzc p.t p.m=true)→(hzj w g ps tks).map (·.1)=ps.flatMap fun p=>bif p.lent then rzi p.m else []
 | [],[],_,_=>rfl
 |p::ps,tk::tks,hl,hk=>by
  simp only[hzj,List.map_append,List.flatMap_cons]
  rw[rzG w g ps tks (by simpa using hl) (fun q hq=>hk q (by simp [hq]))]
  congr 1
  cases hp:p.lent
  ·rfl
  ·simp only[cond_true];exact qz8 _ _ _ (hk p (by simp) hp)
 | [],_::_,h,_=>by simp at h
 |_::_,[],h,_=>by simp at h
section
variable {gv:Nat→Value} {n:Nat} {s s':St} {g:G} {a:Act} {w:World} {R:Type} {E:Env R}
theorem Hzo {ω:azw} {N:Nat} {al:Bool}:azJ w w ω (bzs ω N al):=fun b _ hb=>⟨ozV hb,rfl⟩
theorem Kzy {η:Pins} {ω:azw} {N:Nat} {al:Bool} {k:Nat} (hk:k<N) {t:Ty} {p:Path} {m:Mk} {x:t.den} {cs:List Value} (h:Rep w ω η t ([3,k]++p) m x cs):Rep w (bzs ω N al) η t ([3,k]++p) m x cs:=
 Rep.mono Hzo _ _ _ _ _ _ (fun b q _ hq=>⟨by
  have:ω b=some ([3,k]++(p++q)):=by simpa using hq
  simpa using QzU (al:=al) this hk,rfl⟩) h
theorem HzI {t u:Ty} (e:t=u) (z:u.den):cast (congrArg Ty.den e.symm) z=e.symm▸z:=by subst e;rfl
def Kzi (p:Par):Prop:=(p.lent=true→qzc p.t p.m=true)∧(p.lent=false→dzF p.m=true∧p.m.all=true)∧(p.ptr=true→p.io=true)
theorem Qzi {N k:Nat} {al:Bool} (hk:k<N) {p:Par} (hp:Kzi p) {x:Operand} {y z:p.t.den} {tk:Tk} {η:Pins} (ht:Ezb s w g a k p x y tk) (hη:p.lent=true→ ∀e∈szL p.t p.m (qz2 w g tk),η e.1=some e.2)
 (hz:(p.ptr||p.io||!p.m.isSh)=true→z=y) (hr:(p.ptr||p.io||!p.m.isSh)=false→ ∃cs,a.eval x=mkV p.t cs∧Rep w (bzs g.ω N al) g.η p.t [] .sh z cs):
 (bif p.ptr then (∃b cells e fr,a.eval x= .pointer (some ⟨b,0,none⟩)∧bzs g.ω N al b=some [3,500000+k]∧w.heap[b]?=some (.cells cells e fr)∧bzg fr cells.size∧Rep w (bzs g.ω N al) η p.t [3,k] p.m z cells.toList)
  else∃cs,Rep w (bzs g.ω N al) η p.t [3,k] p.m z cs∧a.eval x=mkV p.t cs):=by
 have c0: ∀ {t:Ty} {m:Mk} {x:t.den} {cs:List Value},Rep w g.ω g.η t [3,k] m x cs→Rep w (bzs g.ω N al) g.η t [3,k] m x cs:=fun h=>by simpa using Kzy (p:=[]) (al:=al) hk (by simpa using h)
 cases tk with
 |no=>
  obtain ⟨t1,t2,t3⟩:=ht
  have hl:p.lent=false:=by simp [Par.lent,t2]
  obtain ⟨hn,_⟩:=hp.2.1 hl
  rw[t1]
  cases hsh:p.m.isSh with
  |true=>
   obtain ⟨cs,h1,h2⟩:=hr (by simp [t1,t2,hsh])
   refine ⟨cs,?_,h1⟩
   rw[yzi hsh]
   exact Rep.reη _ _ _ _ _ rfl (Rep.sh_mono (azJ.refl _ _) _ _ _ _ _ h2)
  |false=>
   obtain ⟨cs,h1,h2⟩:=t3 hsh
   rw[hz (by simp [hsh])]
   exact ⟨cs,Rep.reη _ _ _ _ _ hn (c0 h1),h2⟩
 |box b T=>
  obtain ⟨t1,t3,t4,cells,e,fr,t5,t6,t7⟩:=ht
  have hl:p.lent=false:=by simp [Par.lent,t1]
  obtain ⟨hn,_⟩:=hp.2.1 hl
  rw[hz (by simp [t1])]
  rw[t1]
  exact ⟨_,cells,e,fr,t3,co_box t4 hk,t5,t6,Rep.reη _ _ _ _ _ hn (c0 t7)⟩
 |«at» q m z'=>
  obtain ⟨t1,t2,t3,t4,⟨e1,e2⟩,t6,t7,t8⟩:=ht
  have hl:p.lent=true:=by simp [Par.lent,t1,t2]
  rw[hz (by simp [t2])]
  rw[t1]
  refine ⟨g.cells q,Rep.repin (η:=g.η) _ _ m _ _ _ t3 (hp.1 hl) (hη hl) ?_,by rw[e1];exact t6⟩
  refine c0 (vz3 e1.symm ?_ t7)
  rw[e2]
  exact HzI e1 z'
 |el bx n q U pin me xs i o T z'=>
  obtain ⟨t1,t2,t3,t4,⟨e1,e2⟩,t6,t7,t8,t9,t10,r,cells,e,fr,c,t11,t12,t13,t14,t15,t16,t17,t18,t19,t20,t21⟩:=ht
  have hl:p.lent=true:=by simp [Par.lent,t1,t2]
  have hcells:qz2 w g (.el bx n q U pin me xs i o T z')=(((cells.toList.drop (i.toNat*U.sz)).take U.sz).drop o).take T.sz:=by
   simp only[qz2,t11,t14]
  have hη':=hη hl
  rw[hcells] at hη'
  rw[hz (by simp [t2])]
  rw[t1]
  refine ⟨_,Rep.repin (η:=g.η) _ _ (azM T U o me) _ _ _ t3 (hp.1 hl) hη' ?_,by rw[e1];exact t21⟩
  refine c0 (vz3 e1.symm ?_ t20)
  rw[e2]
  exact HzI e1 z'
theorem Lzl {N:Nat} {al:Bool} {η:Pins}: ∀ (ps:List Par) (k:Nat) (xs:List Operand) (y z:azQ ps) (tks:List Tk),k+ps.length≤N→(∀p∈ps,Kzi p)→tzC s w g a k ps xs y tks→ozZ w (bzs g.ω N al) g.η a ps xs y z→
 (∀e∈hzj w g ps tks,η e.1=some e.2)→izf w (bzs g.ω N al) η k ps z (xs.map a.eval)
 | [],k,[],y,z,[],_,_,_,_,_=>trivial
 |p::ps,k,x::xs,y,z,tk::tks,hk,hp,⟨h1,h2⟩,⟨r1,r2,r3⟩,hη=>by
  simp only[List.length_cons] at hk
  simp only[hzj] at hη
  refine ⟨Qzi (by omega) (hp p (by simp)) h1 (fun hl e he=>hη e (List.mem_append_left _ (by rw[hl];exact he))) r1 r2,Lzl ps (k+1) xs y.2 z.2 tks (by omega) (fun q hq=>hp q (by simp [hq])) h2 r3 (fun e he=>hη e (List.mem_append_right _ he))⟩
 | [],_,_::_,_,_,_,_,_,h,_,_=>by cases h
 | [],_,[],_,_,_::_,_,_,h,_,_=>by cases h
 |_::_,_,[],_,_,_,_,_,h,_,_=>by cases h
 |_::_,_,_::_,_,_,[],_,_,h,_,_=>by cases h
theorem tzC.length: ∀ (ps:List Par) (k:Nat) (xs:List Operand) (y:azQ ps) (tks:List Tk),tzC s w g a k ps xs y tks→ps.length=tks.length
 | [],_,[],_,[],_=>rfl
 |p::ps,k,x::xs,y,tk::tks,⟨_,h⟩=>by simp [tzC.length ps _ xs y.2 tks h]
 | [],_,_::_,_,_,h=>by cases h
 | [],_,[],_,_::_,h=>by cases h
 |_::_,_,[],_,_,h=>by cases h
 |_::_,_,_::_,_,[],h=>by cases h
theorem Sig.ok_out {σ:Sig} (h:σ.ok=true):(σ.alias=true∨((∀r∈σ.rs,alone r.t r.m=true)∧ ∀p∈σ.ps,p.io=true→alone p.t p.m=true))∧(∀r∈σ.rs,dzF r.m=true∧r.m.all=true)∧(∀p∈σ.ps,Kzi p)∧
 gza (σ.ps.flatMap fun p=>bif p.lent then rzi p.m else [])=true∧σ.ps.length≤1000∧σ.rs.length≤1000:=by
 simp only[Sig.ok,Bool.and_eq_true,Bool.or_eq_true,List.all_eq_true] at h
 obtain ⟨⟨⟨⟨⟨⟨h1,h2⟩,h3⟩,h4⟩,h5⟩,h6⟩,h7⟩:=h
 refine ⟨?_,h2,fun p hp=>?_,h4,Nat.le_of_ble_eq_true h5,Nat.le_of_ble_eq_true h6⟩
 ·rcases h1 with h1| ⟨h1,h8⟩
  ·exact .inl h1
  ·refine .inr ⟨h1,fun p hp hio=>?_⟩
   rcases h8 p hp with h|h
   ·rw[hio] at h;cases h
   ·exact h
 ·have h8:=h3 p hp
  refine ⟨fun hl=>?_,fun hl=>?_,fun hptr=>?_⟩
  ·rw[hl] at h8;exact h8
  ·rw[hl] at h8;simpa using h8
  ·rcases h7 p hp with h|h
   ·rw[hptr] at h;cases h
   ·exact h
end
end Go.TV
namespace Go.TV
theorem ozx: ∀ {t:Ty} {m m0:Mk},m.sim m0=true→alone t m=true→alone t m0=true
 | .prod a b,m,m0,hs,h=>by
   obtain ⟨h1,h2⟩:=tzR h
   have e1:=ozx (t:=a) (sim_l hs) h1
   have e2:=ozx (t:=b) (sim_r hs) h2
   show (bif alone a m0.l then alone b m0.r else false)=true
   rw[e1,e2];rfl
 | .sl t, .own p m,m0,hs,h=>by
   obtain ⟨q,b,rfl,h1⟩:=qz4 hs
   exact ozx (t:=t) (m:=m) (m0:=b) h1 h
 | .int _,_,_,_,_=>rfl
 | .bool,_,_,_,_=>rfl
 | .str,_,_,_,_=>rfl
 | .unit,_,_,_,_=>rfl
 | .arr _ _,_,_,_,h=>h
 | .item,_,_,_,h=>by cases h
 | .sl _, .no,_,_,h=>by cases h
 | .sl _, .sh,_,_,h=>by cases h
 | .sl _, .pr _ _,_,_,h=>by cases h
def Dz7:Option Path→Option Path
 |some (3::r)=>some (3::r)
 |_=>none
def dzB (ω ωc:azw) (N size:Nat):azw:=fun b=>match ω b with
 |some q=>bif izw N q then Dz7 (ωc b) else some q
 |none=>bif Nat.ble size b then Dz7 (ωc b) else none
structure Across (w w':World) (ω ωc':azw) (N:Nat) (al:Bool):Prop where
 still:azJ w w' (bzs ω N al) ωc'
 far:Far w w' (bzs ω N al) ωc'
 lt: ∀b,ω b≠none→b<w.heap.size
 lt': ∀b,ωc' b≠none→b<w'.heap.size
 size:w.heap.size≤w'.heap.size
section
variable {w w':World} {ω ωc':azw} {N:Nat} {al:Bool} {b:Nat}
theorem Across.other (h:Across w w' ω ωc' N al) {q:Path} (hq:ω b=some q) (hn:izw N q=false):w'.heap[b]?=w.heap[b]?∧(∀p,ωc' b=some p→ ∃r,p=[3,1000000]++r)∧(al=true→ωc' b≠none):=by
 have hb:=h.lt b (by rw[hq];simp)
 have hc:=GzF (N:=N) (al:=al) hq hn
 cases hal:al with
 |true=>
  rw[hal] at hc
  have h1:=h.far b q (by rw[hal];exact hc)
  exact ⟨h1.2,fun p hp=>⟨q,by rw[h1.1] at hp;cases hp;rfl⟩,fun _=>by rw[h1.1];simp⟩
 |false=>
  rw[hal] at hc
  have h1:=h.still b hb (by rw[hal];exact hc)
  exact ⟨h1.2,fun p hp=>(by rw[h1.1] at hp;cases hp),fun hh=>(by cases hh)⟩
theorem Across.none (h:Across w w' ω ωc' N al) (hb:b<w.heap.size) (hq:ω b=none):ωc' b=none∧w'.heap[b]?=w.heap[b]?:=h.still b hb (ozV hq)
theorem Ez7 {q:Path} (hq:ω b=some q) (hn:izw N q=false):dzB ω ωc' N w.heap.size b=some q:=by simp [dzB,hq,hn]
theorem QzE (hb:b<w.heap.size) (hq:ω b=none):dzB ω ωc' N w.heap.size b=none:=by
 have:Nat.ble w.heap.size b=false:=by
  cases hc:Nat.ble w.heap.size b
  ·rfl
  ·have:=Nat.le_of_ble_eq_true hc;omega
 simp [dzB,hq,this]
theorem Fzz (h:Across w w' ω ωc' N al) {j:Nat} {q:Path} (hj:j≠1000000) (hq:ωc' b=some ([3,j]++q)):dzB ω ωc' N w.heap.size b=some ([3,j]++q):=by
 unfold dzB
 cases ho:ω b with
 |none=>
  simp only
  rcases Nat.lt_or_ge b w.heap.size with hb|hb
  ·have:=(h.none hb ho).1;rw[this] at hq;cases hq
  ·rw[show Nat.ble w.heap.size b=true from Nat.ble_eq_true_of_le hb,hq];rfl
 |some p=>
  simp only
  cases hn:izw N p with
  |true=>rw[hq];rfl
  |false=>
   obtain ⟨r,hr⟩:=(h.other ho hn).2.1 _ hq
   simp only[List.cons_append,List.cons.injEq] at hr
   exact absurd hr.2.1 hj
theorem bo_lt (h:Across w w' ω ωc' N al) (hb:dzB ω ωc' N w.heap.size b≠none):b<w'.heap.size:=by
 unfold dzB at hb
 cases ho:ω b with
 |none=>
  rw[ho] at hb
  simp only at hb
  cases hc:Nat.ble w.heap.size b<;>rw[hc] at hb
  ·exact absurd rfl hb
  ·refine h.lt' b fun hn=>hb ?_
   simp only[cond_true,hn,Dz7]
 |some p=>
  have:=h.lt b (by rw[ho];simp)
  have:=h.size
  omega
theorem Czj (h:Across w w' ω ωc' N al):azJ w w' ω (dzB ω ωc' N w.heap.size):=fun b hb hn=>⟨QzE hb hn,(h.none hb hn).2⟩
theorem PzK (h:Across w w' ω ωc' N al) {η:Pins} {t:Ty} {j:Nat} {p:Path} {m:Mk} {x:t.den} {cs:List Value} (hj:j≠1000000) (ha:al=true∨alone t m=true) (hr:Rep w' ωc' η t ([3,j]++p) m x cs):
 Rep w' (dzB ω ωc' N w.heap.size) η t ([3,j]++p) m x cs:=by
 have hown: ∀b q,bzX m q=true→ωc' b=some ([3,j]++p++q)→dzB ω ωc' N w.heap.size b=some ([3,j]++p++q)∧w'.heap[b]?=w'.heap[b]?:=fun b q _ hq=>⟨by
  have:=Fzz (q:=p++q) h hj (by simpa using hq)
  simpa using this,rfl⟩
 rcases ha with ha|ha
 ·refine Rep.mono (fun b hb hn=>⟨?_,rfl⟩) t _ _ _ _ _ hown hr
  unfold dzB
  cases ho:ω b with
  |none=>
   simp only
   cases Nat.ble w.heap.size b
   ·rfl
   ·simp only[cond_true,hn,Dz7]
  |some p=>
   simp only
   cases hh:izw N p with
   |true=>simp only[cond_true,hn,Dz7]
   |false=>exact absurd hn ((h.other ho hh).2.2 ha)
 ·exact Rep.alone t _ _ _ _ _ ha hown hr
end
section
variable {gl:Nat→Option VV} {gv:Nat→Value} {n:Nat} {s s':St} {g:G} {a:Act} {w w':World} {R:Type} {E:Env R} {N:Nat} {al:Bool} {ωc':azw}
theorem Rel.across (h:Rel gl gv n s g a w) (hx:Across w w' g.ω ωc' N al):Rel gl gv n s {g with ω:=dzB g.ω ωc' N w.heap.size} a w':=
 h.hand (fun b q hq hp=>⟨Ez7 hq (zzP hp),(hx.other hq (zzP hp)).1⟩) (Czj hx) (fun b hb=>bo_lt hx hb)
def IzA (w:World) (g:G) (k:Nat) (t:Ty) (m:Mk) (y:t.den):Tk→Prop
 | .no=>True
 | .box b _=> ∃cells e fr,g.ω (g.φ b)=some [3,500000+k]∧w.heap[g.φ b]?=some (.cells cells e fr)∧bzg fr cells.size∧Rep w g.ω g.η t [3,k] m y cells.toList
 | .at q m0 z=> ∀y1,bzB q.t (u:=t) y=some y1→m0≠ .no∧Rep w g.ω g.η q.t [3,k] m0 (qzr q.t m z y1) (g.cells q)
 | .el bx n q U pin me xs i o t' z=> ∀y1,bzB t' (u:=t) y=some y1→azM t' U o me≠ .no∧azs t' (azM t' U o me) U o me=me∧0≤i∧i<((xs:List U.den).length:Int)∧
  ∃r cells e fr c,g.cells ⟨bx,n,q, .sl U⟩=[.slice (some ⟨r,0,none⟩) (xs:List U.den).length c]∧(pin≠0→g.η pin=some (.slice (some ⟨r,0,none⟩) (xs:List U.den).length c))∧g.ω r=some [3,250000+k]∧
   w.heap[r]?=some (.cells cells e fr)∧cells.size=c*U.sz∧bzg fr cells.size∧(xs:List U.den).length≤c∧
   (∀j x,j≠i.toNat→(xs:List U.den)[j]?=some x→Rep w g.ω g.η U ([3,250000+k]++[j]) me x ((cells.toList.drop (j*U.sz)).take U.sz))∧
   Rep w g.ω g.η U ([3,250000+k]++[i.toNat]) (azs t' .no U o me) (rd U.zero xs i) ((cells.toList.drop (i.toNat*U.sz)).take U.sz)∧
   Rep w g.ω g.η t' [3,k] (azM t' U o me) (qzr t' m z y1) ((((cells.toList.drop (i.toNat*U.sz)).take U.sz).drop o).take t'.sz)
def yzs (w:World) (g:G):Nat→(ps:List Par)→azP ps→List Tk→Prop
 |_,[],_,[]=>True
 |k,⟨t,m,true,_,_⟩::ps,y,tk::tks=>IzA w g k t m y.1 tk∧yzs w g (k+1) ps y.2 tks
 |k,⟨_,_,false,_,_⟩::ps,y,_::tks=>yzs w g (k+1) ps y tks
 |_,_,_,_=>False
structure Past (K:Nat→Prop) (w:World) (g g':G) (keepC:Tk→Prop):Prop where
 φ:g'.φ=g.φ
 η:g'.η=g.η
 cells: ∀tk,keepC tk→(∀q m z,tk= .at q m z→g'.cells q=g.cells q)∧ ∀bx n q U pin me xs i o t z,tk= .el bx n q U pin me xs i o t z→g'.cells ⟨bx,n,q, .sl U⟩=g.cells ⟨bx,n,q, .sl U⟩
 still:azJ w w g.ω g'.ω
 hands: ∀c j q,¬K j→g.ω c=some ([3,j]++q)→g'.ω c=some ([3,j]++q)
theorem Past.rep {K:Nat→Prop} {g g':G} {C:Tk→Prop} (h:Past K w g g' C) {t:Ty} {j:Nat} {p:Path} {m:Mk} {x:t.den} {cs:List Value} (hj: ¬K j) (hr:Rep w g.ω g.η t ([3,j]++p) m x cs):Rep w g'.ω g'.η t ([3,j]++p) m x cs:=by
 rw[h.η]
 exact Rep.mono h.still t _ _ _ _ _ (fun b q _ hq=>⟨by simpa using h.hands b j (p++q) hj (by simpa using hq),rfl⟩) hr
theorem IzA.past {K:Nat→Prop} {g g':G} {C:Tk→Prop} (h:Past K w g g' C) {k:Nat} (h1: ¬K k) (h2: ¬K (250000+k)) (h3: ¬K (500000+k)) {t:Ty} {m:Mk} {y:t.den} {tk:Tk} (hC:C tk) (hb:IzA w g k t m y tk):IzA w g' k t m y tk:=by
 have r0: ∀ {t:Ty} {m:Mk} {x:t.den} {cs:List Value},Rep w g.ω g.η t [3,k] m x cs→Rep w g'.ω g'.η t [3,k] m x cs:=fun hr=>by simpa using h.rep (p:=[]) h1 (by simpa using hr)
 have hω: ∀c j,¬K j→g.ω c=some [3,j]→g'.ω c=some [3,j]:=fun c j hj hc=>by simpa using h.hands c j [] hj (by simpa using hc)
 cases tk with
 |no=>trivial
 |box b T=>
  obtain ⟨cells,e,fr,t4,t5,t6,t7⟩:=hb
  exact ⟨cells,e,fr,by rw[h.φ];exact hω _ _ h3 t4,by rw[h.φ];exact t5,t6,r0 t7⟩
 |«at» q m0 z=>
  intro y1 hy1
  obtain ⟨t1,t2⟩:=hb y1 hy1
  exact ⟨t1,by rw[(h.cells _ hC).1 q m0 z rfl];exact r0 t2⟩
 |el bx n q U pin me xs i o T z=>
  intro y1 hy1
  obtain ⟨t1,t2,t3,t4,r,cells,e,fr,c,t11,t12,t13,t14,t15,t16,t17,t18,t19,t20⟩:=hb y1 hy1
  exact ⟨t1,t2,t3,t4,r,cells,e,fr,c,by rw[(h.cells _ hC).2 bx n q U pin me xs i o T z rfl];exact t11,by rw[h.η];exact t12,hω _ _ h2 t13,t14,t15,t16,t17,fun j x hj hx=>h.rep h2 (t18 j x hj hx),h.rep h2 t19,r0 t20⟩
theorem yzs.past {K:Nat→Prop} {g g':G} {C:Tk→Prop} (h:Past K w g g' C): ∀ (ps:List Par) (k:Nat) (y:azP ps) (tks:List Tk),(∀i,k≤i→i<k+ps.length→ ¬K i∧ ¬K (250000+i)∧ ¬K (500000+i))→(∀tk∈tks,C tk)→
 yzs w g k ps y tks→yzs w g' k ps y tks
 | [],_,_,[],_,_,_=>trivial
 | ⟨t,m,true,ptr,bx⟩::ps,k,y,tk::tks,hk,hC,⟨h1,h2⟩=>by
   obtain ⟨k1,k2,k3⟩:=hk k (Nat.le_refl _) (by simp)
   exact ⟨h1.past h k1 k2 k3 (hC tk (by simp)),yzs.past h ps (k+1) y.2 tks (fun i h1 h2=>hk i (by omega) (by simp only[List.length_cons];omega)) (fun q hq=>hC q (by simp [hq])) h2⟩
 | ⟨t,m,false,ptr,bx⟩::ps,k,y,tk::tks,hk,hC,h1=>by
   exact yzs.past h ps (k+1) y tks (fun i h1 h2=>hk i (by omega) (by simp only[List.length_cons];omega)) (fun q hq=>hC q (by simp [hq])) h1
 | [],_,_,_::_,_,_,h=>by cases h
 | ⟨_,_,true,_,_⟩::_,_,_,[],_,_,h=>by cases h
 | ⟨_,_,false,_,_⟩::_,_,_,[],_,_,h=>by cases h
end
end Go.TV
namespace Go.TV
section
variable {gl:Nat→Option VV} {gv:Nat→Value} {n:Nat} {s s':St} {g:G} {a:Act} {w w':World} {R:Type} {E:Env R} {N:Nat} {al:Bool} {ωc':azw}
theorem vzx {k:Nat} {q:Path} (hN:N≤1000) (hk:k<N):izw N ([3,250000+k]++q)=false:=by
 have e1:Nat.ble (250000+k+1) N=false:=by
  cases hc:Nat.ble (250000+k+1) N
  ·rfl
  ·have:=Nat.le_of_ble_eq_true hc;omega
 have e2:Nat.ble 500000 (250000+k)=false:=by
  cases hc:Nat.ble 500000 (250000+k)
  ·rfl
  ·have:=Nat.le_of_ble_eq_true hc;omega
 show (Nat.ble (250000+k+1) N||(Nat.ble 500000 (250000+k)&&Nat.ble (250000+k+1) (500000+N)))=false
 rw[e1,e2];rfl
theorem NzX {k:Nat} {ηc:Pins} {t:Ty} {m:Mk} {ptr:Bool} {bx:Option Nat} (hx:Across w w' g.ω ωc' N al) (hN:N≤1000) (hk:k<N) (hp:Kzi ⟨t,m,true,ptr,bx⟩) (hal:al=true∨alone t m=true)
 {x:Operand} {y0 y:t.den} {tk:Tk} (ht:Ezb s w g a k ⟨t,m,true,ptr,bx⟩ x y0 tk) (hη:Par.lent ⟨t,m,true,ptr,bx⟩=true→ ∀e∈szL t m (qz2 w g tk),ηc e.1=some e.2)
 (ho:(bif ptr then (∃b cells e fr,a.eval x= .pointer (some ⟨b,0,none⟩)∧ωc' b=some [3,500000+k]∧w'.heap[b]?=some (.cells cells e fr)∧bzg fr cells.size∧Rep w' ωc' ηc t [3,k] m y cells.toList)
  else∃cs,Rep w' ωc' ηc t [3,k] m y cs)):
 IzA w' {g with ω:=dzB g.ω ωc' N w.heap.size} k t m y tk:=by
 have bo: ∀ {η:Pins} {t:Ty} {m:Mk} {x:t.den} {cs:List Value},(al=true∨alone t m=true)→Rep w' ωc' η t [3,k] m x cs→Rep w' (dzB g.ω ωc' N w.heap.size) η t [3,k] m x cs:=fun ha hr=>by
  simpa using PzK (p:=[]) hx (by omega) ha (by simpa using hr)
 cases tk with
 |no=>trivial
 |box b T=>
  obtain ⟨t1,t3,t4,_⟩:=ht
  simp only at t1
  subst t1
  obtain ⟨b',cells,e,fr,h1,h2,h3,h4,h5⟩:=ho
  rw[t3] at h1
  simp only[Value.pointer.injEq,Option.some.injEq,Addr.mk.injEq,and_true] at h1
  subst h1
  have hl:Par.lent ⟨t,m,true,true,bx⟩=false:=rfl
  refine ⟨cells,e,fr,?_,h3,h4,Rep.reη _ _ _ _ _ (hp.2.1 hl).1 (bo hal h5)⟩
  have:=Fzz (q:=[]) hx (show 500000+k≠1000000 by omega) (by simpa using h2)
  simpa using this
 |«at» q m0 z=>
  obtain ⟨qb,qn,qo,qt⟩:=q
  obtain ⟨t1,_,t3,t4,⟨e1,e2⟩,t6,t7,t8⟩:=ht
  simp only at t1 e1 t3
  subst t1
  subst e1
  intro y1 hy1
  obtain ⟨e3,e4⟩:=azk hy1
  have e4':y1=y:=e4
  subst e4'
  have hl:Par.lent ⟨t,m,true,false,bx⟩=true:=rfl
  obtain ⟨cs',h1⟩:=ho
  have c0:Rep w (bzs g.ω N al) g.η t [3,k] m0 z (g.cells ⟨qb,qn,qo,t⟩):=by simpa using Kzy (p:=[]) (al:=al) hk (by simpa using t7)
  have h0:=Rep.repin (η:=g.η) (η':=ηc) _ _ m0 m _ _ t3 (hp.1 hl) (hη hl) c0
  have hm:=Rep.remerge t [3,k] [3,k] [3,k] m m0 z y1 z _ cs' (hp.1 hl) t3 t4 hx.still h0 h1 t7
  refine ⟨(rzU t3).2,bo ?_ hm⟩
  rcases hal with h|h
  ·exact .inl h
  ·exact .inr (ozx t3 h)
 |el bx' n' q U pin me xs i o T z=>
  obtain ⟨t1,_,t3,t4,⟨e1,e2⟩,t6,t7,t8,t9,t10,r,cells,e,fr,c,t11,t12,t13,t14,t15,t16,t17,t18,t19,t20,t21⟩:=ht
  simp only at t1 e1 t3
  subst t1
  subst e1
  intro y1 hy1
  obtain ⟨e3,e4⟩:=azk hy1
  have e4':y1=y:=e4
  subst e4'
  have hl:Par.lent ⟨t,m,true,false,bx⟩=true:=rfl
  obtain ⟨cs',h1⟩:=ho
  have hcells:qz2 w g (.el bx' n' q U pin me xs i o t z)=(((cells.toList.drop (i.toNat*U.sz)).take U.sz).drop o).take t.sz:=by
   simp only[qz2,t11,t14]
  have hη':=hη hl
  rw[hcells] at hη'
  have c0:Rep w (bzs g.ω N al) g.η t [3,k] (azM t U o me) z ((((cells.toList.drop (i.toNat*U.sz)).take U.sz).drop o).take t.sz):=by simpa using Kzy (p:=[]) (al:=al) hk (by simpa using t20)
  have h0:=Rep.repin (η:=g.η) (η':=ηc) _ _ (azM t U o me) m _ _ t3 (hp.1 hl) hη' c0
  have hm:=Rep.remerge t [3,k] [3,k] [3,k] m (azM t U o me) z y1 z _ cs' (hp.1 hl) t3 t4 hx.still h0 h1 t20
  have hoth: ∀b p,g.ω b=some ([3,250000+k]++p)→dzB g.ω ωc' N w.heap.size b=some ([3,250000+k]++p)∧w'.heap[b]?=w.heap[b]?:=fun b p hq=>
   ⟨Ez7 hq (vzx hN hk),(hx.other hq (vzx hN hk)).1⟩
  have hr:=hoth r [] (by simpa using t13)
  have hrep: ∀ {T:Ty} {p:Path} {m:Mk} {x:T.den} {cs:List Value},Rep w g.ω g.η T ([3,250000+k]++p) m x cs→Rep w' (dzB g.ω ωc' N w.heap.size) g.η T ([3,250000+k]++p) m x cs:=fun {T p m x cs} h=>
   Rep.mono (Czj hx) _ _ _ _ _ _ (fun b q _ hq=>by
    have:=hoth b (p++q) (by simpa using hq)
    simpa using this) h
  refine ⟨(rzU t3).2,t6,t7,t8,r,cells,e,fr,c,t11,t12,by simpa using hr.1,hr.2.trans t14,t15,t16,t17,fun j x hj hx'=>hrep (t18 j x hj hx'),hrep t19,bo ?_ hm⟩
  rcases hal with h|h
  ·exact .inl h
  ·exact .inr (ozx t3 h)
theorem Az9 {ηc:Pins} (hx:Across w w' g.ω ωc' N al) (hN:N≤1000): ∀ (ps:List Par) (k:Nat) (xs:List Operand) (y0:azQ ps) (y:azP ps) (tks:List Tk),k+ps.length≤N→(∀p∈ps,Kzi p)→(al=true∨ ∀p∈ps,p.io=true→alone p.t p.m=true)→
 tzC s w g a k ps xs y0 tks→(∀e∈hzj w g ps tks,ηc e.1=some e.2)→kzM w' ωc' ηc k ps y (xs.map a.eval)→yzs w' {g with ω:=dzB g.ω ωc' N w.heap.size} k ps y tks
 | [],_,[],_,_,[],_,_,_,_,_,_=>trivial
 | ⟨t,m,true,ptr,bx⟩::ps,k,x::xs,y0,y,tk::tks,hk,hp,hal,⟨h1,h2⟩,hη,⟨o1,o2⟩=>by
   simp only[List.length_cons] at hk
   simp only[hzj] at hη
   refine ⟨NzX hx hN (by omega) (hp _ (by simp)) (hal.imp id fun h=>h ⟨t,m,true,ptr,bx⟩ (by simp) rfl) h1 (fun hl e he=>hη e (List.mem_append_left _ (by rw[hl];exact he))) o1,?_⟩
   exact Az9 hx hN ps (k+1) xs y0.2 y.2 tks (by omega) (fun q hq=>hp q (by simp [hq])) (hal.imp id fun h q hq=>h q (by simp [hq])) h2 (fun e he=>hη e (List.mem_append_right _ he)) o2
 | ⟨t,m,false,ptr,bx⟩::ps,k,x::xs,y0,y,tk::tks,hk,hp,hal,⟨h1,h2⟩,hη,o2=>by
   simp only[List.length_cons] at hk
   simp only[hzj] at hη
   exact Az9 hx hN ps (k+1) xs y0.2 y tks (by omega) (fun q hq=>hp q (by simp [hq])) (hal.imp id fun h q hq=>h q (by simp [hq])) h2 (fun e he=>hη e (List.mem_append_right _ he)) o2
 | [],_,_::_,_,_,_,_,_,_,h,_,_=>by cases h
 | [],_,[],_,_,_::_,_,_,_,h,_,_=>by cases h
 |_::_,_,[],_,_,_,_,_,_,h,_,_=>by cases h
 |_::_,_,_::_,_,_,[],_,_,_,h,_,_=>by cases h
theorem setPl_root {p:Pl} {m:Mk} {y:p.t.den} {s1:St} (h:s.setPl p m y=some s1): ∃T M x z,s.root p.bx p.n= .v T M x∧setAt p.t y T p.o x=some z∧s1=s.setRoot p.bx p.n (.v T (azs p.t m T p.o M) z):=lzT h
theorem rd_len {α:Type} {z:α} {xs:List α} {i:Int} (h0:0≤i) (h:i<(xs.length:Int)):xs[i.toNat]?=some (rd z xs i):=by
 have hl:i.toNat<xs.length:=by omega
 rw[List.getElem?_eq_getElem hl]
 simp [rd,List.getD_eq_getElem?_getD,List.getElem?_eq_getElem hl]
theorem Lz4 (h:Rel gl gv n s g a w) {k:Nat} (hk:k<1000) {t:Ty} {m:Mk} {y:t.den} {ptr:Bool} {bx:Option Nat} {ps:List Par} {tks:List Tk} {ys:azP ps} {tk:Tk} (hb:IzA w g k t m y tk)
 (e:bzL (⟨t,m,true,ptr,bx⟩::ps) (tk::tks) (y,ys) s=some s'):
 ∃s1 g1,bzL ps tks ys s1=some s'∧Rel gl gv n s1 g1 a w∧Past (K1 k) w g g1 (fun u=> ∀b T,tk= .box b T→tkBx u≠some b):=by
 cases tk with
 |no=>cases ptr<;>simp [bzL] at e
 |box b T=>
  cases ptr with
  |false=>simp [bzL] at e
  |true=>
   obtain ⟨cells,el,fr,t1,t2,t3,t4⟩:=hb
   simp only[bzL] at e
   split at e
   ·rename_i hj
    obtain ⟨ω',h1,h2,h3⟩:=h.giveBox (T:=t) (m:=m) (y:=y) hj t1 (by omega) t2 t3 t4
    refine ⟨_,_,e,h1,rfl,rfl,fun u hu=>⟨fun q m' z hq=>?_,fun bx' n' q U pin me xs i o t' z hq=>?_⟩,h2,fun c j q hj hq=>h3 c j q (fun e=>hj (.inl e)) (fun e=>hj (.inr (.inr e))) hq⟩
    ·have:=hu b T rfl
     rw[hq] at this
     simp only[tkBx] at this
     simp only[G.cells,G.rc]
     cases hbx:q.bx with
     |false=>rfl
     |true=>
      rw[hbx] at this
      have hne:q.n≠b:=fun e=>this (by simp [e])
      simp only[cond_true,if_neg hne]
    ·have:=hu b T rfl
     rw[hq] at this
     simp only[tkBx] at this
     simp only[G.cells,G.rc]
     cases hbx:bx' with
     |false=>rfl
     |true=>
      rw[hbx] at this
      have hne:n'≠b:=fun e=>this (by simp [e])
      simp only[cond_true,if_neg hne]
   ·cases e
 |«at» q m0 z=>
  cases ptr with
  |true=>simp [bzL] at e
  |false=>
   simp only[bzL] at e
   split at e
   ·rename_i y1 hy1
    obtain ⟨t1,t2⟩:=hb y1 hy1
    split at e
    ·rename_i s2 hs2
     obtain ⟨T,M,x,z',r1,r2,rfl⟩:=lzT hs2
     have h1:=h.back r1 r2 t1 t2
     refine ⟨_,_,e,h1,rfl,rfl,fun u _=>⟨fun _ _ _ _=>rfl,fun _ _ _ _ _ _ _ _ _ _ _ _=>rfl⟩,bzJ,fun c j q hj hq=>bzk hq (azI (.inr fun e=>hj (.inl e.symm)))⟩
    ·cases e
   ·cases e
 |el bx' n' q U pin me xs i o t' z=>
  cases ptr with
  |true=>simp [bzL] at e
  |false=>
   simp only[bzL] at e
   split at e
   ·rename_i y1 hy1
    obtain ⟨t1,t2,t3,t4,r,cells,el,fr,c,t11,t12,t13,t14,t15,t16,t17,t18,t19,t20⟩:=hb y1 hy1
    split at e
    ·rename_i z' hz'
     split at e
     ·rename_i s2 hs2
      obtain ⟨T,M,x,z2,r1,r2,rfl⟩:=lzT hs2
      let π:Path:=[3,250000+k]++[i.toNat]++bzd t' U o
      let ω1:=mv g.ω [3,k] π
      have hst:azJ w w g.ω ω1:=bzJ
      have hrel:=h.reown (ω':=ω1) (fun b q hq hp=>bzk hq fun hh=>hp (List.IsPrefix.trans (by simp) hh)) hst (fun b hb=>nzX hb)
      have hkeep: ∀b p,g.ω b=some ([3,250000+k]++p)→ω1 b=some ([3,250000+k]++p):=fun b p hq=>bzk hq (azI (.inr (by omega)))
      have hrep: ∀ {T:Ty} {p:Path} {m:Mk} {x:T.den} {cs:List Value},Rep w g.ω g.η T ([3,250000+k]++p) m x cs→Rep w ω1 g.η T ([3,250000+k]++p) m x cs:=fun {T p m x cs} h=>
       Rep.mono hst _ _ _ _ _ _ (fun b q _ hq=>⟨by
        have:=hkeep b (p++q) (by simpa using hq)
        simpa using this,rfl⟩) h
      have hpart:Rep w ω1 g.η t' (([3,250000+k]++[i.toNat])++bzd t' U o) (azM t' U o me) (qzr t' m z y1) ((((cells.toList.drop (i.toNat*U.sz)).take U.sz).drop o).take t'.sz):=
       Rep.mono hst _ _ _ _ _ _ (fun b q _ hq=>⟨ozy (p':=π) hq,rfl⟩) t20
      have hin:=rd_len (z:=U.zero) t3 t4
      have hil:i.toNat<(xs:List U.den).length:=by omega
      have hel:=Rep.setAt t1 U o _ _ _ _ _ hz' (hrep t19) hpart
      rw[gzb,t2] at hel
      have hrowlen:((cells.toList.drop (i.toNat*U.sz)).take U.sz).length=U.sz:=Rep.length _ _ _ _ _ t19
      have hjoin:((cells.toList.drop (i.toNat*U.sz)).take U.sz).take o++((((cells.toList.drop (i.toNat*U.sz)).take U.sz).drop o).take t'.sz)++((cells.toList.drop (i.toNat*U.sz)).take U.sz).drop (o+t'.sz)=(cells.toList.drop (i.toNat*U.sz)).take U.sz:=by
       rw[List.append_assoc,←List.drop_drop,List.take_append_drop,List.take_append_drop]
      rw[hjoin] at hel
      have hwhole:Rep w ω1 g.η (.sl U) [3,250000+k] (.own pin me) (upd (xs:List U.den) i z') (g.cells ⟨bx',n',q, .sl U⟩):=by
       rw[t11]
       refine ⟨some ⟨r,0,none⟩,c,by rw[fzv],by rw[fzv];exact t12, .inr ⟨r,cells,el,fr,rfl,by simpa using hkeep r [] (by simpa using t13),t14,t15,t16,by rw[fzv];exact t17,fun j v hj=>?_⟩⟩
       rcases Gzx hj with ⟨rfl,rfl,_⟩| ⟨hne,hj'⟩
       ·exact hel
       ·exact hrep (t18 j v hne hj')
      have h1:=hrel.back (p:=⟨bx',n',q, .sl U⟩) (k:=250000+k) r1 r2 (by simp) hwhole
      refine ⟨_,_,e,h1,rfl,rfl,fun u _=>⟨fun _ _ _ _=>rfl,fun _ _ _ _ _ _ _ _ _ _ _ _=>rfl⟩,hst.trans bzJ,fun c j q hj hq=>?_⟩
      exact bzk (bzk hq (azI (.inr fun e=>hj (.inl e.symm)))) (azI (.inr fun e=>hj (.inr (.inl e.symm))))
     ·cases e
    ·cases e
   ·cases e
theorem rzx: ∀ (ps:List Par) (k:Nat) (y:azP ps) (tks:List Tk) (s s':St) (g:G),k+ps.length≤1000→Rel gl gv n s g a w→yzs w g k ps y tks→(∀t∈tks,∀b T,t= .box b T→ ∀u∈tks,tkBx u≠some b)→bzL ps tks y s=some s'→
 ∃g',Rel gl gv n s' g' a w∧g'.φ=g.φ∧g'.η=g.η∧azJ w w g.ω g'.ω∧ ∀c j q,¬Kf k j→g.ω c=some ([3,j]++q)→g'.ω c=some ([3,j]++q)
 | [],k,y,[],s,s',g,_,h,_,_,e=>by
   simp only[bzL] at e
   cases e
   exact ⟨g,h,rfl,rfl,azJ.refl _ _,fun _ _ _ _ h=>h⟩
 | ⟨t,m,true,ptr,bx⟩::ps,k,y,tk::tks,s,s',g,hk,h,⟨b1,b2⟩,hC,e=>by
   simp only[List.length_cons] at hk
   obtain ⟨s1,g1,e1,h1,h2⟩:=Lz4 (ys:=y.2) h (by omega) b1 e
   have b3:=yzs.past h2 ps (k+1) y.2 tks (fun i i1 i2=>by simp only[K1];omega) (fun u hu b T hT=>hC tk (by simp) b T hT u (by simp [hu])) b2
   obtain ⟨g2,h3,h4,h5,h6,h7⟩:=rzx ps (k+1) y.2 tks s1 s' g1 (by omega) h1 b3 (fun t ht b T hT u hu=>hC t (by simp [ht]) b T hT u (by simp [hu])) e1
   exact ⟨g2,h3,h4.trans h2.φ,h5.trans h2.η,h2.still.trans h6,fun c j q hj hq=>h7 c j q (by simp only[Kf] at*;omega) (h2.hands c j q (by simp only[K1,Kf] at*;omega) hq)⟩
 | ⟨t,m,false,ptr,bx⟩::ps,k,y,tk::tks,s,s',g,hk,h,b2,hC,e=>by
   simp only[List.length_cons] at hk
   have e':bzL ps tks y s=some s':=by
    cases ptr<;>cases tk<;>exact e
   obtain ⟨g2,h3,h4,h5,h6,h7⟩:=rzx ps (k+1) y tks s s' g (by omega) h b2 (fun t ht b T hT u hu=>hC t (by simp [ht]) b T hT u (by simp [hu])) e'
   exact ⟨g2,h3,h4,h5,h6,fun c j q hj hq=>h7 c j q (by simp only[Kf] at*;omega) hq⟩
 | [],_,_,_::_,_,_,_,_,_,h,_,_=>by cases h
 | ⟨_,_,true,_,_⟩::_,_,_,[],_,_,_,_,_,h,_,_=>by cases h
 | ⟨_,_,false,_,_⟩::_,_,_,[],_,_,_,_,_,h,_,_=>by cases h
end
end Go.TV
namespace Go.TV
section
variable {P:Program} {gv:Nat→Value} {n:Nat} {s s':St} {g:G} {a:Act} {w w':World} {R:Type} {E:Env R} {o:Oper}
theorem Dz0 {ω ω':azw} {η η':Pins}: ∀ (rs:List Rt) (k:Nat) (x:bzR rs) (vs:List Value),(∀r∈rs,r.ptr=false)→(∀r∈rs,∀k (x:r.t.den) cs,Rep w ω η r.t ([3,2000]++[k]) r.m x cs→Rep w ω' η' r.t ([3,2000]++[k]) r.m x cs)→
 kzS w ω η k rs x vs→kzS w ω' η' k rs x vs
 | [],_,_,[],_,_,_=>trivial
 |r::rs,k,x,v::vs,hp,hr,⟨h1,h2⟩=>by
  have hpr:=hp r (by simp)
  rw[hpr] at h1
  obtain ⟨cs,h3,h4⟩:=h1
  exact ⟨by rw[hpr];exact ⟨cs,hr r (by simp) k _ cs h3,h4⟩,Dz0 rs (k+1) x.2 vs (fun q hq=>hp q (by simp [hq])) (fun q hq=>hr q (by simp [hq])) h2⟩
 | [],_,_,_::_,_,_,h=>by cases h
 |_::_,_,_,[],_,_,h=>by cases h
theorem NzN {ω ω':azw} {η η':Pins} {rs:List Rt} {t:Ty} {m:Mk} (hrs:rs=[⟨t,m,true⟩]) {x:bzR rs} {vs:List Value} (hb: ∀b,ω b=some [3,502000]→ω' b=some [3,502000]) (hr: ∀r∈rs,∀k (x:r.t.den) cs,Rep w ω η r.t ([3,2000]++[k]) r.m x cs→Rep w ω' η' r.t ([3,2000]++[k]) r.m x cs)
 (h:kzS w ω η 0 rs x vs):kzS w ω' η' 0 rs x vs:=by
 subst hrs
 cases vs with
 |nil=>cases h
 |cons v vs=>
  obtain ⟨⟨b0,cells,te,fr,h1,h2,h3,h4,h5⟩,h6⟩:=h
  exact ⟨⟨b0,cells,te,fr,h1,hb b0 h2,h3,h4,hr _ (by simp) _ _ _ h5⟩,by
   cases vs with
   |cons _ _=>cases h6
   |nil=>trivial⟩
theorem Hzd {ω:azw} {η:Pins}: ∀ (rs:List Rt) (k:Nat) (x:bzR rs) (vs:List Value),kzS w ω η k rs x vs→vs.length=rs.length
 | [],_,_,[],_=>rfl
 |r::rs,k,x,v::vs,⟨_,h2⟩=>by simp [Hzd rs (k+1) x.2 vs h2]
 | [],_,_,_::_,h=>by cases h
 |_::_,_,_,[],h=>by cases h
theorem HzT: ∀ (rs:List Rt) (x:bzR rs) (ws:List VV),rsVV rs x=some ws→ ∀r∈rs,r.ptr=false
 | [],_,_,_,r,hr=>by simp at hr
 | ⟨t,m,false⟩::rs,x,ws,h,r,hr=>by
   simp only[rsVV] at h
   split at h
   ·rename_i ws' hw
    rcases List.mem_cons.1 hr with rfl|hr
    ·rfl
    ·exact HzT rs x.2 ws' hw r hr
   ·cases h
 | ⟨t,m,true⟩::rs,x,ws,h,r,hr=>by simp [rsVV] at h
theorem Dzp {ω:azw} {η:Pins}: ∀ (rs:List Rt) (k:Nat) (x:bzR rs) (vs:List Value) (ws:List VV),kzS w ω η k rs x vs→rsVV rs x=some ws→vs.length=ws.length∧ ∀i c v,ws[i]?=some c→vs[i]?=some v→LzW w ω η ([3,2000]++[k+i]) c v
 | [],_,_,[],ws,_,e=>by
   simp only[rsVV] at e
   cases e
   exact ⟨rfl,fun i c v h=>by simp at h⟩
 | ⟨t,m,false⟩::rs,k,x,v::vs,ws,⟨h1,h2⟩,e=>by
   simp only[rsVV] at e
   split at e
   ·rename_i ws' hw
    cases e
    obtain ⟨h3,h4⟩:=Dzp rs (k+1) x.2 vs ws' h2 hw
    refine ⟨by simp [h3],fun i c v' hc hv=>?_⟩
    cases i with
    |zero=>
     simp only[List.getElem?_cons_zero,Option.some.injEq] at hc hv
     subst hc;subst hv
     exact h1
    |succ i=>
     have:=h4 i c v' (by simpa using hc) (by simpa using hv)
     rw[show k+(i+1)=k+1+i by omega];exact this
   ·cases e
 | ⟨t,m,true⟩::rs,k,x,_,ws,_,e=>by simp [rsVV] at e
 | [],_,_,_::_,_,h,_=>by cases h
 | ⟨_,_,false⟩::_,_,_,[],_,h,_=>by cases h
theorem uzP {s3:St} {rs:List Rt} {x:bzR rs} {d:Option Nat} {W:VV} (e:nzT d s3 rs x=some (W,s')):
 (∃t m,∃h:rs=[⟨t,m,false⟩],W= .v t m (show bzR [⟨t,m,false⟩] from h▸x).1∧s'=s3)∨(rs.length≠1∧ ∃ws,rsVV rs x=some ws∧W= .tup ws∧s'=s3)∨
 (∃t m b,∃h:rs=[⟨t,m,true⟩],W= .box b 0∧s'=s3.new b (.v t m (show bzR [⟨t,m,true⟩] from h▸x).1)):=by
 match rs,x,e with
 | [],x,e=>
   right;left
   simp only[nzT,rsVV] at e
   cases e
   exact ⟨by simp,[],rfl,rfl,rfl⟩
 | [⟨t,m,true⟩],x,e=>
   right;right
   simp only[nzT] at e
   cases d with
   |none=>cases e
   |some b=>cases e;exact ⟨t,m,b,rfl,rfl,rfl⟩
 | [⟨t,m,false⟩],x,e=>
   left
   simp only[nzT] at e
   cases e
   exact ⟨t,m,rfl,rfl,rfl⟩
 |r1::r2::rs,x,e=>
  right;left
  simp only[nzT] at e
  split at e
  ·rename_i ws hws
   cases e
   exact ⟨by simp,ws,hws,rfl,rfl⟩
  ·cases e
theorem Rel.adopt {gl:Nat→Option VV} {s:St} {g:G} {w:World} (h:Rel gl gv n s g a w) {d j b0:Nat} {T:Ty} {m:Mk} {x:T.den} {cells:Array Value} {e:TypeId} {fr:Nat×Nat} (hj:j≠2000) (hb:g.ω b0=some [3,j]) (hh:w.heap[b0]?=some (.cells cells e fr))
 (hu:bzg fr cells.size) (hy:Rep w g.ω g.η T ([3,2000]++[0]) m x cells.toList):
 ∃g',Rel gl gv n (s.new d (.v T m x)) g' a w∧g'.φ d=b0∧g'.η=g.η∧azJ w w g.ω g'.ω∧ ∀b i q,i≠2000→i≠j→g.ω b=some ([3,i]++q)→g'.ω b=some ([3,i]++q):=by
 let P:Path:=[3,2000]++[0]
 let ω':azw:=fun b=>if b=b0 then some [2,d] else mv g.ω P (azC true d) b
 let g':G:={g with ω:=ω',φ:=fun b=>if b=d then b0 else g.φ b,bc:=fun b=>if b=d then cells.toList else g.bc b}
 have hω: ∀b,b≠b0→ω' b=mv g.ω P (azC true d) b:=fun b hb=>by simp only[ω'];rw[if_neg hb]
 have hst:azJ w w g.ω ω':=fun b _ hq=>⟨by rw[hω b (by rintro rfl;rw[hb] at hq;cases hq)];exact tzO hq,rfl⟩
 have hkeep: ∀b q,g.ω b=some q→q≠ [3,j]→ ¬P<+:q→ω' b=some q:=fun b q hq h1 h2=>by
  rw[hω b (by rintro rfl;rw[hb] at hq;exact h1 (Option.some.inj hq).symm)];exact bzk hq h2
 have hP: ∀q:Path,P<+:q→[3,2000]<+:q:=fun q hq=>List.IsPrefix.trans (List.prefix_append [3,2000] [0]) hq
 have hoff: ∀ (bx:Bool) i (b:Nat) (q:Path),g.ω b=some (azC bx i++q)→ω' b=some (azC bx i++q)∧w.heap[b]?=w.heap[b]?:=fun bx i b q hq=>
  ⟨hkeep b _ hq (by cases bx<;>simp [azC]) (fun hh=>azI (.inl (by cases bx<;>decide)) (hP _ hh)),rfl⟩
 have hget: ∀ (q:Pl) z,(q.bx=false∨q.n≠d)→s.get q=some z→(s.new d (.v T m x)).get q=some z:=fun q z hq hg=>
  nzS (fun T' M x' hr=>by
   cases hb:q.bx with
   |false=>rw[hb] at hr;simp only[St.root,cond_false] at hr;simp only[St.root,cond_false,St.new,St.updBx,St.jb,hr];rfl
   |true=>
    rw[hb] at hr hq
    have hq':q.n≠d:=by rcases hq with hq|hq;cases hq;exact hq
    have:Nat.beq q.n d=false:=by cases hc:Nat.beq q.n d;rfl;exact absurd (Nat.eq_of_beq_eq_true hc) hq'
    simp only[St.root,cond_true] at hr
    simp only[St.root,cond_true,St.new,St.updBx,St.jb,this,cond_false,hr]) hg
 have hav: ∀ (X:VV) (v:Value),AV s g w X v→AV (s.new d (.v T m x)) g' w (X.jb d) v:=by
  intro X v hx
  rcases sz1 d X with e| ⟨e,hp,hb⟩
  ·rw[e];trivial
  ·rw[e]
   refine hx.keep rfl hst (fun b hb'=>?_) (fun q hq=>⟨fun y m hy=>⟨y,hget q _ (hp q hq) hy,rfl⟩,?_⟩) (fun q hs hq=>⟨fun z hz=>hget q z (hp q hq) hz,fun r N c hc=>rfl⟩)
   ·have:b≠d:=by rintro rfl;exact hb hb'
    simp only[g',if_neg this]
   ·simp only[G.cells,G.rc]
    cases hbx:q.bx with
    |false=>rfl
    |true=>
     rcases hp q hq with h|h
     ·rw[hbx] at h;cases h
     ·simp only[cond_true,g',if_neg h]
 refine ⟨g',⟨fun i=>?_,fun b=>?_,fun i t x o hi=>?_,fun b hb=>?_,h.sz,h.df⟩,by simp [g'],rfl,hst,fun b i q h1 h2 hq=>hkeep b _ hq (fun hh=>by simp at hh;exact h2 hh.1) (fun hh=>azI (.inr (Ne.symm h1)) (hP _ hh))⟩
 ·show RV _ g' w _ _ ((s.tm i).jb d) _
  have hi:=h.tm i
  rcases hi.alias with ⟨t,m2,x2,e⟩| ⟨vs,e⟩|ha
  ·rw[e] at hi⊢
   exact hi.keep (g':=g') rfl hst (fun b q hq=>hoff false i b q hq) (fun ha=>by cases ha)
  ·rw[e] at hi⊢
   exact hi.keep (g':=g') rfl hst (fun b q hq=>hoff false i b q hq) (fun ha=>by cases ha)
  ·exact RV.of_AV (hav _ _ ha)
 ·by_cases hbd:b=d
  ·subst hbd
   have e1:(s.new b (.v T m x)).bx b= .v T m x:=by simp [St.new,St.updBx]
   rw[e1]
   refine ⟨by simp [g',ω'],⟨cells,e,fr,by simp only[g',if_true];exact hh,hu,by simp only[g',if_true]⟩,?_⟩
   simp only[g',if_true]
   exact Rep.mono hst _ _ _ _ _ _ (fun b' q _ hq=>⟨by
    rw[hω _ (by rintro rfl;rw[hb] at hq;simp at hq)];exact ozy hq,rfl⟩) hy
  ·have e1:(s.new d (.v T m x)).bx b=s.bx b:=by
    have:Nat.beq b d=false:=by cases hc:Nat.beq b d;rfl;exact absurd (Nat.eq_of_beq_eq_true hc) hbd
    simp [St.new,St.updBx,this,St.jb]
   rw[e1]
   have hu:=h.bx b
   cases hv:s.bx b with
   |v T' m' x'=>
    rw[hv] at hu
    obtain ⟨h1,⟨cells2,e2,fr2,h2,h3,h4⟩,h5⟩:=hu
    have:=hkeep _ _ h1 (by simp) (fun hh=>by have:=hP _ hh;simp at this)
    refine ⟨by simp only[g',if_neg hbd];exact this,⟨cells2,e2,fr2,by simp only[g',if_neg hbd];exact h2,h3,by simp only[g',if_neg hbd];exact h4⟩,?_⟩
    simp only[g',if_neg hbd]
    exact Rep.mono hst _ _ _ _ _ _ (fun b' q _ hq=>hoff true b b' q hq) h5
   |junk=>trivial
   |_=>rw[hv] at hu;exact hu
 ·exact (h.gl i t x o hi).keep rfl hst (fun _ _=>rfl) (fun q hq=>by cases hq) (fun q hq=>by cases hq)
 ·by_cases hb2:b=b0
  ·subst hb2;exact xzH hh
  ·simp only[g',ω',if_neg hb2] at hb
   exact h.lt b (nzX hb)
theorem FzR {g3:G} {s3:St} {rs:List Rt} {x:bzR rs} {vs:List Value} {d:Option Nat} {W:VV} (h:Rel E.gl gv n s3 g3 a w') (hη:g3.η=g.η) (hr:kzS w' g3.ω g3.η 0 rs x vs) (he:Evo w w' g.ω g3.ω)
 (e:nzT d s3 rs x=some (W,s')):Gave E gv n a g w W s' (retV vs) w':=by
 rcases uzP e with ⟨t,m,rfl,rfl,rfl⟩| ⟨hne,ws,hws,rfl,rfl⟩| ⟨t,m,b,rfl,rfl,rfl⟩
 ·cases vs with
  |nil=>cases hr
  |cons v vs=>
   obtain ⟨⟨cs,h1,h2⟩,h3⟩:=hr
   cases vs with
   |cons _ _=>cases h3
   |nil=>
    let ω':=mv g3.ω ([3,2000]++[0]) [3,2001]
    have hst:azJ w' w' g3.ω ω':=bzJ
    have h4:=h.reown (ω':=ω') (fun b q hq hp=>bzk hq fun hh=>hp (List.IsPrefix.trans (by simp) hh)) hst (fun b hb=>nzX hb)
    refine ⟨_,cs,2001,h4,hη,⟨Rep.mono hst _ _ _ _ _ _ (fun b q _ hq=>⟨ozy hq,rfl⟩) h1,h2⟩,he.trans (Evo.same hst (Hzv (by simp) (by simp)))⟩
 ·obtain ⟨h1,h2⟩:=Dzp rs 0 x vs ws hr hws
  have hl:=Hzd rs 0 x vs hr
  refine ⟨g3,[],2000,h,hη,⟨vs,?_,h1,fun i c v hc hv=>?_⟩,he⟩
  ·match vs,hl with
   | [],_=>rfl
   | [v],hl=>exact absurd hl.symm hne
   |_::_::_,_=>rfl
  ·have:=h2 i c v hc hv
   rw[Nat.zero_add] at this
   exact this
 ·cases vs with
  |nil=>cases hr
  |cons v vs=>
   obtain ⟨⟨b0,cells,te,fr,h1,h2,h3,h4,h5⟩,h6⟩:=hr
   cases vs with
   |cons _ _=>cases h6
   |nil=>
    obtain ⟨g',k1,k2,k3,k4,k5⟩:=h.adopt (d:=b) (by decide) h2 h3 h4 h5
    refine ⟨g',[],0,k1,k3.trans hη,?_,he.trans (Evo.same k4 fun c q hq=>⟨k5 c 1000000 q (by decide) (by decide) hq,rfl⟩)⟩
    show v=Value.pointer _
    rw[h1,k2]
theorem Kzd (h:Rel E.gl gv n s g a w) (hgv: ∀i,a.eval (.global i)=gv i) {f:Nat} {σ:Sig} (hC:CallsOk P E.gl gv f σ) {xs:List Operand} {x:azQ σ.ps} {d:Option Nat} {k:bzR σ.rs×azP σ.ps→Option (VV×St)}
 (e:gzf E s d σ xs=some (.call σ x k)) {r:bzR σ.rs×azP σ.ps} (hr:σ.f x=some r) {W:VV} (hk:k r=some (W,s')):
 Calls P f (xs.map a.eval).toArray w fun
  | .returned v,w'=>Gave E gv n a g w W s' v w'
  |_,_=>False:=by
 unfold gzf at e
 split at e
 case h_2=>cases e
 rename_i x0 tks s1 e1
 split at e
 case h_2=>cases e
 rename_i z s2 e2
 cases hto:FzL tks<;>rw[hto] at e
 ·cases e
 simp only[cond_true,Option.some.injEq,Ev.call.injEq,heq_eq_eq,true_and] at e
 obtain ⟨rfl,rfl⟩:=e
 obtain ⟨k1,k2,k3,k4,k5,k6⟩:=Sig.ok_out hC.ok
 obtain ⟨g1,h1,l1,t1⟩:=wzy hgv σ.ps xs 0 s s1 g x0 tks (by omega) h e1
 obtain ⟨g2,h2,l2,hg2,r2⟩:=qz7 hgv σ.ps.length σ.alias σ.ps xs x0 z s1 s2 g1 h1 e2
 have t2:=tzC.later l2 σ.ps 0 xs x0 tks (fun _ _ _=>⟨id,id,id⟩) t1
 let ηc:=HzW (hzj w g2 σ.ps tks)
 have hpins: ∀e∈hzj w g2 σ.ps tks,ηc e.1=some e.2:=Cz4 _ (by rw[rzG w g2 σ.ps tks (tzC.length _ _ _ _ _ t2) (fun p hp hl=>(k3 p hp).1 hl)];exact k4)
 have hargs:=Lzl (N:=σ.ps.length) (al:=σ.alias) (η:=ηc) σ.ps 0 xs x0 z tks (by omega) k3 t2 r2 hpins
 have hgl:vzF E.gl gv w (bzs g2.ω σ.ps.length σ.alias) ηc:=fun i t x o hi=>by
  obtain ⟨b,off,row,j1,j2,j3,j4,j5,j6⟩:=h2.gl i t x o hi
  exact ⟨b,off,row,j1,⟨j2.1,ozV j2.2⟩,j3,j4,Rep.reη _ _ _ _ _ rfl (Rep.sh_mono Hzo _ _ _ _ _ j5),j6⟩
 have hlt: ∀b,bzs g2.ω σ.ps.length σ.alias b≠none→b<w.heap.size:=fun b hb=>h2.lt b fun hn=>hb (ozV hn)
 refine Calls.mono (hC.calls w _ ηc z _ r hgl hargs hlt hr) fun en w' hp=>?_
 cases en with
 |panicked _=>exact hp.elim
 |outgrown=>exact hp.elim
 |returned v=>
  obtain ⟨ωc',vs,j1,j2,j3,rfl,j5⟩:=hp
  have hx:Across w w' g2.ω ωc' σ.ps.length σ.alias:=⟨j1.still,j1.far,h2.lt,j2,j1.size⟩
  have h3:=h2.across hx
  have hb:=Az9 (ηc:=ηc) hx k5 σ.ps 0 xs x0 r.2 tks (by omega) k3 (k1.imp id fun h=>h.2) t2 hpins j5
  simp only at hk
  split at hk
  ·rename_i s3 e3
   have hC2: ∀t∈tks,∀b T,t= .box b T→ ∀u∈tks,tkBx u≠some b:=by
    intro t ht b T hT u hu hub
    simp only[FzL,List.all_eq_true] at hto
    have:=hto t ht
    rw[hT] at this
    simp only[List.all_eq_true] at this
    have:=this u hu
    rw[hub] at this
    simp at this
   obtain ⟨g3,h4,q1,q2,q3,q4⟩:=rzx σ.ps 0 r.2 tks s2 s3 _ (by omega) h3 hb hC2 e3
   have hηg:g3.η=g.η:=q2.trans (l2.η.trans l1.η)
   have hmove: ∀rt∈σ.rs,∀kk (xx:rt.t.den) cs,Rep w' ωc' ηc rt.t ([3,2000]++[kk]) rt.m xx cs→Rep w' g3.ω g3.η rt.t ([3,2000]++[kk]) rt.m xx cs:=by
    intro rt hrt kk xx cs hrep
    have hal:σ.alias=true∨alone rt.t rt.m=true:=k1.imp id fun h=>h.1 rt hrt
    have b1:=PzK (w:=w) (p:=[kk]) hx (show 2000≠1000000 by decide) hal hrep
    have b2:Rep w' g3.ω ηc rt.t ([3,2000]++[kk]) rt.m xx cs:=Rep.mono q3 _ _ _ _ _ _ (fun b q _ hq=>⟨by
     have:=q4 b 2000 ([kk]++q) (by simp only[Kf];omega) (by simpa using hq)
     simpa using this,rfl⟩) b1
    exact Rep.reη _ _ _ _ _ (k2 rt hrt).1 b2
   have hrets:kzS w' g3.ω g3.η 0 σ.rs r.1 vs:=by
    have hnp:(∀rt∈σ.rs,rt.ptr=false)→kzS w' g3.ω g3.η 0 σ.rs r.1 vs:=fun hnp=>Dz0 σ.rs 0 r.1 vs hnp hmove j3
    rcases uzP hk with ⟨t,m,hrs,_⟩| ⟨_,ws,hws,_⟩| ⟨t,m,b,hrs,_⟩
    ·refine hnp fun rt hrt=>?_
     rw[hrs] at hrt
     simp only[List.mem_singleton] at hrt
     rw[hrt]
    ·exact hnp (HzT _ _ ws hws)
    ·refine NzN hrs (fun b0 hb0=>?_) hmove j3
     have:=Fzz (q:=[]) hx (show 502000≠1000000 by decide) (by simpa using hb0)
     have:=q4 b0 502000 [] (by simp only[Kf];omega) this
     simpa using this
   have hfarH: ∀q,izw σ.ps.length ([3,1000000]++q)=false:=by
    intro q
    have e1:Nat.ble (1000000+1) σ.ps.length=false:=by
     cases hc:Nat.ble (1000000+1) σ.ps.length
     ·rfl
     ·have:=Nat.le_of_ble_eq_true hc;omega
    have e2:Nat.ble (1000000+1) (500000+σ.ps.length)=false:=by
     cases hc:Nat.ble (1000000+1) (500000+σ.ps.length)
     ·rfl
     ·have:=Nat.le_of_ble_eq_true hc;omega
    show (Nat.ble (1000000+1) σ.ps.length||(Nat.ble 500000 1000000&&Nat.ble (1000000+1) (500000+σ.ps.length)))=false
    rw[e1,e2,Bool.and_false];rfl
   refine FzR h4 hηg hrets ⟨j1.os,j1.tape,j1.output,j1.size,(l1.still.trans l2.still).trans ((Czj hx).trans q3),fun b q hq=>?_⟩ hk
   have f1:=l1.hands b 1000000 q (by simp only[Kf];omega) hq
   have f2:=l2.hands b 1000000 q id f1
   exact ⟨q4 b 1000000 q (by simp only[Kf];omega) (Ez7 f2 (hfarH q)),(hx.other f2 (hfarH q)).1⟩
  ·cases hk
theorem BzB {α:Type} {b:Bool} {x:Option α} {r:α} (h:cnd b x none=some r):b=true∧x=some r:=by
 cases b
 ·cases h
 ·exact ⟨rfl,h⟩
theorem rzN {α β:Type} {x:Option α} {f:α→Option β} {r:β} (h:bnd x f=some r): ∃y,x=some y∧f y=some r:=by
 cases x with
 |none=>cases h
 |some y=>exact ⟨y,rfl,h⟩
theorem IzD {d:Option Nat} {σ σ':Sig} {xs:List Operand} {x:azQ σ'.ps} {k:bzR σ'.rs×azP σ'.ps→Option (VV×St)} (e:gzf E s d σ xs=some (.call σ' x k)):σ'=σ:=by
 unfold gzf at e
 split at e
 ·split at e
  ·rename_i tks _ _ _ _ _ _
   generalize FzL _=bt at e
   cases bt<;>simp at e
   exact e.1.symm
  ·cases e
 ·cases e
theorem rzc {d:Option Nat} {σ:Sig} {xs:List Operand} {ev:Ev} (e:gzf E s d σ xs=some ev): ∃x k,ev= .call σ x k:=by
 unfold gzf at e
 split at e
 ·split at e
  ·rename_i tks _ _ _ _ _ _
   generalize FzL _=bt at e
   cases bt<;>simp at e
   exact ⟨_,_,e.symm⟩
  ·cases e
 ·cases e
theorem Hzl {α:Type} {z:Bool} {x y:Option α} {r:α} (h:cnd z (agree x y) y=some r):y=some r∧(z=true→x=some r):=by
 cases z
 ·exact ⟨h,fun h=>by cases h⟩
 ·simp only[cnd,cond_true,agree] at h
  split at h
  ·rename_i he;rw[←he];exact ⟨h,fun _=>h⟩
  ·cases h
theorem NzW (h:Rel E.gl gv n s g a w) (hgv: ∀ (a:Act) i,a.eval (.global i)=gv i) (hT: ∀t T,E.tt t=some T→TyOk P T t) (hdeep: ∀t T,E.tt t=some T→deep T<10000) (hcalls: ∀f σ,E.call f=some σ→CallsOk P E.gl gv f σ)
 (hdst: ∀d,o.dst=some d→d<n) {κ:St→Option R} {r:R} (e:opK E o κ s=some r) {next:Act→World→Prop} {Q:Exit→Act→World→Prop}
 (hnext: ∀s' g' v w',Rel E.gl gv n s' g' (a.put o.dst v) w'→g'.η=g.η→Evo w w' g.ω g'.ω→κ s'=some r→next (a.put o.dst v) w'):o.wp P a w next Q:=by
 have fin: ∀ {W:VV} {s1:St} {v:Value} {w':World},Runs P o a w v w'→Gave E gv n a g w W s1 v w'→κ (s1.put o.dst W)=some r→o.wp P a w next Q:=by
  intro W s1 v w' hr hg hk
  obtain ⟨g',h1,h2,h3⟩:=hg.put hdst
  unfold Oper.wp
  rcases hr with hr| ⟨hr,rfl⟩
  ·rw[hr];exact hnext _ _ _ _ h1 h2 h3 hk
  ·rw[hr];exact hnext _ _ _ _ h1 h2 h3 hk
 by_cases hcf: ∃c f,o.op= .call c∧c.callee= .value (.func f)
 ·obtain ⟨c,f,hop,hc⟩:=hcf
  have hev: ∀ev,dzH E s o=some ev→ ∃σ,E.call f=some σ∧gzf E s o.dst σ c.args.toList=some ev:=by
   intro ev he
   unfold dzH at he
   simp only[hop,hc] at he
   split at he
   ·rename_i σ hσ;exact ⟨σ,hσ,he⟩
   ·cases he
  unfold opK at e
  split at e
  ·rename_i W s1 he
   obtain ⟨σ,_,hce⟩:=hev _ he
   obtain ⟨_,_,hx⟩:=rzc hce
   cases hx
  ·rename_i c W s1 he
   obtain ⟨σ,_,hce⟩:=hev _ he
   obtain ⟨_,_,hx⟩:=rzc hce
   cases hx
  ·rename_i σ x k he
   obtain ⟨rr,hf,e⟩:=rzN e
   split at e
   ·rename_i W s1 hk
    obtain ⟨σ0,hσ,hce⟩:=hev _ he
    have:=IzD hce
    subst this
    have hC:=hcalls _ _ hσ
    have hcall:=Kzd h (hgv a) hC hce hf hk
    unfold Oper.wp
    have hargs:(c.args.toList.map a.eval).toArray=c.args.map a.eval:=by
     apply Array.toList_inj.1
     rw[Array.toList_map]
    have hrun:(execOp a.eval o).run P w= .ok (.enter f (c.args.toList.map a.eval).toArray) w:=by
     have hf0:a.eval (.func f)= .func (.func f) #[] #[]:=rfl
     rw[hargs]
     have:=hC.enter (c.args.map a.eval) w
     simp [execOp,hop,resolve,hc,hf0,Deferred.ofValue,invoke,this]
    rw[hrun]
    refine Calls.mono hcall fun en w' hp=>?_
    cases en with
    |panicked _=>exact hp.elim
    |outgrown=>exact hp.elim
    |returned v=>
     obtain ⟨g',h1,h2,h3⟩:=(show Gave E gv n a g w W s1 v w' from hp).put hdst
     exact hnext _ _ _ _ h1 h2 h3 e
   ·cases e
  ·rename_i z b s1 he
   obtain ⟨σ,_,hce⟩:=hev _ he
   obtain ⟨_,_,hx⟩:=rzc hce
   cases hx
  ·cases e
 ·have hnc: ∀c f,o.op= .call c→c.callee≠ .value (.func f):=fun c f h1 h2=>hcf ⟨c,f,h1,h2⟩
  unfold opK at e
  split at e
  ·rename_i W s1 he
   obtain ⟨v,w',h1,h2⟩:=nzz h (hgv a) hT hdeep he hnc
   exact fin h1 h2 e
  ·rename_i c W s1 he
   obtain ⟨hc,e⟩:=BzB e
   obtain ⟨v,w',h1,h2⟩:=nzz h (hgv a) hT hdeep he hnc hc
   exact fin h1 h2 e
  ·rename_i σ x k he
   exact (nzz h (hgv a) hT hdeep he hnc).elim
  ·rename_i z b s1 he
   obtain ⟨v,w',c,hc,h1,h2⟩:=nzz h (hgv a) hT hdeep he hnc
   obtain ⟨e1,e2⟩:=Hzl e
   rcases hc with rfl| ⟨hz,rfl⟩
   ·exact fin h1 h2 e1
   ·exact fin h1 h2 (e2 hz)
  ·cases e
end
end Go.TV
namespace Go.TV
def szy (P:Program) (c:Code) (Q:Exit→Act→World→Prop) (a:Act) (w:World):Prop:=
 ∀ (b:Frame) (k:List Item) (cs:List Frame),∃e a' w',Q e a' w'∧Arrives P (lone (b.at a (.code c:: .inLoop c::k)) cs w) b k cs e a' w'
theorem Jzu {P:Program} {c:Code} {Q:Exit→Act→World→Prop} {a:Act} {w:World} (h:szy P c Q a w):(Code.loop c).wp P Q a w:=fun b k cs=>by
 obtain ⟨e,a',w',hq,harr⟩:=h b k cs
 exact ⟨e,a',w',hq, .of_steps (.one step_loop) harr⟩
theorem DzT {P:Program} {c:Code} {Q:Exit→Act→World→Prop} {a:Act} {w:World} (h:c.wp P (Exit.then (szy P c Q) Q) a w):szy P c Q a w:=fun b k cs=>by
 obtain ⟨e,a₁,w₁,hq,harr⟩:=h b (.inLoop c::k) cs
 cases e with
 |normal=>
  obtain ⟨e₂,a₂,w₂,hq₂,harr₂⟩:=hq b k cs
  exact ⟨e₂,a₂,w₂,hq₂, .of_steps (Steps.trans harr (.one step_inLoop)) harr₂⟩
 |exit id=>exact ⟨_,a₁,w₁,hq, .pass (x:= .inLoop c) rfl (fun _ _=> .inl (by simp)) harr⟩
 |goto l=>exact ⟨_,a₁,w₁,hq, .pass (x:= .inLoop c) rfl (fun _ _=> .inl (by simp)) harr⟩
 |ret=>exact ⟨_,a₁,w₁,hq, .pass (x:= .inLoop c) rfl (fun _ _=> .inl (by simp)) harr⟩
 |panic ch=>exact ⟨_,a₁,w₁,hq, .pass (x:= .inLoop c) rfl (fun _ _=> .inl (by simp)) harr⟩
 |outgrown=>exact ⟨_,a₁,w₁,hq, .pass (x:= .inLoop c) rfl (fun _ _=> .inl (by simp)) harr⟩
structure Fix where
 w0:World
 ω0:azw
 η:Pins
 prot:Nat→Bool
 a0:Nat→Value
section
variable {P:Program} {gv:Nat→Value} {n:Nat} {s s':St} {g:G} {a:Act} {w w':World} {R:Type} {E:Env R} {F:Fix} {r0:R}
structure In (E:Env R) (gv:Nat→Value) (n:Nat) (F:Fix) (s:St) (g:G) (a:Act) (w:World):Prop where
 rel:Rel E.gl gv n s g a w
 η:g.η=F.η
 evo:Evo F.w0 w F.ω0 g.ω
 prot: ∀u,F.prot u=true→a.tmps.getD u Go.undef=F.a0 u
def KS (E:Env R) (gv:Nat→Value) (n:Nat) (F:Fix) (r0:R) (κ:St→Option R) (Q:Act→World→Prop):Prop:= ∀s g a w,In E gv n F s g a w→κ s=some r0→Q a w
theorem HzF {a:Act} {d:Option Nat} {v:Value} {u:Nat} (h: ∀e,d=some e→e≠u):(a.put d v).tmps.getD u Go.undef=a.tmps.getD u Go.undef:=by
 cases d with
 |none=>rfl
 |some d=>
  have:=h d rfl
  simp [Act.put,Array.getElem?_setIfInBounds_ne this]
structure Sound (P:Program) (E:Env R) (gv:Nat→Value):Prop where
 hgv: ∀ (a:Act) i,a.eval (.global i)=gv i
 hT: ∀t T,E.tt t=some T→TyOk P T t
 deep: ∀t T,E.tt t=some T→deep T<10000
 calls: ∀f σ,E.call f=some σ→CallsOk P E.gl gv f σ
 mix:P.follows .mixedOrders=true
theorem In.op (h:In E gv n F s g a w) (hS:Sound P E gv) {o:Oper} (hd: ∀d,o.dst=some d→d<n∧F.prot d=false) {κ:St→Option R} (e:opK E o κ s=some r0) {next:Act→World→Prop} (hκ:KS E gv n F r0 κ next) {Q:Exit→Act→World→Prop}:o.wp P a w next Q:=
 NzW h.rel hS.hgv hS.hT hS.deep hS.calls (fun d h=>(hd d h).1) e fun s' g' v w' h1 h2 h3 h4=>hκ s' g' _ w' ⟨h1,h2.trans h.η,h.evo.trans h3,fun u hu=>by
  rw[HzF (fun e he=>by rintro rfl;rw[(hd _ he).2] at hu;cases hu)]
  exact h.prot u hu⟩ h4
theorem In.pass (h:In E gv n F s g a w) {o:Oper} (hd: ∀d,o.dst=some d→d<n∧F.prot d=false): ∃g',In E gv n F (s.put o.dst .undef) g' (a.put o.dst Go.undef) w:=by
 have hg:Gave E gv n a g w .undef s Go.undef w:=⟨g,[],0,h.rel,rfl,rfl,Evo.refl _ _⟩
 obtain ⟨g',h1,h2,h3⟩:=hg.put (fun d h=>(hd d h).1)
 exact ⟨g',h1,h2.trans h.η,h.evo.trans h3,fun u hu=>by
  rw[HzF (fun e he=>by rintro rfl;rw[(hd _ he).2] at hu;cases hu)]
  exact h.prot u hu⟩
theorem Hz2 {s:St} {d:Nat} {W:VV} (h:s.tm d=W):s.upd d W=s:=by
 cases s with
 |mk tm bx=>
  simp only[St.upd,St.mk.injEq,and_true]
  funext j
  cases hj:Nat.beq j d
  ·rfl
  ·have:=Nat.eq_of_beq_eq_true hj
   subst this;exact h.symm
theorem In.bool (h:In E gv n F s g a w) {d:Nat} {b:Bool} (hd:s.tm d= .v .bool .sh b):a.tmps.getD d Go.undef= .bool b:=by
 have hv:=h.rel.tm d
 rw[hd] at hv
 have hc:g.tc d=[.bool b]:=hv.1
 rw[hv.2,hc];rfl
theorem uzv {ops:Array Oper} {a:Act} {j d:Nat} {b:Bool} (hd:(ops[j]?).bind (·.dst)=some d) (h:a.tmps.getD d Go.undef= .bool b):yielded ops a.tmps j=some b:=by
 unfold yielded
 rw[hd]
 simp only[Option.bind_some]
 have:a.tmps[d]?=some (.bool b):=by
  rw[Array.getD_eq_getD_getElem?] at h
  cases hx:a.tmps[d]? with
  |none=>rw[hx] at h;cases h
  |some v=>rw[hx] at h;simp only[Option.getD_some] at h;rw[h]
 rw[this]
theorem szQ {ops:Array Oper} {a:Act} {j d:Nat} (hd:(ops[j]?).bind (·.dst)=some d) (h:a.tmps.getD d Go.undef=Go.undef):yielded ops a.tmps j=none:=by
 unfold yielded
 rw[hd]
 simp only[Option.bind_some]
 cases hx:a.tmps[d]? with
 |none=>rfl
 |some v=>
  rw[Array.getD_eq_getD_getElem?,hx] at h
  simp only[Option.getD_some] at h
  rw[h]
  rfl
theorem tzk (hS:Sound P E gv) {ops:Array Oper} {κ:St→Option R} {Q:Exit→Act→World→Prop} (hκ:KS E gv n F r0 κ (Q .normal)) (hd: ∀o∈ops.toList,∀d,o.dst=some d→d<n∧F.prot d=false):
 ∀ (rest:List Oper) (i:Nat),ops.toList.drop i=rest→KS E gv n F r0 (gzZ E ops κ rest) (wpOps P ops Q (List.range' i rest.length))
 | [],i,hi=>fun s g a w h e=>hκ s g a w h e
 |o::rest,i,hi=>fun s g a w h e=>by
  have hoi:ops.toList[i]?=some o:=by
   have:(ops.toList.drop i)[0]?=some o:=by rw[hi];rfl
   simpa using this
  have hoi':ops[i]?=some o:=by rw[←hoi,Array.getElem?_toList]
  have hdo:=hd o (List.mem_of_getElem? hoi)
  have hrest:ops.toList.drop (i+1)=rest:=by rw[←List.tail_drop,hi];rfl
  have ih:=tzk hS hκ hd rest (i+1) hrest
  have run: ∀s g a w,In E gv n F s g a w→Region.wanted o (yielded ops a.tmps)=true→opK E o (gzZ E ops κ rest) s=some r0→wpOps P ops Q (List.range' i (o::rest).length) a w:=by
   intro s g a w h hw e
   simp only[List.length_cons,List.range'_succ,wpOps,hoi',hw,if_true]
   exact .inl (h.op hS hdo e ih)
  have pass: ∀s g a w,In E gv n F s g a w→Region.wanted o (yielded ops a.tmps)=false→gzZ E ops κ rest (s.put o.dst .undef)=some r0→wpOps P ops Q (List.range' i (o::rest).length) a w:=by
   intro s g a w h hw e
   simp only[List.length_cons,List.range'_succ,wpOps,hoi',hw]
   obtain ⟨g',h'⟩:=h.pass hdo
   exact ih _ _ _ _ h' e
  simp only[gzZ] at e
  split at e
  ·rename_i hg
   exact run s g a w h (by simp [Region.wanted,hg]) e
  ·rename_i j want hg
   split at e
   ·rename_i d hjd
    split at e
    ·rename_i b hb
     have hv:=h.bool hb
     have hy:=uzv (ops:=ops) hjd hv
     cases b<;>cases want<;>simp only[cnd,cond_true,cond_false] at e<;>rw[Hz2 hb] at e
     ·exact run s g a w h (by simp [Region.wanted,hg,hy]) e
     ·exact pass s g a w h (by simp [Region.wanted,hg,hy]) e
     ·exact pass s g a w h (by simp [Region.wanted,hg,hy]) e
     ·exact run s g a w h (by simp [Region.wanted,hg,hy]) e
    ·rename_i hb
     have hv:=h.rel.tm d
     rw[hb] at hv
     have hv':a.tmps.getD d Go.undef=Go.undef:=hv
     have hy:=szQ (ops:=ops) hjd hv'
     exact pass s g a w h (by simp [Region.wanted,hg,hy]) e
    ·cases e
   ·cases e
def dzj (P:Program) (joins:List Nat) (r:Nat):Code→(Exit→Act→World→Prop)→Option (Act→World→Prop)
 | .seq a b,Q=>bif joins.contains r&&Nat.beq (rid b) r then some (b.wp P Q) else
   match dzj P joins r a (Exit.then (b.wp P Q) Q) with
   |some m=>some m
   |none=>dzj P joins r b Q
 | .cond _ x y,Q=>match dzj P joins r x Q with|some m=>some m|none=>dzj P joins r y Q
 | .block id c,Q=>dzj P joins r c (Exit.inBlock id Q)
 | .loop c,Q=>bif Nat.beq (rid c) r then some (szy P c Q) else dzj P joins r c (Exit.then (szy P c Q) Q)
 |_,_=>none
def czV (joins:List Nat):Code→List Nat
 | .seq a b=>(bif joins.contains (rid b) then [rid b] else [])++(czV joins a++czV joins b)
 | .cond _ x y=>czV joins x++czV joins y
 | .block _ c=>czV joins c
 | .loop c=>rid c::czV joins c
 |_=>[]
theorem dzl {joins:List Nat} {r:Nat}: ∀ (c:Code) (Q:Exit→Act→World→Prop) (p:Act→World→Prop),dzj P joins r c Q=some p→r∈czV joins c
 | .seq a b,Q,p,h=>by
   simp only[dzj] at h
   simp only[czV,List.mem_append]
   cases hc:(joins.contains r&&Nat.beq (rid b) r)<;>rw[hc] at h
   ·simp only[cond_false] at h
    split at h
    ·rename_i m hm
     exact .inr (.inl (dzl a _ m hm))
    ·exact .inr (.inr (dzl b _ p h))
   ·simp only[Bool.and_eq_true] at hc
    have:=Nat.eq_of_beq_eq_true hc.2
    left
    rw[this,hc.1]
    simp
 | .cond _ x y,Q,p,h=>by
   simp only[dzj] at h
   simp only[czV,List.mem_append]
   split at h
   ·rename_i m hm;exact .inl (dzl x _ m hm)
   ·exact .inr (dzl y _ p h)
 | .block id c,Q,p,h=>dzl c _ p h
 | .loop c,Q,p,h=>by
   simp only[dzj] at h
   simp only[czV,List.mem_cons]
   cases hc:Nat.beq (rid c) r<;>rw[hc] at h
   ·exact .inr (dzl c _ p h)
   ·exact .inl (Nat.eq_of_beq_eq_true hc).symm
 | .skip,_,_,h=>by simp [dzj] at h
 | .region _ _ _,_,_,h=>by simp [dzj] at h
 | .exit _,_,_,h=>by simp [dzj] at h
 | .ret,_,_,h=>by simp [dzj] at h
 | .scope _,_,_,h=>by simp [dzj] at h
 | .label _,_,_,h=>by simp [dzj] at h
 | .goto _,_,_,h=>by simp [dzj] at h
end
end Go.TV
namespace Go.TV
structure Sub (s t:St):Prop where
 tm: ∀j,s.tm j= .junk∨t.tm j=s.tm j
 bx: ∀b,s.bx b= .junk∨t.bx b=s.bx b
section
variable {s t:St} {R:Type} {E:Env R} {o:Oper}
theorem Sub.get (h:Sub s t) {q:Pl} {z:q.t.den×Mk} (hg:s.get q=some z):t.get q=some z:=nzS (fun T M x hr=>by
 cases hb:q.bx with
 |true=>
  rw[hb] at hr
  simp only[St.root,cond_true] at hr⊢
  rcases h.bx q.n with e|e
  ·rw[e] at hr;cases hr
  ·rw[e];exact hr
 |false=>
  rw[hb] at hr
  simp only[St.root,cond_false] at hr⊢
  rcases h.tm q.n with e|e
  ·rw[e] at hr;cases hr
  ·rw[e];exact hr) hg
theorem Sub.res (h:Sub s t) (W:VV):s.res W= .junk∨t.res W=s.res W:=by
 cases W with
 |ref p=>
  cases hg:s.get p with
  |none=>left;simp only[St.res,hg]
  |some ym=>right;simp only[St.res,hg,h.get hg]
 |sref p i o u=>
  obtain ⟨bx,n,q,T⟩:=p
  cases T with
  |sl U=>
   cases hg:s.get ⟨bx,n,q, .sl U⟩ with
   |none=>left;simp only[St.res,hg]
   |some ym=>right;simp only[St.res,hg,h.get hg]
  |_=>left;simp only[St.res]
 |_=>right;rfl
theorem Sub.opd (h:Sub s t) (ty:Nat) (x:Operand):TV.opd E ty s x= .junk∨TV.opd E ty t x=TV.opd E ty s x:=by
 cases x with
 |tmp u=>exact h.tm u
 |_=>right;rfl
theorem Sub.ro (h:Sub s t) (ty:Nat) (x:Operand):s.res (TV.opd E ty s x)= .junk∨t.res (TV.opd E ty t x)=s.res (TV.opd E ty s x):=by
 rcases h.opd (E:=E) ty x with e|e
 ·left;rw[e];rfl
 ·rw[e];exact h.res _
theorem Sub.peek (h:Sub s t) (ty:Nat) (x:Operand) {T:Ty} {z:T.den×Mk} (e:s.peek T (TV.opd E ty s x)=some z):t.peek T (TV.opd E ty t x)=some z:=by
 rcases h.ro (E:=E) ty x with hj|hj
 ·unfold St.peek at e;rw[hj] at e;cases e
 ·unfold St.peek at e⊢;rw[hj];exact e
def Ev.over (t:St):Ev→Ev→Prop
 | .ok W _, .ok W' t'=>W'=W∧t'=t
 | .chk c W _, .chk c' W' t'=>c'=c∧W'=W∧t'=t
 | .call σ x k,ev'=> ∃k',ev'= .call σ x k'∧ ∀r W s',k r=some (W,s')→k' r=some (W,t)
 |_,_=>False
def Again (E:Env R) (t:St) (o:Oper) (ev:Ev):Prop:= ∃ev',dzH E t o=some ev'∧ev.over t ev'
theorem Dzl {x:Operand} {w:VV} (hw:DzO w=true) {ev:Ev} (e:czZ s x w=some ev) (t:St): ∃ev',czZ t x w=some ev'∧ev.over t ev':=by
 cases w with
 |v T m a=>
  cases m with
  |sh=>simp only[czZ] at e;cases e;exact ⟨_,rfl,rfl,rfl⟩
  |no=>
   simp only[czZ] at e⊢
   cases x with
   |tmp u=>cases e
   |_=>cases e;exact ⟨_,rfl,rfl,rfl⟩
  |own p m=>
   simp only[czZ] at e⊢
   cases x with
   |tmp u=>
    cases ha:(Mk.own p m).all<;>simp only[ha,cond_true,cond_false] at e⊢ <;>cases e
    exact ⟨_,rfl,rfl,rfl⟩
   |_=>cases e;exact ⟨_,rfl,rfl,rfl⟩
  |pr p m=>
   simp only[czZ] at e⊢
   cases x with
   |tmp u=>
    cases ha:(Mk.pr p m).all<;>simp only[ha,cond_true,cond_false] at e⊢ <;>cases e
    exact ⟨_,rfl,rfl,rfl⟩
   |_=>cases e;exact ⟨_,rfl,rfl,rfl⟩
 |junk=>simp [czZ] at e
 |undef=>simp [czZ] at e
 |tup vs=>
  have hw:vs.all shV=true:=hw
  simp only[czZ] at e⊢
  cases x with
  |tmp u=>simp only[hw,cond_true] at e⊢;cases e;exact ⟨_,rfl,rfl,rfl⟩
  |_=>cases e
 |nilp=>simp only[czZ] at e;cases e;exact ⟨_,rfl,rfl,rfl⟩
 |ref p=>simp only[czZ] at e;cases e;exact ⟨_,rfl,rfl,rfl⟩
 |sref p i o u=>simp only[czZ] at e;cases e;exact ⟨_,rfl,rfl,rfl⟩
 |box b o=>simp only[czZ] at e;cases e;exact ⟨_,rfl,rfl,rfl⟩
 |ep p i o=>simp only[czZ] at e;cases e;exact ⟨_,rfl,rfl,rfl⟩
 |cp u x o=>simp only[czZ] at e;cases e;exact ⟨_,rfl,rfl,rfl⟩
theorem Qzw {x:Operand}:czZ s x .junk=none:=rfl
theorem Dzq {op:BinOp} {k:IntKind} {x y:Int} {ev:Ev} (e:Aze op k x y s=some ev) (t:St): ∃ev',Aze op k x y t=some ev'∧ev.over t ev':=by
 cases op<;>simp only[Aze,Option.some.injEq,reduceCtorEq] at e⊢ <;>subst e<;>first|exact ⟨_,rfl,rfl,rfl⟩|exact ⟨_,rfl,rfl,rfl,rfl⟩
theorem Dzv {op:BinOp} {x y:ByteArray} {ev:Ev} (e:zzX op x y s=some ev) (t:St): ∃ev',zzX op x y t=some ev'∧ev.over t ev':=by
 cases op<;>simp only[zzX,Option.some.injEq,reduceCtorEq] at e⊢ <;>subst e<;>first|exact ⟨_,rfl,rfl,rfl⟩|exact ⟨_,rfl,rfl,rfl,rfl⟩
theorem Fzw (h:Sub s t) {op:BinOp} {ty:Nat} {x y:Operand} {ev:Ev} (e:Dze E op ty s (TV.opd E ty s x) (TV.opd E ty s y)=some ev): ∃ev',Dze E op ty t (TV.opd E ty t x) (TV.opd E ty t y)=some ev'∧ev.over t ev':=by
 have hjx:s.res (TV.opd E ty s x)= .junk→s.peek=s.peek→ ∀T,s.peek T (TV.opd E ty s x)=none:=fun hj _ T=>by unfold St.peek;rw[hj];rfl
 rcases h.ro (E:=E) ty x with hx|hx
 ·exfalso
  unfold Dze at e
  rw[hx] at e
  simp only[prEv] at e
  split at e
  ·rename_i A B ht
   rw[show s.peek (.prod A B) .junk=none from rfl] at e
   cases e
  ·cases e
 ·rcases h.ro (E:=E) ty y with hy|hy
  ·exfalso
   unfold Dze at e
   rw[hy] at e
   split at e
   ·rename_i h1;cases h1
   ·rename_i h1;cases h1
   ·rename_i h1;cases h1
   ·unfold prEv at e
    split at e
    ·rename_i A B ht
     rw[show s.peek (.prod A B) .junk=none from rfl] at e
     split at e
     ·rename_i h1;cases h1
     ·cases e
    ·cases e
  ·have hpx: ∀T z,s.peek T (s.res (TV.opd E ty s x))=some z→t.peek T (s.res (TV.opd E ty s x))=some z:=fun T z hz=>by
    rw[rzM] at hz
    rw[←hx,rzM]
    exact h.peek ty x hz
   have hpy: ∀T z,s.peek T (s.res (TV.opd E ty s y))=some z→t.peek T (s.res (TV.opd E ty s y))=some z:=fun T z hz=>by
    rw[rzM] at hz
    rw[←hy,rzM]
    exact h.peek ty y hz
   unfold Dze at e⊢
   rw[hx,hy]
   generalize s.res (TV.opd E ty s x)=X at*
   generalize s.res (TV.opd E ty s y)=Y at*
   have arm:prEv E op ty s X Y=some ev→ ∃ev',prEv E op ty t X Y=some ev'∧ev.over t ev':=by
    intro e
    unfold prEv at e⊢
    split at e
    ·rename_i A B ht
     split at e
     ·rename_i p m q m' h1 h2
      rw[hpx _ _ h1,hpy _ _ h2]
      simp only
      generalize teq (.prod A B) p q=tq at*
      cases tq with
      |none=>cases e
      |some r=>cases op<;>simp only[Option.some.injEq,reduceCtorEq] at e⊢ <;>subst e<;>exact ⟨_,rfl,rfl,rfl⟩
     ·cases e
    ·cases e
   have bb: ∀p q:Bool,bbEv E op ty p q s=some ev→ ∃ev',bbEv E op ty p q t=some ev'∧ev.over t ev':=by
    intro p q e
    unfold bbEv at e⊢
    cases ht:E.tt ty with
    |none=>rw[ht] at e;cases e
    |some T=>rw[ht] at e;cases T<;>cases op<;>simp only[Option.some.injEq,reduceCtorEq] at e⊢ <;>subst e<;>exact ⟨_,rfl,rfl,rfl⟩
   have ii: ∀ (k k':IntKind) (p q:Int),iiEv op k k' p q s=some ev→ ∃ev',iiEv op k k' p q t=some ev'∧ev.over t ev':=by
    intro k k' p q e
    unfold iiEv at e⊢
    by_cases hk:k=k'
    ·cases op<;>simp only[if_pos hk] at e⊢ <;>first| (cases e;exact ⟨_,rfl,rfl,rfl,rfl⟩)|exact Dzq e t
    ·cases op<;>simp only[if_neg hk] at e⊢ <;>first| (cases e;exact ⟨_,rfl,rfl,rfl,rfl⟩)|cases e
   cases X with
   |v T m p=>
    cases T with
    |int k=>
     cases Y with
     |v T' m' q=>
      cases T' with
      |int k'=>exact ii k k' p q e
      |_=>exact arm e
     |_=>exact arm e
    |str=>
     cases Y with
     |v T' m' q=>
      cases T' with
      |str=>exact Dzv e t
      |_=>exact arm e
     |_=>exact arm e
    |bool=>
     cases Y with
     |v T' m' q=>
      cases T' with
      |bool=>exact bb p q e
      |_=>exact arm e
     |_=>exact arm e
    |_=>exact arm e
   |_=>exact arm e
end
end Go.TV
namespace Go.TV
section
variable {s t:St} {R:Type} {E:Env R} {o:Oper}
theorem Dzu (h:Sub s t) {a b:Nat} {x:Operand} {ev:Ev} (e:wz8 E s a b (TV.opd E a s x)=some ev): ∃ev',wz8 E t a b (TV.opd E a t x)=some ev'∧ev.over t ev':=by
 rcases h.ro (E:=E) a x with hx|hx
 ·unfold wz8 at e;rw[hx] at e
  split at e<;>first| (rename_i h1;cases h1;done)|cases e
 ·unfold wz8 at e⊢
  rw[hx]
  split at e<;>try (cases e;done)
  ·cases e;exact ⟨_,rfl,rfl,rfl⟩
  ·cases e;exact ⟨_,rfl,rfl,rfl⟩
  ·cases e;exact ⟨_,rfl,rfl,rfl⟩
  ·rename_i m xs h1 h2 h3
   cases ha:m.all<;>rw[ha] at e<;>cases e
   exact ⟨_,rfl,rfl,rfl⟩
theorem AzV (h:Sub s t) {x:Operand} {W:VV} {i:Int} {T:Ty} {ev:Ev} (e:uzt s x W i T=some ev): ∃ev',uzt t x W i T=some ev'∧ev.over t ev':=by
 unfold uzt at e⊢
 match W,e with
 | .v (.sl U) m xs,e=>
   simp only at e⊢
   cases hT:isTy T (.sl U)<;>rw[hT] at e
   ·cases e
   simp only[cond_true] at e⊢
   cases m with
   |sh=>cases e;exact ⟨_,rfl,rfl,rfl,rfl⟩
   |own p me=>
    simp only at e⊢
    cases x with
    |tmp u=>cases e;exact ⟨_,rfl,rfl,rfl,rfl⟩
    |_=>cases e
   |_=>cases e
 | .ref ⟨bx,n,q, .sl U⟩,e=>
   simp only at e⊢
   cases hT:isTy T (.sl U)<;>rw[hT] at e
   ·cases e
   simp only[cond_true] at e⊢
   split at e
   ·rename_i xs p me hg
    rw[h.get hg]
    cases e;exact ⟨_,rfl,rfl,rfl,rfl⟩
   ·cases e
 | .cp U xs p,e=>
   simp only at e⊢
   cases T with
   |arr n u=>
    simp only at e⊢
    split at e
    ·rename_i ys hy
     cases e;exact ⟨_,rfl,rfl,rfl,rfl⟩
    ·cases e
   |_=>cases e
 | .box b p,e=>
   simp only at e⊢
   cases T with
   |arr n u=>cases e;exact ⟨_,rfl,rfl,rfl,rfl⟩
   |_=>cases e
theorem Dz1 (h:Sub s t) {T:Ty} {W:VV} {ev:Ev} (e:zzi s T W=some ev): ∃ev',zzi t T W=some ev'∧ev.over t ev':=by
 unfold zzi at e⊢
 match W,e with
 | .cp U a p,e=>
   simp only at e⊢
   split at e
   ·rename_i y hy;cases e;exact ⟨_,rfl,rfl,rfl⟩
   ·cases e
 | .ep ⟨bx,n,q, .sl U⟩ i p,e=>
   simp only at e⊢
   cases hg:s.get ⟨bx,n,q, .sl U⟩ with
   |none=>rw[hg] at e;cases e
   |some ym=>
    rw[hg] at e
    rw[h.get hg]
    simp only at e⊢
    split at e
    ·rename_i y hy
     generalize azM T U p ym.2.e=M at*
     cases M<;>simp only[Option.some.injEq,reduceCtorEq] at e⊢ <;>subst e<;>exact ⟨_,rfl,rfl,rfl⟩
    ·cases e
 | .ep ⟨bx,n,q, .arr k U⟩ i p,e=>
   simp only at e⊢
   cases hg:s.get ⟨bx,n,q, .arr k U⟩ with
   |none=>rw[hg] at e;cases e
   |some ym=>
    rw[hg] at e
    rw[h.get hg]
    simp only at e⊢
    split at e
    ·rename_i y hy
     cases ha:ym.2.all<;>rw[ha] at e<;>cases e
     exact ⟨_,rfl,rfl,rfl⟩
    ·cases e
 | .box b p,e=>
   simp only at e⊢
   cases hg:s.get ⟨true,b,p,T⟩ with
   |none=>rw[hg] at e;cases e
   |some ym=>
    obtain ⟨y,m⟩:=ym
    rw[hg] at e
    rw[h.get hg]
    simp only at e⊢
    cases m with
    |sh=>cases e;exact ⟨_,rfl,rfl,rfl⟩
    |no=>cases e
    |own p' me=>
     simp only at e⊢
     cases ha:(Mk.own p' me).all<;>rw[ha] at e<;>cases e
     exact ⟨_,rfl,rfl,rfl⟩
    |pr p' me=>
     simp only at e⊢
     cases ha:(Mk.pr p' me).all<;>rw[ha] at e<;>cases e
     exact ⟨_,rfl,rfl,rfl⟩
theorem BzW (h:Sub s t) {x:Operand} {T:Ty} {f:Nat} {W:VV} (hq:(match W with| .v _ .sh _=>true| .ref _=>true|_=>false)=true) {ev:Ev} (e:uzi s x T f W=some ev): ∃ev',uzi t x T f W=some ev'∧ev.over t ev':=by
 unfold uzi at e⊢
 cases h1:azX T f with
 |none=>rw[h1] at e;cases e
 |some o=>
  cases h2:czR T f with
  |none=>rw[h1,h2] at e;cases e
  |some u=>
   rw[h1,h2] at e
   simp only at e⊢
   match W,hq,e with
   | .v U .sh a,_,e=>
     simp only at e⊢
     cases hT:isTy T U<;>rw[hT] at e
     ·cases e
     simp only[cond_true] at e⊢
     split at e
     ·rename_i y hy
      rw[ezA] at e⊢
      cases e;exact ⟨_,rfl,rfl,rfl⟩
     ·cases e
   | .ref p,_,e=>
     simp only at e⊢
     cases hT:isTy T p.t<;>rw[hT] at e
     ·cases e
     simp only[cond_true] at e⊢
     cases hg:s.get ⟨p.bx,p.n,p.o+o,u⟩ with
     |none=>rw[hg] at e;cases e
     |some ym=>
      obtain ⟨y,m⟩:=ym
      rw[hg] at e
      rw[h.get hg]
      simp only at e⊢
      cases m with
      |sh=>cases e;exact ⟨_,rfl,rfl,rfl⟩
      |no=>cases e
      |own p' me=>
       simp only at e⊢
       cases ha:(Mk.own p' me).all<;>rw[ha] at e<;>cases e
       exact ⟨_,rfl,rfl,rfl⟩
      |pr p' me=>
       simp only at e⊢
       cases ha:(Mk.pr p' me).all<;>rw[ha] at e<;>cases e
       exact ⟨_,rfl,rfl,rfl⟩
theorem Sub.opdT (h:Sub s t) (T:Ty) (ty:Nat) (x:Operand):TV.opdT E T ty s x= .junk∨TV.opdT E T ty t x=TV.opdT E T ty s x:=by
 unfold TV.opdT
 split
 ·right;rfl
 ·exact h.opd ty _
theorem Gzw (h:Sub s t) {T:Ty} {x:Operand} {ty:Nat} (hx:(match x with| .tmp u=>shV (s.tm u)|_=>true)=true) {y:T.den} {m:Mk} {s':St} (e:grabT E T s x ty=some (y,m,s')):s'=s∧grabT E T t x ty=some (y,m,t):=by
 have hg: ∀W s1,grab E s x (TV.opdT E T ty s x)=some (W,s1)→s1=s∧grab E t x (TV.opdT E T ty t x)=some (W,t):=by
  intro W s1 hgr
  cases x with
  |tmp u=>
   have e1:TV.opdT E T ty s (.tmp u)=s.tm u:=rfl
   have e2:TV.opdT E T ty t (.tmp u)=t.tm u:=rfl
   rw[e1] at hgr
   rw[e2]
   simp only at hx
   generalize hu:s.tm u=V at*
   match V,hx with
   | .v U .sh a,_=>
     rcases h.tm u with hj|hj
     ·rw[hu] at hj;cases hj
     ·rw[hj,hu]
      cases hgr;exact ⟨rfl,rfl⟩
  |const v=>
   have e2:TV.opdT E T ty t (.const v)=TV.opdT E T ty s (.const v):=by
    unfold TV.opdT
    split<;>rfl
   rw[e2]
   generalize hV:TV.opdT E T ty s (.const v)=V at*
   unfold grab at hgr⊢
   cases V with
   |v U m a=>cases hgr;exact ⟨rfl,rfl⟩
   |ref p=>
    exfalso
    have hc: ∀ty v p,zz3 E ty v≠ .ref p:=by
     intro ty v p hh
     unfold zz3 at hh
     split at hh<;>try cases hh
     split at hh<;>cases hh
    unfold TV.opdT at hV
    split at hV
    ·split at hV<;>cases hV
    ·exact hc _ _ _ hV
   |_=>cases hgr
  |global i=>
   have e2:TV.opdT E T ty t (.global i)=TV.opdT E T ty s (.global i):=rfl
   rw[e2]
   generalize hV:TV.opdT E T ty s (.global i)=V at*
   unfold grab at hgr⊢
   cases V with
   |v U m a=>cases hgr;exact ⟨rfl,rfl⟩
   |ref p=>
    exfalso
    have hV':TV.opd E ty s (.global i)= .ref p:=hV
    simp only[TV.opd] at hV'
    split at hV'<;>cases hV'
   |_=>cases hgr
  |func f=>cases hgr
 unfold grabT at e⊢
 split at e
 ·rename_i W s1 hgr
  obtain ⟨q1,q2⟩:=hg W s1 hgr
  rw[q2]
  simp only
  split at e
  ·rename_i y' m' hy
   cases ha:m'.all<;>rw[ha] at e<;>cases e
   exact ⟨q1,rfl⟩
  ·cases e
 ·cases e
theorem gzF (h:Sub s t) {ps:List (Nat×Operand)} (hp:ps.all (EzC s)=true) {T:Ty} {i:Nat} {y:T.den} {m:Mk} {s':St} (e:yzc E ps T i s=some (y,m,s')):s'=s∧yzc E ps T i t=some (y,m,t):=by
 unfold yzc at e⊢
 cases hf:ps.find? (fun p=>Nat.beq p.1 i) with
 |none=>rw[hf] at e;cases e;exact ⟨rfl,rfl⟩
 |some px=>
  obtain ⟨j,x⟩:=px
  rw[hf] at e
  have hm:=List.mem_of_find?_eq_some hf
  rw[List.all_eq_true] at hp
  exact Gzw h (hp _ hm) e
theorem uzH (h:Sub s t) {ps:List (Nat×Operand)} (hp:ps.all (EzC s)=true): ∀ (T:Ty) (f:Nat) (y:T.den) (m:Mk) (s':St),ezu E ps T f s=some (y,m,s')→s'=s∧ezu E ps T f t=some (y,m,t)
 | .unit,f,y,m,s',e=>by simp only[ezu] at e⊢;cases e;exact ⟨rfl,rfl⟩
 | .prod a b,f,y,m,s',e=>by
   simp only[ezu] at e⊢
   split at e
   ·rename_i x1 m1 s1 h1
    obtain ⟨w1,q1⟩:=gzF h hp h1
    rw[w1] at e
    split at e
    ·rename_i x2 m2 s2 h2
     obtain ⟨w2,q2⟩:=uzH h hp b (f+1) x2 m2 s2 h2
     rw[w2] at e
     cases e
     rw[q1];simp only;rw[q2];exact ⟨trivial,rfl⟩
    ·cases e
   ·cases e
 | .item,f,y,m,s',e=>by
   simp only[ezu] at e⊢
   split at e
   ·rename_i x1 m1 s1 h1
    obtain ⟨w1,q1⟩:=gzF h hp h1
    rw[w1] at e
    split at e
    ·rename_i x2 m2 s2 h2
     obtain ⟨w2,q2⟩:=gzF h hp h2
     rw[w2] at e
     split at e
     ·rename_i x3 m3 s3 h3
      obtain ⟨w3,q3⟩:=gzF h hp h3
      rw[w3] at e
      cases e
      rw[q1];simp only;rw[q2];simp only;rw[q3];exact ⟨trivial,rfl⟩
     ·rename_i x3 s3 h3
      obtain ⟨w3,q3⟩:=gzF h hp h3
      rw[w3] at e
      cases e
      rw[q1];simp only;rw[q2];simp only;rw[q3];exact ⟨trivial,rfl⟩
     ·cases e
    ·cases e
   ·cases e
 | .int _,_,_,_,_,e=>by simp [ezu] at e
 | .bool,_,_,_,_,e=>by simp [ezu] at e
 | .str,_,_,_,_,e=>by simp [ezu] at e
 | .sl _,_,_,_,_,e=>by simp [ezu] at e
 | .arr _ _,_,_,_,_,e=>by simp [ezu] at e
theorem nz7 (h:Sub s t) {ps:List (Nat×Operand)} (hp:ps.all (EzC s)=true) {T:Ty}: ∀ (k i:Nat) (xs:List T.den) (m:Mk) (s':St),nzA E T ps i k s=some (xs,m,s')→s'=s∧nzA E T ps i k t=some (xs,m,t)
 |0,i,xs,m,s',e=>by simp only[nzA] at e⊢;cases e;exact ⟨rfl,rfl⟩
 |k+1,i,xs,m,s',e=>by
  simp only[nzA] at e⊢
  split at e
  ·rename_i x1 m1 s1 h1
   obtain ⟨w1,q1⟩:=gzF h hp h1
   rw[w1] at e
   split at e
   ·rename_i x2 m2 s2 h2
    obtain ⟨w2,q2⟩:=nz7 h hp k (i+1) x2 m2 s2 h2
    rw[w2] at e
    cases e
    rw[q1];simp only;rw[q2];exact ⟨trivial,rfl⟩
   ·cases e
  ·cases e
end
end Go.TV
namespace Go.TV
section
variable {s t:St} {R:Type} {E:Env R} {o:Oper}
theorem Sub.roT (h:Sub s t) (T:Ty) (ty:Nat) (x:Operand):s.res (TV.opdT E T ty s x)= .junk∨t.res (TV.opdT E T ty t x)=s.res (TV.opdT E T ty s x):=by
 rcases h.opdT (E:=E) T ty x with e|e
 ·left;rw[e];rfl
 ·rw[e];exact h.res _
theorem Sub.peekT (h:Sub s t) {U:Ty} (ty:Nat) (x:Operand) {T:Ty} {z:T.den×Mk} (e:s.peek T (TV.opdT E U ty s x)=some z):t.peek T (TV.opdT E U ty t x)=some z:=by
 rcases h.roT (E:=E) U ty x with hj|hj
 ·unfold St.peek at e;rw[hj] at e;cases e
 ·unfold St.peek at e⊢;rw[hj];exact e
def uzG (ps:List Par):Bool:=ps.all (fun p=>!p.ptr&&!p.io&&p.m.isSh)
theorem qzD: ∀ (ps:List Par) (xs:List Operand),uzG ps=true→ ∀ (x0:azQ ps) (tks:List Tk) (s1:St),fz7 E ps xs s=some (x0,tks,s1)→s1=s∧tks.length=ps.length∧fz7 E ps xs t=some (x0,tks,t)
 | [],[],_,x0,tks,s1,e=>by cases e;exact ⟨rfl,rfl,rfl⟩
 |p::ps,x::xs,hp,x0,tks,s1,e=>by
  simp only[uzG,List.all_cons,Bool.and_eq_true,Bool.not_eq_true'] at hp
  obtain ⟨⟨⟨p1,p2⟩,p3⟩,hp⟩:=hp
  have e1: ∀q,LzE E p x q=some (p.t.zero, .no,q):=fun q=>by simp only[LzE,p1,p2,p3,cond_true,cond_false]
  simp only[fz7,e1] at e⊢
  split at e
  ·rename_i r tk s2 h2
   obtain ⟨q0,q1,q2⟩:=qzD ps xs hp r tk s2 h2
   cases e
   rw[q2]
   exact ⟨q0,by simp [q1],rfl⟩
  ·cases e
 | [],_::_,_,_,_,_,e=>by cases e
 |_::_,[],_,_,_,_,e=>by cases e
theorem qzq (h:Sub s t) {al:Bool}: ∀ (ps:List Par) (xs:List Operand),uzG ps=true→(al=true→szP E s ps xs=true)→ ∀ (x0 z:azQ ps) (s1:St),ezj E al ps xs x0 s=some (z,s1)→s1=s∧ezj E al ps xs x0 t=some (z,t)
 | [],[],_,_,x0,z,s1,e=>by cases e;exact ⟨rfl,rfl⟩
 |p::ps,x::xs,hp,hq,x0,z,s1,e=>by
  simp only[uzG,List.all_cons,Bool.and_eq_true,Bool.not_eq_true'] at hp
  obtain ⟨⟨⟨p1,p2⟩,p3⟩,hp⟩:=hp
  simp only[ezj,p1,p2,p3,Bool.or_false,Bool.not_true,cond_false] at e⊢
  split at e
  ·rename_i y m hy
   rw[h.peekT 0 x hy]
   have hm:(al&&!m.isSh)=false∧(al=true→szP E s ps xs=true):=by
    cases al with
    |false=>exact ⟨rfl,fun h=>by cases h⟩
    |true=>
     have:=hq rfl
     simp only[szP,hy,Bool.and_eq_true] at this
     exact ⟨by rw[this.1];rfl,fun _=>this.2⟩
   simp only[hm.1,cond_false] at e⊢
   split at e
   ·rename_i r s2 h2
    obtain ⟨q0,q1⟩:=qzq h ps xs hp hm.2 x0.2 r s2 h2
    cases e
    rw[q1]
    exact ⟨q0,rfl⟩
   ·cases e
  ·cases e
 | [],_::_,_,_,_,_,_,e=>by cases e
 |_::_,[],_,_,_,_,_,e=>by cases e
theorem qzJ: ∀ (ps:List Par) (tks:List Tk),uzG ps=true→ ∀ (y:azP ps) (s1:St),bzL ps tks y s=some s1→s1=s∧bzL ps tks y t=some t
 | [],[],_,y,s1,e=>by cases e;exact ⟨rfl,rfl⟩
 | ⟨T,m,false,ptr,b⟩::ps,tk::tks,hp,y,s1,e=>by
   simp only[uzG,List.all_cons,Bool.and_eq_true] at hp
   simp only[bzL] at e⊢
   exact qzJ ps tks hp.2 y s1 e
 | ⟨T,m,true,ptr,b⟩::ps,_,hp,_,_,_=>by simp [uzG] at hp
 | [],_::_,_,_,_,e=>by simp [bzL] at e
 | ⟨T,m,false,ptr,b⟩::_,[],_,_,_,e=>by simp [bzL] at e
theorem DzM {rs:List Rt} (hr:(rs.all fun r=>!r.ptr)=true) {x:bzR rs} {d:Option Nat} {W:VV} {s1:St} (e:nzT d s rs x=some (W,s1)):s1=s∧nzT d t rs x=some (W,t):=by
 match rs,hr,x,e with
 | [],_,x,e=>simp only[nzT,rsVV] at e⊢;cases e;exact ⟨rfl,rfl⟩
 | [⟨T,m,true⟩],hr,x,e=>simp at hr
 | [⟨T,m,false⟩],_,x,e=>simp only[nzT] at e⊢;cases e;exact ⟨rfl,rfl⟩
 |r1::r2::rs,_,x,e=>
  simp only[nzT] at e⊢
  split at e
  ·rename_i ws hws
   cases e
   exact ⟨rfl,rfl⟩
  ·cases e
theorem Cz3 (h:Sub s t) {d:Option Nat} {σ:Sig} {xs:List Operand} (ha:σ.alias=true→szP E s σ.ps xs=true) (hp:uzG σ.ps=true) (hr:(σ.rs.all fun r=>!r.ptr)=true) {ev:Ev} (e:gzf E s d σ xs=some ev): ∃ev',gzf E t d σ xs=some ev'∧ev.over t ev':=by
 unfold gzf at e⊢
 split at e
 case h_2=>cases e
 rename_i x0 tks s1 e1
 obtain ⟨q0,q1,q2⟩:=qzD (t:=t) σ.ps xs hp x0 tks s1 e1
 rw[q0] at e
 rw[q2]
 simp only
 split at e
 case h_2=>cases e
 rename_i z s2 e2
 obtain ⟨q3,q4⟩:=qzq h σ.ps xs hp ha x0 z s2 e2
 rw[q4]
 simp only
 cases hto:FzL tks<;>rw[hto] at e
 ·cases e
 simp only[cond_true,Option.some.injEq] at e⊢
 subst e
 refine ⟨_,rfl,_,rfl,fun r W s' hk=>?_⟩
 simp only at hk⊢
 split at hk
 ·rename_i s3 e3
  rw[q3] at e3
  obtain ⟨q5,q6⟩:=qzJ (t:=t) σ.ps tks hp r.2 s3 e3
  rw[q6]
  simp only
  exact (DzM hr hk).2
 ·cases hk
theorem wzR (h:Sub s t) {b:Builtin} (hb:(match b with| .len| .min| .max=>true|_=>false)=true) {ts:List Nat} {xs:List Operand} {ev:Ev} (e:czj E s b ts xs=some ev): ∃ev',czj E t b ts xs=some ev'∧ev.over t ev':=by
 cases b with
 |len=>
  match xs,e with
  | [x],e=>
    simp only[czj] at e⊢
    cases ts with
    |nil=>cases e
    |cons T ts=>
     simp only at e⊢
     rcases h.ro (E:=E) 0 x with hj|hj
     ·rw[hj] at e
      split at e
      ·rename_i h1;cases h1
      ·rename_i h1;cases h1
      ·cases e
     ·rw[hj]
      split at e
      ·cases e;exact ⟨_,rfl,rfl,rfl⟩
      ·cases e;exact ⟨_,rfl,rfl,rfl⟩
      ·cases e
  | [],e=>simp [czj] at e
  |_::_::_,e=>simp [czj] at e
 |min=>
  match xs,e with
  | [x,y],e=>
    simp only[czj] at e⊢
    rcases h.ro (E:=E) 0 x with hj|hj
    ·rw[hj] at e;cases e
    ·rcases h.ro (E:=E) 0 y with hk|hk
     ·rw[hk] at e
      split at e
      ·rename_i h1;cases h1
      ·cases e
     ·rw[hj,hk]
      split at e
      ·cases e;exact ⟨_,rfl,rfl,rfl⟩
      ·cases e
  | [],e=>simp [czj] at e
  | [_],e=>simp [czj] at e
  |_::_::_::_,e=>simp [czj] at e
 |max=>
  match xs,e with
  | [x,y],e=>
    simp only[czj] at e⊢
    rcases h.ro (E:=E) 0 x with hj|hj
    ·rw[hj] at e;cases e
    ·rcases h.ro (E:=E) 0 y with hk|hk
     ·rw[hk] at e
      split at e
      ·rename_i h1;cases h1
      ·cases e
     ·rw[hj,hk]
      split at e
      ·cases e;exact ⟨_,rfl,rfl,rfl⟩
      ·cases e
  | [],e=>simp [czj] at e
  | [_],e=>simp [czj] at e
  |_::_::_::_,e=>simp [czj] at e
 |_=>cases hb
theorem uzm (h:Sub s t) {x:Operand} {ty:Nat} (hq:DzO (TV.opd E ty s x)=true) {ev:Ev} (e:czZ s x (TV.opd E ty s x)=some ev): ∃ev',czZ t x (TV.opd E ty t x)=some ev'∧ev.over t ev':=by
 rcases h.opd (E:=E) ty x with hj|hj
 ·rw[hj] at e;cases e
 ·rw[hj];exact Dzl hq e t
theorem Dz8 (h:Sub s t) {x:Operand} {ty:Nat} (hq:shV (TV.opd E ty s x)=true) {ev:Ev} (e:pzC E s x ty=some ev): ∃ev',pzC E t x ty=some ev'∧ev.over t ev':=by
 unfold pzC at e⊢
 have hj:TV.opd E ty t x=TV.opd E ty s x:=by
  rcases h.opd (E:=E) ty x with hj|hj
  ·rw[hj] at hq;cases hq
  ·exact hj
 rw[hj]
 generalize TV.opd E ty s x=V at*
 match V,hq with
 | .v U .sh a,_=>
   simp only at e⊢
   have hg: ∀q,grab E q x (.v U .sh a)=some (.v U .sh a,q):=fun q=>by cases x<;>rfl
   rw[hg] at e⊢
   cases e
   exact ⟨_,rfl,rfl,rfl⟩
theorem Lzi (h:Sub s t) {x:Operand} {ev:Ev} (e:(match TV.opd E 0 s x with
 | .box b p=>some (Ev.ok (.box b p) s)
 | .ep l i p=>some (.ok (.ep l i p) s)
 | .cp t a p=>some (.ok (.cp t a p) s)
 |_=>none)=some ev): ∃ev',(match TV.opd E 0 t x with
 | .box b p=>some (Ev.ok (.box b p) t)
 | .ep l i p=>some (.ok (.ep l i p) t)
 | .cp T a p=>some (.ok (.cp T a p) t)
 |_=>none)=some ev'∧ev.over t ev':=by
 rcases h.opd (E:=E) 0 x with hj|hj
 ·rw[hj] at e;cases e
 ·rw[hj]
  split at e<;>cases e<;>exact ⟨_,rfl,rfl,rfl⟩
theorem vzf (h:Sub s t) (lo:Option Operand) {r:Option Int} (e:qzz s (lo.map (TV.opd E 0 s))=some r):qzz t (lo.map (TV.opd E 0 t))=some r:=by
 cases lo with
 |none=>exact e
 |some x=>
  simp only[Option.map_some,qzz] at e⊢
  rcases h.ro (E:=E) 0 x with hj|hj
  ·rw[hj] at e;cases e
  ·rw[hj];exact e
theorem Az6 (h:Sub s t) {ty:Nat} {x:Operand} {lo hi mx:Option Operand} (hq:(match s.res (TV.opd E ty s x) with
 | .v .str _ _=>true
 | .v (.sl _) .sh _=>true
 |_=>false)=true) {ev:Ev} (e:tzI E s x ty (lo.map (TV.opd E 0 s)) (hi.map (TV.opd E 0 s)) (mx.map (TV.opd E 0 s))=some ev):
 ∃ev',tzI E t x ty (lo.map (TV.opd E 0 t)) (hi.map (TV.opd E 0 t)) (mx.map (TV.opd E 0 t))=some ev'∧ev.over t ev':=by
 unfold tzI at e⊢
 cases mx with
 |some m=>cases e
 |none=>
  simp only[Option.map_none] at e⊢
  split at e
  ·rename_i l u hl hu
   rw[vzf h lo hl,vzf h hi hu]
   simp only
   rcases h.ro (E:=E) ty x with hj|hj
   ·rw[hj] at hq;cases hq
   ·rw[hj]
    generalize s.res (TV.opd E ty s x)=V at*
    split at hq
    ·rename_i m a
     cases hT:E.tt ty with
     |none=>rw[hT] at e;cases e
     |some T=>
      rw[hT] at e
      cases T with
      |str=>
       simp only at e⊢
       cases e
       exact ⟨_,rfl,rfl,rfl,rfl⟩
      |_=>cases e
    ·rename_i u' xs
     cases hT:E.tt ty with
     |none=>rw[hT] at e;cases e
     |some T=>
      rw[hT] at e
      cases T with
      |sl e'=>
       simp only at e⊢
       cases hi':isTy e' u'<;>rw[hi'] at e
       ·cases e
       ·simp only[cond_true] at e⊢
        cases e
        exact ⟨_,rfl,rfl,rfl,rfl⟩
      |_=>cases e
    ·cases hq
  ·cases e
theorem Bzu {s t:St} {x:Operand} {i:Nat} {W:VV} (hq:(match W with| .tup vs=>shV (vs.getD i .junk)|_=>false)=true) {ev:Ev} (e:(match (generalizing:=false) x,W with
 | .tmp u, .tup vs=>match vs[i]? with
   |some (.v t m a)=>match m with
    | .sh=>some (Ev.ok (.v t .sh a) s)
    |m=>some (.ok (.v t m a) (s.upd u (.tup (vs.set i .junk))))
   |_=>none
 |_,_=>none)=some ev): ∃ev',(match (generalizing:=false) x,W with
 | .tmp u, .tup vs=>match vs[i]? with
   |some (.v t' m a)=>match m with
    | .sh=>some (Ev.ok (.v t' .sh a) t)
    |m=>some (.ok (.v t' m a) (t.upd u (.tup (vs.set i .junk))))
   |_=>none
 |_,_=>none)=some ev'∧ev.over t ev':=by
 cases W with
 |tup vs=>
  simp only[List.getD_eq_getElem?_getD] at hq
  cases x with
  |tmp u=>
   simp only at e⊢
   cases hv:vs[i]? with
   |none=>rw[hv] at hq;cases hq
   |some c=>
    rw[hv] at hq e
    simp only[Option.getD_some] at hq
    unfold shV at hq
    split at hq
    ·simp only at e⊢;cases e;exact ⟨_,rfl,rfl,rfl⟩
    ·cases hq
  |_=>cases e
 |_=>cases hq
theorem EzF (h:Sub s t) (hq:lz4 E s o=true) {ev:Ev} (e:dzH E s o=some ev):Again E t o ev:=by
 unfold Again
 unfold dzH at e⊢
 unfold lz4 at hq
 cases ho:o.op with
 |move x=>simp only[ho] at e hq⊢;exact uzm h hq e
 |assign x=>simp only[ho] at e hq⊢;exact Dz8 h hq e
 |extract x i=>
  simp only[ho] at e hq⊢
  rcases h.opd (E:=E) 0 x with hj|hj
  ·rw[hj] at hq;cases hq
  ·rw[hj];exact Bzu hq e
 |pick c a b=>
  simp only[ho,Bool.and_eq_true] at e hq⊢
  rcases h.ro (E:=E) 0 c with hj|hj
  ·rw[hj] at e;cases e
  ·rw[hj]
   split at e
   ·exact uzm h hq.1 e
   ·exact uzm h hq.2 e
   ·cases e
 |binOp op ty x y _=>
  simp only[ho] at e hq⊢
  have hn:nilB y=false:=by cases hb:nilB y<;>rw[hb] at hq<;>first|rfl|cases hq
  rw[hn] at e⊢
  exact Fzw h e
 |unOp op _ x=>
  simp only[ho] at e hq⊢
  rcases h.ro (E:=E) o.type x with hj|hj
  ·rw[hj] at e
   cases op<;>cases e
  ·rw[hj]
   generalize s.res (TV.opd E o.type s x)=V at*
   split at e<;>cases e<;>exact ⟨_,rfl,rfl,rfl⟩
 |convert a b x=>simp only[ho] at e hq⊢;exact Dzu h e
 |nilCheck x=>simp only[ho] at e hq⊢;exact Lzi h e
 |fieldAddr ty x f=>
  simp only[ho] at e hq⊢
  cases hT:E.tt ty with
  |none=>rw[hT] at e;cases e
  |some T=>
   rw[hT] at e
   simp only at e⊢
   rcases h.opd (E:=E) 0 x with hj|hj
   ·rw[hj] at e
    cases hf:azX T f<;>rw[hf] at e<;>cases e
   ·rw[hj]
    split at e<;>cases e<;>exact ⟨_,rfl,rfl,rfl⟩
 |indexAddr ty x i=>
  simp only[ho] at e hq⊢
  rcases h.ro (E:=E) 0 i with hj|hj
  ·rw[hj] at e;cases e
  ·rw[hj]
   split at e
   ·rename_i k m i' T h1 h2
    rcases h.opd (E:=E) 0 x with hx|hx
    ·rw[hx] at e;cases e
    ·rw[hx];exact AzV h e
   ·cases e
 |index ty x i=>
  simp only[ho] at e hq⊢
  rcases h.ro (E:=E) 0 i with hj|hj
  ·rw[hj] at e;cases e
  ·rcases h.ro (E:=E) 0 x with hx|hx
   ·rw[hx] at e
    split at e
    ·rename_i h1 _;cases h1
    ·rename_i h1 _;cases h1
    ·cases e
   ·rw[hj,hx]
    split at e
    ·cases e;exact ⟨_,rfl,rfl,rfl,rfl⟩
    ·rename_i n T xs n' t' h1 h2 h3
     cases hT:isTy (.arr n' t') (.arr n T)<;>rw[hT] at e<;>cases e
     exact ⟨_,rfl,rfl,rfl,rfl⟩
    ·cases e
 |load ty x=>
  simp only[ho] at e hq⊢
  cases hT:E.tt ty with
  |none=>rw[hT] at e;cases e
  |some T=>
   rw[hT] at e
   simp only at e⊢
   rcases h.opd (E:=E) 0 x with hx|hx
   ·rw[hx] at e;cases e
   ·rw[hx];exact Dz1 h e
 |field ty x f=>
  simp only[ho] at e hq⊢
  cases hT:E.tt ty with
  |none=>rw[hT] at e;cases e
  |some T=>
   rw[hT] at e
   simp only at e⊢
   have hx:TV.opd E ty t x=TV.opd E ty s x:=by
    rcases h.opd (E:=E) ty x with hx|hx
    ·rw[hx] at hq;cases hq
    ·exact hx
   rw[hx]
   refine BzW h ?_ e
   generalize TV.opd E ty s x=V at*
   split at hq<;>first|rfl|cases hq
 |build ty ps=>
  simp only[ho] at e hq⊢
  cases hT:E.tt ty with
  |none=>rw[hT] at e;cases e
  |some T=>
   rw[hT] at e
   have str:(bif bzM (bzY T) ps.toList then (match ezu E ps.toList T 0 s with
    |some (a,m,s)=>some (Ev.ok (.v T m a) s)
    |none=>none) else none)=some ev→ ∃ev',(bif bzM (bzY T) ps.toList then (match ezu E ps.toList T 0 t with
    |some (a,m,s)=>some (Ev.ok (.v T m a) s)
    |none=>none) else none)=some ev'∧ev.over t ev':=by
    intro e
    cases hp:bzM (bzY T) ps.toList<;>rw[hp] at e
    ·cases e
    simp only[cond_true] at e⊢
    split at e
    ·rename_i a m s1 h1
     obtain ⟨q0,q1⟩:=uzH h hq T 0 a m s1 h1
     rw[q1]
     cases e
     exact ⟨_,rfl,rfl,rfl⟩
    ·cases e
   cases T with
   |arr n u=>
    simp only at e⊢
    cases hp:bzM n ps.toList<;>rw[hp] at e
    ·cases e
    simp only[cond_true] at e⊢
    split at e
    ·rename_i a m s1 h1
     obtain ⟨q0,q1⟩:=nz7 h hq n 0 a m s1 h1
     rw[q1]
     simp only
     cases hm:m.isSh<;>rw[hm] at e<;>cases e
     exact ⟨_,rfl,rfl,rfl⟩
    ·cases e
   |_=>exact str e
 |buildSlice ty k ps=>
  simp only[ho] at e hq⊢
  split at e
  ·rename_i u hT
   cases hp:(bzM k ps.toList&&Nat.ble (k*u.sz) 16777216)<;>rw[hp] at e
   ·cases e
   simp only[cond_true] at e⊢
   split at e
   ·rename_i a m s1 h1
    obtain ⟨q0,q1⟩:=nz7 h hq k 0 a m s1 h1
    rw[q1]
    simp only
    cases e
    exact ⟨_,rfl,rfl,rfl⟩
   ·cases e
  ·cases e
 |makeSlice ty k c=>
  simp only[ho] at e hq⊢
  rcases h.ro (E:=E) 0 k with hk|hk
  ·rw[hk] at e
   split at e
   ·rename_i h1 _;cases h1
   ·cases e
  ·rcases h.ro (E:=E) 0 c with hc|hc
   ·rw[hc] at e
    split at e
    ·rename_i h1;cases h1
    ·cases e
   ·rw[hk,hc]
    split at e
    ·cases e
     exact ⟨_,rfl,rfl,rfl,rfl⟩
    ·cases e
 |slice ty x lo hi mx=>simp only[ho] at e hq⊢;exact Az6 h hq e
 |call c=>
  simp only[ho] at e hq⊢
  cases hc:c.callee with
  |value v=>
   cases v with
   |func f=>
    simp only[hc] at e hq⊢
    cases hσ:E.call f with
    |none=>rw[hσ] at e;cases e
    |some σ=>
     rw[hσ] at e hq
     simp only[Bool.and_eq_true,Bool.not_eq_true'] at e hq⊢
     exact Cz3 h (fun ha=>by have:=hq.1;rw[ha] at this;exact this) hq.2.1 hq.2.2 e
   |_=>simp only[hc] at e;cases e
  |builtin b=>
   simp only[hc] at e hq⊢
   refine wzR h ?_ e
   cases b<;>first|rfl|cases hq
  |invoke r m=>simp only[hc] at e;cases e
 |_=>simp only[ho] at hq;cases hq
end
end Go.TV
namespace Go.TV
theorem pzf: ∀ (l:List Nat),gza l=true→l.Nodup
 | [],_=>List.nodup_nil
 |x::l,h=>by
  simp only[gza] at h
  cases hc:l.any (fun y=>Nat.beq x y)<;>rw[hc] at h
  ·refine List.nodup_cons.2 ⟨fun hm=>?_,pzf l h⟩
   rw[List.any_eq_false] at hc
   exact hc x hm (by simp)
  ·cases h
theorem Azc: ∀ (L:List Oper) (j:Nat) (x:Nat),(L[j]?).bind (·.dst)=some x→x∈lzD L
 | [],j,x,h=>by simp at h
 |o::L,0,x,h=>by
  simp only[List.getElem?_cons_zero,Option.bind_some] at h
  simp only[lzD,h,List.mem_cons,true_or]
 |o::L,j+1,x,h=>by
  have:=Azc L j x (by simpa using h)
  simp only[lzD]
  split
  ·exact List.mem_cons_of_mem _ this
  ·exact this
theorem Kze: ∀ (L:List Oper),(lzD L).Nodup→ ∀ (i j x:Nat),(L[i]?).bind (·.dst)=some x→(L[j]?).bind (·.dst)=some x→i=j
 | [],_,i,j,x,h,_=>by simp at h
 |o::L,hn,i,j,x,hi,hj=>by
  have hn':(lzD L).Nodup:=by
   simp only[lzD] at hn
   split at hn
   ·exact (List.nodup_cons.1 hn).2
   ·exact hn
  have h0: ∀ (k:Nat),o.dst=some x→(L[k]?).bind (·.dst)=some x→False:=by
   intro k h1 h2
   simp only[lzD,h1] at hn
   exact (List.nodup_cons.1 hn).1 (Azc L k x h2)
  cases i with
  |zero=>
   cases j with
   |zero=>rfl
   |succ j=>exact (h0 j (by simpa using hi) (by simpa using hj)).elim
  |succ i=>
   cases j with
   |zero=>exact (h0 i (by simpa using hj) (by simpa using hi)).elim
   |succ j=>rw[Kze L hn' i j x (by simpa using hi) (by simpa using hj)]
theorem Hzk {s:St} {u d:Nat} (h:d=u∨s.tm d= .junk):(s.set u .junk).tm d= .junk:=by
 have h1: ∀q:St,(q.tm d= .junk∨d=u)→(q.upd u (VV.junk.jt u)).tm d= .junk:=by
  intro q hq
  simp only[St.upd]
  cases hb:Nat.beq d u
  ·rcases hq with hq|hq
   ·exact hq
   ·subst hq;simp at hb
  ·rfl
 have h2:((s.jt u).tm d= .junk∨d=u):=by
  rcases h with h|h
  ·exact .inr h
  ·left;simp only[St.jt,h,VV.jt]
 unfold St.set
 split
 ·exact h1 _ h.symm
 ·exact h1 _ h2
 ·exact h1 _ h.symm
theorem jb_junk {b:Nat}:VV.jb b .junk= .junk:=rfl
theorem JzV {s:St} {c:Bool} {u d:Nat} (h:s.tm d= .junk):(bif c then s.fb u else s).tm d= .junk:=by
 cases c
 ·exact h
 ·show (s.tm d).jb u= .junk
  rw[h];rfl
theorem lz7 {anc:List Nat}: ∀ (L:List Oper) (i:Nat) (s:St) (d:Nat),s.tm d= .junk→(St.clear anc i s L).tm d= .junk
 | [],i,s,d,h=>h
 |o::L,i,s,d,h=>by
  simp only[St.clear]
  cases ezK anc i o
  ·simp only[cond_false]
   split
   ·split
    ·exact lz7 L _ _ d (JzV h)
    ·exact lz7 L _ _ d (Hzk (.inr (JzV h)))
   ·exact lz7 L _ _ d h
  ·exact h
theorem mzi {anc:List Nat}: ∀ (L:List Oper) (i:Nat) (s:St) (j d:Nat),(∀k o,k≤j→L[k]?=some o→ezK anc (i+k) o=false)→(L[j]?).bind (·.dst)=some d→(St.clear anc i s L).tm d= .junk
 | [],i,s,j,d,hn,h=>by simp at h
 |o::L,i,s,0,d,hn,h=>by
  have h0:ezK anc i o=false:=hn 0 o (Nat.le_refl _) rfl
  simp only[List.getElem?_cons_zero,Option.bind_some] at h
  simp only[St.clear,h0,cond_false,h]
  split
  ·rename_i hj
   exact lz7 L _ _ d hj
  ·exact lz7 L _ _ d (Hzk (.inl rfl))
 |o::L,i,s,j+1,d,hn,h=>by
  have h0:ezK anc i o=false:=hn 0 o (Nat.zero_le _) rfl
  have hn': ∀k o,k≤j→L[k]?=some o→ezK anc (i+1+k) o=false:=fun k o hk ho=>by
   have:=hn (k+1) o (by omega) (by simpa using ho)
   rw[show i+1+k=i+(k+1) by omega];exact this
  simp only[St.clear,h0,cond_false]
  split
  ·split
   ·exact mzi L _ _ j d hn' (by simpa using h)
   ·exact mzi L _ _ j d hn' (by simpa using h)
  ·exact mzi L _ _ j d hn' (by simpa using h)
def Nb (s:St) (d:Nat):Prop:=s.bx d= .junk∧ ∀x,(s.tm x).jb d=s.tm x
theorem Rzf (d:Nat) (W:VV):(W.jb d).jb d=W.jb d:=by
 rcases sz1 d W with e| ⟨e,_⟩
 ·rw[e];rfl
 ·rw[e,e]
theorem jb_jb {d e:Nat} {W:VV} (h:W.jb d=W):(W.jb e).jb d=W.jb e:=by
 rcases sz1 e W with k| ⟨k,_⟩
 ·rw[k];rfl
 ·rw[k,h]
theorem jt_jb {d u:Nat} {W:VV} (h:W.jb d=W):(W.jt u).jb d=W.jt u:=by
 have key:W.jt u= .junk∨W.jt u=W:=by
  cases W with
  |ref q=>simp only[VV.jt];cases (!q.bx&&Nat.beq q.n u)<;>simp
  |sref q i o t=>simp only[VV.jt];cases (!q.bx&&Nat.beq q.n u)<;>simp
  |ep q i o=>simp only[VV.jt];cases (!q.bx&&Nat.beq q.n u)<;>simp
  |_=>exact .inr rfl
 rcases key with k|k
 ·rw[k];rfl
 ·rw[k,h]
theorem Nb.set {s:St} {d u:Nat} (h:Nb s d):Nb (s.set u .junk) d:=by
 have h1: ∀q:St,Nb q d→Nb (q.upd u (VV.junk.jt u)) d:=fun q hq=>⟨hq.1,fun x=>by
  simp only[St.upd]
  cases Nat.beq x u
  ·exact hq.2 x
  ·rfl⟩
 have h2:Nb (s.jt u) d:=⟨h.1,fun x=>jt_jb (h.2 x)⟩
 unfold St.set
 split
 ·exact h1 _ h
 ·exact h1 _ h2
 ·exact h1 _ h
theorem Nb.fb {s:St} {d u:Nat} (h:Nb s d):Nb (s.fb u) d:=⟨by
 simp only[St.fb,St.updBx,St.jb]
 cases Nat.beq d u
 ·exact h.1
 ·rfl,fun x=>jb_jb (h.2 x)⟩
theorem Nb.mk {s:St} {d:Nat}:Nb (s.fb d) d:=⟨by simp [St.fb,St.updBx],fun x=>Rzf d _⟩
theorem Nb.cl {anc:List Nat}: ∀ (L:List Oper) (i:Nat) (s:St) (d:Nat),Nb s d→Nb (St.clear anc i s L) d
 | [],i,s,d,h=>h
 |o::L,i,s,d,h=>by
  have hf: ∀ (c:Bool) (u:Nat),Nb (bif c then s.fb u else s) d:=fun c u=>by
   cases c
   ·exact h
   ·exact h.fb
  simp only[St.clear]
  cases ezK anc i o
  ·simp only[cond_false]
   split
   ·split
    ·exact Nb.cl L _ _ d (hf _ _)
    ·exact Nb.cl L _ _ d (hf _ _).set
   ·exact Nb.cl L _ _ d h
  ·exact h
theorem szp {anc:List Nat}: ∀ (L:List Oper) (i:Nat) (s:St) (j d:Nat) (o:Oper),(∀k o,k≤j→L[k]?=some o→ezK anc (i+k) o=false)→L[j]?=some o→o.dst=some d→bz0 o=true→Nb (St.clear anc i s L) d
 | [],i,s,j,d,o,hn,h,_,_=>by simp at h
 |o::L,i,s,0,d,o',hn,h,hd,ha=>by
  simp only[List.getElem?_cons_zero,Option.some.injEq] at h
  subst h
  have h0:ezK anc i o=false:=hn 0 o (Nat.le_refl _) rfl
  simp only[St.clear,h0,cond_false,hd,ha,cond_true]
  split
  ·exact Nb.cl L _ _ d Nb.mk
  ·exact Nb.cl L _ _ d Nb.mk.set
 |o::L,i,s,j+1,d,o',hn,h,hd,ha=>by
  have h0:ezK anc i o=false:=hn 0 o (Nat.zero_le _) rfl
  have hn': ∀k o,k≤j→L[k]?=some o→ezK anc (i+1+k) o=false:=fun k o hk ho=>by
   have:=hn (k+1) o (by omega) (by simpa using ho)
   rw[show i+1+k=i+(k+1) by omega];exact this
  simp only[St.clear,h0,cond_false]
  split
  ·split
   ·exact szp L _ _ j d o' hn' (by simpa using h) hd ha
   ·exact szp L _ _ j d o' hn' (by simpa using h) hd ha
  ·exact szp L _ _ j d o' hn' (by simpa using h) hd ha
theorem PzN {d:Nat} {W:VV} (h:W.nbB d=true):W.jb d=W:=by
 cases W with
 |ref q=>simp only[VV.nbB,VV.jb] at h⊢;cases hc:(q.bx&&Nat.beq q.n d)<;>rw[hc] at h<;>first|rfl|cases h
 |sref q i o t=>simp only[VV.nbB,VV.jb] at h⊢;cases hc:(q.bx&&Nat.beq q.n d)<;>rw[hc] at h<;>first|rfl|cases h
 |ep q i o=>simp only[VV.nbB,VV.jb] at h⊢;cases hc:(q.bx&&Nat.beq q.n d)<;>rw[hc] at h<;>first|rfl|cases h
 |box c o=>simp only[VV.nbB,VV.jb] at h⊢;cases hc:Nat.beq c d<;>rw[hc] at h<;>first|rfl|cases h
 |_=>rfl
theorem DzX {a:Act} {d:Nat}:a.put (some d) (a.tmps.getD d Go.undef)=a:=by
 cases a with
 |mk tmps defers=>
  simp only[Act.put,Act.mk.injEq,and_true]
  refine Array.ext (by simp) fun i h1 h2=>?_
  rw[Array.getElem_setIfInBounds]
  split
  ·rename_i hd;subst hd;simp [h2]
  ·rfl
section
variable {P:Program} {gv:Nat→Value} {n:Nat} {s s':St} {g:G} {a:Act} {w w':World} {R:Type} {E:Env R} {F:Fix}
theorem In.fb (h:In E gv n F s g a w) (d:Nat):In E gv n F (s.fb d) g a w:=by
 have hget: ∀ (q:Pl) z,(q.bx=false∨q.n≠d)→s.get q=some z→(s.fb d).get q=some z:=fun q z hq hg=>
  nzS (fun T' M x' hr=>by
   cases hb:q.bx with
   |false=>rw[hb] at hr;simp only[St.root,cond_false] at hr;simp only[St.root,cond_false,St.fb,St.updBx,St.jb,hr];rfl
   |true=>
    rw[hb] at hr hq
    have hq':q.n≠d:=by rcases hq with hq|hq;cases hq;exact hq
    have:Nat.beq q.n d=false:=by cases hc:Nat.beq q.n d;rfl;exact absurd (Nat.eq_of_beq_eq_true hc) hq'
    simp only[St.root,cond_true] at hr
    simp only[St.root,cond_true,St.fb,St.updBx,St.jb,this,cond_false,hr]) hg
 have hst:azJ w w g.ω g.ω:=fun b _ h=>⟨h,rfl⟩
 have hav: ∀ (X:VV) (v:Value),AV s g w X v→AV (s.fb d) g w (X.jb d) v:=by
  intro X v hx
  rcases sz1 d X with e| ⟨e,hp,hb⟩
  ·rw[e];trivial
  ·rw[e]
   exact hx.keep rfl hst (fun _ _=>rfl) (fun q hq=>⟨fun y m hy=>⟨y,hget q _ (hp q hq) hy,rfl⟩,rfl⟩) (fun q hs hq=>⟨fun z hz=>hget q z (hp q hq) hz,fun _ _ _ _=>rfl⟩)
 refine ⟨⟨fun j=>?_,fun b=>?_,h.rel.gl,h.rel.lt,h.rel.sz,h.rel.df⟩,h.η,h.evo,h.prot⟩
 ·show RV _ g w _ _ ((s.tm j).jb d) _
  have hj:=h.rel.tm j
  rcases hj.alias with ⟨t,m2,x2,e⟩| ⟨vs,e⟩|ha
  ·rw[e] at hj⊢;exact hj
  ·rw[e] at hj⊢;exact hj
  ·exact RV.of_AV (hav _ _ ha)
 ·show BV g w b (bif Nat.beq b d then .junk else s.bx b)
  cases Nat.beq b d
  ·exact h.rel.bx b
  ·trivial
theorem In.clear {anc:List Nat}: ∀ (L:List Oper) (i:Nat) (s:St) (g:G),(∀o∈L,∀d,o.dst=some d→d<n∧F.prot d=false)→In E gv n F s g a w→ ∃g',In E gv n F (St.clear anc i s L) g' a w
 | [],i,s,g,_,h=>⟨g,h⟩
 |o::L,i,s,g,hd,h=>by
  simp only[St.clear]
  cases ezK anc i o
  ·simp only[cond_false]
   split
   ·rename_i d hod
    have h:In E gv n F (bif bz0 o then s.fb d else s) g a w:=by
     cases bz0 o
     ·exact h
     ·exact h.fb d
    generalize (bif bz0 o then s.fb d else s)=s at*
    split
    ·exact In.clear L _ s g (fun o ho=>hd o (by simp [ho])) h
    have hg:Gave E gv n a g w .junk s (a.tmps.getD d Go.undef) w:=⟨g,[],0,h.rel,rfl,trivial,Evo.refl _ _⟩
    obtain ⟨g',h1,h2,h3⟩:=hg.put (o:=some d) (fun e he=>by cases he;exact (hd o (by simp) d hod).1)
    rw[DzX] at h1
    exact In.clear L _ _ g' (fun o ho=>hd o (by simp [ho])) ⟨h1,h2.trans h.η,h.evo.trans h3,h.prot⟩
   ·exact In.clear L _ s g (fun o ho=>hd o (by simp [ho])) h
  ·exact ⟨g,h⟩
theorem Kzf {s:St} {d:Nat} {t:Ty} {m:Mk} {x:t.den} (h:s.tm d= .junk):s.put (some d) (.v t m x)=s.upd d (.v t m x):=by
 simp only[St.put,St.set,h]
 rfl
theorem In.noalias (h:In E gv n F s g a w) {d:Nat} (hd:s.tm d= .junk) {o:Nat} {t:Ty} (j:Nat):(s.tm j).jr ⟨false,d,o,t⟩=s.tm j:=by
 have key: ∀q:Pl,(∀y m,s.get q=some (y,m)→Pl.meets ⟨false,d,o,t⟩ q=false):=fun q y m hq=>by
  cases hm:Pl.meets ⟨false,d,o,t⟩ q
  ·rfl
  ·exfalso
   simp only[Pl.meets,Bool.and_eq_true,beq_iff_eq] at hm
   obtain ⟨⟨h1,h2⟩,_⟩:=hm
   obtain ⟨T,M,x,h3,_⟩:=h.rel.get hq
   rw[←h1,←Nat.eq_of_beq_eq_true h2] at h3
   simp only[St.root,cond_false] at h3
   rw[hd] at h3;cases h3
 have hr:=h.rel.tm j
 rcases hr.alias with ⟨t',m2,x2,e⟩| ⟨vs,e⟩|ha
 ·rw[e];rfl
 ·rw[e];rfl
 ·generalize s.tm j=W at*
  match W,ha with
  | .junk,_=>rfl
  | .undef,_=>rfl
  | .nilp,_=>rfl
  | .box _ _,_=>rfl
  | .cp _ _ _,_=>rfl
  | .v _ _ _,h=>exact h.elim
  | .tup _,h=>exact h.elim
  | .ref q,⟨_,y,m,hq,_⟩=>simp only[VV.jr,key q y m hq,cond_false]
  | .sref ⟨bx,n',q', .sl U⟩ i o' t',⟨xs,m,r,N,c,cells,e,fr,hq,_⟩=>simp only[VV.jr,key _ _ _ hq,cond_false]
  | .ep ⟨bx,n',q', .sl U⟩ i o',⟨xs,m,r,N,c,hq,_⟩=>simp only[VV.jr,key _ _ _ hq,cond_false]
  | .ep ⟨true,n',q', .arr k U⟩ i o',_=>simp only[VV.jr,Pl.meets,show ((false==true):Bool)=false from rfl,Bool.false_and,cond_false]
theorem Fzi (t:Ty) (m m':Mk):azs t m' t 0 m=m':=by
 cases t<;>simp [azs,isTy]
theorem IzW {p q:Pl} (h:p.same q=true):p.meets q=true:=by
 simp only[Pl.same,Bool.and_eq_true,beq_iff_eq,isTy] at h
 obtain ⟨⟨⟨h1,h2⟩,h3⟩,h4⟩:=h
 have h5:p.t=q.t:=by
  cases hd:decide (p.t=q.t)
  ·simp [of_decide_eq_false hd] at h4
  ·exact of_decide_eq_true hd
 simp only[Pl.meets,h1,beq_self_eq_true,h2,Bool.true_and,h5,←Nat.eq_of_beq_eq_true h3]
 cases hz:q.t.sz with
 |zero=>simp
 |succ k=>
  have:Nat.ble (p.o+1) (p.o+(k+1))=true:=Nat.ble_eq_true_of_le (by omega)
  simp [this]
theorem In.frzTmp {d:Nat} {t:Ty} {m:Mk} {x:t.den} (h0: ∀j,(s.tm j).jr ⟨false,d,0,t⟩=s.tm j) (h:In E gv n F (s.upd d (.v t m x)) g a w) (hm:m≠ .sh) (ha:m.all=true): ∃g',In E gv n F (s.upd d (.v t .sh x)) g' a w:=by
 have hd:(s.upd d (.v t m x)).tm d= .v t m x:=by simp [St.upd]
 obtain ⟨g',hg⟩:=h.rel.tookFrz (nzj hd) hm ha 0
 have e:(s.upd d (.v t m x)).frz ⟨false,d,0,t⟩ x=s.upd d (.v t .sh x):=by
  have e0:(s.upd d (.v t m x)).maskPl ⟨false,d,0,t⟩ .sh=s.upd d (.v t .sh x):=by
   simp only[St.maskPl,St.root,cond_false,hd,St.setRoot,Fzi]
   simp only[St.upd,St.mk.injEq,and_true]
   funext j
   cases Nat.beq j d<;>rfl
  unfold St.frz
  simp only[e0]
  simp only[St.upd,St.mk.injEq,and_true]
  funext j
  cases hj:Nat.beq j d
  ·simp only[cond_false]
   have h1:=h0 j
   generalize s.tm j=W at*
   cases W with
   |ref q=>
    simp only
    cases hs:Pl.same ⟨false,d,0,t⟩ q
    ·exact h1
    ·simp only[VV.jr,IzW hs,cond_true] at h1;cases h1
   |_=>exact h1
  ·rfl
 rw[e] at hg
 exact ⟨g',hg.rel,hg.η.trans h.η,h.evo.trans (Evo.fl hg.fl),h.prot⟩
theorem LzZ {ω:azw} {p q:Path}:azJ w w (czo ω (p++q) .sh) (czo ω p .sh):=fun b _ hb=>by
 refine ⟨?_,rfl⟩
 cases ho:ω b with
 |none=>exact az6 ho
 |some r=>
  by_cases hp:p<+:r
  ·obtain ⟨x,rfl⟩:=hp
   rw[hzb ho,QzX];rfl
  ·exfalso
   rw[bzj ho (fun h=>hp ((List.prefix_append p q).trans h))] at hb
   cases hb
theorem In.frzTup {d:Nat} {vs:List VV} (h:In E gv n F (s.upd d (.tup vs)) g a w): ∃g',In E gv n F (s.upd d (.tup (vs.map TV.frz1))) g' a w:=by
 have hget: ∀ (q:Pl) z,(s.upd d (.tup vs)).get q=some z→(s.upd d (.tup (vs.map TV.frz1))).get q=some z:=fun q z hg=>
  nzS (fun T' M x' hr=>by
   cases hb:q.bx with
   |true=>rw[hb] at hr;exact hr
   |false=>
    rw[hb] at hr
    simp only[St.root,cond_false,St.upd] at hr⊢
    cases hc:Nat.beq q.n d
    ·rw[hc] at hr;exact hr
    ·rw[hc] at hr;cases hr) hg
 have hst:azJ w w g.ω (czo g.ω (azC false d) .sh):=gzC
 have hoff: ∀b j q,j≠d→g.ω b=some (azC false j++q)→czo g.ω (azC false d) .sh b=some (azC false j++q)∧w.heap[b]?=w.heap[b]?:=fun b j q hj hq=>⟨bzj hq (azI (.inr hj.symm)),rfl⟩
 have hoffB: ∀b j q,g.ω b=some (azC true j++q)→czo g.ω (azC false d) .sh b=some (azC true j++q)∧w.heap[b]?=w.heap[b]?:=fun b j q hq=>⟨bzj hq (azI (.inl (by decide))),rfl⟩
 have hoff2: ∀b j,g.ω b=some [2,j]→czo g.ω (azC false d) .sh b=some [2,j]:=fun b j hq=>bzj hq (azI (q:=[]) (.inl (by decide)))
 refine ⟨{g with ω:=czo g.ω (azC false d) .sh},⟨fun u=>?_,fun b=>?_,fun i t x o hi=>(h.rel.gl i t x o hi).keep rfl hst (fun _ _=>rfl) (fun _ h=>h.elim) (fun _ h=>h.elim),fun b hb=>h.rel.lt b (fun e=>hb (az6 e)),h.rel.sz,h.rel.df⟩,h.η,h.evo.trans (.same hst fun b q hq=>?_),h.prot⟩
 ·have hu:=h.rel.tm u
  simp only[St.upd] at hu⊢
  cases hc:Nat.beq u d
  ·have hne:u≠d:=fun e=>by subst e;simp at hc
   rw[hc] at hu
   refine hu.keep (g':={g with ω:=czo g.ω (azC false d) .sh}) rfl hst (fun b q hq=>hoff b u q hne hq) fun ha=>ha.keep rfl hst (fun _ _=>rfl) (fun q _=>⟨fun y m hy=>⟨y,hget q _ hy,rfl⟩,rfl⟩) fun q _ _=>⟨fun z hz=>hget q z hz,fun _ _ _ _=>rfl⟩
  ·have:=Nat.eq_of_beq_eq_true hc
   subst this
   rw[hc] at hu
   obtain ⟨vals,h1,h2,h3⟩:=hu
   refine ⟨vals,h1,by simpa using h2,fun i c v hci hv=>?_⟩
   simp only[List.getElem?_map] at hci
   cases hvi:vs[i]? with
   |none=>rw[hvi] at hci;cases hci
   |some c0=>
    rw[hvi] at hci
    simp only[Option.map_some,Option.some.injEq] at hci
    subst hci
    have hcv:=h3 i c0 v hvi hv
    cases c0 with
    |v t m x=>
     simp only[TV.frz1]
     cases ha:m.all
     ·trivial
     ·obtain ⟨cs,h4,h5⟩:=hcv
      exact ⟨cs,Rep.sh_mono LzZ _ _ _ _ _ (Rep.weaken t g.ω (azC false u++[i]) _ .sh x _ (by cases m<;>simp_all [Mk.le]) h4),h5⟩
    |_=>trivial
 ·have hb:=h.rel.bx b
  show BV {g with ω:=czo g.ω (azC false d) .sh} w b (s.bx b)
  have hb':BV g w b (s.bx b):=hb
  generalize s.bx b=W at*
  cases W with
  |v T m x=>
   obtain ⟨h1,h2,h3⟩:=hb'
   exact ⟨hoff2 _ _ h1,h2,Rep.mono hst T _ _ _ _ _ (fun b' q _ hq=>hoffB b' b q hq) h3⟩
  |junk=>trivial
  |_=>exact hb'
 ·exact ⟨bzj hq (azI (.inl (by decide))),rfl⟩
theorem In.eW {d:Option Nat} {W:VV} {g0:G} {a0:Act} {w0:World} (h0:In E gv n F s g0 a0 w0) (hj: ∀e,d=some e→s.tm e= .junk) (h:In E gv n F (s.put d W) g a w): ∃g',In E gv n F (s.put d (TV.eW E d W)) g' a w:=by
 cases d with
 |none=>exact ⟨g,h⟩
 |some d=>
  have hs:=hj d rfl
  simp only[TV.eW]
  cases E.fz.contains (1000000+d)
  ·exact ⟨g,h⟩
  ·simp only[cond_true]
   cases W with
   |v t m x=>
    simp only
    cases ha:m.all
    ·exact ⟨g,h⟩
    ·simp only[cond_true]
     have e: ∀m',s.put (some d) (.v t m' x)=s.upd d (.v t m' x):=fun m'=>Kzf hs
     rw[e] at h⊢
     by_cases hm:m= .sh
     ·subst hm;exact ⟨g,h⟩
     ·exact In.frzTmp (fun j=>h0.noalias hs j) h hm ha
   |tup vs=>
    have e: ∀us,s.put (some d) (.tup us)=s.upd d (.tup us):=fun us=>by
     simp only[St.put,St.set,hs]
     rfl
    simp only[e] at h⊢
    exact In.frzTup h
   |_=>exact ⟨g,h⟩
theorem Mz5 {s:St} {bx:Bool} {u:Nat} {T:Ty} {m:Mk} {x:T.den} (h:s.root bx u= .v T m x):s.get ⟨bx,u,0,T⟩=some (x,m):=by
 have:=Dzm (s:=s) (q:=⟨bx,u,0,T⟩) h (yz9 T x)
 rw[yzf] at this
 exact this
theorem In.earlyS {r:Nat}: ∀ (zs:List Nat) (s:St) (g:G),In E gv n F s g a w→ ∃g',In E gv n F (TV.earlyS r zs s) g' a w
 | [],s,g,h=>⟨g,h⟩
 |z::zs,s,g,h=>by
  simp only[TV.earlyS]
  cases Nat.beq (z/1000000) (r+2)
  ·exact In.earlyS zs s g h
  ·simp only[cond_true]
   split
   ·rename_i t m x hz
    cases hc:(m.all&&!m.isSh)
    ·exact In.earlyS zs s g h
    ·simp only[Bool.and_eq_true,Bool.not_eq_true'] at hc
     obtain ⟨g',hg⟩:=h.rel.tookFrz (Mz5 hz) (fun e=>by rw[e] at hc;cases hc.2) hc.1 0
     exact In.earlyS zs _ g' ⟨hg.rel,hg.η.trans h.η,h.evo.trans (Evo.fl hg.fl),h.prot⟩
   ·exact In.earlyS zs s g h
theorem In.drawn (h:In E gv n F s g a w) {k:Nat}:In E gv n F s g a {w with drawn:=k}:=by
 have hst:azJ w {w with drawn:=k} g.ω g.ω:=fun b _ h=>⟨h,rfl⟩
 refine ⟨h.rel.kept (w':={w with drawn:=k}) (ω':=g.ω) ⟨hst,fun b p h=>⟨h,rfl⟩⟩ h.rel.lt,h.η,h.evo.trans ⟨rfl,rfl,rfl,Nat.le_refl _,hst,fun b q h=>⟨h,rfl⟩⟩,h.prot⟩
end
def azV (ops:Array Oper) (k:Nat):Option Nat:=(ops[k]?).bind (·.dst)
theorem szj {α:Type} (n:Nat) (k:Nat→α):NzD n k=k n:=by cases n<;>rfl
theorem ozt (m n:Nat):bitB m n=m.testBit n:=by
 have h: ∀x:Nat,Nat.land x 1=x % 2:=fun x=>Nat.and_one_is_mod x
 unfold bitB
 rw[h,Nat.testBit,Nat.and_comm,Nat.and_one_is_mod]
 show Nat.beq ((m>>>n) % 2) 1=_
 rcases Nat.mod_two_eq_zero_or_one (m>>>n) with e|e<;>rw[e]<;>rfl
def bit (m k:Nat):Prop:=m.testBit k=true
theorem PzQ {a b k:Nat}:bit (Nat.lor a b) k↔bit a k∨bit b k:=by
 show (a|||b).testBit k=true↔_
 rw[Nat.testBit_or,Bool.or_eq_true];rfl
theorem MzM {n k:Nat}:bit (2^n) k↔k=n:=by
 unfold bit
 rw[Nat.testBit_two_pow]
 simp only[decide_eq_true_eq]
 exact eq_comm
theorem Czh {k:Nat}: ¬bit 0 k:=by unfold bit;simp
theorem bit_lt {m i k:Nat} (h:m<2^i) (hk:bit m k):k<i:=by
 rcases Nat.lt_or_ge k i with h1|h1
 ·exact h1
 ·have:=Nat.testBit_lt_two_pow (Nat.lt_of_lt_of_le h (Nat.pow_le_pow_right (by decide) h1))
  unfold bit at hk
  rw[this] at hk
  cases hk
theorem Ez2 {i k:Nat} {acc:List Nat}: ∀es:List Edge,bit (qzp i acc es) k↔ ∃e,e∈es∧Region.binds .any e=true∧(k=e.on∨(e.on<i∧bit (acc.getD (i-1-e.on) 0) k))
 | []=>by
   simp only[qzp]
   exact ⟨fun h=>(Czh h).elim,fun ⟨e,h,_⟩=>by cases h⟩
 |e::es=>by
  have ih:=Ez2 (i:=i) (k:=k) (acc:=acc) es
  simp only[qzp]
  cases hb:Region.binds .any e
  ·simp only[cond_false,ih,List.mem_cons]
   exact ⟨fun ⟨e',h1,h2⟩=>⟨e', .inr h1,h2⟩,fun ⟨e',h1,h2,h3⟩=>by
    rcases h1 with rfl|h1
    ·rw[hb] at h2;cases h2
    ·exact ⟨e',h1,h2,h3⟩⟩
  ·simp only[cond_true,PzQ,MzM,ih,List.mem_cons]
   constructor
   ·rintro ((h|h)| ⟨e',h1,h2⟩)
    ·exact ⟨e, .inl rfl,hb, .inl h⟩
    ·refine ⟨e, .inl rfl,hb, .inr ?_⟩
     cases hc:Nat.ble (e.on+1) i<;>rw[hc] at h
     ·exact (Czh h).elim
     ·exact ⟨Nat.le_of_ble_eq_true hc,h⟩
    ·exact ⟨e', .inr h1,h2⟩
   ·rintro ⟨e',h1,h2,h3⟩
    rcases h1 with rfl|h1
    ·left
     rcases h3 with h3| ⟨h3,h4⟩
     ·exact .inl h3
     ·right
      rw[Nat.ble_eq_true_of_le h3]
      exact h4
    ·exact .inr ⟨e',h1,h2,h3⟩
theorem DzP: ∀ (L:List Oper) (i:Nat) (acc:List Nat),∃ys,bz3 L i acc=acc.reverse++ys
 | [],i,acc=>⟨[],by simp [bz3]⟩
 |o::L,i,acc=>by
  obtain ⟨ys,h⟩:=DzP L (i+1) (qzp i acc o.after.toList::acc)
  exact ⟨_,by simp only[bz3,szj];rw[h,List.reverse_cons,List.append_assoc]⟩
theorem Bz2: ∀ (L:List Oper) (i:Nat) (acc:List Nat) (j:Nat) (o:Oper),acc.length=i→L[j]?=some o→
 ∃acc',(∀k,k<i+j→acc'.getD (i+j-1-k) 0=(bz3 L i acc).getD k 0)∧(bz3 L i acc).getD (i+j) 0=qzp (i+j) acc' o.after.toList
 | [],i,acc,j,o,hl,h=>by simp at h
 |o'::L,i,acc,0,o,hl,h=>by
  simp only[List.getElem?_cons_zero,Option.some.injEq] at h
  subst h
  simp only[bz3,szj]
  obtain ⟨ys,hy⟩:=DzP L (i+1) (qzp i acc o'.after.toList::acc)
  rw[hy,List.reverse_cons,List.append_assoc]
  refine ⟨acc,fun k hk=>?_,?_⟩
  ·rw[List.getD_eq_getElem?_getD,List.getD_eq_getElem?_getD,List.getElem?_append_left (by simp;omega),List.getElem?_reverse (by omega),hl,Nat.add_zero]
  ·rw[List.getD_eq_getElem?_getD,List.getElem?_append_right (by simp;omega)]
   simp [hl]
 |o'::L,i,acc,j+1,o,hl,h=>by
  simp only[bz3,szj]
  have:=Bz2 L (i+1) (qzp i acc o'.after.toList::acc) j o (by simp [hl]) (by simpa using h)
  rw[show i+(j+1)=i+1+j by omega]
  exact this
section
variable {ops:Array Oper}
theorem Qzx {i:Nat} {o:Oper} (ho:ops[i]?=some o) {k:Nat} (h:bit ((bz3 ops.toList 0 []).getD i 0) k): ∃e,e∈o.after∧Region.binds .any e=true∧(k=e.on∨(e.on<i∧bit ((bz3 ops.toList 0 []).getD e.on 0) k)):=by
 obtain ⟨acc,h1,h2⟩:=Bz2 ops.toList 0 [] i o rfl (by rw[←ho,Array.getElem?_toList])
 simp only[Nat.zero_add] at h1 h2
 rw[h2,Ez2] at h
 obtain ⟨e,h3,h4,h5⟩:=h
 refine ⟨e,by simpa using h3,h4,?_⟩
 rcases h5 with h5| ⟨h5,h6⟩
 ·exact .inl h5
 ·rw[h1 _ h5] at h6
  exact .inr ⟨h5,h6⟩
theorem Ozd {i:Nat} {o:Oper} (ho:ops[i]?=some o) {e:Edge} (he:e∈o.after) (hb:Region.binds .any e=true):bit ((bz3 ops.toList 0 []).getD i 0) e.on:=by
 obtain ⟨acc,h1,h2⟩:=Bz2 ops.toList 0 [] i o rfl (by rw[←ho,Array.getElem?_toList])
 simp only[Nat.zero_add] at h1 h2
 rw[h2,Ez2]
 exact ⟨e,by simpa using he,hb, .inl rfl⟩
structure Lst (ops:Array Oper) (p:Nat) (listed:Array Bool) (U:List Nat):Prop where
 sz:listed.size=ops.size
 lo: ∀k,k<p→listed.getD k false=true
 dn: ∀k o e,listed.getD k false=true→ops[k]?=some o→e∈o.after→Region.binds .any e=true→listed.getD e.on false=true
 nd:U.Nodup
 un: ∀k,k∈U↔k<ops.size∧listed.getD k false=false
theorem Lst.anc {p:Nat} {listed:Array Bool} {U:List Nat} (h:Lst ops p listed U): ∀ (i:Nat) (o:Oper),ops[i]?=some o→(∀e∈o.after,Region.binds .any e=true→listed.getD e.on false=true)→ ∀k,bit ((bz3 ops.toList 0 []).getD i 0) k→listed.getD k false=true:=by
 intro i
 induction i using Nat.strongRecOn with
 |ind i ih=>
  intro o ho he k hk
  obtain ⟨e,h1,h2,h3⟩:=Qzx ho hk
  rcases h3 with rfl| ⟨h3,h4⟩
  ·exact he e h1 h2
  ·have hlt:i<ops.size:=(Array.getElem?_eq_some_iff.1 ho).1
   have hoe:ops[e.on]?=some ops[e.on]:=Array.getElem?_eq_getElem (by omega)
   exact ih e.on h3 _ hoe (fun e' he' hb'=>h.dn _ _ e' (he e h1 h2) hoe he' hb') k h4
theorem lzc {listed:Array Bool} {j:Nat} (h:listed.getD j true=false):j<listed.size∧listed.getD j false=false:=by
 rcases Nat.lt_or_ge j listed.size with hj|hj
 ·refine ⟨hj,?_⟩
  rw[Array.getD_eq_getD_getElem?,Array.getElem?_eq_getElem hj] at h⊢
  exact h
 ·rw[Array.getD_eq_getD_getElem?,Array.getElem?_eq_none hj] at h
  cases h
theorem Rze {listed:Array Bool} {j:Nat} (hj:j<listed.size) (h:listed.getD j false=false):listed.getD j true=false:=by
 rw[Array.getD_eq_getD_getElem?,Array.getElem?_eq_getElem hj] at h⊢
 exact h
theorem jzM {listed:Array Bool} {j:Nat} (hj:j<listed.size):(listed.setIfInBounds j true).getD j false=true:=by
 simp [hj]
theorem Lst.set {p:Nat} {listed:Array Bool} {U:List Nat} (h:Lst ops p listed U) {j:Nat} (hj:j∈Region.ready .any ops listed):Lst ops p (listed.setIfInBounds j true) (U.erase j)∧(U.erase j).length+1=U.length:=by
 obtain ⟨h1,o,ho,h2⟩:=mem_ready.1 hj
 obtain ⟨h3,h4⟩:=lzc h1
 have hmem:j∈U:=(h.un j).2 ⟨by rw[←h.sz];exact h3,h4⟩
 refine ⟨⟨by simp [h.sz],fun k hk=>getD_set_true (h.lo k hk),fun k o' e hk ho' he hb=>?_,h.nd.erase j,fun k=>?_⟩,?_⟩
 ·by_cases hkj:j=k
  ·subst hkj
   rw[ho] at ho'
   cases ho'
   exact getD_set_true (h2 e he hb)
  ·rw[getD_set_ne false hkj] at hk
   exact getD_set_true (h.dn k o' e hk ho' he hb)
 ·rw[h.nd.mem_erase_iff,h.un]
  by_cases hkj:j=k
  ·subst hkj
   rw[jzM h3]
   simp
  ·rw[getD_set_ne false hkj]
   exact ⟨fun ⟨_,h⟩=>h,fun h=>⟨fun e=>hkj e.symm,h⟩⟩
 ·have:=List.length_erase_of_mem hmem
  have hpos:0<U.length:=List.length_pos_of_mem hmem
  omega
theorem least {Q:Nat→Prop}: ∀k,Q k→ ∃m,Q m∧ ∀j,j<m→ ¬Q j:=by
 intro k
 induction k using Nat.strongRecOn with
 |ind k ih=>
  intro h
  by_cases hx: ∃j,j<k∧Q j
  ·obtain ⟨j,h1,h2⟩:=hx
   exact ih j h1 h2
  ·exact ⟨k,h,fun j hj hq=>hx ⟨j,hj,hq⟩⟩
theorem Lst.ready {p:Nat} {listed:Array Bool} {U:List Nat} (h:Lst ops p listed U) (hback: ∀j k,p≤j→j<ops.size→bit ((bz3 ops.toList 0 []).getD j 0) k→k<j) (hU:U≠ []):Region.ready .any ops listed≠ []:=by
 obtain ⟨u,hu⟩: ∃u,u∈U:=by
  cases U with
  |nil=>exact absurd rfl hU
  |cons x _=>exact ⟨x,by simp⟩
 obtain ⟨m,h1,h2⟩:=least (Q:=fun k=>k∈U) u hu
 obtain ⟨h3,h4⟩:=(h.un m).1 h1
 have hom:ops[m]?=some ops[m]:=Array.getElem?_eq_getElem h3
 have hpm:p≤m:=by
  rcases Nat.lt_or_ge m p with hlt|hge
  ·rw[h.lo m hlt] at h4;cases h4
  ·exact hge
 have:m∈Region.ready .any ops listed:=mem_ready.2 ⟨Rze (by rw[h.sz];exact h3) h4,_,hom,fun e he hb=>by
  have hlt:=hback m e.on hpm h3 (Ozd hom he hb)
  cases hc:listed.getD e.on false
  ·exact (h2 e.on hlt ((h.un _).2 ⟨by omega,hc⟩)).elim
  ·rfl⟩
 intro hn
 rw[hn] at this
 cases this
end
end Go.TV
