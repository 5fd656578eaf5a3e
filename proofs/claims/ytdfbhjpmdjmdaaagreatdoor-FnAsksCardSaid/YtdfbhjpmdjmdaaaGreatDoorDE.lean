/- What is told of a drawn ask, right or not, is what the document tells. Of no condition. -/
import Derived.Test.YtdfbhjpmdjmdaaaGreatDoorSV
set_option linter.unusedVariables false
set_option linter.unusedSimpArgs false
set_option maxRecDepth 100000
namespace Go.Proofs.YtdfbhjpmdjmdaaaGreatDoor
open Go.TV
abbrev nm4:List ByteArray:=[bs [97,97,97,97],bs [97,97,97,98],bs [98,111,98,98],bs [122,122,122,122]]
def AccR (i:Nat) (l:List azb):Prop:=(∀a∈l,(∃j,j<i∧j<4∧a.1=nm4.getD j (bs []))∧((0≤a.2.1∧a.2.1≤1000)∧(0≤a.2.2.1∧a.2.2.1≤1000000000))∧a.2.2.2.1.length≤8∧(∀p∈a.2.2.2.1,nzQ p)∧a.2.2.2.1.Pairwise ltP)∧l.Pairwise fun a b=>Op.bytesLess a.1.toList b.1.toList=true
theorem nm4_lt {j i:Nat} (h:j<i) (hi:i<4):Op.bytesLess (nm4.getD j (bs [])).toList (nm4.getD i (bs [])).toList=true:=by
 have: ∀i,i<4→ ∀j,j<i→Op.bytesLess (nm4.getD j (bs [])).data.toList (nm4.getD i (bs [])).data.toList=true:=by
  intro i hi j hj
  match i,j,hi,hj with
  |1,0,_,_=>rfl
  |2,0,_,_=>rfl
  |2,1,_,_=>rfl
  |3,0,_,_=>rfl
  |3,1,_,_=>rfl
  |3,2,_,_=>rfl
 rw[rz2,rz2]
 exact this i hi j h
theorem Bzt: ∀ (m i:Nat) (l:List azb) (c:azi),i+m=4→l.length≤i→AccR i l→czm c→
 ∃ (r:List azb) (c':azi),azn (l,(nm4,((i:Int),(c,()))))=some ((r,()),(c',()))∧r.length≤4∧AccR 4 r∧czm c':=by
 intro m
 induction m with
 |zero=>
  intro i l c hi hl ha h
  obtain rfl:i=4:=by omega
  rw[ozQ,az7 (by omega),azc]
  exact ⟨l,c,rfl,by omega,ha,h⟩
 |succ m ih=>
  intro i l c hi hl ha h
  obtain ⟨b,c1,e1,h1⟩:=once_l 2 h
  rw[ozQ,bzW (by omega),aza,e1,azd]
  simp only[]
  have up:AccR (i+1) l:=⟨fun a hm=>by
   obtain ⟨⟨j,j1,j2,j3⟩,rest⟩:=ha.1 a hm
   exact ⟨⟨j,by omega,j2,j3⟩,rest⟩,ha.2⟩
  cases b with
  |false=>
   rw[azc,azq (by omega)]
   exact ih (i+1) l c1 (by omega) (by omega) up h1
  |true=>
   obtain ⟨v,c2,e2,v0,v1,h2⟩:=czE 5 h1
   obtain ⟨w,c3,e3,hw,h3⟩:=szk [0,100,70000,1000000000] (by decide) h2
   obtain ⟨p,c4,e4,hp,hp2,hp3,h4⟩:=Mzd h3
   have v2:=v1 (by omega)
   have hw':0≤w∧w≤1000000000:=by
    simp only[List.mem_cons,List.not_mem_nil,or_false] at hw
    omega
   have h4':i<nm4.length:=by show i<4;omega
   have hin:inb (i:Int) (len nm4)=true:=az0 h4'
   have hrd:rd (bs []) nm4 (i:Int)=nm4.getD i (bs []):=by unfold rd;simp
   have hf: ∀y:azb,fits (len l+len (y::([]:List azb))) 4=true:=fun y=>azv (by decide) (by simp only[List.length_cons,List.length_nil];omega)
   rw[aza]
   simp only[hin,aza,e2,e3,e4,azd,hf,mze]
   rw[azq (by omega),hrd]
   refine ih (i+1) _ c4 (by omega) (by unfold app;rw[List.length_append];simp only[List.length_cons,List.length_nil];omega) ⟨fun a ha'=>?_,?_⟩ h4
   ·rcases List.mem_append.1 ha' with ha'|ha'
    ·exact up.1 a ha'
    ·rw[List.mem_singleton.1 ha']
     exact ⟨⟨i,by omega,by omega,rfl⟩,⟨⟨v0,by show v≤1000;omega⟩,hw'⟩,hp,hp2,hp3⟩
   ·unfold app
    rw[List.pairwise_append]
    refine ⟨ha.2,List.pairwise_singleton _ _,fun a hm b hb=>?_⟩
    rw[List.mem_singleton.1 hb]
    obtain ⟨⟨j,j1,j2,j3⟩,_⟩:=ha.1 a hm
    rw[j3]
    exact nm4_lt j1 (by omega)
theorem ozL {c:azi} (h:czm c): ∃ (r:List azb) (c':azi),czJ (c,())=some ((r,()),(c',()))∧r.length≤4∧AccR 4 r∧czm c':=by
 rw[yzP]
 exact Bzt 4 0 [] c (by omega) (by simp) ⟨fun a ha=>(by cases ha),List.Pairwise.nil⟩ h
theorem Izn {c:azi} (h:czm c): ∃ (r:List azb) (c':azi),czJ (c,())=some ((r,()),(c',()))∧hzX r∧czm c':=by
 obtain ⟨r,c',e,h1,h2,h3⟩:=ozL h
 exact ⟨r,c',e,⟨by omega,fun a ha=>by have:=(h2.1 a ha).2.2.1;omega⟩,h3⟩
theorem bzZ:Fine azr azG:=⟨⟨Nat.zero_le _,fun x hx=>by cases hx⟩,trivial⟩
theorem Qz6 (code:List Int) (hl:code.length≤1048576): ∃ (root:ByteArray) (l:List azb) (n s A B:ByteArray),hzX l∧A.size=32∧B.size=32∧
 nzh (code,())=some ((root,((n,(s,(azS (azR l),([A,B],(az1 (azR l) n,(gze l n s,())))))),())),()):=by
 obtain ⟨c,e,h⟩:=Iz5 code hl
 obtain ⟨n,c1,e1,hn,h1⟩:=Ezq [bs [97,97,97,97],bs [97,97,97,98],bs [98,111,98,98],bs [110,111,110,101]] (by decide) h
 have hn4:n.size=4:=by
  simp only[List.mem_cons,List.not_mem_nil,or_false] at hn
  rcases hn with rfl|rfl|rfl|rfl<;>rfl
 obtain ⟨s,c2,e2,hs4,h2⟩:=LzL h1
 obtain ⟨l,c3,e3,hs,h3⟩:=Izn h2
 obtain ⟨lv,v0,v1,v2,v3⟩:=rzy l hs azG azG bzZ bzZ DzV
 obtain ⟨r,rf,r1,r2⟩:=GzM l hs azG azG bzZ bzZ DzV n s (by omega) (by omega)
 obtain ⟨A,B,hA,hB,hform⟩:=Rzu l hs azG azG bzZ bzZ DzV n s
 obtain rfl:=hform r r1
 refine ⟨vzN lv,l,n,s,A,B,hs,hA,hB,?_⟩
 rw[Fz2,e,azd]
 simp only[]
 rw[e1,azd]
 simp only[]
 rw[e2,azd]
 simp only[]
 rw[e3,azd]
 simp only[]
 rw[v3,azd]
 simp only[]
 rw[xzh lv (fun y hy=>Nat.le_trans (v1 y hy) (by decide)) (by omega),azd,r2,azd]
theorem Kzk (code:List Int) (hl:code.length≤1048576): ∃ (root k s ro:ByteArray) (br pf sl:List ByteArray) (l:List azb),ezT (code,())=some ((root,((k,(s,(ro,(br,(pf,(sl,())))))),())),())∧
 (br.length=2→ ∀y∈br,y.size=32)∧((verV ro k pf).2.1=true→ ∃a∈l,yzy a∧pokV a.2.2.2.1=true∧(verV ro k pf).1=accT a):=by
 obtain ⟨c,e,h⟩:=Iz5 code hl
 obtain ⟨v,c1,e1,_,_,h1⟩:=czE 12 h
 obtain ⟨root,l,n,s,A,B,hs,hA,hB,ea⟩:=Qz6 code hl
 have hbr:([A,B]:List ByteArray).length=2→ ∀y∈[A,B],y.size=32:=fun _ y hy=>by
  simp only[List.mem_cons,List.not_mem_nil,or_false] at hy
  rcases hy with rfl|rfl<;>assumption
 have H: ∀ro k:ByteArray,(verV ro k (az1 (azR l) n)).2.1=true→ ∃a∈l,yzy a∧pokV a.2.2.2.1=true∧(verV ro k (az1 (azR l) n)).1=accT a:=fun ro k hh=>by
  obtain ⟨p,hp,e⟩:=Jzc (azR l) n k ro hh
  obtain ⟨a,ha,h1,h2,h3⟩:=LzH hp
  exact ⟨a,ha,h1,h2,e.trans h3⟩
 have H0: ∀ro k:ByteArray,(verV ro k []).2.1=true→ ∃a∈l,yzy a∧pokV a.2.2.2.1=true∧(verV ro k []).1=accT a:=fun ro k hh=>by
  unfold verV at hh
  rw[if_pos (fun hh=>by have:=hh.2.2.1;simp at this)] at hh
  cases hh
 have hsl:(gze l n s).length≤10:=by
  unfold gze
  split
  ·exact mzS _ _
  ·simp
 rw[vzG,e,azd]
 simp only[]
 rw[e1,azd]
 simp only[]
 rw[ea,azd]
 simp only[]
 cases ieq v 0 with
 |true=>
  rw[aza,ezE _ (by rw[gzq];decide),azd]
  exact ⟨_,_,_,_,_,_,_,l,rfl,hbr,H _ _⟩
 |false=>
 rw[azc]
 cases ieq v 1 with
 |true=>
  obtain ⟨k,c2,e2,_,_⟩:=Ezq [bs [97,97,97,97],bs [110,111,110,101],bs [120]] (by decide) h1
  rw[aza,e2,azd]
  exact ⟨_,_,_,_,_,_,_,l,rfl,hbr,H _ _⟩
 |false=>
 rw[azc]
 cases ieq v 2 with
 |true=>
  obtain ⟨k,c2,e2,_,_⟩:=LzL h1
  rw[aza,e2,azd]
  exact ⟨_,_,_,_,_,_,_,l,rfl,hbr,H _ _⟩
 |false=>
 rw[azc]
 cases ieq v 3 with
 |true=>
  rw[aza,azv (by decide) (by simp only[List.length_nil];omega),aza,show app ([]:List ByteArray) (gze l n s)=gze l n s from rfl,azv (by decide) (by simp only[List.length_cons,List.length_nil];omega),aza]
  exact ⟨_,_,_,_,_,_,_,l,rfl,hbr,H _ _⟩
 |false=>
 rw[azc]
 cases ieq v 4 with
 |true=>
  rw[aza]
  exact ⟨_,_,_,_,_,_,_,l,rfl,hbr,H0 _ _⟩
 |false=>
 rw[azc]
 cases ieq v 5 with
 |true=>
  rw[aza,azv (by decide) (by simp),aza,azv (by decide) (by simp [app]),aza]
  exact ⟨_,_,_,_,_,_,_,l,rfl,fun hh=>by simp [app] at hh,H _ _⟩
 |false=>
 rw[azc]
 cases ieq v 6 with
 |true=>
  rw[aza]
  exact ⟨_,_,_,_,_,_,_,l,rfl,hbr,H _ _⟩
 |false=>
  rw[azc]
  exact ⟨_,_,_,_,_,_,_,l,rfl,hbr,H _ _⟩
theorem BzD (code:List Int):izR (code,())=some ((true,()),()):=by
 rw[Az1,big_l,azd]
 simp only[]
 by_cases hb:1048576<code.length
 ·rw[decide_eq_true hb,aza]
 ·obtain ⟨root,k,s,ro,br,pf,sl,l,e,hbr,H⟩:=Kzk code (by omega)
  obtain ⟨v,b,c,e1,e2,hc⟩:=Izz root ro k s l pf br sl hbr H
  have z:czy (root,((k,(s,(bs [],(br,(pf,(sl,())))))),()))=some ((bs [],(false,(1,()))),()):=by
   rw[kzN,czG,azd]
   rfl
  rw[decide_eq_false hb,azc,e,azd]
  simp only[]
  rw[e1,azd,e2,azd,z,azd]
  simp only[]
  rw[nzV,decide_eq_true rfl,aza,Pzp,BEq.rfl,aza,czd,decide_eq_true rfl,aza,show ieq 1 1=true from rfl,aza,czd]
  rcases hc with rfl| ⟨rfl,rfl⟩
  ·rfl
  ·by_cases h0:c=0
   ·rw[decide_eq_true h0,aza]
   ·rw[decide_eq_false h0,azc,nzV,decide_eq_true rfl,aza]
    rfl
end Go.Proofs.YtdfbhjpmdjmdaaaGreatDoor
