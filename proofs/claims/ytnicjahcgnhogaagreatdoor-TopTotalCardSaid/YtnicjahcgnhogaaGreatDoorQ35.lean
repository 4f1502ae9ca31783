/- Part 36 of the walk: contracts of the program's functions, each for every input. No condition. -/
import Derived.Test.YtnicjahcgnhogaaGreatDoorQ00
import Derived.Deep.Slices
import Derived.Test.YtnicjahcgnhogaaGreatDoorQ32
import Derived.Test.YtnicjahcgnhogaaGreatDoorQ02
import Derived.Test.YtnicjahcgnhogaaGreatDoorQ33
import Derived.Test.YtnicjahcgnhogaaGreatDoorQ34
import Derived.Test.YtnicjahcgnhogaaGreatDoorQ17
import Derived.Test.YtnicjahcgnhogaaGreatDoorQ31
set_option linter.unusedVariables false
set_option linter.unusedSimpArgs false
set_option maxRecDepth 100000
set_option maxHeartbeats 8000000
namespace Go.Calli
open Go.RowKit
def bG(P:Program)(w:World)(t:TypeId)(cs:List Value):Prop:=
 ∃(H:Type)(enc:TypeId×Value→H)(n:Nat)(x:DataW H×List MemPlace),DataW.trod enc P w 0 (fun _=>true) true n t cs=some x
variable {P:Program} {w:World} {t:TypeId} {cs:List Value}
theorem bG.yA{H:Type}{enc:TypeId×Value→H}{v:Value}{d:DataW H}{ps:List MemPlace}(h:DataW.Trod enc P w 0 (fun _=>true) true t v d ps):bG P w t v.cells.toList:=by
 obtain⟨n,hn⟩:=h
 exact⟨H,enc,n,_,hn⟩
theorem bG.int{k:IntKind}(ht:P.underlying t=some (.int k))(h:bG P w t cs): ∃n,cs=[.int k n]∧(Lit.int k n).wf=true:=by
 obtain⟨H,enc,n,x,h⟩:=h
 obtain⟨m,rfl,_,hw⟩:=DataW.trod_int ht h
 exact⟨m,rfl,hw⟩
theorem bG.bool(ht:P.underlying t=some .bool)(h:bG P w t cs): ∃b,cs=[.bool b]:=by
 obtain⟨H,enc,n,x,h⟩:=h
 obtain⟨b,rfl,_⟩:=DataW.trod_bool ht h
 exact⟨b,rfl⟩
theorem bG.string(ht:P.underlying t=some .string)(h:bG P w t cs): ∃s:ByteArray,cs=[.string s]∧s.size≤maxLen:=by
 obtain⟨H,enc,n,x,h⟩:=h
 obtain⟨s,rfl,_,hs⟩:=DataW.trod_string ht h
 exact⟨s,rfl,hs⟩
theorem bG.slice{e:TypeId}(ht:P.underlying t=some (.slice e))(h:bG P w t cs):
  cs=[.slice none 0 0]∨∃a len cap,cs=[.slice (some a) len cap]∧len≤cap∧cap≤maxLen∧
   ∀i,i<len→∃ds,ds.length=P.cellsOf e∧(∀j,j<P.cellsOf e→w.cell? ((a.add (i*P.cellsOf e)).add j)=ds[j]?)∧bG P w e ds:=by
 obtain⟨H,enc,n,x,h⟩:=h
 rcases Deep.open_slice ht h with⟨rfl,_⟩ | ⟨a,len,cap,m,n',D,Pl,rfl,_,hl,hm,hmm,_,hx⟩
 ·exact .inl rfl
 ·refine .inr ⟨a,len,cap,rfl,hl,hm,fun i hi=>?_⟩
  obtain⟨ds,h1,h2⟩:=hx i (by rw[hmm];simp;omega)
  obtain⟨_,hlen,hcell⟩:=World.cells?_some h1
  exact⟨ds,hlen,hcell,H,enc,n',_,h2⟩
theorem bG.struct{fs:Array Field}(ht:P.underlying t=some (.struct fs))(h:bG P w t cs):
  cs.length=P.cellsOf t∧∀(i:Nat)(f:Field),fs[i]? =some f→bG P w f.type ((cs.drop f.offset).take (P.cellsOf f.type)):=by
 obtain⟨H,enc,n,x,h⟩:=h
 obtain⟨xs,n',_,_,hlen,hxs,hf⟩:=DataW.trod_struct ht h
 refine⟨hlen,fun i f hi=>?_⟩
 have:=hf i f hi
 have hlt:i<xs.length:=by
  have:=(Array.getElem?_eq_some_iff.1 hi).1
  omega
 rw[List.getElem?_eq_getElem hlt] at this
 exact⟨H,enc,n',_,this⟩
theorem bG.array{n:Nat}{e:TypeId}(ht:P.underlying t=some (.array n e))(h:bG P w t cs):
  cs.length=P.cellsOf t∧∀i,i<n→bG P w e ((cs.drop (i*P.cellsOf e)).take (P.cellsOf e)):=by
 obtain⟨H,enc,m,x,h⟩:=h
 obtain⟨xs,n',_,_,hlen,hxs,hf⟩:=DataW.trod_array ht h
 refine⟨hlen,fun i hi=>?_⟩
 have:=hf i hi
 rw[List.getElem?_eq_getElem (show i<xs.length by omega)] at this
 exact⟨H,enc,n',_,this⟩
theorem kW{α:Type}(n:Nat)(p:Nat→α→Prop)(h: ∀i,i<n→∃x,p i x): ∃l:List α,l.length=n∧∀i x,l[i]? =some x→p i x:=by
 induction n with
 | zero=>exact⟨[],rfl,fun i x hx=>by simp at hx⟩
 | succ n ih=>
  obtain⟨l,hl,hp⟩:=ih (fun i hi=>h i (by omega))
  obtain⟨x,hx⟩:=h n (by omega)
  refine⟨l++[x],by simp[hl],fun i y hy=>?_⟩
  by_cases hi:i<n
  ·exact hp i y (by rwa [List.getElem?_append_left (by omega)] at hy)
  ·have hin:i=n:=by
    have:=(List.getElem?_eq_some_iff.1 hy).1
    simp[hl] at this;omega
   subst hin
   rw[List.getElem?_append_right (by omega),hl] at hy
   simp at hy;subst hy;exact hx
theorem bG.ints{e:TypeId}{k:IntKind}{ao:Option Addr}{len cap:Nat}(ht:P.underlying t=some (.slice e))(he:P.underlying e=some (.int k))(hc:P.cellsOf e=1)
  (h:bG P w t [.slice ao len cap]):len≤cap∧∃zs,Ints k w ao len zs:=by
 rcases h.slice ht with h | ⟨a,l,c,h,hl,hm,hx⟩
 ·simp at h;obtain⟨rfl,rfl,rfl⟩:=h
  exact⟨Me,[],Ints.nil _ _ _⟩
 ·simp at h;obtain⟨rfl,rfl,rfl⟩:=h
  refine⟨hl,?_⟩
  obtain⟨zs,hzl,hz⟩:=kW (α:=Int) len (fun i z=>w.cell? (a.add i)=some (.int k z)∧(Lit.int k z).wf=true) (fun i hi=>by
   obtain⟨ds,hd,hcell,hg⟩:=hx i hi
   obtain⟨z,rfl,hw⟩:=hg.int he
   have:=hcell 0 (by omega)
   rw[hc,Nat.mul_one] at this
   exact⟨z,by simpa[Addr.add] using this,hw⟩)
  refine⟨zs,hzl,by omega,fun i hi=>⟨a,rfl,?_⟩,fun z hz'=>?_⟩
  ·have:=(hz i _ (List.getElem?_eq_getElem (show i<zs.length by omega))).1
   simpa[List.getElem?_eq_getElem (show i<zs.length by omega)] using this
  ·obtain⟨i,hi,rfl⟩:=List.getElem_of_mem hz'
   exact(hz i _ (List.getElem?_eq_getElem hi)).2
def Dc(P:Program)(fs:Array Field)(n:Nat):Bool:=
 (List.range n).all fun i=>match fs[i]? with
  | some f=>(f.offset==i)&&(match P.underlying f.type with | some (.int .i64)=>true | _=>false)&&(P.cellsOf f.type==1)
  | none=>false
theorem bG.Aa{fs:Array Field}{n:Nat}(ht:P.underlying t=some (.struct fs))(hn:P.cellsOf t=n)(hf:Dc P fs n=true)(h:bG P w t cs):
  ∃zs:List Int,zs.length=n∧cs=zs.map (Value.int .i64)∧∀z ∈ zs,(Lit.int .i64 z).wf=true:=by
 obtain⟨hlen,hfs⟩:=h.struct ht
 rw[hn] at hlen
 have hone: ∀i,i<n→∃z,cs[i]? =some (.int .i64 z)∧(Lit.int .i64 z).wf=true:=by
  intro i hi
  have:=List.all_eq_true.1 hf i (List.mem_range.2 hi)
  cases hfi:fs[i]? with
  | none=>simp[hfi] at this
  | some f=>
   simp only[hfi,Bool.and_eq_true,beq_iff_eq] at this
   obtain⟨⟨ho,hu⟩,hc⟩:=this
   have hu':P.underlying f.type=some (.int .i64):=by
    split at hu
    ·assumption
    ·cases hu
   obtain⟨z,hz,hw⟩:=(hfs i f hfi).int hu'
   rw[ho,hc] at hz
   refine⟨z,?_,hw⟩
   have h0:((cs.drop i).take 1)[0]? =some (.int .i64 z):=by rw[hz];rfl
   simpa using h0
 obtain⟨zs,hzl,hz⟩:=kW n (fun i z=>cs[i]? =some (.int .i64 z)∧(Lit.int .i64 z).wf=true) hone
 refine⟨zs,hzl,?_,fun z hz'=>?_⟩
 ·apply List.ext_getElem?
  intro i
  by_cases hi:i<n
  ·rw[(hz i _ (List.getElem?_eq_getElem (show i<zs.length by omega))).1,List.getElem?_map,List.getElem?_eq_getElem (show i<zs.length by omega)];rfl
  ·rw[List.getElem?_eq_none (by omega),List.getElem?_eq_none (by simp;omega)]
 ·obtain⟨i,hi,rfl⟩:=List.getElem_of_mem hz'
  exact(hz i _ (List.getElem?_eq_getElem hi)).2
end Go.Calli
namespace Go.Proofs.YtnicjahcgnhogaaGreatDoor
open Go Go.RowKit Go.Calli
attribute [local irreducible] wpStill wpAnyH wpAnyS wpList Code.wp
def acV(a:Ac):List Value:=[.int .i64 a.k,.int .i64 a.v,.string a.nm,.int .i64 a.n,.int .i64 a.m,.int .i64 a.p,.int .i64 a.x]
def ac0:Ac:=⟨0,0,⟨#[]⟩,0,0,0,0⟩
theorem act_of{w:World}{cs:List Value}(h:bG Tryz.prog w 40 cs): ∃a:Ac,cs=acV a∧a.Wf:=by
 obtain⟨hlen,hf⟩:=h.struct Tryz.underlying40
 rw[show Tryz.prog.cellsOf 40=7 by kernel_rfl] at hlen
 match cs,hlen with
 | [v0,v1,v2,v3,v4,v5,v6],_=>
  have f0:=hf 0 _ rfl
  have f1:=hf 1 _ rfl
  have f2:=hf 2 _ rfl
  have f3:=hf 3 _ rfl
  have f4:=hf 4 _ rfl
  have f5:=hf 5 _ rfl
  have f6:=hf 6 _ rfl
  simp only[List.getElem_toArray,List.getElem_cons_succ,List.getElem_cons_zero] at f0 f1 f2 f3 f4 f5 f6
  rw[show Tryz.prog.cellsOf 9=1 by kernel_rfl] at f2
  rw[show Tryz.prog.cellsOf 3=1 by kernel_rfl] at f0 f1 f3 f4 f6
  rw[show Tryz.prog.cellsOf 2=1 by kernel_rfl] at f5
  simp only[List.drop_zero,List.take_succ_cons,List.take_zero,List.drop_succ_cons] at f0 f1 f2 f3 f4 f5 f6
  obtain⟨k,hk,bk⟩:=f0.int Tryz.underlying3
  obtain⟨v,hv,bv⟩:=f1.int Tryz.underlying3
  obtain⟨s,hs,hsl⟩:=f2.string Tryz.underlying9
  obtain⟨n,hn,bn⟩:=f3.int Tryz.underlying3
  obtain⟨m,hm,bm⟩:=f4.int Tryz.underlying3
  obtain⟨p,hp,bp⟩:=f5.int Tryz.underlying2
  obtain⟨x,hx,bx⟩:=f6.int Tryz.underlying3
  simp at hk hv hs hn hm hp hx
  subst hk;subst hv;subst hs;subst hn;subst hm;subst hp;subst hx
  exact⟨⟨k,v,s,n,m,p,x⟩,rfl,bn,bm⟩
theorem acts_of{w:World}{ao:Option Addr}{len cap:Nat}(h:bG Tryz.prog w 25 [.slice ao len cap]): ∃os,bH acV 7 ac0 w ao len os∧∀a ∈ os,a.Wf:=by
 rcases h.slice Tryz.underlying25 with h1 | ⟨a,l,c,h1,hl,hm,hx⟩
 ·simp at h1;obtain⟨rfl,rfl,rfl⟩:=h1
  exact⟨[],bH.nil _ _ _ _ _,by simp⟩
 ·simp at h1;obtain⟨rfl,rfl,rfl⟩:=h1
  have hc7:Tryz.prog.cellsOf 40=7:=by kernel_rfl
  obtain⟨ms,hml,hms⟩:=kW (α:=Ac) len (fun i x=>(∀j u,(acV x)[j]? =some u→w.cell? ((a.add (i*7)).add j)=some u)∧x.Wf) (fun i hi=>by
   obtain⟨ds,hd,hcell,hg⟩:=hx i hi
   rw[hc7] at hcell
   obtain⟨x,rfl,hw⟩:=act_of hg
   refine⟨x,fun j u hu=>?_,hw⟩
   have hj:j<7:=(List.getElem?_eq_some_iff.1 hu).1
   rw[hcell j hj]
   exact hu)
  refine⟨ms,⟨hml,by omega,fun i hi=>⟨a,rfl,?_⟩⟩,fun x hx=>?_⟩
  ·have:=(hms i _ (List.getElem?_eq_getElem (show i<ms.length by omega))).1
   rwa [show ms.getD i ac0=ms[i] by simp[List.getD,show i<ms.length by omega]]
  ·obtain⟨i,hi,rfl⟩:=List.getElem_of_mem hx
   exact(hms i _ (List.getElem?_eq_getElem hi)).2
def iQ(acts:List Ac):Nat→Nat
 | 0=>0
 | j+1=>iQ acts j+df (acts.getD j ac0)
theorem zu(a:Ac):df a≤256:=by
 unfold df
 split
 ·omega
 ·omega
theorem sumN_le(acts:List Ac)(j:Nat):iQ acts j≤256*j:=by
 induction j with
 | zero=>exact Me
 | succ j ih=>have:=zu (acts.getD j ac0);unfold iQ;omega
theorem rec7{w:World}{ao:Option Addr}{n i:Nat}{os:List Ac}(h:bH acV 7 ac0 w ao n os)(hi:i<n): ∃a,ao=some a∧w.cell? (a.add (i*7))=some (.int .i64 (os.getD i ac0).k)∧w.cell? ⟨(a.add (i*7)).block,(a.add (i*7)).off+1,none⟩=some (.int .i64 (os.getD i ac0).v)∧w.cell? ⟨(a.add (i*7)).block,(a.add (i*7)).off+2,none⟩=some (.string (os.getD i ac0).nm)∧w.cell? ⟨(a.add (i*7)).block,(a.add (i*7)).off+3,none⟩=some (.int .i64 (os.getD i ac0).n)∧w.cell? ⟨(a.add (i*7)).block,(a.add (i*7)).off+4,none⟩=some (.int .i64 (os.getD i ac0).m)∧w.cell? ⟨(a.add (i*7)).block,(a.add (i*7)).off+5,none⟩=some (.int .i64 (os.getD i ac0).p)∧w.cell? ⟨(a.add (i*7)).block,(a.add (i*7)).off+6,none⟩=some (.int .i64 (os.getD i ac0).x):=by
 obtain⟨a,ha,hc⟩:=h.cell i hi
 exact⟨a,ha,hc 0 _ rfl,hc 1 _ rfl,hc 2 _ rfl,hc 3 _ rfl,hc 4 _ rfl,hc 5 _ rfl,hc 6 _ rfl⟩
theorem JF(ao:Option Addr)(n cap:Nat)(acts:List Ac)(w:World)(h:bH acV 7 ac0 w ao n acts):Calls Tryz.prog 6 #[.slice ao n cap] w (fun e w'=>e= .returned (.int .i64 (iQ acts (min n 60):Int))∧Below w.heap.size w w'):=by
 have HR:=MI h
 obtain⟨N,hN⟩: ∃N,N=min n 60:=⟨_,rfl⟩
 rw[←hN]
 have HN:=MI hN
 have HS:=MI (fun j=>show iQ acts (j+1)=iQ acts j+df (acts.getD j ac0) from rfl)
 have HL:=MI (fun j=>sumN_le acts j)
 generalize iQ acts=S at*
 clear h hN
 go_enter Tryz.func6,Tryz.ntmps6
 go_wp2_with fail
 go_loopw [3,4] (fun v3 v4 wr=>∃j m:Nat,j≤N∧v3= .int .i64 (S j:Int)∧v4= .int .i64 (j:Int)∧wr=w.drewN m) (fun _ v4 _=>N - aG v4)
 case atStart=>exact⟨0,0,by omega,by have:=HL.out 0;simp;omega,rfl,rfl⟩
 case round=>
  obtain⟨j,m,hj,rfl,rfl,rfl⟩:=hrel
  by_cases hjl:j<N
  ·have g1:j<n:=by have:=HN.out;omega
   have g2:j<60:=by have:=HN.out;omega
   obtain⟨a,rfl,c0,c1,c2,c3,c4,c5,c6⟩:=rec7 (HR.out.ah (below_drewN MB m)) g1
   have hs1:=HS.out j
   have hl1:=HL.out j
   have hr1:=zu (acts.getD j ac0)
   generalize acts.getD j ac0=x at*
   generalize hS1:S (j+1)=S1 at*
   generalize hS0:S j=S0 at*
   have HS1:=MI hS1
   clear hS1 hS0
   obtain⟨k,v,nm,nn,mm,p,xx⟩:=x
   simp only at c0 c1 c2 c3 c4 c5 c6
   clear c1 c2 c4 c5 c6
   by_cases hk:k=6
   ·subst hk
    by_cases h1:0<nn
    ·by_cases h2:nn≤256
     ·have e1:df ⟨6,v,nm,nn,mm,p,xx⟩=nn.toNat:=by unfold df;rw[if_pos ⟨rfl,by show 0≤nn;omega,h2⟩]
      have hw:IntKind.i64.wrap ((S0:Int)+nn)=(S1:Int):=by
       rw[IntWalk.i64_in _ (by omega),hs1,e1]
       omega
      clear hs1 e1
      go_wp2_with fail
      exact⟨⟨j+1,_,by omega,by rw[HS1.out],by go_num,rfl⟩,by simp[aG];omega⟩
     ·have e1:df ⟨6,v,nm,nn,mm,p,xx⟩=0:=by unfold df;rw[if_neg (fun h=>h2 h.2.2)]
      obtain rfl:S1=S0:=by omega
      clear hs1 e1
      go_wp2_with fail
      exact⟨⟨j+1,_,by omega,by rw[HS1.out],by go_num,rfl⟩,by simp[aG];omega⟩
    ·have e1:df ⟨6,v,nm,nn,mm,p,xx⟩=0:=by
      unfold df
      split
      ·show nn.toNat=0;omega
      ·rfl
     obtain rfl:S1=S0:=by omega
     clear hs1 e1
     go_wp2_with fail
     exact⟨⟨j+1,_,by omega,by rw[HS1.out],by go_num,rfl⟩,by simp[aG];omega⟩
   ·have e1:df ⟨k,v,nm,nn,mm,p,xx⟩=0:=by unfold df;rw[if_neg (fun h=>hk h.1)]
    obtain rfl:S1=S0:=by omega
    have hk2:(k==6)=false:=by simp[hk]
    clear hs1 e1
    go_wp2_with fail
    exact⟨⟨j+1,_,by omega,by rw[HS1.out],by go_num,rfl⟩,by simp[aG];omega⟩
  ·obtain rfl:j=N:=by omega
   have hdone:(¬j<n)∨(j<n∧¬j<60):=by
    have:=HN.out
    omega
   rcases hdone with g1 | ⟨g1,g2⟩
   ·go_wp2_with fail
    go_ret
    exact⟨rfl,below_drewN MB _⟩
   ·go_wp2_with fail
    go_ret
    exact⟨rfl,below_drewN MB _⟩
theorem JS:(Tryz.prog.info? 2).map (fun i=>(i.zero,i.size,i.bytes))=some (some (.int .i64 0),1,8):=by kernel_rfl
def plV(Y:Yx)(y:Ye)(i:Nat):Int:=if(jl Y y (i:Int)).2=0 then(jl Y y (i:Int)).1 else -1
def vN(Y:Yx)(y:Ye)(j:Nat):List Value:=(List.range j).map (fun i=>.int .i64 (plV Y y i))
theorem F5(Y:Yx)(y:Ye)(j:Nat):vN Y y (j+1)=vN Y y j++[.int .i64 (plV Y y j)]:=by
 unfold vN
 rw[List.range_succ,List.map_append]
 rfl
def PlsP(Y:Yx)(y:Ye)(w:World)(e:Ending)(w':World):Prop:=∃ao cap,e= .returned (.slice ao Y.n cap)∧w'.ownsRow w.heap.size 2 1 (.slice ao Y.n cap) Y.n (vN Y y Y.n)∧Below w.heap.size w w'
theorem places_any(X:Fx)(Y:Yx)(B:Bk)(K:Nat)(σ:Own)(rb:Nat)(s:Rs)(hn:Y.n≤16)(w:World)(hy:YIs X Y B K σ w s.y)(hr:RkC X Y w rb s.sh):Calls Tryz.prog 18 #[.pointer (some ⟨rb,0,none⟩)] w (PlsP Y s.y w):=by
 obtain⟨⟨r0,-,-,-⟩,-⟩:=hr
 have HY:=MI hy
 have HR:=MI r0
 have HV:=MI (fun W h=>Bv X Y B K σ s.y W h)
 have HP:=MI (fun id W h=>F8 X Y B K σ s.y id W h)
 unfold PlcP at HP
 have HS:=MI (fun j=>F5 Y s.y j)
 have HF:Hid (∀(w':World)(v:Value),w'.ownsRow w.heap.size 2 1 v Y.n (vN Y s.y Y.n)→Below w.heap.size w w'→PlsP Y s.y w (.returned v) w'):=fun w' v h1 h2=>by
  obtain⟨ao,cap,hv⟩:=bV h1
  subst hv
  exact⟨ao,cap,rfl,h1,h2⟩
 have HD:=MI (fun j=>show plV Y s.y j=if(jl Y s.y (j:Int)).2=0 then(jl Y s.y (j:Int)).1 else -1 from rfl)
 have hr0:vN Y s.y 0=[]:=rfl
 generalize vN Y s.y=L at*
 generalize plV Y s.y=V at*
 clear hy r0
 go_enter Tryz.func18,Tryz.ntmps18
 go_wp2_with fail
 go_loopw [3,4] (fun v3 v4 wr=>∃j:Nat,j≤Y.n∧v4= .int .i64 (j:Int)∧wr.ownsRow w.heap.size 2 1 v3 j (L j)∧Below w.heap.size w wr) (fun _ v4 _=>Y.n - aG v4)
 case atStart=>exact⟨0,by omega,rfl,by rw[hr0];exact World.ownsRow_nil _ _ _ _,Below.refl _ _⟩
 case round=>
  obtain⟨j,hj,rfl,hO,hB⟩:=hrel
  have hYr:=HY.out.ah hB
  have r0:=(af.au (S:=fun _=>False) hB Me).cell HR.out (fun e=>e)
  by_cases hjl:j<Y.n
  ·have hlt:(j:Int)<(Y.n:Int):=by omega
   have hs1:=HS.out j
   have hd1:=HD.out j
   have hP:=HP.out (j:Int) wr hYr
   generalize jl Y s.y (j:Int)=q at*
   obtain⟨p1,p2⟩:=q
   simp only at hd1 hP
   obtain⟨ao,cap,rfl⟩:=bV hO
   have hT:Hid (∀(v':Value)(w':World),w'.ownsRow w.heap.size 2 1 v' (j+1) (L j++[.int .i64 (V j)])→af (fun k=>(Value.slice ao j cap).ownBlock=some k) wr w'→w'.ownsRow w.heap.size 2 1 v' (j+1) (L (j+1))∧Below w.heap.size w w'):=fun v' w' h1 h2=>by
    rw[hs1]
    exact⟨h1,((af.au (S:=fun _=>False) hB Me).andThen h2 (fun i hi e=>by have:=mr hO e;omega)).bg Me (fun _ _ e=>e)⟩
   have hBs:=hB.size
   clear hs1 hr0
   generalize L j=Lj at*
   generalize V j=Vj at*
   have HO:=MI hO
   clear hO
   by_cases hp:p2=0
   ·rw[if_pos hp] at hd1
    subst hp hd1
    go_wp2_with (first
     | (go_at_call 52;refine(HV.out _ hYr).mono ?_;rintro e w' ⟨rfl,rfl⟩)
     | (go_at_call 53;refine hP.mono ?_;rintro e w' ⟨rfl,rfl⟩)
     | (at_builtin;refine jh rfl (.tmp 27) (.tmp 29) 68 2 rfl Tryz.underlying68 JS rfl w.heap.size _ _ _ rfl HO.out (.int .i64 _) rfl rfl (by omega) (by unfold maxLen;omega) hBs ?_;intro v3 w3 hown3 hk3;obtain⟨hO4,hB4⟩:=hT.out _ _ hown3 hk3;obtain⟨ao3,cap3,rfl⟩:=bV hO4))
    exact⟨⟨j+1,by omega,by go_num,hO4,hB4⟩,by simp[aG];omega⟩
   ·rw[if_neg hp] at hd1
    subst hd1
    have hp2:(p2 !=0)=true:=by simp[hp]
    go_wp2_with (first
     | (go_at_call 52;refine(HV.out _ hYr).mono ?_;rintro e w' ⟨rfl,rfl⟩)
     | (go_at_call 53;refine hP.mono ?_;rintro e w' ⟨rfl,rfl⟩)
     | (at_builtin;refine jh rfl (.tmp 27) (.tmp 29) 68 2 rfl Tryz.underlying68 JS rfl w.heap.size _ _ _ rfl HO.out (.int .i64 _) rfl rfl (by omega) (by unfold maxLen;omega) hBs ?_;intro v3 w3 hown3 hk3;obtain⟨hO4,hB4⟩:=hT.out _ _ hown3 hk3;obtain⟨ao3,cap3,rfl⟩:=bV hO4))
    exact⟨⟨j+1,by omega,by go_num,hO4,hB4⟩,by simp[aG];omega⟩
  ·obtain rfl:j=Y.n:=by omega
   have hnl:¬(Y.n:Int)<(Y.n:Int):=by omega
   have hE:=MI (HF.out _ _ hO hB)
   obtain⟨ao,cap,rfl⟩:=bV hO
   clear hO
   go_wp2_with (go_at_call 52;refine(HV.out _ hYr).mono ?_;rintro e w' ⟨rfl,rfl⟩)
   go_ret
   exact hE.out
end Go.Proofs.YtnicjahcgnhogaaGreatDoor
namespace Go.Proofs.YtnicjahcgnhogaaGreatDoor
open Go Go.RowKit Go.Calli Go.Dskp Go.Maps
attribute [local irreducible] wpStill wpAnyH wpAnyS wpList Code.wp
theorem IY{l:List Po}{i:Nat}{q:Px×Pt}(h:l.getD i none=some q):l.set i (some q)=l:=by
 by_cases hi:i<l.length
 ·have e:l[i]=some q:=by
   rw[List.getD,List.getElem?_eq_getElem hi] at h
   exact h
  rw[←e]
  exact List.set_getElem_self hi
 ·rw[List.getD,List.getElem?_eq_none (by omega)] at h
  cases h
theorem mJ{Y:Yx}{y:Ye}{v:Int}{g:Pt→Int×Pt}(hg: ∀p,(g p).1≠0→(g p).2=p)(h:(cZ Y y v g).1≠0):(cZ Y y v g).2=y:=by
 unfold cZ at h⊢
 split
 ·rfl
 ·rename_i hn
  rw[if_neg hn] at h
  cases hq:y.ps.getD v.toNat none with
  | none=>rfl
  | some q=>
   rw[hq] at h
   simp only at h⊢
   rw[hg _ h,show(some (q.1,q.2):Po)=some q from rfl,IY hq]
theorem qy{Y:Yx}{y:Ye}{v:Int}{g:Pt→Int×Pt}(hg: ∀p,0≤(g p).1∧(g p).1≤17):0≤(cZ Y y v g).1∧(cZ Y y v g).1≤17:=by
 unfold cZ
 split
 ·exact⟨of_decide_eq_true rfl,of_decide_eq_true rfl⟩
 ·cases y.ps.getD v.toNat none with
  | none=>exact⟨of_decide_eq_true rfl,of_decide_eq_true rfl⟩
  | some q=>exact hg q.2
theorem mM{Y:Yx}{y:Ye}{v:Int}{g:Pt→Int×Pt}:(cZ Y y v g).2.count=y.count:=by
 unfold cZ
 split
 ·rfl
 ·cases y.ps.getD v.toNat none with
  | none=>rfl
  | some q=>rfl
theorem zf{Y:Yx}{y:Ye}{v:Int}:(iT Y y v).2.count=y.count∧0≤(iT Y y v).1∧(iT Y y v).1≤17∧((iT Y y v).1≠0→(iT Y y v).2=y):=by
 unfold iT
 split
 ·exact⟨rfl,of_decide_eq_true rfl,of_decide_eq_true rfl,fun _=>rfl⟩
 ·cases y.ps.getD v.toNat none with
  | none=>exact⟨rfl,of_decide_eq_true rfl,of_decide_eq_true rfl,fun _=>rfl⟩
  | some q=>exact⟨rfl,of_decide_eq_true rfl,of_decide_eq_true rfl,fun h=>absurd rfl h⟩
theorem CJ{B:Bk}{f:Fe}{y:Ye}{r:Rp}: ∀(k:Nat)(f':Fe)(y':Ye)(r':Rp)(L M:List Int),EP B f y r k f' y' r' L M→y'.count=y.count:=by
 intro k
 induction k with
 | zero=>
  intro f' y' r' L M h
  obtain⟨-,rfl,-⟩:=h
  rfl
 | succ k ih=>
  intro f' y' r' L M h
  obtain⟨f1,y1,r1,L1,M1,h1,h2⟩:=h
  have:=ih _ _ _ _ _ h1
  rcases h2 with⟨-,-,rfl,-⟩ | ⟨P,p,p',a,b,lo,-,-,rfl,-⟩
  ·exact this
  ·exact this
theorem FN{B:Bk}{n:Nat}{f:Fe}{y:Ye}: ∀(k:Nat)(f':Fe)(y':Ye)(r':Rp)(O:List (Int×Int)),A8 B n f y k f' y' r' O→y'.count=y.count:=by
 intro k
 induction k with
 | zero=>
  intro f' y' r' O h
  obtain⟨-,rfl,-⟩:=h
  rfl
 | succ k ih=>
  intro f' y' r' O h
  obtain⟨f1,y1,r1,O1,l,m,h1,⟨L,M,h2,-,-⟩,-⟩:=h
  exact(CJ _ _ _ _ _ _ h2).trans (ih _ _ _ _ h1)
theorem I7(n:Int)(p:Pt):0≤(dJ p.v n).1∧(dJ p.v n).1≤17∧((dJ p.v n).1≠0→({p with v:=(dJ p.v n).2}:Pt)=p):=by
 unfold dJ
 split
 ·exact⟨of_decide_eq_true rfl,of_decide_eq_true rfl,fun _=>rfl⟩
 ·exact⟨of_decide_eq_true rfl,of_decide_eq_true rfl,fun h=>absurd rfl h⟩
theorem Iq(n:Int)(p:Pt):0≤(dI p.v n).1∧(dI p.v n).1≤17∧((dI p.v n).1≠0→({p with v:=(dI p.v n).2}:Pt)=p):=by
 unfold dI
 split
 ·exact⟨of_decide_eq_true rfl,of_decide_eq_true rfl,fun _=>rfl⟩
 ·exact⟨of_decide_eq_true rfl,of_decide_eq_true rfl,fun h=>absurd rfl h⟩
theorem Ic(l r:Int)(p:Pt):0≤(kZ l r p).1∧(kZ l r p).1≤17∧((kZ l r p).1≠0→(kZ l r p).2=p):=by
 unfold kZ
 split
 ·exact⟨of_decide_eq_true rfl,of_decide_eq_true rfl,fun _=>rfl⟩
 ·exact⟨of_decide_eq_true rfl,of_decide_eq_true rfl,fun h=>absurd rfl h⟩
theorem EH(f:Fe)(a:Ac):0≤(lT f a).err∧(lT f a).err≤17:=by
 unfold lT
 split
 ·exact⟨of_decide_eq_true rfl,of_decide_eq_true rfl⟩
 split
 ·unfold flE qT;simp only;split<;>exact⟨of_decide_eq_true rfl,of_decide_eq_true rfl⟩
 split
 ·unfold spE qT;simp only;split
  ·exact⟨of_decide_eq_true rfl,of_decide_eq_true rfl⟩
  ·split<;>exact⟨of_decide_eq_true rfl,of_decide_eq_true rfl⟩
 split
 ·unfold flE qT;simp only;split<;>exact⟨of_decide_eq_true rfl,of_decide_eq_true rfl⟩
 ·exact⟨of_decide_eq_true rfl,of_decide_eq_true rfl⟩
theorem rF{B:Bk}{Y:Yx}{a:Ac}{s s':Rs}{t:Tl}{O:List (Int×Int)}{r:Rp}(h:dY B Y a s s' t O r):s'.y.count≤s.y.count+1∧0≤t.err∧t.err≤17∧(t.err≠0→s'.y=s.y∧O=[]):=by
 unfold dY at h
 split at h
 ·rcases h with⟨-,rfl,rfl,rfl⟩ | ⟨-,-,h⟩
  ·exact⟨by omega,of_decide_eq_true rfl,of_decide_eq_true rfl,fun _=>⟨rfl,rfl⟩⟩
  ·obtain⟨h0,-,-,h1,-⟩:=h
   have h2:=FN _ _ _ _ _ h0
   exact⟨by omega,by omega,by omega,fun h=>absurd h1 h⟩
 ·obtain⟨rfl,h⟩:=h
  split at h
  ·rcases h with⟨-,rfl,rfl⟩ | ⟨-,P,-,rfl,rfl⟩
   ·exact⟨by omega,of_decide_eq_true rfl,of_decide_eq_true rfl,fun _=>⟨rfl,rfl⟩⟩
   ·exact⟨Int.le_refl _,of_decide_eq_true rfl,of_decide_eq_true rfl,fun h=>absurd rfl h⟩
  split at h
  ·obtain⟨rfl,rfl⟩:=h
   obtain⟨h1,h2,h3,h4⟩:=zf (Y:=Y) (y:=s.y) (v:=a.v)
   exact⟨by show(iT Y s.y a.v).2.count≤_;omega,h2,h3,fun h=>⟨h4 h,rfl⟩⟩
  split at h
  ·obtain⟨rfl,rfl⟩:=h
   have h2:=qy (Y:=Y) (y:=s.y) (v:=a.v) (g:=fun p=>((dJ p.v a.n).1,{p with v:=(dJ p.v a.n).2})) (fun p=>⟨(I7 a.n p).1,(I7 a.n p).2.1⟩)
   exact⟨by simp only[mM];omega,h2.1,h2.2,fun h=>⟨mJ (fun p=>(I7 a.n p).2.2) h,rfl⟩⟩
  split at h
  ·obtain⟨rfl,rfl⟩:=h
   have h2:=qy (Y:=Y) (y:=s.y) (v:=a.v) (g:=fun p=>((dI p.v a.p).1,{p with v:=(dI p.v a.p).2})) (fun p=>⟨(Iq a.p p).1,(Iq a.p p).2.1⟩)
   exact⟨by simp only[mM];omega,h2.1,h2.2,fun h=>⟨mJ (fun p=>(Iq a.p p).2.2) h,rfl⟩⟩
  split at h
  ·obtain⟨rfl,rfl⟩:=h
   have h2:=qy (Y:=Y) (y:=s.y) (v:=a.v) (g:=kZ a.n a.m) (fun p=>⟨(Ic a.n a.m p).1,(Ic a.n a.m p).2.1⟩)
   exact⟨by simp only[mM];omega,h2.1,h2.2,fun h=>⟨mJ (fun p=>(Ic a.n a.m p).2.2) h,rfl⟩⟩
  split at h
  ·obtain⟨rfl,rfl⟩:=h
   refine⟨?_,?_,?_,fun _=>⟨?_,rfl⟩⟩
   ·split
    ·show s.y.count≤_;omega
    ·omega
   ·unfold qT;simp only;split<;>exact of_decide_eq_true rfl
   ·unfold qT;simp only;split<;>exact of_decide_eq_true rfl
   ·split<;>rfl
  split at h
  ·obtain⟨rfl,rfl⟩:=h
   have h2:=qy (Y:=Y) (y:=s.y) (v:=a.v) (g:=fun p=>(0,{p with sl:=Envp.rel p.sl})) (fun p=>⟨of_decide_eq_true rfl,of_decide_eq_true rfl⟩)
   exact⟨by simp only[mM];omega,h2.1,h2.2,fun h=>⟨mJ (fun p h=>absurd rfl h) h,rfl⟩⟩
  ·obtain⟨rfl,rfl⟩:=h
   exact⟨by show s.y.count≤_;omega,(EH s.f a).1,(EH s.f a).2,fun _=>⟨rfl,rfl⟩⟩
end Go.Proofs.YtnicjahcgnhogaaGreatDoor
namespace Go.Proofs.YtnicjahcgnhogaaGreatDoor
open Go Go.RowKit Go.Calli
attribute [local irreducible] wpStill wpAnyH wpAnyS wpList Code.wp
theorem wB(acts:List Ac){i j:Nat}(h:i≤j):iQ acts i≤iQ acts j:=by
  induction j with
  | zero => obtain rfl : i = 0 := by omega
            exact Me
  | succ j ih=>
    rcases Nat.lt_or_ge i (j+1) with h1 | h1
    · exact Nat.le_trans (ih (by omega)) (Nat.le_add_right _ _)
    · obtain rfl:i=j+1:=by omega
      exact Me
structure TL(X:Fx)(Y:Yx)(B:Bk)(σ:Own)(w wr:World)(rb:Nat)(s:Rs)(j K:Nat):Prop where
 fe:aK X σ wr B K s.f
 fb:FeB K s.f
 ys:YIs X Y B K σ wr s.y
 rk:dZ X Y σ wr rb s.sh (j,wr.heap.size)
 ct:s.y.count≤(j:Int)
 old: ∀k,k<w.heap.size→σ k=1
 low:Below w.heap.size w wr
theorem TL.ah{X:Fx}{Y:Yx}{B:Bk}{σ:Own}{w wr w1:World}{rb:Nat}{s:Rs}{j K:Nat}(h:TL X Y B σ w wr rb s j K)(hb:Below wr.heap.size wr w1):TL X Y B σ w w1 rb s j K:=
 ⟨h.fe.ah hb,h.fb,h.ys.ah hb,nC (h.rk.ah hb),h.ct,h.old,bW h.low hb⟩
theorem TL.fresh{X:Fx}{Y:Yx}{B:Bk}{σ:Own}{w wr w1:World}{rb:Nat}{s:Rs}{j K:Nat}(h:TL X Y B σ w wr rb s j K)(hb:Below wr.heap.size wr w1):TL X Y B (aA σ wr.heap.size w1.heap.size 3) w w1 rb s j K:=by
 have hx:=bZ σ wr.heap.size w1.heap.size 3
 have hl:=h.low.size
 exact⟨h.fe.aA (af.au hb Me) 3,h.fb,(h.ys.ext hx).ah hb,nC ((h.rk.ext hx).ah hb),h.ct,fun k hk=>(hx k (by omega)).trans (h.old k hk),bW h.low hb⟩
def DoneP(X:Fx)(Y:Yx)(B:Bk)(σ:Own)(w w1:World)(rb:Nat)(s:Rs)(j K:Nat)(e:Ending)(w2:World):Prop:=∃(s':Rs)(e0 n0:Int)(o1:Option Addr)(n1 c1:Nat)(o2:Option Addr)(n2 c2:Nat)(o3:Option Addr)(n3 c3:Nat)(fr rd:Int)(σ2:Own),e= .returned (.agg #[.int .i64 e0,.int .i64 n0,.slice o1 n1 c1,.slice o2 n2 c2,.slice o3 n3 c3,.int .i64 fr,.int .i64 rd])∧TL X Y B σ2 w w2 rb s' (j+1) K∧0≤e0∧e0≤17∧(e0≠0→s'.y=s.y∧n1=0)∧af (FD σ w1 rb) w1 w2
theorem tl_do{X:Fx}{Y:Yx}{B:Bk}{σ:Own}{w w1:World}{rb:Nat}{s:Rs}{j K:Nat}(h:TL X Y B σ w w1 rb s j K)(hK:K≤400000)(hn16:Y.n≤16)(a:Ac)(ha:a.Wf)(hj:j≤60):Calls Tryz.prog 8 #[.pointer (some ⟨rb,0,none⟩),.agg #[.int .i64 a.k,.int .i64 a.v,.string a.nm,.int .i64 a.n,.int .i64 a.m,.int .i64 a.p,.int .i64 a.x]] w1 (DoneP X Y B σ w w1 rb s j (K+1+256*df a)):=by
 have hct:=h.ct
 have h0:=yf X Y B K hK hn16 σ rb s a ha (by omega) j w1.heap.size (by omega) w1 h.fe h.fb h.ys h.rk
 refine Calls.mono (show Calls Tryz.prog 8 #[.pointer (some ⟨rb,0,none⟩),.agg #[.int .i64 a.k,.int .i64 a.v,.string a.nm,.int .i64 a.n,.int .i64 a.m,.int .i64 a.p,.int .i64 a.x]] w1 _ from h0) ?_
 rintro e w2 ⟨s',t,O,r,σ2,rfl,hA,hx,hF,hB2,hY,hR,⟨oo,oc,hov,-,-⟩,hk⟩
 obtain⟨p1,p2,p3,p4⟩:=rF hA
 obtain⟨e0,n0,o1,n1,c1,o2,n2,c2,o3,n3,c3,fr,rd,rfl⟩:=sO hA
 simp only at p2 p3 p4 hov
 have hle:K+1+16*Y.n*df a≤K+1+256*df a:=by
  have:16*Y.n*df a≤256*df a:=Nat.mul_le_mul_right _ (by omega)
  omega
 have hl:=h.low.size
 have hro:=h.rk.own
 refine⟨s',e0,n0,o1,n1,c1,o2,n2,c2,o3,n3,c3,fr,rd,σ2,rfl,⟨hF.up hle,hB2.up hle,hY.up hle,hR,by have:=h.ct;omega,fun k hk=>(hx k (by omega)).trans (h.old k hk),?_⟩,p2,p3,fun he=>⟨(p4 he).1,?_⟩,hk⟩
 ·refine((af.au (S:=fun _=>False) h.low Me).andThen hk (fun i hi e=>?_)).bg Me (fun _ _ e=>e)
  have h1:=h.old i hi
  rcases e with e | e | ⟨e,-⟩
  ·unfold FR at e;omega
  ·subst e;omega
  ·omega
 ·rw[(p4 he).2] at hov
  cases hov
  rfl
theorem FW(X:Fx)(Y:Yx)(w:World)(rb:Nat)(sh:Envp.Sh)(h:RkC X Y w rb sh):Calls Tryz.prog 22 #[.pointer (some ⟨rb,0,none⟩)] w (fun e w'=>e= .returned (.pointer (some ⟨X.A.b,0,none⟩))∧w=w'):=by
 have HN:=MI (wG X Y w rb sh h)
 obtain⟨⟨h0,h1,h2,-⟩,-⟩:=h
 go_enter Tryz.func22,Tryz.ntmps22
 go_wp2_with (go_at_call 24;refine HN.out.mono ?_;rintro e w' ⟨rfl,rfl⟩)
 go_ret
 exact⟨rfl,rfl⟩
theorem EM{B:Bk}{Y:Yx}{a:Ac}{s s':Rs}{t:Tl}{O:List (Int×Int)}{r:Rp}(h:dY B Y a s s' t O r):O.length≤256:=by
 unfold dY at h
 split at h
 ·rcases h with⟨-,-,-,rfl⟩ | ⟨-,h1,h⟩
  ·decide
  ·obtain⟨-,h2,-⟩:=h
   omega
 ·obtain⟨rfl,-⟩:=h
  decide
def xM(B:Bk)(Y:Yx)(acts:List Ac)(s:Rs):Nat→Rs→List (Int×Int)→Prop
 | 0,s',O=>s'=s∧O=[]
 | j+1,s',O=>∃s1 O1 t O2 r,xM B Y acts s j s1 O1∧dY B Y (acts.getD j ac0) s1 s' t O2 r∧O=O1++O2
theorem Ja{B:Bk}{Y:Yx}{acts:List Ac}{s:Rs}: ∀(j:Nat)(s':Rs)(O:List (Int×Int)),xM B Y acts s j s' O→O.length≤256*j:=by
 intro j
 induction j with
 | zero=>intro s' O h;obtain⟨-,rfl⟩:=h;exact Me
 | succ j ih=>
  intro s' O h
  obtain⟨s1,O1,t,O2,r,h1,h2,rfl⟩:=h
  have:=ih _ _ h1
  have:=EM h2
  rw[List.length_append]
  omega
theorem qG{P:Program}{w w':World}{ops:Array Oper}{rest:List Oper}{o:Oper}{a:Act}{Q:Exit→Act→World→Prop}(hgd:o.guard=none)(s x:Operand)(t u:TypeId)(ho:o.op= .call {callee:=.builtin .append,args:=#[s,x],argTypes:=#[t,u]}){v v' z:Value}(hs:a.eval s=v)(hx:a.eval x=z)(hr:(Builtin.append_ #[t,u] o.type #[v,z]).run P w= .ok v' w')(h:wpList P ops Q rest (a.put o.dst v') w'):wpList P ops Q (o::rest) a w:=by
 refine wpList_plain hgd fun K hK=>?_
 unfold Oper.wp execOp
 simp only[ho,resolve,invoke,builtin,Sem.run_bind,Sem.run_pure,Result.andThen_ok,List.map_toArray,List.map_cons,List.map_nil,hs,hx,hr]
 exact hK _ _ h
def DoneR(X:Fx)(Y:Yx)(B:Bk)(σ:Own)(w w1:World)(rb:Nat)(s:Rs)(a:Ac)(j K:Nat)(e:Ending)(w2:World):Prop:=∃(s':Rs)(t:Tl)(O:List (Int×Int))(r:Rp)(e0 n0:Int)(o1:Option Addr)(c1:Nat)(o2:Option Addr)(n2 c2:Nat)(o3:Option Addr)(n3 c3:Nat)(fr rd:Int)(σ2:Own),e= .returned (.agg #[.int .i64 e0,.int .i64 n0,.slice o1 O.length c1,.slice o2 n2 c2,.slice o3 n3 c3,.int .i64 fr,.int .i64 rd])∧dY B Y a s s' t O r∧TL X Y B σ2 w w2 rb s' (j+1) K∧bH stV 2 (0,0) w2 o1 O.length O∧Ext σ σ2 w1.heap.size∧af (FD σ w1 rb) w1 w2
theorem tl_do2{X:Fx}{Y:Yx}{B:Bk}{σ:Own}{w w1:World}{rb:Nat}{s:Rs}{j K:Nat}(h:TL X Y B σ w w1 rb s j K)(hK:K≤400000)(hn16:Y.n≤16)(a:Ac)(ha:a.Wf)(hj:j≤60):Calls Tryz.prog 8 #[.pointer (some ⟨rb,0,none⟩),.agg #[.int .i64 a.k,.int .i64 a.v,.string a.nm,.int .i64 a.n,.int .i64 a.m,.int .i64 a.p,.int .i64 a.x]] w1 (DoneR X Y B σ w w1 rb s a j (K+1+256*df a)):=by
 have hct:=h.ct
 have h0:=yf X Y B K hK hn16 σ rb s a ha (by omega) j w1.heap.size (by omega) w1 h.fe h.fb h.ys h.rk
 refine Calls.mono (show Calls Tryz.prog 8 #[.pointer (some ⟨rb,0,none⟩),.agg #[.int .i64 a.k,.int .i64 a.v,.string a.nm,.int .i64 a.n,.int .i64 a.m,.int .i64 a.p,.int .i64 a.x]] w1 _ from h0) ?_
 rintro e w2 ⟨s',t,O,r,σ2,rfl,hA,hx,hF,hB2,hY,hR,⟨oo,oc,hov,hO,-⟩,hk⟩
 obtain⟨p1,p2,p3,p4⟩:=rF hA
 obtain⟨e0,n0,o1,n1,c1,o2,n2,c2,o3,n3,c3,fr,rd,rfl⟩:=sO hA
 simp only at hov
 cases hov
 have hle:K+1+16*Y.n*df a≤K+1+256*df a:=by
  have:16*Y.n*df a≤256*df a:=Nat.mul_le_mul_right _ (by omega)
  omega
 have hl:=h.low.size
 have hro:=h.rk.own
 refine⟨s',_,O,r,e0,n0,oo,oc,o2,n2,c2,o3,n3,c3,fr,rd,σ2,rfl,hA,⟨hF.up hle,hB2.up hle,hY.up hle,hR,by have:=h.ct;omega,fun k hk=>(hx k (by omega)).trans (h.old k hk),?_⟩,hO,hx,hk⟩
 refine((af.au (S:=fun _=>False) h.low Me).andThen hk (fun i hi e=>?_)).bg Me (fun _ _ e=>e)
 have h1:=h.old i hi
 rcases e with e | e | ⟨e,-⟩
 ·unfold FR at e;omega
 ·subst e;omega
 ·omega
end Go.Proofs.YtnicjahcgnhogaaGreatDoor
