/- Part 36 of the walk: contracts of the program's functions, each for every input. No condition. -/
import Derived.Deep.Slices
import Derived.Test.YtnicjahcgnhogaaGreatDoorU34
set_option linter.unusedVariables false
set_option linter.unusedSimpArgs false
set_option maxRecDepth 100000
set_option maxHeartbeats 8000000
namespace Go.Calli
open Go.RowKit
def bG(P:Program)(w:World)(t:TypeId)(cs:List Value):Prop:=
 ∃(H:Type)(enc:TypeId×Value→H)(n:Nat)(x:DataW H×List MemPlace),DataW.trod enc P w 0 (fun _=>true) true n t cs=some x
variable {P:Program} {w:World} {t:TypeId} {cs:List Value}
theorem bG.oZ{H:Type}{enc:TypeId×Value→H}{v:Value}{d:DataW H}{ps:List MemPlace}(h:DataW.Trod enc P w 0 (fun _=>true) true t v d ps):bG P w t v.cells.toList:=by
 obtain⟨n,hn⟩:=h
 exact⟨H,enc,n,_,hn⟩
theorem bG.int{k:IntKind}(ht:P.underlying t=some (.int k))(h:bG P w t cs): ∃n,cs=[.int k n]∧(Lit.int k n).wf=true:=by
 obtain⟨H,enc,n,x,h⟩:=h
 obtain⟨m,rfl,_,hw⟩:=DataW.trod_int ht h
 exact⟨m,rfl,hw⟩
theorem bG.bool(ht:P.underlying t=some .bool)(h:bG P w t cs): ∃b,cs=[.bool b]:=by
 obtain⟨H,enc,n,x,h⟩:=h
 obtain⟨b,rfl,_⟩:=DataW.trod_bool ht h
 exact⟨b,rfl⟩
theorem bG.string(ht:P.underlying t=some .string)(h:bG P w t cs): ∃s:ByteArray,cs=[.string s]∧s.size≤maxLen:=by
 obtain⟨H,enc,n,x,h⟩:=h
 obtain⟨s,rfl,_,hs⟩:=DataW.trod_string ht h
 exact⟨s,rfl,hs⟩
theorem bG.slice{e:TypeId}(ht:P.underlying t=some (.slice e))(h:bG P w t cs):
  cs=[.slice none 0 0]∨∃a len cap,cs=[.slice (some a) len cap]∧len≤cap∧cap≤maxLen∧
   ∀i,i<len→∃ds,ds.length=P.cellsOf e∧(∀j,j<P.cellsOf e→w.cell? ((a.add (i*P.cellsOf e)).add j)=ds[j]?)∧bG P w e ds:=by
 obtain⟨H,enc,n,x,h⟩:=h
 rcases Deep.open_slice ht h with⟨rfl,_⟩ | ⟨a,len,cap,m,n',D,Pl,rfl,_,hl,hm,J,_,hx⟩
 ·exact .inl rfl
 ·refine .inr ⟨a,len,cap,rfl,hl,hm,fun i hi=>?_⟩
  obtain⟨ds,h1,h2⟩:=hx i (by rw[J];simp;omega)
  obtain⟨_,hlen,I⟩:=World.cells?_some h1
  exact⟨ds,hlen,I,H,enc,n',_,h2⟩
theorem bG.struct{fs:Array Field}(ht:P.underlying t=some (.struct fs))(h:bG P w t cs):
  cs.length=P.cellsOf t∧∀(i:Nat)(f:Field),fs[i]? =some f→bG P w f.type ((cs.drop f.offset).take (P.cellsOf f.type)):=by
 obtain⟨H,enc,n,x,h⟩:=h
 obtain⟨xs,n',_,_,hlen,J,hf⟩:=DataW.trod_struct ht h
 refine⟨hlen,fun i f hi=>?_⟩
 have:=hf i f hi
 have I:i<xs.length:=by
  have:=(Array.getElem?_eq_some_iff.1 hi).1
  omega
 rw[List.getElem?_eq_getElem I] at this
 exact⟨H,enc,n',_,this⟩
theorem bG.array{n:Nat}{e:TypeId}(ht:P.underlying t=some (.array n e))(h:bG P w t cs):
  cs.length=P.cellsOf t∧∀i,i<n→bG P w e ((cs.drop (i*P.cellsOf e)).take (P.cellsOf e)):=by
 obtain⟨H,enc,m,x,h⟩:=h
 obtain⟨xs,n',_,_,hlen,I,hf⟩:=DataW.trod_array ht h
 refine⟨hlen,fun i hi=>?_⟩
 have:=hf i hi
 rw[List.getElem?_eq_getElem (show i<xs.length by omega)] at this
 exact⟨H,enc,n',_,this⟩
theorem kK{α:Type}(n:Nat)(p:Nat→α→Prop)(h: ∀i,i<n→∃x,p i x): ∃l:List α,l.length=n∧∀i x,l[i]? =some x→p i x:=by
 induction n with
 | zero=>exact⟨[],rfl,fun i x hx=>by simp at hx⟩
 | succ n ih=>
  obtain⟨l,hl,hp⟩:=ih (fun i hi=>h i aa)
  obtain⟨x,hx⟩:=h n aa
  refine⟨l++[x],by simp[hl],fun i y hy=>?_⟩
  by_cases hi:i<n
  ·exact hp i y (by rwa [List.getElem?_append_left aa] at hy)
  ·have I:i=n:=by
    have:=(List.getElem?_eq_some_iff.1 hy).1
    simp[hl] at this;omega
   subst I
   rw[List.getElem?_append_right aa,hl] at hy
   simp at hy;subst hy;exact hx
theorem bG.ints{e:TypeId}{k:IntKind}{ao:Option Addr}{len cap:Nat}(ht:P.underlying t=some (.slice e))(he:P.underlying e=some (.int k))(hc:P.cellsOf e=1)
  (h:bG P w t [.slice ao len cap]):len≤cap∧∃zs,Ints k w ao len zs:=by
 rcases h.slice ht with h | ⟨a,l,c,h,hl,hm,hx⟩
 ·simp at h;obtain⟨rfl,rfl,rfl⟩:=h
  exact⟨Me,[],Ints.nil _ _ _⟩
 ·simp at h;obtain⟨rfl,rfl,rfl⟩:=h
  refine⟨hl,?_⟩
  obtain⟨zs,J,hz⟩:=kK (α:=Int) len (fun i z=>w.cell? (a.add i)=some (.int k z)∧(Lit.int k z).wf=true) (fun i hi=>by
   obtain⟨ds,hd,I,hg⟩:=hx i hi
   obtain⟨z,rfl,hw⟩:=hg.int he
   have:=I 0 aa
   rw[hc,Nat.mul_one] at this
   exact⟨z,by simpa[Addr.add] using this,hw⟩)
  refine⟨zs,J,aa,fun i hi=>⟨a,rfl,?_⟩,fun z R=>?_⟩
  ·have:=(hz i _ (List.getElem?_eq_getElem (show i<zs.length by omega))).1
   simpa[List.getElem?_eq_getElem (show i<zs.length by omega)] using this
  ·obtain⟨i,hi,rfl⟩:=List.getElem_of_mem R
   exact(hz i _ (List.getElem?_eq_getElem hi)).2
def Ez(P:Program)(fs:Array Field)(n:Nat):Bool:=
 (List.range n).all fun i=>match fs[i]? with
  | some f=>(f.offset==i)&&(match P.underlying f.type with | some (.int .i64)=>true | _=>false)&&(P.cellsOf f.type==1)
  | none=>false
theorem bG.BU{fs:Array Field}{n:Nat}(ht:P.underlying t=some (.struct fs))(hn:P.cellsOf t=n)(hf:Ez P fs n=true)(h:bG P w t cs):
  ∃zs:List Int,zs.length=n∧cs=zs.map (Value.int .i64)∧∀z ∈ zs,(Lit.int .i64 z).wf=true:=by
 obtain⟨hlen,R⟩:=h.struct ht
 rw[hn] at hlen
 have J: ∀i,i<n→∃z,cs[i]? =some (.int .i64 z)∧(Lit.int .i64 z).wf=true:=by
  intro i hi
  have:=List.all_eq_true.1 hf i (List.mem_range.2 hi)
  cases I:fs[i]? with
  | none=>simp[I] at this
  | some f=>
   simp only[I,Bool.and_eq_true,beq_iff_eq] at this
   obtain⟨⟨ho,hu⟩,hc⟩:=this
   have U:P.underlying f.type=some (.int .i64):=by
    split at hu
    ·assumption
    ·cases hu
   obtain⟨z,hz,hw⟩:=(R i f I).int U
   rw[ho,hc] at hz
   refine⟨z,?_,hw⟩
   have h0:((cs.drop i).take 1)[0]? =some (.int .i64 z):=by rw[hz];rfl
   simpa using h0
 obtain⟨zs,j,hz⟩:=kK n (fun i z=>cs[i]? =some (.int .i64 z)∧(Lit.int .i64 z).wf=true) J
 refine⟨zs,j,?_,fun z o=>?_⟩
 ·apply List.ext_getElem?
  intro i
  by_cases hi:i<n
  ·rw[(hz i _ (List.getElem?_eq_getElem (show i<zs.length by omega))).1,List.getElem?_map,List.getElem?_eq_getElem (show i<zs.length by omega)];rfl
  ·rw[List.getElem?_eq_none aa,List.getElem?_eq_none (by simp;omega)]
 ·obtain⟨i,hi,rfl⟩:=List.getElem_of_mem o
  exact(hz i _ (List.getElem?_eq_getElem hi)).2
end Go.Calli
namespace Go.Proofs.YtnicjahcgnhogaaGreatDoor
open Go Go.RowKit Go.Calli
attribute [local irreducible] wpStill wpAnyH wpAnyS wpList Code.wp
def acV(a:Ac):List Value:=[.int .i64 a.k,.int .i64 a.v,.string a.nm,.int .i64 a.n,.int .i64 a.m,.int .i64 a.p,.int .i64 a.x]
def ac0:Ac:=⟨0,0,⟨#[]⟩,0,0,0,0⟩
theorem act_of{w:World}{cs:List Value}(h:bG Tryz.prog w 40 cs): ∃a:Ac,cs=acV a∧a.Wf:=by
 obtain⟨hlen,hf⟩:=h.struct Tryz.underlying40
 rw[show Tryz.prog.cellsOf 40=7 by kernel_rfl] at hlen
 match cs,hlen with
 | [v0,v1,v2,v3,v4,v5,v6],_=>
  have f0:=hf 0 _ rfl
  have f1:=hf 1 _ rfl
  have f2:=hf 2 _ rfl
  have f3:=hf 3 _ rfl
  have f4:=hf 4 _ rfl
  have f5:=hf 5 _ rfl
  have f6:=hf 6 _ rfl
  simp only[List.getElem_toArray,List.getElem_cons_succ,List.getElem_cons_zero] at f0 f1 f2 f3 f4 f5 f6
  rw[show Tryz.prog.cellsOf 9=1 by kernel_rfl] at f2
  rw[show Tryz.prog.cellsOf 3=1 by kernel_rfl] at f0 f1 f3 f4 f6
  rw[show Tryz.prog.cellsOf 2=1 by kernel_rfl] at f5
  simp only[List.drop_zero,List.take_succ_cons,List.take_zero,List.drop_succ_cons] at f0 f1 f2 f3 f4 f5 f6
  obtain⟨k,hk,bk⟩:=f0.int Tryz.underlying3
  obtain⟨v,hv,bv⟩:=f1.int Tryz.underlying3
  obtain⟨s,hs,I⟩:=f2.string Tryz.underlying9
  obtain⟨n,hn,bn⟩:=f3.int Tryz.underlying3
  obtain⟨m,hm,bm⟩:=f4.int Tryz.underlying3
  obtain⟨p,hp,bp⟩:=f5.int Tryz.underlying2
  obtain⟨x,hx,bx⟩:=f6.int Tryz.underlying3
  simp at hk hv hs hn hm hp hx
  subst hk;subst hv;subst hs;subst hn;subst hm;subst hp;subst hx
  exact⟨⟨k,v,s,n,m,p,x⟩,rfl,bn,bm⟩
theorem acts_of{w:World}{ao:Option Addr}{len cap:Nat}(h:bG Tryz.prog w 25 [.slice ao len cap]): ∃os,bP acV 7 ac0 w ao len os∧∀a ∈ os,a.Wf:=by
 rcases h.slice Tryz.underlying25 with h1 | ⟨a,l,c,h1,hl,hm,hx⟩
 ·simp at h1;obtain⟨rfl,rfl,rfl⟩:=h1
  exact⟨[],bP.nil _ _ _ _ _,ar⟩
 ·simp at h1;obtain⟨rfl,rfl,rfl⟩:=h1
  have R:Tryz.prog.cellsOf 40=7:=af
  obtain⟨ms,U,J⟩:=kK (α:=Ac) len (fun i x=>(∀j u,(acV x)[j]? =some u→w.cell? ((a.add (i*7)).add j)=some u)∧x.Wf) (fun i hi=>by
   obtain⟨ds,hd,I,hg⟩:=hx i hi
   rw[R] at I
   obtain⟨x,rfl,hw⟩:=act_of hg
   refine⟨x,fun j u hu=>?_,hw⟩
   have hj:j<7:=(List.getElem?_eq_some_iff.1 hu).1
   rw[I j hj]
   exact hu)
  refine⟨ms,⟨U,aa,fun i hi=>⟨a,rfl,?_⟩⟩,fun x hx=>?_⟩
  ·have:=(J i _ (List.getElem?_eq_getElem (show i<ms.length by omega))).1
   rwa [show ms.getD i ac0=ms[i] by simp[List.getD,show i<ms.length by omega]]
  ·obtain⟨i,hi,rfl⟩:=List.getElem_of_mem hx
   exact(J i _ (List.getElem?_eq_getElem hi)).2
def iY(acts:List Ac):Nat→Nat
 | 0=>0
 | j+1=>iY acts j+dM (acts.getD j ac0)
theorem Ba(a:Ac):dM a≤256:=by
 unfold dM
 split
 ·omega
 ·omega
theorem sumN_le(acts:List Ac)(j:Nat):iY acts j≤256*j:=by
 induction j with
 | zero=>exact Me
 | succ j ih=>have:=Ba (acts.getD j ac0);unfold iY;omega
theorem rec7{w:World}{ao:Option Addr}{n i:Nat}{os:List Ac}(h:bP acV 7 ac0 w ao n os)(hi:i<n): ∃a,ao=some a∧w.cell? (a.add (i*7))=some (.int .i64 (os.getD i ac0).k)∧w.cell? ⟨(a.add (i*7)).block,(a.add (i*7)).off+1,none⟩=some (.int .i64 (os.getD i ac0).v)∧w.cell? ⟨(a.add (i*7)).block,(a.add (i*7)).off+2,none⟩=some (.string (os.getD i ac0).nm)∧w.cell? ⟨(a.add (i*7)).block,(a.add (i*7)).off+3,none⟩=some (.int .i64 (os.getD i ac0).n)∧w.cell? ⟨(a.add (i*7)).block,(a.add (i*7)).off+4,none⟩=some (.int .i64 (os.getD i ac0).m)∧w.cell? ⟨(a.add (i*7)).block,(a.add (i*7)).off+5,none⟩=some (.int .i64 (os.getD i ac0).p)∧w.cell? ⟨(a.add (i*7)).block,(a.add (i*7)).off+6,none⟩=some (.int .i64 (os.getD i ac0).x):=by
 obtain⟨a,ha,hc⟩:=h.cell i hi
 exact⟨a,ha,hc 0 _ rfl,hc 1 _ rfl,hc 2 _ rfl,hc 3 _ rfl,hc 4 _ rfl,hc 5 _ rfl,hc 6 _ rfl⟩
theorem Na(ao:Option Addr)(n cap:Nat)(acts:List Ac)(w:World)(h:bP acV 7 ac0 w ao n acts):Calls Tryz.prog 6 #[.slice ao n cap] w (fun e w'=>e= .returned (.int .i64 (iY acts (min n 60):Int))∧Below w.heap.size w w'):=by
 have HR:=MI h
 obtain⟨N,hN⟩: ∃N,N=min n 60:=⟨_,rfl⟩
 rw[←hN]
 have HN:=MI hN
 have HS:=MI (fun j=>show iY acts (j+1)=iY acts j+dM (acts.getD j ac0) from rfl)
 have HL:=MI (fun j=>sumN_le acts j)
 generalize iY acts=S at*
 clear h hN
 go_enter Tryz.func6,Tryz.ntmps6
 go_wp2_with fail
 go_loopw [3,4] (fun v3 v4 wr=>∃j m:Nat,j≤N∧v3= .int .i64 (S j:Int)∧v4= .int .i64 (j:Int)∧wr=w.drewN m) (fun _ v4 _=>N - aC v4)
 case atStart=>exact⟨0,0,aa,by have:=HL.out 0;simp;omega,rfl,rfl⟩
 case round=>
  obtain⟨j,m,hj,rfl,rfl,rfl⟩:=hrel
  by_cases A0:j<N
  ·have g1:j<n:=by have:=HN.out;omega
   have g2:j<60:=by have:=HN.out;omega
   obtain⟨a,rfl,c0,c1,c2,c3,c4,c5,c6⟩:=rec7 (HR.out.aj (below_drewN MB m)) g1
   have I:=HS.out j
   have A1:=HL.out j
   have A2:=Ba (acts.getD j ac0)
   generalize acts.getD j ac0=x at*
   generalize U:S (j+1)=S1 at*
   generalize o:S j=S0 at*
   have J:=MI U
   clear U o
   obtain⟨k,v,nm,nn,mm,p,xx⟩:=x
   simp only at c0 c1 c2 c3 c4 c5 c6
   clear c1 c2 c4 c5 c6
   by_cases hk:k=6
   ·subst hk
    by_cases h1:0<nn
    ·by_cases h2:nn≤256
     ·have e1:dM ⟨6,v,nm,nn,mm,p,xx⟩=nn.toNat:=by unfold dM;rw[if_pos ⟨rfl,by show 0≤nn;omega,h2⟩]
      have hw:IntKind.i64.wrap ((S0:Int)+nn)=(S1:Int):=by
       rw[IntWalk.i64_in _ aa,I,e1]
       omega
      clear I e1
      go_wp2_with fail
      exact⟨⟨j+1,_,aa,by rw[J.out],aD,rfl⟩,by simp[aC];omega⟩
     ·have e1:dM ⟨6,v,nm,nn,mm,p,xx⟩=0:=by unfold dM;rw[if_neg (fun h=>h2 h.2.2)]
      obtain rfl:S1=S0:=aa
      clear I e1
      go_wp2_with fail
      exact⟨⟨j+1,_,aa,by rw[J.out],aD,rfl⟩,by simp[aC];omega⟩
    ·have e1:dM ⟨6,v,nm,nn,mm,p,xx⟩=0:=by
      unfold dM
      split
      ·show nn.toNat=0;omega
      ·rfl
     obtain rfl:S1=S0:=aa
     clear I e1
     go_wp2_with fail
     exact⟨⟨j+1,_,aa,by rw[J.out],aD,rfl⟩,by simp[aC];omega⟩
   ·have e1:dM ⟨k,v,nm,nn,mm,p,xx⟩=0:=by unfold dM;rw[if_neg (fun h=>hk h.1)]
    obtain rfl:S1=S0:=aa
    have A3:(k==6)=false:=by simp[hk]
    clear I e1
    go_wp2_with fail
    exact⟨⟨j+1,_,aa,by rw[J.out],aD,rfl⟩,by simp[aC];omega⟩
  ·obtain rfl:j=N:=aa
   have R:(¬j<n)∨(j<n∧¬j<60):=by
    have:=HN.out
    omega
   rcases R with g1 | ⟨g1,g2⟩
   ·go_wp2_with fail
    go_ret
    exact⟨rfl,below_drewN MB _⟩
   ·go_wp2_with fail
    go_ret
    exact⟨rfl,below_drewN MB _⟩
end Go.Proofs.YtnicjahcgnhogaaGreatDoor
namespace Go.Proofs.YtnicjahcgnhogaaGreatDoor
open Go Go.RowKit Go.Calli Go.Dskp Go.Maps
attribute [local irreducible] wpStill wpAnyH wpAnyS wpList Code.wp
theorem KZ{l:List Po}{i:Nat}{q:Px×Pt}(h:l.getD i none=some q):l.set i (some q)=l:=by
 by_cases hi:i<l.length
 ·have e:l[i]=some q:=by
   rw[List.getD,List.getElem?_eq_getElem hi] at h
   exact h
  rw[←e]
  exact List.set_getElem_self hi
 ·rw[List.getD,List.getElem?_eq_none aa] at h
  cases h
theorem nO{Y:Yx}{y:Ye}{v:Int}{g:Pt→Int×Pt}(hg: ∀p,(g p).1≠0→(g p).2=p)(h:(dn Y y v g).1≠0):(dn Y y v g).2=y:=by
 unfold dn at h⊢
 split
 ·rfl
 ·rename_i hn
  rw[if_neg hn] at h
  cases hq:y.ps.getD v.toNat none with
  | none=>rfl
  | some q=>
   rw[hq] at h
   simp only at h⊢
   rw[hg _ h,show(some (q.1,q.2):Po)=some q from rfl,KZ hq]
theorem ru{Y:Yx}{y:Ye}{v:Int}{g:Pt→Int×Pt}(hg: ∀p,0≤(g p).1∧(g p).1≤17):0≤(dn Y y v g).1∧(dn Y y v g).1≤17:=by
 unfold dn
 split
 ·exact⟨of_decide_eq_true rfl,of_decide_eq_true rfl⟩
 ·cases y.ps.getD v.toNat none with
  | none=>exact⟨of_decide_eq_true rfl,of_decide_eq_true rfl⟩
  | some q=>exact hg q.2
theorem nP{Y:Yx}{y:Ye}{v:Int}{g:Pt→Int×Pt}:(dn Y y v g).2.count=y.count:=by
 unfold dn
 split
 ·rfl
 ·cases y.ps.getD v.toNat none with
  | none=>rfl
  | some q=>rfl
theorem AP{Y:Yx}{y:Ye}{v:Int}:(iP Y y v).2.count=y.count∧0≤(iP Y y v).1∧(iP Y y v).1≤17∧((iP Y y v).1≠0→(iP Y y v).2=y):=by
 unfold iP
 split
 ·exact⟨rfl,of_decide_eq_true rfl,of_decide_eq_true rfl,fun _=>rfl⟩
 ·cases y.ps.getD v.toNat none with
  | none=>exact⟨rfl,of_decide_eq_true rfl,of_decide_eq_true rfl,fun _=>rfl⟩
  | some q=>exact⟨rfl,of_decide_eq_true rfl,of_decide_eq_true rfl,fun h=>absurd rfl h⟩
theorem Ei{B:Bk}{f:Fe}{y:Ye}{r:Rp}: ∀(k:Nat)(f':Fe)(y':Ye)(r':Rp)(L M:List Int),yY B f y r k f' y' r' L M→y'.count=y.count:=by
 intro k
 induction k with
 | zero=>
  intro f' y' r' L M h
  obtain⟨-,rfl,-⟩:=h
  rfl
 | succ k ih=>
  intro f' y' r' L M h
  obtain⟨f1,y1,r1,L1,M1,h1,h2⟩:=h
  have:=ih _ _ _ _ _ h1
  rcases h2 with⟨-,-,rfl,-⟩ | ⟨P,p,p',a,b,lo,-,-,rfl,-⟩
  ·exact this
  ·exact this
theorem Iu{B:Bk}{n:Nat}{f:Fe}{y:Ye}: ∀(k:Nat)(f':Fe)(y':Ye)(r':Rp)(O:List (Int×Int)),uq B n f y k f' y' r' O→y'.count=y.count:=by
 intro k
 induction k with
 | zero=>
  intro f' y' r' O h
  obtain⟨-,rfl,-⟩:=h
  rfl
 | succ k ih=>
  intro f' y' r' O h
  obtain⟨f1,y1,r1,O1,l,m,h1,⟨L,M,h2,-,-⟩,-⟩:=h
  exact(Ei _ _ _ _ _ _ h2).trans (ih _ _ _ _ h1)
theorem Le(n:Int)(p:Pt):0≤(dL p.v n).1∧(dL p.v n).1≤17∧((dL p.v n).1≠0→({p with v:=(dL p.v n).2}:Pt)=p):=by
 unfold dL
 split
 ·exact⟨of_decide_eq_true rfl,of_decide_eq_true rfl,fun _=>rfl⟩
 ·exact⟨of_decide_eq_true rfl,of_decide_eq_true rfl,fun h=>absurd rfl h⟩
theorem Kt(n:Int)(p:Pt):0≤(dK p.v n).1∧(dK p.v n).1≤17∧((dK p.v n).1≠0→({p with v:=(dK p.v n).2}:Pt)=p):=by
 unfold dK
 split
 ·exact⟨of_decide_eq_true rfl,of_decide_eq_true rfl,fun _=>rfl⟩
 ·exact⟨of_decide_eq_true rfl,of_decide_eq_true rfl,fun h=>absurd rfl h⟩
theorem JZ(l r:Int)(p:Pt):0≤(lL l r p).1∧(lL l r p).1≤17∧((lL l r p).1≠0→(lL l r p).2=p):=by
 unfold lL
 split
 ·exact⟨of_decide_eq_true rfl,of_decide_eq_true rfl,fun _=>rfl⟩
 ·exact⟨of_decide_eq_true rfl,of_decide_eq_true rfl,fun h=>absurd rfl h⟩
theorem GN(f:Fe)(a:Ac):0≤(mg f a).err∧(mg f a).err≤17:=by
 unfold mg
 split
 ·exact⟨of_decide_eq_true rfl,of_decide_eq_true rfl⟩
 split
 ·unfold flE qT;simp only;split<;>exact⟨of_decide_eq_true rfl,of_decide_eq_true rfl⟩
 split
 ·unfold spE qT;simp only;split
  ·exact⟨of_decide_eq_true rfl,of_decide_eq_true rfl⟩
  ·split<;>exact⟨of_decide_eq_true rfl,of_decide_eq_true rfl⟩
 split
 ·unfold flE qT;simp only;split<;>exact⟨of_decide_eq_true rfl,of_decide_eq_true rfl⟩
 ·exact⟨of_decide_eq_true rfl,of_decide_eq_true rfl⟩
theorem yT{B:Bk}{Y:Yx}{a:Ac}{s s':Rs}{t:Tl}{O:List (Int×Int)}{r:Rp}(h:dS B Y a s s' t O r):s'.y.count≤s.y.count+1∧0≤t.err∧t.err≤17∧(t.err≠0→s'.y=s.y∧O=[]):=by
 unfold dS at h
 split at h
 ·rcases h with⟨-,rfl,rfl,rfl⟩ | ⟨-,-,h⟩
  ·exact⟨aa,of_decide_eq_true rfl,of_decide_eq_true rfl,fun _=>⟨rfl,rfl⟩⟩
  ·obtain⟨h0,-,-,h1,-⟩:=h
   have h2:=Iu _ _ _ _ _ h0
   exact⟨aa,aa,aa,fun h=>absurd h1 h⟩
 ·obtain⟨rfl,h⟩:=h
  split at h
  ·rcases h with⟨-,rfl,rfl⟩ | ⟨-,P,-,rfl,rfl⟩
   ·exact⟨aa,of_decide_eq_true rfl,of_decide_eq_true rfl,fun _=>⟨rfl,rfl⟩⟩
   ·exact⟨Int.le_refl _,of_decide_eq_true rfl,of_decide_eq_true rfl,fun h=>absurd rfl h⟩
  split at h
  ·obtain⟨rfl,rfl⟩:=h
   obtain⟨h1,h2,h3,h4⟩:=AP (Y:=Y) (y:=s.y) (v:=a.v)
   exact⟨by show(iP Y s.y a.v).2.count≤_;omega,h2,h3,fun h=>⟨h4 h,rfl⟩⟩
  split at h
  ·obtain⟨rfl,rfl⟩:=h
   have h2:=ru (Y:=Y) (y:=s.y) (v:=a.v) (g:=fun p=>((dL p.v a.n).1,{p with v:=(dL p.v a.n).2})) (fun p=>⟨(Le a.n p).1,(Le a.n p).2.1⟩)
   exact⟨by simp only[nP];omega,h2.1,h2.2,fun h=>⟨nO (fun p=>(Le a.n p).2.2) h,rfl⟩⟩
  split at h
  ·obtain⟨rfl,rfl⟩:=h
   have h2:=ru (Y:=Y) (y:=s.y) (v:=a.v) (g:=fun p=>((dK p.v a.p).1,{p with v:=(dK p.v a.p).2})) (fun p=>⟨(Kt a.p p).1,(Kt a.p p).2.1⟩)
   exact⟨by simp only[nP];omega,h2.1,h2.2,fun h=>⟨nO (fun p=>(Kt a.p p).2.2) h,rfl⟩⟩
  split at h
  ·obtain⟨rfl,rfl⟩:=h
   have h2:=ru (Y:=Y) (y:=s.y) (v:=a.v) (g:=lL a.n a.m) (fun p=>⟨(JZ a.n a.m p).1,(JZ a.n a.m p).2.1⟩)
   exact⟨by simp only[nP];omega,h2.1,h2.2,fun h=>⟨nO (fun p=>(JZ a.n a.m p).2.2) h,rfl⟩⟩
  split at h
  ·obtain⟨rfl,rfl⟩:=h
   refine⟨?_,?_,?_,fun _=>⟨?_,rfl⟩⟩
   ·split
    ·show s.y.count≤_;omega
    ·omega
   ·unfold qT;simp only;split<;>exact of_decide_eq_true rfl
   ·unfold qT;simp only;split<;>exact of_decide_eq_true rfl
   ·split<;>rfl
  split at h
  ·obtain⟨rfl,rfl⟩:=h
   have h2:=ru (Y:=Y) (y:=s.y) (v:=a.v) (g:=fun p=>(0,{p with sl:=Envp.rel p.sl})) (fun p=>⟨of_decide_eq_true rfl,of_decide_eq_true rfl⟩)
   exact⟨by simp only[nP];omega,h2.1,h2.2,fun h=>⟨nO (fun p h=>absurd rfl h) h,rfl⟩⟩
  ·obtain⟨rfl,rfl⟩:=h
   exact⟨by show s.y.count≤_;omega,(GN s.f a).1,(GN s.f a).2,fun _=>⟨rfl,rfl⟩⟩
end Go.Proofs.YtnicjahcgnhogaaGreatDoor
namespace Go.Proofs.YtnicjahcgnhogaaGreatDoor
open Go Go.RowKit Go.Calli
attribute [local irreducible] wpStill wpAnyH wpAnyS wpList Code.wp
theorem xP(acts:List Ac){i j:Nat}(h:i≤j):iY acts i≤iY acts j:=by
  induction j with
  | zero => obtain rfl : i = 0 := aa
            exact Me
  | succ j ih=>
    rcases Nat.lt_or_ge i (j+1) with h1 | h1
    · exact Nat.le_trans (ih aa) (Nat.le_add_right _ _)
    · obtain rfl:i=j+1:=aa
      exact Me
structure TL(X:Fx)(Y:Yx)(B:Bk)(σ:Own)(w wr:World)(rb:Nat)(s:Rs)(j K:Nat):Prop where
 fe:aN X σ wr B K s.f
 fb:FeB K s.f
 ys:YIs X Y B K σ wr s.y
 rk:eU X Y σ wr rb s.sh (j,wr.heap.size)
 ct:s.y.count≤(j:Int)
 old: ∀k,k<w.heap.size→σ k=1
 low:Below w.heap.size w wr
theorem TL.aj{X:Fx}{Y:Yx}{B:Bk}{σ:Own}{w wr w1:World}{rb:Nat}{s:Rs}{j K:Nat}(h:TL X Y B σ w wr rb s j K)(hb:Below wr.heap.size wr w1):TL X Y B σ w w1 rb s j K:=
 ⟨h.fe.aj hb,h.fb,h.ys.aj hb,mP (h.rk.aj hb),h.ct,h.old,bD h.low hb⟩
theorem TL.fresh{X:Fx}{Y:Yx}{B:Bk}{σ:Own}{w wr w1:World}{rb:Nat}{s:Rs}{j K:Nat}(h:TL X Y B σ w wr rb s j K)(hb:Below wr.heap.size wr w1):TL X Y B (aG σ wr.heap.size w1.heap.size 3) w w1 rb s j K:=by
 have hx:=dA σ wr.heap.size w1.heap.size 3
 have hl:=h.low.size
 exact⟨h.fe.aG (ag.au hb Me) 3,h.fb,(h.ys.ext hx).aj hb,mP ((h.rk.ext hx).aj hb),h.ct,fun k hk=>(hx k aa).trans (h.old k hk),bD h.low hb⟩
theorem IB(X:Fx)(Y:Yx)(w:World)(rb:Nat)(sh:Envp.Sh)(h:RkC X Y w rb sh):Calls Tryz.prog 22 #[.pointer (some ⟨rb,0,none⟩)] w (fun e w'=>e= .returned (.pointer (some ⟨X.A.b,0,none⟩))∧w=w'):=by
 have HN:=MI (rV X Y w rb sh h)
 obtain⟨⟨h0,h1,h2,-⟩,-⟩:=h
 go_enter Tryz.func22,Tryz.ntmps22
 go_wp2_with (go_at_call 24;refine HN.out.mono ?_;rintro e w' ⟨rfl,rfl⟩)
 go_ret
 exact⟨rfl,rfl⟩
theorem xZ(X:Fx)(Y:Yx)(w:World)(rb:Nat)(sh:Envp.Sh)(h:RkC X Y w rb sh):Calls Tryz.prog 10 #[.pointer (some ⟨rb,0,none⟩)] w (fun e w'=>e= .returned (.pointer (some ⟨X.D.bb,0,none⟩))∧w=w'):=by
 have HN:=MI (rV X Y w rb sh h)
 obtain⟨⟨h0,h1,h2,-⟩,-⟩:=h
 go_enter Tryz.func10,Tryz.ntmps10
 go_wp2_with (go_at_call 24;refine HN.out.mono ?_;rintro e w' ⟨rfl,rfl⟩)
 go_ret
 exact⟨rfl,rfl⟩
theorem Ai{B:Bk}{Y:Yx}{a:Ac}{s s':Rs}{t:Tl}{O:List (Int×Int)}{r:Rp}(h:dS B Y a s s' t O r):O.length≤256:=by
 unfold dS at h
 split at h
 ·rcases h with⟨-,-,-,rfl⟩ | ⟨-,h1,h⟩
  ·decide
  ·obtain⟨-,h2,-⟩:=h
   omega
 ·obtain⟨rfl,-⟩:=h
  decide
def yV(B:Bk)(Y:Yx)(acts:List Ac)(s:Rs):Nat→Rs→List (Int×Int)→Prop
 | 0,s',O=>s'=s∧O=[]
 | j+1,s',O=>∃s1 O1 t O2 r,yV B Y acts s j s1 O1∧dS B Y (acts.getD j ac0) s1 s' t O2 r∧O=O1++O2
theorem Ll{B:Bk}{Y:Yx}{acts:List Ac}{s:Rs}: ∀(j:Nat)(s':Rs)(O:List (Int×Int)),yV B Y acts s j s' O→O.length≤256*j:=by
 intro j
 induction j with
 | zero=>intro s' O h;obtain⟨-,rfl⟩:=h;exact Me
 | succ j ih=>
  intro s' O h
  obtain⟨s1,O1,t,O2,r,h1,h2,rfl⟩:=h
  have:=ih _ _ h1
  have:=Ai h2
  rw[List.length_append]
  omega
theorem rG{P:Program}{w w':World}{ops:Array Oper}{rest:List Oper}{o:Oper}{a:Act}{Q:Exit→Act→World→Prop}(I:o.guard=none)(s x:Operand)(t u:TypeId)(ho:o.op= .call {callee:=.builtin .append,args:=#[s,x],argTypes:=#[t,u]}){v v' z:Value}(hs:a.eval s=v)(hx:a.eval x=z)(hr:(Builtin.append_ #[t,u] o.type #[v,z]).run P w= .ok v' w')(h:wpList P ops Q rest (a.put o.dst v') w'):wpList P ops Q (o::rest) a w:=by
 refine wpList_plain I fun K hK=>?_
 unfold Oper.wp execOp
 simp only[ho,resolve,invoke,builtin,Sem.run_bind,Sem.run_pure,Result.andThen_ok,List.map_toArray,List.map_cons,List.map_nil,hs,hx,hr]
 exact hK _ _ h
def DoneR(X:Fx)(Y:Yx)(B:Bk)(σ:Own)(w w1:World)(rb:Nat)(s:Rs)(a:Ac)(j K:Nat)(e:Ending)(w2:World):Prop:=∃(s':Rs)(t:Tl)(O:List (Int×Int))(r:Rp)(e0 n0:Int)(o1:Option Addr)(c1:Nat)(o2:Option Addr)(n2 c2:Nat)(o3:Option Addr)(n3 c3:Nat)(fr rd:Int)(σ2:Own),e= .returned (.agg #[.int .i64 e0,.int .i64 n0,.slice o1 O.length c1,.slice o2 n2 c2,.slice o3 n3 c3,.int .i64 fr,.int .i64 rd])∧dS B Y a s s' t O r∧TL X Y B σ2 w w2 rb s' (j+1) K∧bP stV 2 (0,0) w2 o1 O.length O∧Ext σ σ2 w1.heap.size∧ag (FD σ w1 rb) w1 w2
theorem tl_do2{X:Fx}{Y:Yx}{B:Bk}{σ:Own}{w w1:World}{rb:Nat}{s:Rs}{j K:Nat}(h:TL X Y B σ w w1 rb s j K)(hK:K≤400000)(J:Y.n≤16)(a:Ac)(ha:a.Wf)(hj:j≤60):Calls Tryz.prog 8 #[.pointer (some ⟨rb,0,none⟩),.agg #[.int .i64 a.k,.int .i64 a.v,.string a.nm,.int .i64 a.n,.int .i64 a.m,.int .i64 a.p,.int .i64 a.x]] w1 (DoneR X Y B σ w w1 rb s a j (K+1+256*dM a)):=by
 have U:=h.ct
 have h0:=F7 X Y B K hK J σ rb s a ha aa j w1.heap.size aa w1 h.fe h.fb h.ys h.rk
 refine Calls.mono (show Calls Tryz.prog 8 #[.pointer (some ⟨rb,0,none⟩),.agg #[.int .i64 a.k,.int .i64 a.v,.string a.nm,.int .i64 a.n,.int .i64 a.m,.int .i64 a.p,.int .i64 a.x]] w1 _ from h0) ?_
 rintro e w2 ⟨s',t,O,r,σ2,rfl,hA,hx,hF,R,hY,hR,⟨oo,oc,I,hO,-⟩,hk⟩
 obtain⟨p1,p2,p3,p4⟩:=yT hA
 obtain⟨e0,n0,o1,n1,c1,o2,n2,c2,o3,n3,c3,fr,rd,rfl⟩:=Ah hA
 simp only at I
 cases I
 have hle:K+1+16*Y.n*dM a≤K+1+256*dM a:=by
  have:16*Y.n*dM a≤256*dM a:=Nat.mul_le_mul_right _ aa
  omega
 have hl:=h.low.size
 have o:=h.rk.own
 refine⟨s',_,O,r,e0,n0,oo,oc,o2,n2,c2,o3,n3,c3,fr,rd,σ2,rfl,hA,⟨hF.up hle,R.up hle,hY.up hle,hR,by have:=h.ct;omega,fun k hk=>(hx k aa).trans (h.old k hk),?_⟩,hO,hx,hk⟩
 refine((ag.au (S:=fun _=>False) h.low Me).andThen hk (fun i hi e=>?_)).aW Me (fun _ _ e=>e)
 have h1:=h.old i hi
 rcases e with e | e | ⟨e,-⟩
 ·unfold FR at e;omega
 ·subst e;omega
 ·omega
theorem field37(e n f r:Int)(o1 o2 o3:Option Addr)(n1 c1 n2 c2 n3 c3:Nat)(w:World):(Instr.field 37 (.agg #[.int .i64 e,.int .i64 n,.slice o1 n1 c1,.slice o2 n2 c2,.slice o3 n3 c3,.int .i64 f,.int .i64 r]) 2).run Tryz.prog w= .ok (.agg #[.slice o1 n1 c1,.slice o2 n2 c2,.slice o3 n3 c3,.int .i64 f,.int .i64 r]) w:=af
theorem field35(f r:Int)(o1 o2 o3:Option Addr)(n1 c1 n2 c2 n3 c3:Nat)(w:World):(Instr.field 35 (.agg #[.slice o1 n1 c1,.slice o2 n2 c2,.slice o3 n3 c3,.int .i64 f,.int .i64 r]) 0).run Tryz.prog w= .ok (.slice o1 n1 c1) w:=af
theorem TL.app{X:Fx}{Y:Yx}{B:Bk}{σ:Own}{w wr w1:World}{rb:Nat}{s:Rs}{j K:Nat}(h:TL X Y B σ w wr rb s j K){S:Nat→Prop}(hk:ag S wr w1)(hS: ∀k,S k→σ k=3∧∃cs,wr.heap[k]? =some (.cells cs 81 (0,0))):TL X Y B (aG σ wr.heap.size w1.heap.size 3) w w1 rb s j K:=by
 have hx:=dA σ wr.heap.size w1.heap.size 3
 have hl:=h.low.size
 obtain⟨tv,xs,h1,h2,h3⟩:=h.rk.row
 refine⟨h.fe.aG (hk.mono fun k _ e=>by rw[(hS k e).1];exact Nat.le_refl 3) 3,h.fb,(h.ys.ext hx).keep hk (fun k e hl=>by rw[dW σ 3 hl,(hS k e).1];decide),⟨⟨tv,xs,hk.heap h1 (fun e=>by
  obtain⟨-,cs,I⟩:=hS _ e
  rw[h1] at I
  simp at I),aB h2 hk (fun k e hs=>by
  obtain⟨cs,I⟩:=ah h2 e
  obtain⟨-,cs2,J⟩:=hS _ hs
  rw[I] at J
  simp at J),fun b e=>by
  obtain⟨cs,I⟩:=ah h2 e
  have:=L8 I
  have:=hk.size
  exact⟨(hx _ (L8 I)).trans (h3 b e).1,by simp only;omega⟩⟩,(hx _ (L8 h1)).trans h.rk.own,h.rk.sok⟩,h.ct,fun k hk=>(hx k aa).trans (h.old k hk),?_⟩
 refine((ag.au (S:=fun _=>False) h.low Me).andThen hk (fun i hi e=>?_)).aW Me (fun _ _ e=>e)
 have h1:=h.old i hi
 have h2:=(hS i e).1
 omega
theorem NY(O:List (Int×Int)):(O.flatMap stV).length=O.length*2:=by
 induction O with
 | nil=>rfl
 | cons a l ih=>rw[List.flatMap_cons,List.length_append,ih,zA,List.length_cons];omega
theorem NW(O:List (Int×Int)): ∀u ∈ O.flatMap stV,u.oneCell'=true:=fun u hu=>by
 obtain⟨x,-,hx⟩:=List.mem_flatMap.1 hu
 unfold stV at hx
 simp at hx
 rcases hx with rfl | rfl<;>rfl
def RunP(X:Fx)(Y:Yx)(B:Bk)(σ:Own)(w0 w:World)(rb:Nat)(s:Rs)(acts:List Ac)(k j0 K:Nat)(e:Ending)(w':World):Prop:=∃(s':Rs)(O:List (Int×Int))(v:Value)(σ2:Own),e= .returned v∧yV B Y acts s k s' O∧TL X Y B σ2 w0 w' rb s' (j0+k) (K+k+256*iY acts k)∧w'.ownsRow 0 81 2 v O.length (O.flatMap stV)∧(∀b,v.ownBlock=some b→σ2 b=3∧w.heap.size≤b)∧Ext σ σ2 w.heap.size
theorem run_any(X:Fx)(Y:Yx)(B:Bk)(B8:Y.n≤16)(bo:Option Addr)(k kc:Nat)(acts:List Ac)(w0 w:World)(σ:Own)(rb:Nat)(s:Rs)(j0 K:Nat)(h:TL X Y B σ w0 w rb s j0 K)(hA:bP acV 7 ac0 w bo k acts)(hW: ∀a ∈ acts,a.Wf)(hbo: ∀a,bo=some a→a.block<w.heap.size∧σ a.block=3∧∃cs,w.heap[a.block]? =some (.cells cs 40 (0,0)))(D7:j0+k≤60)(hK:K+k+256*iY acts k≤400000):Calls Tryz.prog 21 #[.pointer (some ⟨rb,0,none⟩),.slice bo k kc] w (RunP X Y B σ w0 w rb s acts k j0 K):=by
 have A6:=MI h
 have A7:=MI hA
 have C3:=MI hW
 have C4:=MI hbo
 have D8:rb<w.heap.size:=by
  obtain⟨tv,xs,R,-,-⟩:=h.rk.row
  exact L8 R
 clear h hA hW hbo
 go_enter Tryz.func21,Tryz.ntmps21
 go_wp2_with fail
 go_loopw [5,10] (fun v5 v10 wr=>∃(j:Nat)(s':Rs)(O:List (Int×Int))(σ2:Own),j≤k∧v10= .int .i64 (j:Int)∧yV B Y acts s j s' O∧TL X Y B σ2 w0 wr rb s' (j0+j) (K+j+256*iY acts j)∧wr.ownsRow 0 81 2 v5 O.length (O.flatMap stV)∧(∀b,v5.ownBlock=some b→σ2 b=3∧w.heap.size≤b)∧Ext σ σ2 w.heap.size∧w.heap.size≤wr.heap.size∧ag (FD σ w rb) w wr) (fun _ v10 _=>k - aC v10)
 case atStart=>exact⟨0,s,[],σ,aa,rfl,⟨rfl,rfl⟩,A6.out,World.ownsRow_nil _ _ _ _,(fun b e=>by cases e),(fun _ _=>rfl),Me,ag.refl _ _⟩
 case round=>
  obtain⟨j,s1,O1,σ1,hj,rfl,U,hT,hO,J,hx,D9,o⟩:=hrel
  obtain⟨ao,ac,rfl⟩:=dh hO
  by_cases C5:j<k
  ·have E0:(j:Int)<(k:Int):=aa
   have A8:(acts.getD j ac0).Wf:=C3.out _ (by
    have hl:=A7.out.hlen
    rw[show acts.getD j ac0=acts[j]'(by omega) by simp[List.getD,show j<acts.length by omega]]
    exact List.getElem_mem _)
   have C6: ∀a,bo=some a→¬FD σ w rb a.block:=fun a ha e=>by
    obtain⟨h1,h2,cs,h3⟩:=C4.out a ha
    rcases e with e | e | ⟨-,cs2,e⟩
    ·unfold FR at e;omega
    ·obtain⟨tv,xs,R,-,-⟩:=A6.out.rk.row
     rw[e,R] at h3
     simp at h3
    ·rw[h3] at e
     simp at e
   obtain⟨fa,C7,c0,c1,c2,c3,c4,c5,c6⟩:=rec7 (A7.out.kept o (fun a ha e=>C6 a ha e)) C5
   subst C7
   have C8:=xP acts (show j+1≤k by omega)
   have A9:iY acts (j+1)=iY acts j+dM (acts.getD j ac0):=rfl
   have C9:=MI A9
   have HD:=MI (fun w4 (h4:TL X Y B σ1 w0 w4 rb s1 (j0+j) (K+j+256*iY acts j))=>tl_do2 h4 aa B8 (acts.getD j ac0) A8 aa)
   unfold DoneR at HD
   have HU:Hid (∀s' O2 t r,dS B Y (acts.getD j ac0) s1 s' t O2 r→yV B Y acts s (j+1) s' (O1++O2)):=fun s' O2 t r h=>⟨s1,O1,t,O2,r,U,h,rfl⟩
   have HL:=MI (Ll _ _ _ U)
   clear U A8 A9 C8
   generalize acts.getD j ac0=x at*
   obtain⟨xk,xv,xnm,xn,xm,xp,xx⟩:=x
   simp only at c0 c1 c2 c3 c4 c5 c6 HD
   have A0:=ae wr (.cells #[.int .i64 xk,.int .i64 xv,.string xnm,.int .i64 xn,.int .i64 xm,.int .i64 xp,.int .i64 xx] 40)
   have B0:=MI (hT.aj A0)
   have B1:=MI (aQ hO A0)
   obtain⟨b0,b1,b2,b3,b4,b5,b6⟩:=aY (L9 wr (.cells #[.int .i64 xk,.int .i64 xv,.string xnm,.int .i64 xn,.int .i64 xm,.int .i64 xp,.int .i64 xx] 40))
   have A1:=MI A0
   have HT:=MI hT
   have HOr:=MI (fun b hb=>by obtain⟨cs,I⟩:=ah hO (k:=b) hb;exact L8 I)
   clear hT hO A0
   have D5:=field37
   have D6:=field35
   have B2: ∀b,(Value.slice ao O1.length ac).ownBlock=some b→¬FD σ1 (wr.alloc (.cells #[.int .i64 xk,.int .i64 xv,.string xnm,.int .i64 xn,.int .i64 xm,.int .i64 xp,.int .i64 xx] 40)) rb b:=fun b hb e=>by
    obtain⟨cs,I⟩:=ah B1.out hb
    have h3:=(J b hb).1
    rcases e with e | e | ⟨-,cs2,e⟩
    ·unfold FR at e;omega
    ·obtain⟨tv,xs,R,-,-⟩:=B0.out.rk.row
     subst e
     rw[R] at I
     simp at I
    ·rw[I] at e
     simp at e
   go_upto_region 6 with(first
    | (go_at_call 8;refine(HD.out _ B0.out).mono ?_;rintro e w6 ⟨s',t,O2,r,e0,n0,o1,d1,o2,n2,d2,o3,n3,d3,fr,rd,σ2,rfl,hA,D0,B3,B4,A2⟩;have B5:=aB B1.out A2 B2;have E1:=Ai hA;have E2:=HL.out;obtain⟨v',w7,B9,D1,A3,D2⟩:=lh (P:=Tryz.prog) w6 31 31 81 2 Tryz.underlying31 Ny rfl aq 0 _ O1.length _ B5 o1 O2.length d1 (O2.flatMap stV) (NY O2) (fun a ha=>by subst ha;exact B3.flat zA aq) (fun h=>by obtain⟨a,ha,-⟩:=B3.cell 0 h;exact⟨a,ha⟩) (NW O2) aa aE (Nat.zero_le _))
    | (at_builtin;refine rG rfl (.tmp 14) (.tmp 19) 31 31 rfl rfl rfl B9 ?_))
   have E3:=A2.size
   have E4:=A3.size
   have E5:=A1.out.size
   have A4: ∀b,(Value.slice ao O1.length ac).ownBlock=some b→b<wr.heap.size:=fun b hb=>by
    exact HOr.out b hb
   have hσ2: ∀b,(Value.slice ao O1.length ac).ownBlock=some b→σ2 b=3:=fun b hb=>(B4 b (by have:=A4 b hb;omega)).trans (J b hb).1
   have B6:=D0.app A3 (fun b hb=>⟨hσ2 b hb,ah B5 hb⟩)
   have D3:K+j+256*iY acts j+1+256*dM ⟨xk,xv,xnm,xn,xm,xp,xx⟩=K+(j+1)+256*iY acts (j+1):=by rw[C9.out];omega
   rw[D3] at B6
   have B7:w7.ownsRow 0 81 2 v' (O1++O2).length ((O1++O2).flatMap stV):=by rw[List.length_append,List.flatMap_append];exact D1
   have C0: ∀b,v'.ownBlock=some b→aG σ2 w6.heap.size w7.heap.size 3 b=3∧w.heap.size≤b:=fun b hb=>by
    rcases D2 b hb with h | h
    ·exact⟨by rw[dW σ2 3 (by have:=A4 b h;omega)];exact hσ2 b h,(J b h).2⟩
    ·obtain⟨cs,I⟩:=ah B7 hb
     exact⟨aX σ2 3 h (L8 I),aa⟩
   have D4:Ext σ (aG σ2 w6.heap.size w7.heap.size 3) w.heap.size:=fun i hi=>(dW σ2 3 aa).trans ((B4 i aa).trans (hx i hi))
   have C1:ag (FD σ w rb) w w7:=((o.andThen (ag.au (S:=fun _=>False) A1.out Me) (fun i hi e=>e.elim)).andThen A2 (fun i hi e=>by
    by_cases A5:FD σ w rb i
    ·exact A5
    ·rcases e with e | e | ⟨e,cs,I⟩
     ·unfold FR at e
      rw[hx i hi] at e
      exact .inl e
     ·exact .inr (.inl e)
     ·rw[hx i hi] at e
      refine .inr (.inr ⟨e,cs,?_⟩)
      rw[←o.block i hi A5,←A1.out.block i aa]
      exact I)).andThen A3 (fun i hi e=>by have:=(J i e).2;omega)
   have C2:=HU.out s' O2 _ r hA
   clear B2
   go_wp2_with fail
   exact⟨⟨j+1,s',O1++O2,_,aa,aD,C2,B6,B7,C0,D4,aa,C1⟩,by simp[aC];omega⟩
  ·obtain rfl:j=k:=aa
   have E6:¬(j:Int)<(j:Int):=aa
   have HE:Hid (∀v,v= .slice ao O1.length ac→RunP X Y B σ w0 w rb s acts j j0 K (.returned v) wr):=fun v hv=>⟨s1,O1,v,σ1,rfl,U,hT,by rw[hv];exact hO,by rw[hv];exact J,hx⟩
   clear hO J hT U o hx
   go_wp2_with fail
   go_ret
   exact HE.out _ rfl
end Go.Proofs.YtnicjahcgnhogaaGreatDoor
