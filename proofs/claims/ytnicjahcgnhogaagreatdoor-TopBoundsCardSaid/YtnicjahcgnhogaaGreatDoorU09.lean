/- Part 10 of the walk: contracts of the program's functions, each for every input. No condition. -/
import Derived.Test.YtnicjahcgnhogaaGreatDoorU08
set_option linter.unusedVariables false
set_option linter.unusedSimpArgs false
set_option maxRecDepth 100000
set_option maxHeartbeats 8000000
namespace Go.Proofs.YtnicjahcgnhogaaGreatDoor.Cch
open Go Go.RowKit Go.Calli Go.Dskp Go.Maps
attribute [local irreducible] wpStill wpAnyH wpAnyS wpList Code.wp
def rF(ss:List Slot)(page:Int)(n:Nat)(w:World)(e:Ending)(w':World):Prop:=e= .returned (.int .i64 (qR ss page n 0))∧Below w.heap.size w w'
theorem wF(cb sb n:Nat)(ss:List Slot)(page:Int)(v0 v1 v2 v3 v4 v6 v7:Value)(hn:n≤1024)(w:World)(hc:w.heap[cb]? =some (.cells #[v0,v1,v2,v3,v4,.slice (some ⟨sb,0,none⟩) n n,v6,v7] 156 (0,0)))(hS:jg w sb n ss):Calls Tryz.prog 134 #[.pointer (some ⟨cb,0,none⟩),.int .i64 page] w (rF ss page n w):=by
 obtain⟨c0,c1,c2,c3,c4,c5,c6,c7⟩:=bZ hc
 go_enter Tryz.func134,Tryz.ntmps134
 go_wp2_with fail
 go_loopw [5,11] (fun v5 v11 wr=>∃i:Nat,i≤n∧v11= .int .i64 i∧Hid (qR ss page n 0=qR ss page (n - i) i)∧Below w.heap.size w wr) (fun _ v11 _=>(n - (intOf v11).toNat))
 case atStart=>exact⟨0,aa,rfl,rfl,Below.refl _ _⟩
 case round=>
  obtain⟨i,hi,rfl,hf,hb⟩:=hrel
  by_cases o:i<n
  ·have hk:=ag.au (S:=fun _=>False) hb Me
   obtain⟨s0,s1,s2,s3⟩:=(hS.kept hk id).at_ i o
   obtain⟨c0,c1,c2,c3,c4,c5,c6,c7⟩:=bZ (hk.heap hc id)
   obtain⟨j,hj⟩: ∃j,n - i=j+1:=⟨n - i - 1,aa⟩
   have I:qR ss page (n - i) i=if(ss.getD i Slot.none).f=true∧(ss.getD i Slot.none).p=page then(i:Int) else qR ss page (n - (i+1)) (i+1):=by
    rw[hj,show n - (i+1)=j by omega];rfl
   generalize ss.getD i Slot.none=t at*
   by_cases R:t.f=true
   ·rw[R] at s2
    by_cases hp:t.p=page
    ·rw[hp] at s0
     have J:=MI (I.trans (if_pos ⟨R,hp⟩))
     clear I
     go_wp2_with fail
     go_ret
     exact⟨by rw[hf.out,J.out]<;>rfl,hb⟩
    ·have J:=MI (I.trans (if_neg (fun e=>hp e.2)))
     have A0:(t.p==page)=false:=by simpa using hp
     clear I
     go_wp2_with fail
     go_roundw
     case rel=>exact⟨i+1,aa,aD,hf.out.trans J.out,hb⟩
     case measure=>simp[intOf];omega
   ·have U:t.f=false:=by simpa using R
    rw[U] at s2
    have J:=MI (I.trans (if_neg (fun e=>R e.1)))
    clear I
    go_wp2_with fail
    go_roundw
    case rel=>exact⟨i+1,aa,aD,hf.out.trans J.out,hb⟩
    case measure=>simp[intOf];omega
  ·obtain rfl:i=n:=aa
   have HE:=MI (hf.out.trans (by rw[Nat.sub_self];rfl:qR ss page (i - i) i= -1))
   go_wp2_with fail
   go_ret
   exact⟨by rw[HE.out]<;>rfl,hb⟩
end Go.Proofs.YtnicjahcgnhogaaGreatDoor.Cch
namespace Go.Proofs.YtnicjahcgnhogaaGreatDoor.Cch
open Go Go.RowKit Go.Calli Go.Dskp Go.Maps
structure PS where
 p:Int
 u:Bool
 f:Bool
 bs:List Int
def q0:PS:=⟨0,false,false,[]⟩
structure Ca where
 h:Int
 m:Int
 t:Int
 l:Int
 d:Dk
 ss:List PS
 hand:Nat
 bC:Int
 mx:Nat
def iV(ss:List PS)(page:Int):Nat→Nat→Int
 | 0,_=>-1
 | k+1,i=>if(ss.getD i q0).f=true∧(ss.getD i q0).p=page then(i:Int) else iV ss page k (i+1)
theorem wG(ss:List PS)(page:Int): ∀k i,iV ss page k i= -1∨((i:Int)≤iV ss page k i∧iV ss page k i<i+k∧(ss.getD (iV ss page k i).toNat q0).f=true∧(ss.getD (iV ss page k i).toNat q0).p=page):=by
 intro k
 induction k with
 | zero=>intro i;exact .inl rfl
 | succ k ih=>
  intro i
  simp only[iV]
  split
  ·rename_i h
   exact .inr ⟨Int.le_refl _,aa,by simpa using h.1,by simpa using h.2⟩
  ·rcases ih (i+1) with h | ⟨h1,h2,h3⟩
   ·exact .inl h
   ·exact .inr ⟨aa,aa,h3⟩
def PS.used(s:PS):Bool:=s.f&&s.u
def PS.drop(s:PS):PS:={s with u:=false}
def EX(ss:List PS):Nat:=(ss.filter PS.used).length
def pG(n:Nat):Nat→List PS→Nat→Nat×List PS×Nat
 | 0,ss,h=>(h,ss,(h+1)%n)
 | k+1,ss,h=>if(ss.getD h q0).used=true then pG n k (ss.set h (ss.getD h q0).drop) ((h+1)%n) else(h,ss,(h+1)%n)
structure Ad where
 cb:Nat
 sb:Nat
 b:Nat
 mb:Nat
 ib:Option Addr
 kap:Nat
 x:Nat→Prop
def Ad.S(A:Ad)(k:Nat):Prop:=k=A.cb∨k=A.sb∨k=A.b∨k=A.mb
def Ad.T(A:Ad)(k:Nat):Prop:=A.S k∨A.x k
structure oP(A:Ad)(w:World)(s:Slot)(q:PS):Prop where
 p:s.p=q.p
 u:s.u=q.u
 f:s.f=q.f
 bs:q.f=true→s.bn=q.bs.length∧s.bn≤s.bc∧Ints .u8 w s.bo s.bn q.bs∧∀a,s.bo=some a→¬A.T a.block
theorem oP.BO{A:Ad}{w w':World}{s:Slot}{q:PS}(h:oP A w s q)(hk:ag A.T w w'):oP A w' s q:=⟨h.p,h.u,h.f,fun hf=>by
 obtain⟨a1,a2,a4,a5⟩:=h.bs hf
 exact⟨a1,a2,a4.kept hk a5,a5⟩⟩
theorem oP.kept{A:Ad}{w w':World}{s:Slot}{q:PS}(h:oP A w s q)(hk:ag A.S w w'):oP A w' s q:=h.BO (hk.mono fun k _ h=>.inl h)
structure eQ(A:Ad)(w:World)(ms:List Slot)(qs:List PS):Prop where
 len:ms.length=qs.length
 is: ∀i,i<qs.length→oP A w (ms.getD i Slot.none) (qs.getD i q0)
theorem eQ.BO{A:Ad}{w w':World}{ms:List Slot}{qs:List PS}(h:eQ A w ms qs)(hk:ag A.T w w'):eQ A w' ms qs:=⟨h.len,fun i hi=>(h.is i hi).BO hk⟩
theorem eQ.kept{A:Ad}{w w':World}{ms:List Slot}{qs:List PS}(h:eQ A w ms qs)(hk:ag A.S w w'):eQ A w' ms qs:=⟨h.len,fun i hi=>(h.is i hi).kept hk⟩
theorem eQ.set{A:Ad}{w:World}{ms:List Slot}{qs:List PS}(h:eQ A w ms qs)(i:Nat){s:Slot}{q:PS}(hs:oP A w s q):eQ A w (ms.set i s) (qs.set i q):=⟨by rw[List.length_set,List.length_set,h.len],fun j hj=>by
 rw[List.length_set] at hj
 by_cases e:j=i
 ·subst e
  rw[show(ms.set j s).getD j Slot.none=s by simp[List.getD,h.len,hj],show(qs.set j q).getD j q0=q by simp[List.getD,hj]]
  exact hs
 ·rw[show(ms.set i s).getD j Slot.none=ms.getD j Slot.none by simp[List.getD,List.getElem?_set,Ne.symm e],show(qs.set i q).getD j q0=qs.getD j q0 by simp[List.getD,List.getElem?_set,Ne.symm e]]
  exact h.is j hj⟩
theorem wE{A:Ad}{w:World}{ms:List Slot}{qs:List PS}(h:eQ A w ms qs)(page:Int): ∀k i,i+k≤qs.length→qR ms page k i=iV qs page k i:=by
 intro k
 induction k with
 | zero=>intro i _;rfl
 | succ k ih=>
  intro i hi
  have hs:=h.is i aa
  simp only[qR,iV]
  rw[hs.f,hs.p,ih (i+1) aa]
theorem cnt_rel{A:Ad}{w:World}: ∀{ms:List Slot}{qs:List PS}(h:eQ A w ms qs),cnt ms=EX qs:=by
 intro ms
 induction ms with
 | nil=>intro qs h;have:=h.len;obtain rfl:qs=[]:=List.eq_nil_of_length_eq_zero (by simpa using this.symm);rfl
 | cons s ms ih=>
  intro qs h
  cases qs with
  | nil=>have:=h.len;simp at this
  | cons q qs=>
   have h0:=h.is 0 ar
   have e0:s.used=q.used:=by
    have hf:s.f=q.f:=h0.f
    have hu:s.u=q.u:=h0.u
    unfold Slot.used PS.used;rw[hf,hu]
   have ht:eQ A w ms qs:=⟨by have:=h.len;simpa using this,fun i hi=>by have:=h.is (i+1) (by simpa using hi);simpa using this⟩
   have:=ih ht
   unfold cnt EX at*
   by_cases hu:q.used=true
   ·rw[List.filter_cons_of_pos (by rw[e0];exact hu),List.filter_cons_of_pos hu,List.length_cons,List.length_cons,this]
   ·rw[List.filter_cons_of_neg (by rw[e0];exact hu),List.filter_cons_of_neg hu,this]
theorem vic_rel{A:Ad}{w:World}{n:Nat}(hn:0<n): ∀(k:Nat){ms:List Slot}{qs:List PS}(h:eQ A w ms qs)(hl:qs.length=n)(g:Nat)(hg:g<n),(vic n k ms g).1=(pG n k qs g).1∧(vic n k ms g).2.2=(pG n k qs g).2.2∧eQ A w (vic n k ms g).2.1 (pG n k qs g).2.1∧(pG n k qs g).1<n∧(pG n k qs g).2.2<n∧(pG n k qs g).2.1.length=n:=by
 intro k
 induction k with
 | zero=>intro ms qs h hl g hg;exact⟨rfl,rfl,h,hg,Nat.mod_lt _ hn,hl⟩
 | succ k ih=>
  intro ms qs h hl g hg
  have hs:=h.is g aa
  have eu:(ms.getD g Slot.none).used=(qs.getD g q0).used:=by unfold Slot.used PS.used;rw[hs.f,hs.u]
  simp only[vic,pG]
  rw[eu]
  by_cases hu:(qs.getD g q0).used=true
  ·rw[if_pos hu,if_pos hu]
   exact ih (h.set g (s:=(ms.getD g Slot.none).drop) (q:=(qs.getD g q0).drop) ⟨hs.p,rfl,hs.f,hs.bs⟩) (by rw[List.length_set];exact hl) _ (Nat.mod_lt _ hn)
  ·rw[if_neg hu,if_neg hu]
   exact⟨rfl,rfl,h,hg,Nat.mod_lt _ hn,hl⟩
structure PR where
 e:Int
 b:List Int
 c:Ca
def NH(c:Ca)(i:Nat):Ca:={c with h:=c.h+1,ss:=c.ss.set i {c.ss.getD i q0 with u:=true}}
def Nj(c:Ca)(R:TR):Ca:={c with m:=c.m+1,t:=c.t+R.n,d:=R.d,l:=c.l+1,mx:=c.mx+9}
def Ky(c:Ca)(p:Int)(R:TR)(V:Nat×List PS×Nat):Ca:={c with m:=c.m+1,t:=c.t+R.n,d:=R.d,ss:=V.2.1.set V.1 ⟨p,true,true,R.b⟩,hand:=V.2.2,mx:=c.mx+9}
def ed(c:Ca)(p:Int):PR:=
 if 0≤iV c.ss p c.ss.length 0 then⟨0,(c.ss.getD (iV c.ss p c.ss.length 0).toNat q0).bs,NH c (iV c.ss p c.ss.length 0).toNat⟩
 else if(gq p (c.bC.toNat+1) c.d 8).e=0 then⟨0,(gq p (c.bC.toNat+1) c.d 8).b,Ky c p (gq p (c.bC.toNat+1) c.d 8) (pG c.ss.length (EX c.ss) c.ss c.hand)⟩
 else⟨(gq p (c.bC.toNat+1) c.d 8).e,[],Nj c (gq p (c.bC.toNat+1) c.d 8)⟩
def Aw(A:Ad)(w:World):Prop:=(∀a,A.ib=some a→a.block<w.heap.size)∧∀k,A.x k→k<w.heap.size∧¬A.S k∧∀a,A.ib=some a→a.block≠k
theorem Aw.mono{A:Ad}{w w':World}(h:Aw A w)(hs:w.heap.size≤w'.heap.size):Aw A w':=⟨fun a ha=>Nat.lt_of_lt_of_le (h.1 a ha) hs,fun k hx=>⟨Nat.lt_of_lt_of_le (h.2 k hx).1 hs,(h.2 k hx).2⟩⟩
structure iH(A:Ad)(w:World)(n:Nat)(c:Ca):Prop where
 row:w.heap[A.cb]? =some (.cells #[.int .i64 c.h,.int .i64 c.m,.int .i64 c.t,.int .i64 c.l,.pointer (some ⟨A.b,0,none⟩),.slice (some ⟨A.sb,0,none⟩) n n,.int .i64 c.hand,.int .i64 c.bC] 156 (0,0))
 slots: ∃ms,jg w A.sb n ms∧eQ A w ms c.ss
 dsk: ∃m,m≤c.mx∧Dsk w A.b A.mb A.ib A.kap m c.d
 len:c.ss.length=n
 hand:c.hand<n
 uh:A.cb≠A.sb∧A.b≠A.cb∧A.mb≠A.cb∧A.b≠A.sb∧A.mb≠A.sb∧∀a,A.ib=some a→a.block≠A.cb∧a.block≠A.sb
 away:Aw A w
theorem iH.aj{A:Ad}{w w':World}{n:Nat}{c:Ca}(h:iH A w n c)(hb:Below w.heap.size w w'):iH A w' n c:=by
 have hk:=ag.au (S:=fun _=>False) hb Me
 obtain⟨ms,h1,h2⟩:=h.slots
 obtain⟨m,h3,h4⟩:=h.dsk
 exact⟨hk.heap h.row id,⟨ms,h1.kept hk id,h2.kept (hk.mono fun k _ h=>h.elim)⟩,⟨m,h3,h4.aj hb⟩,h.len,h.hand,h.uh,h.away.mono hk.size⟩
theorem iH.inW{A:Ad}{w:World}{n:Nat}{c:Ca}(h:iH A w n c): ∀k,A.S k→k<w.heap.size:=by
 obtain⟨ms,h1,h2⟩:=h.slots
 obtain⟨m,h3,h4⟩:=h.dsk
 rintro k (rfl | rfl | rfl | rfl)
 ·exact L8 h.row
 ·exact L8 h1.2
 ·exact h4.lt
 ·exact h4.2.2.2.1.lt
structure lN(k:Nat)(c:Ca):Prop where
 h0:0≤c.h
 h1:c.h≤k
 m0:0≤c.m
 m1:c.m≤k
 t0:0≤c.t
 t1:c.t≤9*k
 l0:0≤c.l
 l1:c.l≤k
 ok:c.d.Ok
 r:c.d.r≤9*k
 mx:c.mx≤9*k
 r0:0≤c.bC
 r1:c.bC≤8
theorem AB(p:Int): ∀(k:Nat)(d:Dk)(e:Int),d.Ok→(gq p k d e).d.Ok∧0≤(gq p k d e).n∧(gq p k d e).n≤k∧(gq p k d e).d.r≤d.r+k:=by
 intro k
 induction k with
 | zero=>intro d e hd;exact⟨hd,Int.le_refl _,Int.le_refl _,by simp[gq]⟩
 | succ k ih=>
  intro d e hd
  have hr:=(F8 d p).1
  simp only[gq]
  split
  ·exact⟨D6 hd p,by simp only;omega,by simp only;omega,by simp only;omega⟩
  ·have:=ih (rdS d p) (rdE d p) (D6 hd p)
   exact⟨this.1,by simp only;omega,by simp only;omega,by simp only;omega⟩
theorem lN.page{k:Nat}{c:Ca}(h:lN k c)(p:Int):lN (k+1) (ed c p).c:=by
 have ht:=AB p (c.bC.toNat+1) c.d 8 h.ok
 have h1:=h.h0;have h2:=h.h1;have h3:=h.m0;have h4:=h.m1;have h5:=h.t0;have h6:=h.t1;have h7:=h.l0;have h8:=h.l1;have h9:=h.ok;have I:=h.r;have J:=h.mx;have U:=h.r0;have j:=h.r1
 unfold ed
 generalize gq p (c.bC.toNat+1) c.d 8=R at*
 obtain⟨t1,t2,t3,t4⟩:=ht
 split
 ·constructor<;>simp only[NH]<;>first | omega | assumption
 ·split
  ·constructor<;>simp only[Ky]<;>first | omega | assumption
  ·constructor<;>simp only[Nj]<;>first | omega | assumption
theorem KQ(vs:List Value): ∀(L:List Value)(o:Nat),(spl L.toArray o vs)=(vs.foldl (fun(q:List Value×Nat) v=>(q.1.set q.2 v,q.2+1)) (L,o)).1.toArray:=by
 induction vs with
 | nil=>intro L o;rfl
 | cons v r ih=>intro L o;rw[spl,List.foldl_cons,show L.toArray.setIfInBounds o v=(L.set o v).toArray by simp,ih]
theorem Jm(ss:List Slot): ∀(h:Nat)(t:Slot),h<ss.length→iK (ss.set h t)=((((iK ss).set (h*4) (.int .i64 t.p)).set (h*4+1) (.bool t.u)).set (h*4+2) (.bool t.f)).set (h*4+3) (.slice t.bo t.bn t.bc):=by
 induction ss with
 | nil=>intro h t hh;simp at hh
 | cons m r ih=>
  intro h t hh
  have hl: ∀s,(gY s).length=4:=fun s=>rfl
  cases h with
  | zero=>
   show gY t++iK r=((((gY m++iK r).set _ _).set _ _).set _ _).set _ _
   simp[gY]
  | succ h=>
   show gY m++iK (r.set h t)=((((gY m++iK r).set _ _).set _ _).set _ _).set _ _
   rw[ih h t (by simpa using hh)]
   rw[List.set_append_right _ _ (by rw[hl];omega),List.set_append_right _ _ (by rw[hl];omega),List.set_append_right _ _ (by rw[hl];omega),List.set_append_right _ _ (by rw[hl];omega)]
   rw[hl,show(h+1)*4 - 4=h*4 by omega,show(h+1)*4+1 - 4=h*4+1 by omega,show(h+1)*4+2 - 4=h*4+2 by omega,show(h+1)*4+3 - 4=h*4+3 by omega]
theorem jg.put{w:World}{sb n:Nat}{ss:List Slot}(h:jg w sb n ss)(i:Nat)(hi:i<n)(t:Slot):jg (w.setCells sb (i*4) (gY t)) sb n (ss.set i t):=by
 obtain⟨hl,hh⟩:=h
 refine⟨by rw[List.length_set];exact hl,?_⟩
 rw[iR _ _ _ _ _ _ hh,KQ,Jm ss i t aa]
 rfl
end Go.Proofs.YtnicjahcgnhogaaGreatDoor.Cch
namespace Go.Proofs.YtnicjahcgnhogaaGreatDoor.Cch
open Go Go.RowKit Go.Calli Go.Dskp Go.Maps
attribute [local irreducible] wpStill wpAnyH wpAnyS wpList Code.wp
def Ff(A:Ad)(n:Nat)(R:PR)(w:World)(e:Ending)(w':World):Prop:=∃ro rc,e= .returned (.tuple #[.slice ro R.b.length rc,.int .i64 R.e])∧R.b.length≤rc∧iH A w' n R.c∧Ints .u8 w' ro R.b.length R.b∧(∀a,ro=some a→¬A.S a.block)∧ag A.S w w'
def JP(w:World)(cb:Nat)(x0 x1 x2 x3 x4 x5 x6 x7:Value):Prop:=w.heap[cb]? =some (.cells #[x0,x1,x2,x3,x4,x5,x6,x7] 156 (0,0))
theorem zL{w:World}{A:Ad}{x0 x1 x2 x3 x4 x5 x6 x7 y0 y1 y2 y3 y4 y5 y6 y7:Value}(hr:JP w A.cb x0 x1 x2 x3 x4 x5 x6 x7)(o:Nat)(v:Value)(hc:(#[x0,x1,x2,x3,x4,x5,x6,x7]).setIfInBounds o v=#[y0,y1,y2,y3,y4,y5,y6,y7]):
  JP (w.setCell ⟨A.cb,o,none⟩ v) A.cb y0 y1 y2 y3 y4 y5 y6 y7∧ag (fun k=>k=A.cb) w (w.setCell ⟨A.cb,o,none⟩ v):=by
 refine⟨?_,(ag.refl (fun k=>k=A.cb) w).setCell (p:=⟨A.cb,o,none⟩) (.inr rfl) _⟩
 unfold JP
 rw[Mc hr,hc]
theorem LX(A:Ad)(n:Nat)(A8:n≤1024)(c:Ca)(k:Nat)(hk:k≤50000000)(hL:lN k c)(p:Int)(i:Nat)(hi:i<n)(hf:(c.ss.getD i q0).f=true)(A4:iV c.ss p n 0=i)(w:World)(h:iH A w n c):Calls Tryz.prog 264 #[.pointer (some ⟨A.cb,0,none⟩),.int .i64 p] w (Ff A n ⟨0,(c.ss.getD i q0).bs,NH c i⟩ w):=by
 obtain⟨ms,hS,hM⟩:=h.slots
 have hF:=wF A.cb A.sb n ms p _ _ _ _ _ _ _ A8 w h.row hS
 unfold rF at hF
 rw[wE hM p n 0 (by rw[h.len];omega),A4] at hF
 have HH:=MI h
 have hd:=h.uh.1
 have B4:=hL.h0
 have B5:=hL.h1
 clear A4 h hS hM hL
 go_enter Tryz.func264,Tryz.ntmps264
 go_upto_region 3 with(go_at_call 134;refine hF.mono ?_;clear hF;rintro e w1 ⟨rfl,A5⟩)
 have h1:=HH.out.aj A5
 have U:JP w1 A.cb _ _ _ _ _ _ _ _:=h1.row
 obtain⟨c0,c1,c2,c3,c4,c5,c6,c7⟩:=bZ U
 have cf:=frozen_of_row _ _ 0 _ _ U
 have B6:IntKind.i64.wrap (c.h+1)=c.h+1:=IntWalk.i64_in _ aa
 obtain⟨A0,j⟩:=zL U 0 (.int .i64 (c.h+1)) rfl
 go_upto_region 4 with fail
 obtain⟨ms,A6,A1⟩:=h1.slots
 have J:=A6.kept j (fun e=>hd e.symm)
 clear c0 c1 c2 c3 c4 c5 c6 c7 cf
 generalize w1.setCell ⟨A.cb,0,none⟩ (.int .i64 (c.h+1))=W2 at*
 obtain⟨c0,c1,c2,c3,c4,c5,c6,c7⟩:=bZ A0
 obtain⟨s0,s1,s2,s3⟩:=J.at_ i hi
 have sf:=frozen_of_row _ _ (i*4+1) _ _ J.2
 have A2:=J.setu i hi true
 have o:ag (fun k=>k=A.sb) W2 (W2.setCell ⟨A.sb,i*4+1,none⟩ (.bool true)):=(ag.refl (fun k=>k=A.sb) W2).setCell (p:=⟨A.sb,i*4+1,none⟩) (.inr rfl) _
 go_upto_region 5 with fail
 have A3:JP (W2.setCell ⟨A.sb,i*4+1,none⟩ (.bool true)) A.cb _ _ _ _ _ _ _ _:=o.heap A0 (fun e=>hd e)
 clear c0 c1 c2 c3 c4 c5 c6 c7 s0 s1 s2 s3 sf
 generalize W2.setCell ⟨A.sb,i*4+1,none⟩ (.bool true)=W3 at*
 obtain⟨c0,c1,c2,c3,c4,c5,c6,c7⟩:=bZ A3
 obtain⟨s0,s1,s2,s3⟩:=A2.at_ i hi
 have A9:i<ms.length:=by rw[J.1];exact hi
 have e3:(ms.set i {ms.getD i Slot.none with u:=true}).getD i Slot.none={ms.getD i Slot.none with u:=true}:=by simp[List.getD,A9]
 rw[e3] at s0 s1 s2 s3
 have R:=A1.is i (by rw[h1.len];exact hi)
 obtain⟨b1,b2,b4,b55⟩:=R.bs hf
 have b5: ∀a,(ms.getD i Slot.none).bo=some a→¬A.S a.block:=fun a ha e=>b55 a ha (.inl e)
 have I:ag A.S w1 W3:=(j.mono fun k _ h=>.inl h).trans (o.mono fun k _ h=>.inr (.inl h))
 have A7:Hid (iH A W3 n (NH c i)):=by
  obtain⟨m,B0,B1⟩:=h1.dsk
  obtain⟨d1,d2,d3,d4,d5,d6⟩:=h1.uh
  refine⟨A3,⟨_,A2,(A1.kept I).set i ⟨R.p,rfl,R.f,fun hf=>?_⟩⟩,⟨m,B0,(B1.kept j d2 d3 (fun a ha=>(d6 a ha).1)).kept o d4 d5 (fun a ha=>(d6 a ha).2)⟩,by show(c.ss.set i _).length=n;rw[List.length_set];exact h1.len,h1.hand,h1.uh,h1.away.mono I.size⟩
  obtain⟨a1,a2,a4,a5⟩:=R.bs hf
  exact⟨a1,a2,a4.kept I (fun a ha e=>a5 a ha (.inl e)),a5⟩
 have B2:=MI (b4.kept I b5)
 have B3:=MI ((ag.au (S:=A.S) A5 Me).trans I)
 clear A2 A3 J A0 A6 U h1 A1 R j o I hf b4 b55 e3
 generalize (c.ss.getD i q0).bs=BS at*
 generalize (ms.getD i Slot.none).bo=bo at*
 generalize (ms.getD i Slot.none).bn=bn at*
 generalize (ms.getD i Slot.none).bc=bc at*
 subst b1
 go_wp2_with fail
 go_ret2
 exact⟨bo,bc,rfl,b2,A7.out,B2.out,b5,B3.out⟩
theorem IW(A:Ad)(n:Nat)(B8:n≤1024)(c:Ca)(k:Nat)(hk:k≤50000000)(hL:lN k c)(p:Int)(D7:(Lit.int .i64 p).wf=true)(B9:iV c.ss p n 0= -1)(R:TR)(hR:gq p (c.bC.toNat+1) c.d 8=R)(w:World)(h:iH A w n c):Calls Tryz.prog 264 #[.pointer (some ⟨A.cb,0,none⟩),.int .i64 p] w (Ff A n (if R.e=0 then⟨0,R.b,Ky c p R (pG n (EX c.ss) c.ss c.hand)⟩ else⟨R.e,[],Nj c R⟩) w):=by
 obtain⟨ms,hS,hM⟩:=h.slots
 have hF:=wF A.cb A.sb n ms p _ _ _ _ _ _ _ B8 w h.row hS
 unfold rF at hF
 rw[wE hM p n 0 (by rw[h.len];omega),B9] at hF
 have HH:=MI h
 have I:=MI hL
 obtain⟨d1,d2,d3,d4,d5,d6⟩:=h.uh
 have F4:=hL.m0
 have F5:=hL.m1
 have F6:=hL.l0
 have F7:=hL.l1
 have D8:=MI hR
 clear B9 h hS hM hL hR
 go_enter Tryz.func264,Tryz.ntmps264
 go_upto_region 6 with(go_at_call 134;refine hF.mono ?_;clear hF;rintro e w1 ⟨rfl,A7⟩)
 have h1:=HH.out.aj A7
 have A8:JP w1 A.cb _ _ _ _ _ _ _ _:=h1.row
 obtain⟨c0,c1,c2,c3,c4,c5,c6,c7⟩:=bZ A8
 have cf:=frozen_of_row _ _ 1 _ _ A8
 have F8:IntKind.i64.wrap (c.m+1)=c.m+1:=IntWalk.i64_in _ aa
 obtain⟨C0,A2⟩:=zL A8 1 (.int .i64 (c.m+1)) rfl
 go_upto_region 7 with fail
 obtain⟨ms,C1,C2⟩:=h1.slots
 obtain⟨m,hm,C3⟩:=h1.dsk
 have C4:=C1.kept A2 (fun e=>d1 e.symm)
 have C5:=C3.kept A2 d2 d3 (fun a ha=>(d6 a ha).1)
 have C6:=C2.kept (A2.mono fun k _ h=>.inl h)
 have F9:=I.out.mx
 have B2:ag A.S w1 (w1.setCell ⟨A.cb,1,none⟩ (.int .i64 (c.m+1))):=A2.mono fun k _ h=>.inl h
 have hlen:=h1.len
 have o:=h1.hand
 clear c0 c1 c2 c3 c4 c5 c6 c7 cf A8 C1 C3 C2 h1 A2
 generalize w1.setCell ⟨A.cb,1,none⟩ (.int .i64 (c.m+1))=W2 at*
 have hT:=try_any A.cb _ _ _ _ _ A.b A.mb A.ib A.kap m c.bC c.t c.d p ⟨I.out.r0,I.out.r1⟩ ⟨I.out.t0,by have:=I.out.t1;omega⟩ I.out.ok aa (by have:=I.out.r;omega) D7 ⟨d2,d3,fun a ha=>(d6 a ha).1⟩ W2 C0 C5
 rw[D8.out] at hT
 have G0:=B2.size
 have D2:=HH.out.inW
 have A4:=HH.out.away
 have G1:=A7.size
 go_upto_region 8 with(go_at_call 267;refine hT.mono ?_;clear hT;rintro e w3 ⟨ro,rc,rfl,hrc,J,⟨m3,G2,B3⟩,D9,A5,B4⟩)
 unfold Ak at J
 have B5:=C4.kept B4 (fun e=>by rcases e with e | e | e<;>omega)
 have A6:ag A.S W2 w3:=B4.mono fun k _ h=>by
  rcases h with h | h | h
  ·exact .inl h
  ·exact .inr (.inr (.inl h))
  ·exact .inr (.inr (.inr h))
 have A9:=C6.kept A6
 have A0:ag A.S w1 w3:=B2.trans A6
 have B6: ∀a,ro=some a→¬A.S a.block:=fun a ha hS=>by
  have:=A5 a ha
  have:=D2 _ hS
  omega
 have D3: ∀a,ro=some a→¬A.T a.block:=fun a ha hT=>by
  rcases hT with hS | hx
  ·exact B6 a ha hS
  ·have:=A5 a ha
   have:=(A4.2 _ hx).1
   omega
 clear C0 C5 C4 C6 B4 A6 B2 A5
 by_cases he:R.e=0
 ·rw[if_pos he]
  have E0:xC w3 A.cb A.sb n (.int .i64 c.h) (.int .i64 (c.m+1)) (.int .i64 (c.t+R.n)) (.int .i64 c.l) (.pointer (some ⟨A.b,0,none⟩)) (.int .i64 c.bC) c.hand:=J
  have hV:=vic_any A.cb A.sb n ms c.hand _ _ _ _ _ _ B8 o d1 w3.drew E0 B5
  rw[cnt_rel A9] at hV
  have E1:=vic_rel (A:=A) (w:=w3) aa (EX c.ss) A9 hlen c.hand o
  generalize pG n (EX c.ss) c.ss c.hand=V at*
  generalize vic n (EX c.ss) ms c.hand=U at*
  obtain⟨i,us,g⟩:=U
  obtain⟨u1,u2,u3,u4,u5,u6⟩:=E1
  simp only at u1 u2 u3
  have hi:i<n:=aa
  have HV:=MI hV
  have E2:=MI u1
  have E3:=MI u2
  have G3:w3.cell? ⟨A.cb,5,none⟩=some (.slice (some ⟨A.sb,0,none⟩) n n):=(bZ J).2.2.2.2.2.1
  clear hV u1 u2
  go_upto_region 11 with fail
  go_region_with (first | (go_at_call 268;refine HV.out.mono ?_;rintro e w5 ⟨rfl,C7,j,B0⟩;have g5:w5.cell? ⟨A.cb,5,none⟩=some (.slice (some ⟨A.sb,0,none⟩) n n):=(bZ C7).2.2.2.2.2.1;obtain⟨s0,s1,s2,s3⟩:=j.at_ i hi;have f0:=frozen_of_row _ _ (i*4) _ _ j.2;have f1:=frozen_of_row _ _ (i*4+1) _ _ j.2;have f2:=frozen_of_row _ _ (i*4+2) _ _ j.2;have f3:=frozen_of_row _ _ (i*4+3) _ _ j.2))
  all_goals
   replace B0:ag (fun k=>k=A.cb∨k=A.sb) w3 w5:=((ag.refl _ w3).drew).trans B0
   have D4:ag A.S w3 w5:=B0.mono fun k _ h=>by
    rcases h with h | h
    ·exact .inl h
    ·exact .inr (.inl h)
   have C8:jg ((((w5.setCell ⟨A.sb,i*4,none⟩ (.int .i64 p)).setCell ⟨A.sb,i*4+1,none⟩ (.bool true)).setCell ⟨A.sb,i*4+2,none⟩ (.bool true)).setCell ⟨A.sb,i*4+3,none⟩ (.slice ro R.b.length rc)) A.sb n (us.set i ⟨p,true,true,ro,R.b.length,rc⟩):=j.put i hi ⟨p,true,true,ro,R.b.length,rc⟩
   have B1:ag (fun k=>k=A.sb) w5 ((((w5.setCell ⟨A.sb,i*4,none⟩ (.int .i64 p)).setCell ⟨A.sb,i*4+1,none⟩ (.bool true)).setCell ⟨A.sb,i*4+2,none⟩ (.bool true)).setCell ⟨A.sb,i*4+3,none⟩ (.slice ro R.b.length rc)):=((((ag.refl (fun k=>k=A.sb) w5).setCell (p:=⟨A.sb,i*4,none⟩) (.inr rfl) _).setCell (p:=⟨A.sb,i*4+1,none⟩) (.inr rfl) _).setCell (p:=⟨A.sb,i*4+2,none⟩) (.inr rfl) _).setCell (p:=⟨A.sb,i*4+3,none⟩) (.inr rfl) _
   have C9:=B1.heap C7 d1
   have B7:ag A.S w5 _:=B1.mono fun k _ h=>.inr (.inl h)
   have E4:=MI C8
   have E5:=MI C9
   have E6:=MI B1
   have D5:=MI B7
   clear C8 C9 B1 B7 s0 s1 s2 s3 f0 f1 f2 f3
   generalize ((((w5.setCell ⟨A.sb,i*4,none⟩ (.int .i64 p)).setCell ⟨A.sb,i*4+1,none⟩ (.bool true)).setCell ⟨A.sb,i*4+2,none⟩ (.bool true)).setCell ⟨A.sb,i*4+3,none⟩ (.slice ro R.b.length rc))=W6 at*
   go_wp2_with fail
   go_ret2
   have A1:ag A.S w3 W6:=D4.trans D5.out
   have D0:=D9.kept A1 B6
   have E7:Dsk W6 A.b A.mb A.ib A.kap m3 R.d:=(B3.kept B0 (fun e=>e.elim d2 d4) (fun e=>e.elim d3 d5) (fun a ha e=>e.elim (d6 a ha).1 (d6 a ha).2)).kept E6.out d4 d5 (fun a ha=>(d6 a ha).2)
   have E8:=u3.kept A1
   refine⟨ro,rc,rfl,hrc,⟨?_,⟨_,E4.out,?_⟩,⟨m3,by show m3≤c.mx+9;omega,E7⟩,?_,u5,⟨d1,d2,d3,d4,d5,d6⟩,A4.mono (by have:=A0.size;have:=A1.size;omega)⟩,D0,B6,(ag.au (S:=A.S) A7 Me).trans (A0.trans A1)⟩
   ·have:=E5.out
    unfold xC at this
    rw[E3.out] at this
    exact this
   ·have D6:=E8.set i (s:=⟨p,true,true,ro,R.b.length,rc⟩) (q:=⟨p,true,true,R.b⟩) ⟨rfl,rfl,rfl,fun _=>⟨rfl,hrc,D0,D3⟩⟩
    show eQ A W6 _ (V.2.1.set V.1 _)
    rw[←E2.out]
    exact D6
   ·show(V.2.1.set V.1 _).length=n
    rw[List.length_set]
    exact u6
 ·rw[if_neg he]
  have G4:(R.e==0)=false:=by simpa using he
  go_upto_region 9 with fail
  obtain⟨c0,c1,c2,c3,c4,c5,c6,c7⟩:=bZ J
  have cf:=frozen_of_row _ _ 3 _ _ J
  have G5:IntKind.i64.wrap (c.l+1)=c.l+1:=IntWalk.i64_in _ aa
  obtain⟨E9,A3⟩:=zL (A:=A) J 3 (.int .i64 (c.l+1)) rfl
  have F1:=B5.kept A3 (fun e=>d1 e.symm)
  have F2:=B3.kept A3 d2 d3 (fun a ha=>(d6 a ha).1)
  have F3:=A9.kept (A3.mono fun k _ h=>.inl h)
  have D1:=(ag.au (S:=A.S) A7 Me).trans (A0.trans (A3.mono fun k _ h=>.inl h))
  clear B5 B3 A9 A0 A3
  go_wp2_with fail
  go_ret2
  exact⟨none,0,rfl,Me,⟨E9,⟨ms,F1,F3⟩,⟨m3,by show m3≤c.mx+9;omega,F2⟩,hlen,o,⟨d1,d2,d3,d4,d5,d6⟩,A4.mono D1.size⟩,Ints.nil _ _ _,fun a ha=>(by cases ha),D1⟩
end Go.Proofs.YtnicjahcgnhogaaGreatDoor.Cch
namespace Go.Proofs.YtnicjahcgnhogaaGreatDoor.Cch
open Go Go.RowKit Go.Calli Go.Dskp Go.Maps
def Dq(P:PS→Prop)(ss:List PS):Prop:=∀i,i<ss.length→P (ss.getD i q0)
theorem Dq.set{P:PS→Prop}{ss:List PS}(h:Dq P ss)(i:Nat){q:PS}(hq:P q):Dq P (ss.set i q):=by
 intro j hj
 rw[List.length_set] at hj
 by_cases e:j=i
 ·subst e
  rw[show(ss.set j q).getD j q0=q by simp[List.getD,hj]]
  exact hq
 ·rw[show(ss.set i q).getD j q0=ss.getD j q0 by simp[List.getD,List.getElem?_set,Ne.symm e]]
  exact h j hj
theorem Dq.vic{P:PS→Prop}(hd: ∀q,P q→P q.drop)(n:Nat): ∀(k:Nat)(ss:List PS)(h:Nat),Dq P ss→Dq P (pG n k ss h).2.1:=by
 intro k
 induction k with
 | zero=>intro ss h hs;exact hs
 | succ k ih=>
  intro ss h hs
  simp only[pG]
  split
  ·rename_i hu
   refine ih _ _ (hs.set h ?_)
   by_cases hl:h<ss.length
   ·exact hd _ (hs h hl)
   ·rw[show ss.getD h q0=q0 by simp[List.getD,Nat.not_lt.1 hl]] at hu
    cases hu
  ·exact hs
theorem J4(n:Nat): ∀(k:Nat)(ss:List PS)(h:Nat),(pG n k ss h).2.1.length=ss.length:=by
 intro k
 induction k with
 | zero=>intro ss h;rfl
 | succ k ih=>
  intro ss h
  simp only[pG]
  split
  ·rw[ih,List.length_set]
  ·rfl
def SOk(q:PS):Prop:=q.f=true→q.bs.length=64∧0≤q.p∧(Lit.int .i64 q.p).wf=true
def COk(c:Ca):Prop:=Dq SOk c.ss
theorem rdB_len(d:Dk)(p:Int)(h:rdE d p=0):(rdB d p).length=64∧0≤p:=by
 unfold rdE at h
 split at h
 ·cases h
 ·rename_i ho
  split at h
  ·cases h
  ·rename_i hf
   unfold rdB
   rw[if_neg ho,if_neg hf,List.length_set,qE]
   exact⟨rfl,by unfold Dk.out at ho;omega⟩
theorem Kv(p:Int): ∀(k:Nat)(d:Dk)(e:Int),e≠0→(gq p k d e).e=0→(gq p k d e).b.length=64∧0≤p:=by
 intro k
 induction k with
 | zero=>intro d e he h;exact absurd h he
 | succ k ih=>
  intro d e he
  simp only[gq]
  split
  ·rename_i h;intro _;exact rdB_len d p h
  ·rename_i h;intro h2;exact ih _ _ h h2
theorem vH{c:Ca}(h:COk c)(p:Int)(J:(Lit.int .i64 p).wf=true):COk (ed c p).c∧((ed c p).e=0→(ed c p).b.length=64)∧((ed c p).e≠0→(ed c p).b=[])∧(ed c p).c.ss.length=c.ss.length∧(ed c p).c.d.img=c.d.img∧(ed c p).c.bC=c.bC:=by
 have ht:=Kv p (c.bC.toNat+1) c.d 8 aq
 have hi: ∀(k:Nat)(d:Dk)(e:Int),(gq p k d e).d.img=d.img:=by
  intro k
  induction k with
  | zero=>intro d e;rfl
  | succ k ih=>
   intro d e
   simp only[gq]
   split
   ·exact(F8 d p).2
   ·exact(ih _ _).trans (F8 d p).2
 have hi:=hi (c.bC.toNat+1) c.d 8
 unfold ed
 split
 ·rename_i h0
  rcases wG c.ss p c.ss.length 0 with e | ⟨e1,e2,e3,e4⟩
  ·omega
  ·have:=h (iV c.ss p c.ss.length 0).toNat aa
   exact⟨h.set _ this,fun _=>(this e3).1,fun I=>absurd rfl I,by simp[NH],rfl,rfl⟩
 ·split
  ·rename_i he
   refine⟨(Dq.vic (fun q hq=>hq) _ _ _ _ h).set _ (fun _=>⟨(ht he).1,(ht he).2,J⟩),fun _=>(ht he).1,fun I=>absurd rfl I,?_,hi,rfl⟩
   show(((pG _ _ _ _).2.1).set _ _).length=_
   rw[List.length_set,J4]
  ·exact⟨h,fun he=>absurd he aw,fun _=>rfl,rfl,hi,rfl⟩
def fO:Nat→Ca→Nat→Nat→List Int→PR
 | 0,c,_,_,out=>⟨0,out,c⟩
 | k+1,c,at_,n,out=>if n=0 then⟨0,out,c⟩ else if(ed c ((at_/64:Nat):Int)).e≠0 then⟨(ed c ((at_/64:Nat):Int)).e,[],(ed c ((at_/64:Nat):Int)).c⟩ else fO k (ed c ((at_/64:Nat):Int)).c (at_+min (64 - at_%64) n) (n - min (64 - at_%64) n) (out++(((ed c ((at_/64:Nat):Int)).b.drop (at_%64)).take n))
def evB(c:Ca)(p:Int):Bool:=decide (0≤iV c.ss p c.ss.length 0)
def evC(c:Ca)(p:Int):Ca:=if 0≤iV c.ss p c.ss.length 0 then{c with ss:=c.ss.set (iV c.ss p c.ss.length 0).toNat q0} else c
theorem SOk.q0:SOk q0:=fun h=>by cases h
theorem evC_ok{c:Ca}(h:COk c)(p:Int):COk (evC c p)∧(evC c p).ss.length=c.ss.length:=by
 unfold evC
 split
 ·exact⟨h.set _ SOk.q0,ar⟩
 ·exact⟨h,rfl⟩
theorem lN.mono{k j:Nat}{c:Ca}(h:lN k c)(hj:k≤j):lN j c:=by
 have h1:=h.h1;have h2:=h.m1;have h3:=h.t1;have h4:=h.l1;have h5:=h.r;have h6:=h.mx
 exact⟨h.h0,aa,h.m0,aa,h.t0,aa,h.l0,aa,h.ok,aa,aa,h.r0,h.r1⟩
theorem lN.ss{k:Nat}{c:Ca}(h:lN k c)(ss:List PS):lN k {c with ss:=ss}:=⟨h.h0,h.h1,h.m0,h.m1,h.t0,h.t1,h.l0,h.l1,h.ok,h.r,h.mx,h.r0,h.r1⟩
theorem lN.ev{k:Nat}{c:Ca}(h:lN k c)(p:Int):lN k (evC c p):=by
 unfold evC
 split
 ·exact h.ss _
 ·exact h
theorem KT: ∀(k:Nat)(c:Ca)(at_ n:Nat)(out:List Int)(K:Nat),(at_+n:Int)≤9223372036854775807→COk c→lN K c→COk (fO k c at_ n out).c∧lN (K+k) (fO k c at_ n out).c∧(fO k c at_ n out).c.ss.length=c.ss.length∧(fO k c at_ n out).c.d.img=c.d.img∧(fO k c at_ n out).c.bC=c.bC:=by
 intro k
 induction k with
 | zero=>intro c at_ n out K hb h hL;exact⟨h,hL,rfl,rfl,rfl⟩
 | succ k ih=>
  intro c at_ n out K hb h hL
  have hp:=vH h ((at_/64:Nat):Int) (WalkArith.wf_i64 aa)
  have hl:=hL.page ((at_/64:Nat):Int)
  simp only[fO]
  split
  ·exact⟨h,hL.mono aa,rfl,rfl,rfl⟩
  ·split
   ·exact⟨hp.1,hl.mono aa,hp.2.2.2⟩
   ·have:=ih (ed c ((at_/64:Nat):Int)).c (at_+min (64 - at_%64) n) (n - min (64 - at_%64) n) (out++(((ed c ((at_/64:Nat):Int)).b.drop (at_%64)).take n)) (K+1) aa hp.1 hl
    exact⟨this.1,this.2.1.mono aa,this.2.2.1.trans hp.2.2.2.1,this.2.2.2.1.trans hp.2.2.2.2.1,this.2.2.2.2.trans hp.2.2.2.2.2⟩
end Go.Proofs.YtnicjahcgnhogaaGreatDoor.Cch
namespace Go.Proofs.YtnicjahcgnhogaaGreatDoor.Cch
open Go Go.RowKit Go.Calli Go.Dskp Go.Maps
attribute [local irreducible] wpStill wpAnyH wpAnyS wpList Code.wp
theorem MJ(A:Ad)(n:Nat)(I:n≤1024)(c:Ca)(k:Nat)(hk:k≤50000000)(hL:lN k c)(p:Int)(J:(Lit.int .i64 p).wf=true)(w:World)(h:iH A w n c):Calls Tryz.prog 264 #[.pointer (some ⟨A.cb,0,none⟩),.int .i64 p] w (Ff A n (ed c p) w):=by
 have hl:=h.len
 rcases wG c.ss p c.ss.length 0 with e | ⟨e1,e2,e3,e4⟩
 ·have hm:=IW A n I c k hk hL p J (by rw[←hl];exact e) _ rfl w h
  unfold ed
  rw[if_neg aa,hl]
  exact hm
 ·have hm:=LX A n I c k hk hL p (iV c.ss p c.ss.length 0).toNat aa e3 (by rw[←hl];omega) w h
  unfold ed
  rw[if_pos aa]
  exact hm
theorem pq(A:Ad)(n:Nat)(c:Ca)(w:World)(h:iH A w n c):Calls Tryz.prog 73 #[.pointer (some ⟨A.cb,0,none⟩)] w (Same (.bool false) w):=by
 obtain⟨c0,c1,c2,c3,c4,c5,c6,c7⟩:=bZ h.row
 go_enter Tryz.func73,Tryz.ntmps73
 go_wp2_with fail
 all_goals go_ret
 all_goals exact⟨rfl,rfl⟩
theorem qQ{α:Type}(n i:Nat)(x:α):(List.replicate n x).getD i x=x:=by
 rw[List.getD_eq_getElem?_getD,List.getElem?_replicate]
 split<;>rfl
theorem DT(n:Nat):qA n=(iK (List.replicate n Slot.none)).toArray:=by
 apply Array.toList_inj.1
 apply List.ext_getElem?
 intro k
 by_cases hk:k<n*4
 ·have e:=yJ (List.replicate n Slot.none) (k/4) (k%4) (by simp;omega) (Nat.mod_lt _ aq)
  rw[show k/4*4+k%4=k by omega,qQ] at e
  rw[e]
  have h4:k%4<4:=Nat.mod_lt _ aq
  have e2:(qA n).toList[k]? =some ((#[Value.int .i64 0,.bool false,.bool false,.slice none 0 0]:Array Value)[k%4]!):=by
   simp[qA,madeCells,Value.cells,hk]
  rw[e2]
  generalize k%4=j at*
  match j,h4 with
  | 0,_=>rfl
  | 1,_=>rfl
  | 2,_=>rfl
  | 3,_=>rfl
 ·rw[List.getElem?_eq_none (by simp[qA,madeCells];omega),List.getElem?_eq_none (by simp[Jn];omega)]
def Fp(A:Ad)(n:Nat)(v:Value)(c:Ca)(w:World)(e:Ending)(w':World):Prop:=e= .returned v∧iH A w' n c∧ag A.S w w'
theorem iH.Ii{A:Ad}{w w':World}{n:Nat}{c:Ca}(h:iH A w n c){ms:List Slot}{qs:List PS}(hS:jg w' A.sb n ms)(hM:eQ A w ms qs)(hk:ag (fun k=>k=A.sb) w w'):iH A w' n {c with ss:=qs}:=by
 obtain⟨m,hm,hD⟩:=h.dsk
 obtain⟨d1,d2,d3,d4,d5,d6⟩:=h.uh
 exact⟨hk.heap h.row d1,⟨ms,hS,hM.kept (hk.mono fun k _ h=>.inr (.inl h))⟩,⟨m,hm,hD.kept hk d4 d5 (fun a ha=>(d6 a ha).2)⟩,by rw[←hS.1,hM.len],h.hand,h.uh,h.away.mono hk.size⟩
theorem Js(A:Ad)(n:Nat)(A1:n≤1024)(c:Ca)(p:Int)(w:World)(h:iH A w n c):Calls Tryz.prog 101 #[.pointer (some ⟨A.cb,0,none⟩),.int .i64 p] w (Fp A n (.bool (evB c p)) (evC c p) w):=by
 have hN:=pq A n c w h
 obtain⟨ms,hS,hM⟩:=h.slots
 have hF:=wF A.cb A.sb n ms p _ _ _ _ _ _ _ A1 w h.row hS
 unfold rF at hF
 rw[wE hM p n 0 (by rw[h.len];omega)] at hF
 have HH:=MI h
 have hl:=h.len
 have hb:=wG c.ss p n 0
 have eB:evB c p=decide (0≤iV c.ss p n 0):=by unfold evB;rw[hl]
 have eC:evC c p=if 0≤iV c.ss p n 0 then{c with ss:=c.ss.set (iV c.ss p n 0).toNat q0} else c:=by unfold evC;rw[hl]
 rw[eB,eC]
 clear eB eC h hS hM
 obtain⟨i,hi⟩: ∃i:Int,iV c.ss p n 0=i:=⟨_,rfl⟩
 rw[hi] at hF hb⊢
 clear hi
 by_cases h0:0≤i
 ·rw[if_pos h0,decide_eq_true h0]
  obtain⟨j,rfl⟩: ∃j:Nat,i=j:=⟨i.toNat,aa⟩
  have hj:j<n:=aa
  rw[Int.toNat_natCast]
  clear hb h0
  go_enter Tryz.func101,Tryz.ntmps101
  go_upto_region 4 with(first | (go_at_call 73;refine hN.mono ?_;rintro e w' ⟨rfl,rfl⟩) | (go_at_call 134;refine hF.mono ?_;rintro e w1 ⟨rfl,J⟩))
  have h1:=HH.out.aj J
  obtain⟨ms,I,U⟩:=h1.slots
  obtain⟨c0,c1,c2,c3,c4,c5,c6,c7⟩:=bZ h1.row
  obtain⟨s0,s1,s2,s3⟩:=I.at_ j hj
  have f0:=frozen_of_row _ _ (j*4) _ _ I.2
  have f1:=frozen_of_row _ _ (j*4+1) _ _ I.2
  have f2:=frozen_of_row _ _ (j*4+2) _ _ I.2
  have f3:=frozen_of_row _ _ (j*4+3) _ _ I.2
  have o:jg ((((w1.setCell ⟨A.sb,j*4,none⟩ (.int .i64 0)).setCell ⟨A.sb,j*4+1,none⟩ (.bool false)).setCell ⟨A.sb,j*4+2,none⟩ (.bool false)).setCell ⟨A.sb,j*4+3,none⟩ (.slice none 0 0)) A.sb n (ms.set j Slot.none):=I.put j hj Slot.none
  have R:ag (fun k=>k=A.sb) w1 ((((w1.setCell ⟨A.sb,j*4,none⟩ (.int .i64 0)).setCell ⟨A.sb,j*4+1,none⟩ (.bool false)).setCell ⟨A.sb,j*4+2,none⟩ (.bool false)).setCell ⟨A.sb,j*4+3,none⟩ (.slice none 0 0)):=((((ag.refl (fun k=>k=A.sb) w1).setCell (p:=⟨A.sb,j*4,none⟩) (.inr rfl) _).setCell (p:=⟨A.sb,j*4+1,none⟩) (.inr rfl) _).setCell (p:=⟨A.sb,j*4+2,none⟩) (.inr rfl) _).setCell (p:=⟨A.sb,j*4+3,none⟩) (.inr rfl) _
  have A0:Hid (iH A _ n {c with ss:=c.ss.set j q0}):=h1.Ii o (U.set j (s:=Slot.none) (q:=q0) ⟨rfl,rfl,rfl,fun hf=>by cases hf⟩) R
  have A2:=MI ((ag.au (S:=A.S) J Me).trans (R.mono fun k _ h=>.inr (.inl h)))
  clear o R I U h1
  go_wp2_with fail
  go_ret
  exact⟨rfl,A0.out,A2.out⟩
 ·have hi:i= -1:=aa
  subst hi
  rw[if_neg aa,decide_eq_false aa]
  go_enter Tryz.func101,Tryz.ntmps101
  go_wp2_with (first | (go_at_call 73;refine hN.mono ?_;rintro e w' ⟨rfl,rfl⟩) | (go_at_call 134;refine hF.mono ?_;rintro e w1 ⟨rfl,J⟩))
  go_ret
  exact⟨rfl,HH.out.aj J,ag.au J Me⟩
end Go.Proofs.YtnicjahcgnhogaaGreatDoor.Cch
