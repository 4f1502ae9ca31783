/- Part 38 of the walk: contracts of the program's functions, each for every input. No condition. -/
import Derived.Test.YtnicjahcgnhogaaGreatDoorU36
set_option linter.unusedVariables false
set_option linter.unusedSimpArgs false
set_option maxRecDepth 100000
set_option maxHeartbeats 8000000
namespace Go.Proofs.YtnicjahcgnhogaaGreatDoor
open Go Go.RowKit Go.Calli
def Fj(L:List Kb)(x:Nat):Prop:=∃j,j<L.length∧(L.getD j kb0).n=x
def HdN(L:List Kb)(x:Nat):Prop:=0<L.length∧(L.getD 0 kb0).n=x
theorem HdN.has{L:List Kb}{x:Nat}(h:HdN L x):Fj L x:=⟨0,h.1,h.2⟩
theorem zT(b:Kb)(L:List Kb):HdN (b::L) b.n:=⟨ar,rfl⟩
theorem BZ{b:Kb}{L:List Kb}{x:Nat}(h:HdN L x):Fj (b::L) x:=⟨1,by simp;exact h.1,h.2⟩
theorem OG{B:Bk}{f f':Fe}{m:Mt}{ch n:Nat}{u u':Ku}(h:lI B f f' m ch n u u'):HdN u'.kept n∧(∀x,HdN u.kept x→Fj u'.kept x)∧f'.fr≤f.fr+1∧(Fj u.kept n→f'.fr≤f.fr):=by
 rcases h with⟨i,h1,h2,h3,rfl,rfl⟩ | ⟨h1,u1,b,R,hT,-,rfl,hc,hf⟩
 ·refine⟨by rw[←h2];exact zT _ _,fun x hx=>?_,aa,fun _=>Int.le_refl _⟩
  by_cases h0:i=0
  ·subst h0
   refine(?_ :HdN _ x).has
   rw[←hx.2]
   exact zT _ _
  ·refine BZ ⟨by simp;omega,?_⟩
   rw[←hx.2]
   show((u.kept.take i++u.kept.drop (i+1)).getD 0 kb0).n=_
   rw[List.getD,List.getElem?_append_left (by simp;omega),List.getElem?_take,if_pos aa,List.getD]
 ·obtain⟨err,z,ts,-,-,-,-,-,-,I,-,-⟩:=hT
  refine⟨by rw[←I];exact zT _ _,fun x hx=>?_,aa,fun hn=>?_⟩
  ·have h5:=hx.1
   refine BZ ⟨by simp;omega,?_⟩
   rw[←hx.2]
   show((u.kept.take 3).getD 0 kb0).n=_
   rw[List.getD,List.getElem?_take,if_pos aa,List.getD]
  ·obtain⟨j,hj,e⟩:=hn
   exact absurd e (h1 j hj)
theorem at_fr{B:Bk}{f f':Fe}{m:Mt}{ch p:Nat}{u u':Ku}{r:Int}(h:AtR B f f' m ch p u u' r):HdN u'.kept (dC p (aO m.len)).2∧Fj u'.kept (dC p (aO m.len)).1∧((dC p (aO m.len)).1=(dC p (aO m.len)).2→f'.fr≤f.fr+1)∧(Fj u.kept (dC p (aO m.len)).1→f'.fr≤f.fr+1∧((dC p (aO m.len)).2=(dC p (aO m.len)).1∨HdN u.kept (dC p (aO m.len)).2→f'.fr≤f.fr)):=by
 obtain⟨u1,f1,h1,h2,-⟩:=h
 generalize (dC p (aO m.len)).1=a at*
 generalize (dC p (aO m.len)).2=b at*
 obtain⟨a1,a2,a3,a4⟩:=OG h1
 obtain⟨b1,b2,b3,b4⟩:=OG h2
 refine⟨b1,b2 a a1,fun e=>?_,fun hn=>⟨?_,fun h=>?_⟩⟩
 ·have:=b4 (by rw[←e];exact a1.has)
  omega
 ·have:=a4 hn
  omega
 ·have h5:=a4 hn
  rcases h with h | h
  ·have:=b4 (by rw[h];exact a1.has)
   omega
  ·have:=b4 (a2 b h)
   omega
def CurAt(m:Mt)(q:Nat)(K:List Kb):Prop:=HdN K (dC q (aO m.len)).2∧Fj K (dC q (aO m.len)).1
theorem IU(p k:Nat)(h:p+1<16*k):dC (p+1) k=dC p k∨((dC (p+1) k).1=(dC p k).2∧((dC (p+1) k).2=(dC p k).2∨(dC (p+1) k).2=(dC p k).2+1)):=by
 unfold dC
 by_cases h1:p%16<8
 ·by_cases h2:(p+1)%16<8
  ·left
   rw[if_pos h1,if_pos h2,show(p+1)/16=p/16 by omega]
  ·right
   rw[if_pos h1,if_neg h2]
   simp only
   omega
 ·by_cases h2:(p+1)%16<8
  ·left
   rw[if_neg h1,if_pos h2,show(p+1)/16=p/16+1 by omega,Nat.min_eq_left aa]
   rfl
  ·left
   rw[if_neg h1,if_neg h2,show(p+1)/16=p/16 by omega]
theorem need_le(p k:Nat):(dC p k).2≤p/16+1:=by
 unfold dC
 split
 ·simp
 ·exact Nat.min_le_left _ _
def oK(m:Mt):Nat→Nat
 | 0=>0
 | q+1=>(dC q (aO m.len)).2+1
theorem CV(m:Mt)(q:Nat):oK m q≤q/16+3:=by
 cases q with
 | zero=>show 0≤_;omega
 | succ q=>have:=need_le q (aO m.len);show _+1≤_;omega
def Fq(m:Mt):Nat→List Kb→Prop
 | 0,_=>True
 | q+1,K=>CurAt m q K
theorem at_step{B:Bk}{f f':Fe}{m:Mt}{ch q:Nat}{u u':Ku}{r:Int}(hq:q<m.len)(h:AtR B f f' m ch q u u' r)(hu:Fq m q u.kept):Fq m (q+1) u'.kept∧f'.fr≤f.fr+(oK m (q+1):Int) - (oK m q:Int):=by
 obtain⟨h1,h2,h3,h4⟩:=at_fr h
 refine⟨⟨h1,h2⟩,?_⟩
 cases q with
 | zero=>
  have e:dC 0 (aO m.len)=(0,0):=by unfold dC;rfl
  have:=h3 (by rw[e])
  show f'.fr≤f.fr+(((dC 0 (aO m.len)).2+1:Nat):Int) - ((0:Nat):Int)
  rw[e]
  omega
 | succ p=>
  obtain⟨c1,c2⟩:=hu
  show f'.fr≤f.fr+(((dC (p+1) (aO m.len)).2+1:Nat):Int) - (((dC p (aO m.len)).2+1:Nat):Int)
  rcases IU p (aO m.len) (by unfold aO;omega) with e | ⟨e1,e2 | e2⟩
  ·rw[e] at h4⊢
   have:=(h4 c2).2 (.inr c1)
   omega
  ·have:=(h4 (by rw[e1];exact c1.has)).2 (.inl (by rw[e1,e2]))
   omega
  ·have:=(h4 (by rw[e1];exact c1.has)).1
   omega
theorem uH{B:Bk}{f f':Fe}{m:Mt}{ch q:Nat}{u u':Ku}{r:Int}(hl:m.loop=false)(hq:q<m.len)(h:JO B f f' m ch ((q:Int)*4294967296) u u' r)(hu:Fq m q u.kept):Fq m (q+1) u'.kept∧f'.fr≤f.fr+(oK m (q+1):Int) - (oK m q:Int):=by
 obtain⟨l,t,x,h1,-,-,-,-,h2⟩:=h
 have e1:jQ ((q:Int)*4294967296)=0:=by unfold jQ;omega
 have e2:(q:Int)*4294967296/4294967296=(q:Int):=aa
 have e3:gV m (q:Int)=(q:Int):=by
  unfold gV
  rw[if_neg aa,if_pos hl,if_neg aa]
 obtain⟨y,rfl,-⟩:=(h2 e1).1 (by rw[e2,e3];omega)
 rw[e2,e3] at h1
 obtain⟨f1,u1,hA,rfl,rfl⟩:=h1
 exact at_step hq hA hu
structure Liv(m:Mt)(q:Nat)(p:Pt):Prop where
 hm:p.v.m=m
 ha:p.v.at_=(q:Int)*4294967296
 hp:p.v.dP=4294967296
 hd:p.v.done=false
 hq:q<m.len
 hu:p.us.length=m.ch
 hc: ∀j,j<m.ch→Fq m q (p.us.getD j u0).kept
theorem JC(us:List Ku)(k j:Nat):((kJ us k).getD j u0).kept=(us.getD j u0).kept:=by
 unfold kJ
 by_cases h:j<us.length
 ·by_cases hk:j<k
  ·rw[List.getD,List.getElem?_append_left (by simp;omega),List.getElem?_map,List.getElem?_take,if_pos hk,List.getD,List.getElem?_eq_getElem h]
   rfl
  ·rw[List.getD,List.getElem?_append_right (by simp;omega),List.getElem?_drop,List.getD]
   simp only[List.length_map,List.length_take]
   rw[show k+(j - min k us.length)=j by omega]
 ·rw[List.getD,List.getElem?_eq_none (by simp;omega),List.getD,List.getElem?_eq_none aa]
theorem CW(us:List Ku)(k:Nat):(kJ us k).length=us.length:=by
 unfold kJ
 simp
 omega
theorem IP{B:Bk}{f f':Fe}{id:Nat}{P:Px}{p p':Pt}{a b:Int}{lo:List Ls}{m:Mt}{q:Nat}(hl:m.loop=false)(R:m.ch=1∨m.ch=2)(h:yX B f f' id P p p' a b lo)(hp:Liv m q p):f'.fr≤f.fr+m.ch*((oK m (q+1):Int) - (oK m q:Int))∧(p'.over=false→Liv m (q+1) p'):=by
 obtain⟨l,r,v',us',hN,-,-,-,rfl⟩:=h
 have hv:v'=je p.v∧us'.length=m.ch∧(∀j,j<m.ch→Fq m (q+1) (us'.getD j u0).kept)∧f'.fr≤f.fr+m.ch*((oK m (q+1):Int) - (oK m q:Int)):=by
  rcases hN with⟨h1,-⟩ | ⟨-,hv,f1,x,hA,hB⟩
  ·rw[hp.hd] at h1;cases h1
  ·rw[hp.hm,hp.ha] at hA hB
   have hlen:=hp.hu
   rcases hB with⟨h1,-,rfl,rfl⟩ | ⟨h2,y,I,rfl⟩
   ·have hc:=hp.hc 0 aa
    obtain⟨s1,s2⟩:=uH hl hp.hq hA hc
    refine⟨hv,by rw[List.length_set];exact hlen,fun j hj=>?_,by rw[h1];omega⟩
    obtain rfl:j=0:=aa
    rw[jJ,if_pos ⟨rfl,aa⟩]
    exact s1
   ·obtain⟨s1,s2⟩:=uH hl hp.hq hA (hp.hc 0 aa)
    obtain⟨t1,t2⟩:=uH hl hp.hq I (hp.hc 1 aa)
    refine⟨hv,by rw[List.length_set,List.length_set];exact hlen,fun j hj=>?_,by rw[h2];omega⟩
    have J:j=0∨j=1:=aa
    rcases J with rfl | rfl
    ·rw[jJ,if_neg aa,jJ,if_pos ⟨rfl,aa⟩]
     exact s1
    ·rw[jJ,if_pos ⟨rfl,by rw[List.length_set];omega⟩]
     exact t1
 obtain⟨rfl,h1,h2,h3⟩:=hv
 refine⟨h3,fun ho=>?_⟩
 have ho:((je p.v).done||decide ((Envp.nx p.sh p.sl).1=4))=false:=ho
 have hd:(je p.v).done=false:=by
  rw[Bool.or_eq_false_iff] at ho
  exact ho.1
 have hs:je p.v={p.v with at_:=p.v.at_+p.v.dP,done:=decide ((p.v.m.len:Int)≤(p.v.at_+p.v.dP)/4294967296)}:=by
  unfold je
  rw[if_pos (by rw[hp.hm];exact hl)]
 have ha:p.v.at_+p.v.dP=((q+1:Nat):Int)*4294967296:=by rw[hp.ha,hp.hp];omega
 refine⟨by show(je p.v).m=m;rw[FI];exact hp.hm,by show(je p.v).at_=_;rw[hs];exact ha,by show(je p.v).dP=_;rw[hs];exact hp.hp,hd,?_,by show(kJ us' _).length=_;rw[CW];exact h1,fun j hj=>by show Fq m (q+1) ((kJ us' _).getD j u0).kept;rw[JC];exact h2 j hj⟩
 rw[hs] at hd
 have hd:=of_decide_eq_false hd
 rw[ha,hp.hm] at hd
 omega
theorem Bv{B:Bk}{f:Fe}{y:Ye}{r:Rp}{i0:Nat}(h0: ∀j,j≠i0→y.ps.getD j none=none): ∀(n:Nat)(f':Fe)(y':Ye)(r':Rp)(L M:List Int),yY B f y r n f' y' r' L M→(f'=f∧y'=y∧(n≤i0∨y.ps.getD i0 none=none))∨(i0<n∧∃P p p' a b lo,y.ps.getD i0 none=some (P,p)∧yX B f f' i0 P p p' a b lo∧y'={y with ps:=y.ps.set i0 (vz P p')}):=by
 intro n
 induction n with
 | zero=>intro f' y' r' L M h;obtain⟨rfl,rfl,-⟩:=h;exact .inl ⟨rfl,rfl,.inl (Nat.zero_le _)⟩
 | succ n ih=>
  intro f' y' r' L' M' h
  obtain⟨f1,y1,r1,L,M,h1,h2⟩:=h
  rcases ih f1 y1 r1 L M h1 with⟨rfl,rfl,h3⟩ | ⟨h3,P,p,p',a,b,lo,e1,e2,rfl⟩
  ·by_cases hn:n=i0
   ·subst hn
    rcases h2 with⟨e,rfl,rfl,-⟩ | ⟨P,p,p',a,b,lo,e1,e2,rfl,-⟩
    ·exact .inl ⟨rfl,rfl,.inr e⟩
    ·exact .inr ⟨aa,P,p,p',a,b,lo,e1,e2,rfl⟩
   ·rcases h2 with⟨e,rfl,rfl,-⟩ | ⟨P,p,p',a,b,lo,e1,-⟩
    ·exact .inl ⟨rfl,rfl,h3.elim (fun h=>.inl aa) .inr⟩
    ·rw[h0 n hn] at e1;cases e1
  ·rcases h2 with⟨e,rfl,rfl,-⟩ | ⟨P2,p2,p2',a2,b2,lo2,e3,-⟩
   ·exact .inr ⟨aa,P,p,p',a,b,lo,e1,e2,rfl⟩
   ·have e3:(y.ps.set i0 (vz P p')).getD n none=some (P2,p2):=e3
    rw[jT,if_neg aa,h0 n aa] at e3
    cases e3
def Sgl(m:Mt)(i0:Nat)(f0 f:Fe)(y:Ye)(q:Nat):Prop:=(∀j,j≠i0→y.ps.getD j none=none)∧((y.ps.getD i0 none=none∧f.fr≤f0.fr+m.ch*((q/16+3:Nat):Int))∨(∃P p,y.ps.getD i0 none=some (P,p)∧Liv m q p∧f.fr≤f0.fr+m.ch*(oK m q:Int)))
theorem KY{B:Bk}{n:Nat}{f f' f0:Fe}{y y':Ye}{r r':Rp}{l k:Int}{m:Mt}{i0 q:Nat}(hl:m.loop=false)(I:m.ch=1∨m.ch=2)(hi:i0<n)(h:OneR B n f f' y y' r r' l k)(hs:Sgl m i0 f0 f y q):Sgl m i0 f0 f' y' (q+1):=by
 obtain⟨L,M,h1,-⟩:=h
 obtain⟨J,R⟩:=hs
 rcases Bv J n f' y' r' L M h1 with⟨rfl,rfl,h2⟩ | ⟨-,P,p,p',a,b,lo,e1,e2,rfl⟩
 ·rcases R with⟨e,h3⟩ | ⟨P,p,e,-⟩
  ·refine⟨J,.inl ⟨e,?_⟩⟩
   rcases I with h | h<;>rw[h] at h3⊢ <;>omega
  ·rcases h2 with h2 | h2
   ·omega
   ·rw[h2] at e;cases e
 ·rcases R with⟨e,-⟩ | ⟨P3,p3,e,hL,h3⟩
  ·rw[e1] at e;cases e
  ·rw[e1] at e
   cases e
   obtain⟨g1,g2⟩:=IP hl I e2 hL
   have hc:=CV m (q+1)
   have hf:f'.fr≤f0.fr+m.ch*(oK m (q+1):Int):=by
    rcases I with h | h<;>rw[h] at g1 h3⊢ <;>omega
   have hlen:i0<y.ps.length:=by
    apply Classical.byContradiction
    intro hn
    rw[List.getD,List.getElem?_eq_none aa] at e1
    cases e1
   refine⟨fun j hj=>?_,?_⟩
   ·show(y.ps.set i0 (vz P p')).getD j none=none
    rw[jT,if_neg aa]
    exact J j hj
   ·by_cases ho:p'.over=true
    ·refine .inl ⟨?_,?_⟩
     ·show(y.ps.set i0 (vz P p')).getD i0 none=none
      rw[jT,if_pos ⟨rfl,hlen⟩]
      unfold vz
      rw[if_pos ho]
     ·rcases I with h | h<;>rw[h] at hf⊢ <;>omega
    ·refine .inr ⟨P,p',?_,g2 (by simpa using ho),hf⟩
     show(y.ps.set i0 (vz P p')).getD i0 none=some (P,p')
     rw[jT,if_pos ⟨rfl,hlen⟩]
     unfold vz
     rw[if_neg ho]
theorem sgl_ren{B:Bk}{n:Nat}{f:Fe}{y:Ye}{m:Mt}{i0:Nat}(hl:m.loop=false)(I:m.ch=1∨m.ch=2)(hi:i0<n)(hs:Sgl m i0 f f y 0): ∀(k:Nat)(f':Fe)(y':Ye)(r':Rp)(O:List (Int×Int)),uq B n f y k f' y' r' O→Sgl m i0 f f' y' k:=by
 intro k
 induction k with
 | zero=>intro f' y' r' O h;obtain⟨rfl,rfl,-⟩:=h;exact hs
 | succ k ih=>
  intro f' y' r' O' h
  obtain⟨f1,y1,r1,O,l,q,h1,h2,-⟩:=h
  exact KY hl I hi h2 (ih f1 y1 r1 O h1)
theorem sgl_fr{m:Mt}{i0:Nat}{f0 f:Fe}{y:Ye}{q:Nat}(I:m.ch=1∨m.ch=2)(h:Sgl m i0 f0 f y q):f.fr≤f0.fr+m.ch*((q/16+3:Nat):Int):=by
 rcases h.2 with⟨-,h1⟩ | ⟨P,p,-,-,h1⟩
 ·exact h1
 ·have hc:=CV m q
  rcases I with h | h<;>rw[h] at h1⊢ <;>omega
theorem Ik{m:Mt}(hlen:1≤m.len)(n i0:Nat)(hi:i0<n)(f:Fe)(c c2:Int)(P:Px)(sh:Envp.Sh):Sgl m i0 f f ⟨(List.replicate n none).set i0 (some (P,mQ m sh c)),c2⟩ 0:=by
 refine⟨fun j hj=>?_,.inr ⟨P,mQ m sh c,?_,⟨rfl,rfl,rfl,rfl,hlen,by show(List.replicate m.ch u0).length=_;simp,fun j hj=>trivial⟩,by show f.fr≤f.fr+m.ch*((0:Nat):Int);omega⟩⟩
 ·show((List.replicate n (none:Po)).set i0 _).getD j none=none
  rw[jT,if_neg aa,List.getD,List.getElem?_replicate]
  split<;>rfl
 ·show((List.replicate n (none:Po)).set i0 _).getD i0 none=_
  rw[jT,if_pos ⟨rfl,by simpa using hi⟩]
end Go.Proofs.YtnicjahcgnhogaaGreatDoor
namespace Go.Proofs.YtnicjahcgnhogaaGreatDoor
open Go Go.RowKit Go.Calli
attribute [local irreducible] wpStill wpAnyH wpAnyS wpList Code.wp
theorem TL.lowFO{X:Fx}{Y:Yx}{B:Bk}{σ:Own}{w wr w1:World}{rb:Nat}{s:Rs}{j K:Nat}(h:TL X Y B σ w wr rb s j K){S:Nat→Prop}(hk:ag S wr w1)(hS: ∀k,S k→σ k≠1):Below w.heap.size w w1:=
 ((ag.au (S:=fun _=>False) h.low Me).andThen hk (fun i hi e=>absurd (h.old i hi) (hS i e))).aW Me (fun _ _ e=>e)
def QuiP(X:Fx)(Y:Yx)(B:Bk)(σ:Own)(w:World)(rb:Nat)(s:Rs)(j K:Nat)(e:Ending)(w':World):Prop:=e= .returned (.tuple #[])∧TL X Y B σ w w' rb {s with y:=jP Y s.y} j K
theorem KC{X:Fx}{Y:Yx}{B:Bk}{σ:Own}{w wr:World}{rb:Nat}{s:Rs}{j K:Nat}(h:TL X Y B σ w wr rb s j K):Calls Tryz.prog 9 #[.pointer (some ⟨Y.yb,0,none⟩)] wr (QuiP X Y B σ w rb s j K):=
 (IE X Y B K σ s.f s.y wr h.fe h.ys).mono (fun e w' h2=>by
  obtain⟨h1,hF,hY,hk⟩:=h2
  exact⟨h1,hF,h.fb,hY,mP (h.rk.keep hk (fun k e _ h3=>by unfold FO at e;omega)),h.ct,h.old,h.lowFO hk (fun k e h3=>by unfold FO at e;omega)⟩)
def yOne(B:Bk)(Y:Yx)(nm:ByteArray)(y:Ye)(P:Px):Ye:=⟨(jP Y y).ps.set (gy Y (jP Y y)) (some (P,mQ (B.dir.getD (eH B.dir nm) m0) sh0 (y.count+1))),y.count+1⟩
def StaP(X:Fx)(Y:Yx)(B:Bk)(σ:Own)(w wr:World)(rb:Nat)(s:Rs)(nm:ByteArray)(j K:Nat)(e:Ending)(w':World):Prop:=∃(P:Px)(σ':Own),e= .returned (.tuple #[.int .i64 (gy Y (jP Y s.y):Int),()])∧aN X σ' w' B K s.f∧YIs X Y B K σ' w' (yOne B Y nm s.y P)∧(∀k,k<w.heap.size→σ' k=1)∧Below w.heap.size w w'∧w'.cell? ⟨rb,0,none⟩=some (.pointer (some ⟨Y.yb,0,none⟩))∧Ext σ σ' wr.heap.size∧ag (FO σ) wr w'
theorem KA{X:Fx}{Y:Yx}{B:Bk}{σ:Own}{w wr:World}{rb:Nat}{s:Rs}{j K:Nat}{nm:ByteArray}(hf:fG B.dir nm=true)(hj:j≤100)(h:TL X Y B σ w wr rb {s with y:=jP Y s.y} j K):Calls Tryz.prog 13 #[.pointer (some ⟨Y.yb,0,none⟩),.string nm,.agg #[(),(),.int .i64 256,()]] wr (StaP X Y B σ w wr rb s nm j K):=by
 have I:=h.ct
 refine(show Calls Tryz.prog 13 #[.pointer (some ⟨Y.yb,0,none⟩),.string nm,.agg #[.int .i64 sh0.a,.int .i64 sh0.d,.int .i64 sh0.s,.int .i64 sh0.r]] wr (Am X Y B K σ s.f (jP Y s.y) nm sh0 wr) from xQ X Y B K σ s.f (jP Y s.y) nm sh0 KX (by show s.y.count+1≤_;have h5:s.y.count≤(j:Int):=I;omega) hf wr h.fe h.ys).mono (fun e w' h2=>?_)
 rcases h2 with⟨h3,-⟩ | ⟨-,P,σ',h1,-,hx,hF,hY,hk⟩
 ·rw[hf] at h3;cases h3
 ·have R:=h.low.size
  exact⟨P,σ',h1,hF,hY,fun k J=>(hx k aa).trans (h.old k J),h.lowFO hk (fun k e h3=>by unfold FO at e;omega),hk.cell h.rk.cells.1.1 (fun e=>by have e:4≤σ rb:=e;have h9:=h.rk.own;omega),hx,hk⟩
def RnoP(B:Bk)(Y:Yx)(w wr:World)(σ:Own)(s:Rs)(n:Nat)(e:Ending)(w':World):Prop:=∃(f':Fe)(y':Ye)(r':Rp)(O:List (Int×Int))(oo lo eo:Option Addr)(oc lc ec:Nat),e= .returned (.tuple #[.agg #[.slice oo O.length oc,.slice lo r'.lost.length lc,.slice eo r'.ended.length ec,.int .i64 (f'.fr - s.f.fr),.int .i64 (f'.c.d.r - s.f.c.d.r)],()])∧uq B Y.n s.f s.y n f' y' r' O∧Below w.heap.size w w'∧ag (FR σ) wr w'
theorem Hu{X:Fx}{Y:Yx}{B:Bk}{σ:Own}{w wr:World}{s:Rs}{K:Nat}(I:Y.n≤16)(n:Nat)(hn:n≤256)(hK:K≤400000)(J:aN X σ wr B K s.f)(R:FeB K s.f)(U:YIs X Y B K σ wr s.y)(old: ∀k,k<w.heap.size→σ k=1)(low:Below w.heap.size w wr):Calls Tryz.prog 15 #[.pointer (some ⟨Y.yb,0,none⟩),.int .i64 n] wr (RnoP B Y w wr σ s n):=
 (uY X Y B K I σ s.f R s.y n hn aa wr J U).mono (fun e w' h2=>by
  obtain⟨f',y',r',O,oo,lo,eo,oc,lc,ec,σ',h1,-,h3,-,-,-,-,-,-,hk⟩:=h2
  exact⟨f',y',r',O,oo,lo,eo,oc,lc,ec,h1,h3,((ag.au (S:=fun _=>False) low Me).andThen hk (fun i hi e=>by have:=old i hi;unfold FR at e;omega)).aW Me (fun _ _ e=>e),hk⟩)
theorem one_fr{B:Bk}{Y:Yx}{nm:ByteArray}{s:Rs}{P:Px}{n:Nat}{f':Fe}{y':Ye}{r':Rp}{O:List (Int×Int)}(J:1≤Y.n)(hm:(B.dir.getD (eH B.dir nm) m0).Ok)(hl:(B.dir.getD (eH B.dir nm) m0).loop=false)(h:uq B Y.n s.f (yOne B Y nm s.y P) n f' y' r' O):f'.fr - s.f.fr≤((B.dir.getD (eH B.dir nm) m0).ch:Int)*((n/16+3:Nat):Int):=by
 have hr:gy Y (jP Y s.y)<Y.n:=uX _ _ _ _ _ aa aa
 have I:(B.dir.getD (eH B.dir nm) m0).ch=1∨(B.dir.getD (eH B.dir nm) m0).ch=2:=by
  have h1:=hm.c0
  have h2:=hm.c1
  omega
 have h5:=sgl_fr I (sgl_ren hl I hr (Ik hm.l0 Y.n _ hr s.f (s.y.count+1) (s.y.count+1) P sh0) n f' y' r' O h)
 omega
theorem errN_bd{bs:List Int}{V S R:Int}(h:nV bs V S R=0):1≤V∧V≤16∧0≤R∧R≤8:=by
 unfold nV at h
 split at h
 ·exact absurd h aw
 ·split at h
  ·cases h
  ·split at h
   ·cases h
   ·omega
theorem ET{n R:Nat}{O:List (Int×Int)}{t:Tl}(hn:n≤16)(hR:R≤8)(hO:O.length≤256)(h:Cost n R O t): ∃x1 x2 x4 x5 x6:Int,IntKind.i64.wrap (16*(n:Int))=x1∧IntKind.i64.wrap (x1*(O.length:Int))=x2∧¬x2<t.fr∧IntKind.i64.wrap ((R:Int)+1)=x4∧IntKind.i64.wrap (3*x4)=x5∧IntKind.i64.wrap (x5*t.fr)=x6∧¬x6<t.rd:=by
 have h1:16*n*O.length≤16*n*256:=Nat.mul_le_mul_left _ hO
 have h2:(16*(n:Int)*(O.length:Int))=((16*n*O.length:Nat):Int):=by rw[Int.natCast_mul,Int.natCast_mul];rfl
 have f0:=h.f0
 have f1:=h.f1
 have fr:=h.r
 rw[h2] at f1
 obtain⟨q,hq⟩: ∃q:Nat,t.fr=(q:Int):=⟨t.fr.toNat,aa⟩
 rw[hq] at f1 fr⊢
 have h3:(3*(R+1))*q≤27*q:=Nat.mul_le_mul_right _ aa
 have h4:3*((R:Int)+1)*(q:Int)=((3*(R+1)*q:Nat):Int):=by rw[Int.natCast_mul,Int.natCast_mul];rfl
 rw[h4] at fr
 refine⟨16*(n:Int),16*(n:Int)*(O.length:Int),(R:Int)+1,3*((R:Int)+1),3*((R:Int)+1)*(q:Int),IntWalk.i64_in _ aa,?_,?_,IntWalk.i64_in _ aa,IntWalk.i64_in _ aa,?_,?_⟩
 ·rw[h2];exact IntWalk.i64_in _ aa
 ·rw[h2];omega
 ·rw[h4];exact IntWalk.i64_in _ aa
 ·rw[h4];omega
theorem Jv(nn ch:Nat)(hn:nn≤256)(hc:ch≤2): ∃q q3 x:Int,(nn:Int).tdiv 16=q∧IntKind.i64.wrap q=q∧IntKind.i64.wrap (q+3)=q3∧IntKind.i64.wrap ((ch:Int)*q3)=x∧x=(ch:Int)*((nn/16+3:Nat):Int):=by
 have h1:ch*(nn/16+3)≤2*(nn/16+3):=Nat.mul_le_mul_right _ hc
 refine⟨((nn/16:Nat):Int),((nn/16+3:Nat):Int),(ch:Int)*((nn/16+3:Nat):Int),?_,IntWalk.i64_in _ aa,?_,?_,rfl⟩
 ·rw[Int.tdiv_eq_ediv_of_nonneg aa];omega
 ·rw[IntWalk.i64_in _ aa];omega
 ·rw[←Int.natCast_mul];exact IntWalk.i64_in _ aa
theorem zt(size:Int)(ao:Option Addr)(n cap:Nat)(L:List Sr)(V S R:Int)(bo:Option Addr)(k kc:Nat)(acts:List Ac)(nm:ByteArray)(cnt:Int)(w:World)(hL:bP srV 6 sr0 w ao n L)(hS: ∀s ∈ L,um w s)(hA:bP acV 7 ac0 w bo k acts)(hW: ∀a ∈ acts,a.Wf):Calls Tryz.prog 3 #[.int .i64 size,.slice ao n cap,.agg #[.int .i64 V,.int .i64 S,.int .i64 R],.slice bo k kc,.string nm,.int .i64 cnt] w (G7 w):=by
 have I:=MI JI
 unfold G7 at I
 have B1:=ae w (.cells #[.int .i64 V,.int .i64 S,.int .i64 R] 24)
 have B2:=L9 w (.cells #[.int .i64 V,.int .i64 S,.int .i64 R] 24)
 have J1:(w.alloc (.cells #[.int .i64 V,.int .i64 S,.int .i64 R] 24)).heap.size=w.heap.size+1:=wU _ _
 have HM:=MI (yw size V S R ao n cap L _ (hL.aj B1) (fun s h=>(hS s h).aj B1))
 have HS:=MI (fun W (hB:Below w.heap.size w W)=>Na bo k kc acts W (hA.aj hB))
 have C1:=MI hA
 have E2:=MI hW
 have HB:=MI B1
 have HZ:=MI B2
 have H6:(Tryz.prog.info? 24).map (·.size)=some 3:=af
 clear hL hS hA hW B1
 go_enter Tryz.func3,Tryz.ntmps3
 go_upto_region 2 with(first
  | ((with_reducible refine MC 24 8 ?_);refine wpList_load_row rfl 24 (.tmp 8) rfl w.heap.size rfl 24 (#[.int .i64 V,.int .i64 S,.int .i64 R]) (0,0) _ B2 Tryz.underlying24 rfl H6 ?_)
  | (go_at_call 5;refine HM.out.mono ?_;rintro e w2 ⟨p,rfl,A1,hp,-⟩))
 generalize w.alloc (.cells #[.int .i64 V,.int .i64 S,.int .i64 R] 24)=W at*
 by_cases C2:p=none
 ·subst C2
  have o:=MI (bD HB.out A1)
  clear hp B2 A1
  go_wp2_with (go_at_call 7;refine(I.out _).mono ?_;rintro e w5 ⟨rfl,C3⟩)
  go_ret
  exact⟨rfl,bD o.out C3⟩
 obtain⟨bs,⟨H7,he,X,Y,σ0,rb,rfl,rfl,H8,hF,hY,E3,hold⟩,-⟩:=hp C2
 obtain⟨J2,J3,J4,J5⟩:=errN_bd he
 obtain⟨Rn,rfl⟩: ∃Rn:Nat,R=(Rn:Int):=⟨R.toNat,aa⟩
 have A5:Y.n≤16:=aa
 have E4:Hid (∃s:Rs,TL X Y (fK bs) σ0 W w2 rb s 0 0∧Yok s.y∧s.f.c.bC=(Rn:Int)):=⟨⟨⟨Cch.tZ bs X.n (Rn:Int),0,0⟩,xy Y.n,sh0⟩,⟨hF,⟨Int.le_refl _,Int.le_refl _,Int.le_refl _,Int.le_refl _⟩,hY,mP E3,Int.le_refl _,hold,A1⟩,JU _ _,rfl⟩
 have o:=MI (bD HB.out A1)
 clear hp C2 hF hY E3 hold A1 he H8 HM B2 H7
 by_cases hs:1000<iY acts (min k 60)
 ·have H9:(1000:Int)<((iY acts (min k 60):Nat):Int):=aa
  generalize iY acts (min k 60)=sm at*
  go_wp2_with (first
   | (go_at_call 6;refine(HS.out _ o.out).mono ?_;rintro e w3 ⟨rfl,B3⟩)
   | (go_at_call 7;refine(I.out _).mono ?_;rintro e w5 ⟨rfl,C3⟩))
  go_ret
  exact⟨rfl,bD (bD o.out B3) C3⟩
 obtain⟨M,hM⟩: ∃M,M=min k 60:=⟨_,rfl⟩
 rw[←hM] at hs HS
 have E5:=MI hM
 have C4:Hid (iY acts M≤1000):=by show _≤_;omega
 have H9:¬(1000:Int)<((iY acts M:Nat):Int):=aa
 have I8:M≤60:=aa
 clear hM hs
 go_upto_region 5 with(go_at_call 6;refine(HS.out _ o.out).mono ?_;rintro e w3 ⟨rfl,B3⟩)
 go_loopw [14] (fun v14 wr=>∃(j:Nat)(σ:Own)(s:Rs),j≤M∧v14= .int .i64 (j:Int)∧TL X Y (fK bs) σ W wr rb s j (j+256*iY acts j)∧Hid (Yok s.y)∧Hid (s.f.c.bC=(Rn:Int))) (fun v14 _=>M - aC v14)
 case atStart=>
  obtain⟨s,h1,h2,h3⟩:=E4.out
  exact⟨0,σ0,s,aa,rfl,h1.aj B3,h2,h3⟩
 case round=>
  clear E4 B3 HS o
  obtain⟨j,σ,s,hj,rfl,hT,C5,C6⟩:=hrel
  by_cases J6:j<M
  ·have g1:j<k:=by have:=E5.out;omega
   have g2:j<60:=aa
   have E6:(acts.getD j ac0).Wf:=E2.out _ (by
    have hl:=C1.out.hlen
    rw[show acts.getD j ac0=acts[j]'(by omega) by simp[List.getD,show j<acts.length by omega]]
    exact List.getElem_mem _)
   have E7:iY acts (j+1)=iY acts j+dM (acts.getD j ac0):=rfl
   have I0:=xP acts (show j≤M by omega)
   have G9:=C4.out
   obtain⟨fa,I1,c0,c1,c2,c3,c4,c5,c6⟩:=rec7 (C1.out.aj (bD HB.out hT.low)) g1
   subst I1
   have HD:=MI (rM hT aa A5 (acts.getD j ac0) E6 aa)
   unfold wZ at HD
   have HU:Hid (∀σ2 w5 s',TL X Y (fK bs) σ2 W w5 rb s' (j+1) (j+256*iY acts j+1+256*dM (acts.getD j ac0))→TL X Y (fK bs) σ2 W w5 rb s' (j+1) (j+1+256*iY acts (j+1))):=fun σ2 w5 s' h=>by
    rw[E7]
    rw[show j+256*iY acts j+1+256*dM (acts.getD j ac0)=j+1+256*(iY acts j+dM (acts.getD j ac0)) by omega] at h
    exact h
   have HC:Hid (∀s' t O r,dS (fK bs) Y (acts.getD j ac0) s s' t O r→Cost Y.n Rn O t∧s'.f.c.bC=(Rn:Int)∧Yok s'.y∧O.length≤256):=fun s' t O r h=>by
    obtain⟨h1,h2,h3⟩:=OU h hT.fe.bk.ok.s1 ⟨hT.fe.lim.ok,hT.fe.lim.r0⟩ C5.out C6.out
    exact⟨h1,h2,h3,Ai h⟩
   clear E6 E7 I0 G9 hT C5 C6
   generalize acts.getD j ac0=x at*
   generalize iY acts j=S0 at*
   generalize E8:iY acts (j+1)=S1 at*
   have I2:=MI E8
   clear E8
   obtain⟨xk,xv,xnm,xn,xm,xp,xx⟩:=x
   simp only at c0 c1 c2 c3 c4 c5 c6 HD
   go_upto_region 8 with(go_at_call 8;refine HD.out.mono ?_;rintro e w5 ⟨s',O,r,e0,n0,o1,c9,o2,n2,c10,o3,n3,c11,fr,rd,σ2,rfl,E9,A0,-,-,-⟩)
   obtain⟨C7,F1,F2,hO⟩:=HC.out _ _ _ _ E9
   obtain⟨x1,x2,x4,x5,x6,e1,e2,e3,e4,e5,e6,e7⟩:=ET A5 aa hO C7
   have e8:¬fr<(n2:Int):=by have:=C7.l o2 n2 c10 rfl;show ¬_;have h9:(n2:Int)≤fr:=this;omega
   simp only at e3 e6 e7
   have A2:=ae w5 (.cells #[.int .i64 e0,.int .i64 n0,.slice o1 O.length c9,.slice o2 n2 c10,.slice o3 n3 c11,.int .i64 fr,.int .i64 rd] 37)
   have B4:=L9 w5 (.cells #[.int .i64 e0,.int .i64 n0,.slice o1 O.length c9,.slice o2 n2 c10,.slice o3 n3 c11,.int .i64 fr,.int .i64 rd] 37)
   have F3:=MI ((HU.out _ _ _ A0).aj A2)
   clear A0 HU HC HD E9 C7 A2 c0 c1 c2 c3 c4 c5 c6
   generalize w5.alloc (.cells #[.int .i64 e0,.int .i64 n0,.slice o1 O.length c9,.slice o2 n2 c10,.slice o3 n3 c11,.int .i64 fr,.int .i64 rd] 37)=W6 at*
   generalize w5.heap.size=B6 at*
   obtain⟨q0,q1,q2,q3,q4,q5,q6⟩:=aY B4
   obtain⟨z0,z1,z2⟩:=dG (rwB HZ.out F3.out.low)
   have I3:=MI F1
   have I4:=MI F2
   clear q0 q1 q4 z1 B4 F1 F2
   go_wp2_with fail
   exact⟨⟨j+1,σ2,s',aa,aD,by rw[I2.out];exact F3.out,I4.out,I3.out⟩,by simp[aC];omega⟩
  ·obtain rfl:j=M:=aa
   have E1:(¬j<k)∨(j<k∧¬j<60):=by
    have:=E5.out
    omega
   have hK:j+256*iY acts j≤400000:=by have:=C4.out;omega
   generalize j+256*iY acts j=K at*
   have HQ:=MI (KC hT)
   have A3:=hT.rk.cells.1.1
   clear C5 C6 hT C4 E2 C1
   rcases E1 with g1 | ⟨g1,g2⟩
   all_goals (
    go_upto_region 11 with(go_at_call 9;refine HQ.out.mono ?_;rintro e w5 ⟨rfl,A0⟩)
    have A6:=MI A0
    go_upto_region 12 with(first
     | (go_at_call 10;refine(xZ X Y _ rb _ A6.out.rk.cells).mono ?_;rintro e w6 ⟨rfl,rfl⟩)
     | (go_at_call 11;refine(sV X.D (fK bs) nm _ A6.out.fe.bk).mono ?_;rintro e w6 ⟨rfl,A2⟩))
    have J:=MI (A0.aj A2)
    have C8:=bD HB.out J.out.low
    clear A0 A6 A2 A3 HQ
    by_cases B5:fG (fK bs).dir nm=true
    case neg=>
     have H0:fG (fK bs).dir nm=false:=by simpa using B5
     rw[H0]
     go_wp2_with (go_at_call 7;refine(I.out _).mono ?_;rintro e w7 ⟨rfl,U⟩)
     go_ret
     exact⟨rfl,bD C8 U⟩
    rw[B5]
    by_cases J7:cnt<0
    ·go_wp2_with (go_at_call 7;refine(I.out _).mono ?_;rintro e w7 ⟨rfl,U⟩)
     go_ret
     exact⟨rfl,bD C8 U⟩
    by_cases J8:256<cnt
    ·go_wp2_with (go_at_call 7;refine(I.out _).mono ?_;rintro e w7 ⟨rfl,U⟩)
     go_ret
     exact⟨rfl,bD C8 U⟩
    obtain⟨nn,rfl⟩: ∃nn:Nat,cnt=(nn:Int):=⟨cnt.toNat,aa⟩
    have F4:nn≤256:=aa
    have F5:=Cj B5
    have C9:=J.out.fe.bk.ok.m _ F5
    have D0:=MI (fun P f' y' r' O hl h=>one_fr (B:=fK bs) (Y:=Y) (nm:=nm) (s:=s) (P:=P) (n:=nn) (f':=f') (y':=y') (r':=r') (O:=O) J.out.ys.n1 C9 hl h)
    have F6:=MI (pz X.D (fK bs) (eH (fK bs).dir nm) F5 w6 J.out.fe.bk)
    have H2:=C9.c1
    have J9:=J.out.low
    generalize (fK bs).dir.getD (eH (fK bs).dir nm) m0=m at*
    have H3:(Tryz.prog.info? 54).map (·.size)=some (aF m).size:=af
    have H4:=ja m
    go_upto_region 15 with(first
     | (go_at_call 10;refine(xZ X Y _ rb _ J.out.rk.cells).mono ?_;rintro e w7 ⟨rfl,rfl⟩)
     | (go_at_call 12;refine F6.out.mono ?_;rintro e w7 ⟨rfl,U⟩)
     | ((with_reducible refine MF 54 18 114 ?_);refine wpList_store_row rfl 54 (.tmp 18) (.tmp 114) rfl _ (aF m) rfl rfl 54 Z54 (L9 _ _) H3 rfl H4 ?_))
    have F7:Below w7.heap.size w7 ((w7.alloc (.cells Z54 54)).setRow w7.heap.size (aF m)):=below_setRow (ae w7 (.cells Z54 54)) Me _
    have D1:=Md (aF m) (L9 w7 (.cells Z54 54))
    change Code.wp _ _ _ _ ((w7.alloc (.cells Z54 54)).setRow w7.heap.size (aF m))
    have I5:w7.heap.size<((w7.alloc (.cells Z54 54)).setRow w7.heap.size (aF m)).heap.size:=L8 D1
    generalize (w7.alloc (.cells Z54 54)).setRow w7.heap.size (aF m)=X7 at*
    have D2:=(J.out.aj U).fresh F7
    have h3:aG σ w7.heap.size X7.heap.size 3 w7.heap.size=3:=aX σ 3 Me I5
    generalize aG σ w7.heap.size X7.heap.size 3=σ7 at*
    generalize w7.heap.size=mb at*
    have A3:=D2.rk.cells.1.1
    have F8:=(Below.refl X7.heap.size X7).drew
    have D3:=D2.aj F8
    have A7:=MI D3
    have D4:X7.drew.heap[mb]? =some (.cells (aF m) 54 (0,0)):=D1
    have F9:=MI D4
    have D5:X7.drew.cell? ⟨rb,0,none⟩=some (.pointer (some ⟨Y.yb,0,none⟩)):=A3
    clear D2 D3 F7 U F6 D1 D4 J F8
    go_region_held3 (fun w'=>w'.cell? ⟨rb,0,none⟩=some (.pointer (some ⟨Y.yb,0,none⟩))) (first | exact A3 | exact D5 | go_keep) (first
     | (go_at_call 14;refine(Nv.yc _).mono ?_;rintro e w8 ⟨rfl,D6⟩;have D7:=A7.out.aj D6;have A8:=rwB F9.out D6;have H5:=D7.rk.cells.1.1)
     | (go_at_call 13;refine(KA B5 aa D7).mono ?_;rintro e w9 ⟨P,σ9,rfl,G0,G1,B7,B8,I9,G2,G3⟩))
    have h9:σ9 mb=3:=(G2 mb (L8 A8)).trans h3
    have D8:=G3.heap A8 (fun e=>by have e:4≤σ7 mb:=e;omega)
    have B9:=MI (Hu (w:=W) (s:={s with y:=yOne (fK bs) Y nm s.y P}) A5 nn F4 hK G0 A7.out.fb G1 B7 B8)
    unfold RnoP at B9
    simp only at B9
    clear G0 G1 B7 B8 D7 A8 H5 G2 G3 D6 A3 D5 A7 F9
    go_upto_region 17 with(go_at_call 15;refine B9.out.mono ?_;rintro e w10 ⟨f',y',r',O,oo,lo,eo,oc,lc,ec,rfl,G4,A4,D9⟩)
    have C0:=D9.heap D8 (fun e=>by unfold FR at e;omega)
    have G5:Hid (m.loop=false→f'.fr - s.f.fr≤(m.ch:Int)*((nn/16+3:Nat):Int)):=fun hl=>D0.out P f' y' r' O hl G4
    generalize f'.fr - s.f.fr=fr at*
    generalize f'.c.d.r - s.f.c.d.r=rd at*
    have E0:=ae w10 (.cells #[.slice oo O.length oc,.slice lo r'.lost.length lc,.slice eo r'.ended.length ec,.int .i64 fr,.int .i64 rd] 35)
    have I6:=L9 w10 (.cells #[.slice oo O.length oc,.slice lo r'.lost.length lc,.slice eo r'.ended.length ec,.int .i64 fr,.int .i64 rd] 35)
    have I7:=rwB C0 E0
    have G6:=MI (bD HB.out (bD A4 E0))
    clear B9 A4 D9 C0 E0 G4 D0 D8
    generalize w10.alloc (.cells #[.slice oo O.length oc,.slice lo r'.lost.length lc,.slice eo r'.ended.length ec,.int .i64 fr,.int .i64 rd] 35)=Z at*
    generalize w10.heap.size=zb at*
    obtain⟨q,q3,x,y1,y2,y3,y4,y5⟩:=Jv nn m.ch F4 H2
    obtain⟨m0',m1',m2',m3',m4',m5',m6',m7',m8'⟩:=fP I7
    obtain⟨r0',r1',r2',r3',r4'⟩:=bz I6
    clear m0' m1' m2' m5' m6' m7' m8' r0' r1' r2' r4'
    by_cases G8:m.loop=true
    ·rw[G8] at m4'
     go_wp2_with (go_at_call 7;refine(I.out _).mono ?_;rintro e w11 ⟨rfl,A9⟩)
     go_ret
     exact⟨rfl,bD G6.out A9⟩
    ·have B0:m.loop=false:=by simpa using G8
     rw[B0] at m4'
     have hle:fr≤x:=by rw[y5];exact G5.out B0
     have J0:¬(m.ch:Int)*((nn:Int)/16+3)<fr:=by
      have h5:=G5.out B0
      rw[show((nn/16+3:Nat):Int)=(nn:Int)/16+3 by omega] at h5
      exact Int.not_lt.2 h5
     go_wp2_with (go_at_call 7;refine(I.out _).mono ?_;rintro e w11 ⟨rfl,A9⟩)
     go_ret
     exact⟨rfl,bD G6.out A9⟩)
end Go.Proofs.YtnicjahcgnhogaaGreatDoor
namespace Go.Proofs.YtnicjahcgnhogaaGreatDoor
open Go Go.RowKit Go.Calli
theorem wP(s:ByteArray):Byt (numsOf s):=fun z hz=>by
 unfold numsOf at hz
 simp only[List.mem_map] at hz
 obtain⟨x,-,rfl⟩:=hz
 have:=x.toNat_lt
 omega
theorem sr_of{w:World}{cs:List Value}(h:bG Tryz.prog w 76 cs): ∃s:Sr,cs=srV s∧um w s:=by
 obtain⟨hlen,hf⟩:=h.struct Tryz.underlying76
 rw[show Tryz.prog.cellsOf 76=6 by kernel_rfl] at hlen
 match cs,hlen with
 | [v0,v1,v2,v3,v4,v5],_=>
  have f0:=hf 0 _ rfl
  have f1:=hf 1 _ rfl
  have f2:=hf 2 _ rfl
  have f3:=hf 3 _ rfl
  have f4:=hf 4 _ rfl
  have f5:=hf 5 _ rfl
  simp only[List.getElem_toArray,List.getElem_cons_succ,List.getElem_cons_zero] at f0 f1 f2 f3 f4 f5
  rw[show Tryz.prog.cellsOf 9=1 by kernel_rfl] at f0
  rw[show Tryz.prog.cellsOf 3=1 by kernel_rfl] at f1 f3 f4
  rw[show Tryz.prog.cellsOf 4=1 by kernel_rfl] at f2
  rw[show Tryz.prog.cellsOf 74=1 by kernel_rfl] at f5
  simp only[List.drop_zero,List.take_succ_cons,List.take_zero,List.drop_succ_cons] at f0 f1 f2 f3 f4 f5
  obtain⟨s,hs,A1⟩:=f0.string Tryz.underlying9
  obtain⟨n1,R,-⟩:=f1.int Tryz.underlying3
  obtain⟨b,hb⟩:=f2.bool Tryz.underlying4
  obtain⟨n3,U,-⟩:=f3.int Tryz.underlying3
  obtain⟨n4,j,-⟩:=f4.int Tryz.underlying3
  simp at hs R hb U j
  subst hs;subst R;subst hb;subst U;subst j
  have o:(numsOf s).length≤9223372036854775807:=by
   have h1:(strOfNums (numsOf s)).size=(numsOf s).length:=strOfNums_size _
   rw[kS] at h1
   unfold maxLen at A1
   omega
  rcases f5.slice Tryz.underlying74 with h5 | ⟨a,l,c,h5,hl,hm,hx⟩
  ·simp at h5
   subst h5
   exact⟨⟨numsOf s,n1,b,n3,n4,none,0,[]⟩,by unfold srV;rw[kS];rfl,wP s,o,by show(0:Nat)≤_;omega,fun k hk=>absurd hk (by show ¬k<0;omega)⟩
  ·simp at h5
   subst h5
   have A2:Tryz.prog.cellsOf 33=1:=af
   obtain⟨ls,A3,A4⟩:=kK (α:=List Int) l (fun i x=>∃ao cap,w.cell? (a.add i)=some (.slice ao x.length cap)∧x.length≤cap∧Ints .i64 w ao x.length x) (fun i hi=>by
    obtain⟨ds,hd,I,hg⟩:=hx i hi
    rw[A2] at hd I
    have J:=I 0 aa
    rw[Nat.mul_one,jV] at J
    match ds,hd with
    | [v],_=>
     have hg:bG Tryz.prog w 33 [v]:=hg
     rcases hg.slice Tryz.underlying33 with h6 | ⟨a6,l6,c6,h6,A5,A6,-⟩
     ·simp at h6
      subst h6
      exact⟨[],none,0,J,Me,Ints.nil _ _ _⟩
     ·simp at h6
      subst h6
      obtain⟨-,zs,hI⟩:=hg.ints Tryz.underlying33 Tryz.underlying3 af
      have A0:=hI.hlen
      refine⟨zs,some a6,c6,?_,aa,by rw[A0];exact hI⟩
      rw[A0]
      exact J)
   refine⟨⟨numsOf s,n1,b,n3,n4,some a,c,ls⟩,by unfold srV;rw[kS,A3],wP s,o,by show ls.length≤_;unfold maxLen at hm;omega,fun k hk=>?_⟩
   have hk:k<ls.length:=hk
   obtain⟨ao,cap,h1,h2,h3⟩:=A4 k _ (List.getElem?_eq_getElem hk)
   have e:ls.getD k []=ls[k]:=by simp[List.getD,hk]
   show ∃a' ao cap,some a=some a'∧w.cell? (a'.add k)=some (.slice ao (ls.getD k []).length cap)∧(ls.getD k []).length≤cap∧Ints .i64 w ao (ls.getD k []).length (ls.getD k [])
   rw[e]
   exact⟨a,ao,cap,rfl,h1,h2,h3⟩
theorem srs_of{w:World}{ao:Option Addr}{len cap:Nat}(h:bG Tryz.prog w 22 [.slice ao len cap]): ∃L,bP srV 6 sr0 w ao len L∧∀s ∈ L,um w s:=by
 rcases h.slice Tryz.underlying22 with h1 | ⟨a,l,c,h1,hl,hm,hx⟩
 ·simp at h1;obtain⟨rfl,rfl,rfl⟩:=h1
  exact⟨[],bP.nil _ _ _ _ _,ar⟩
 ·simp at h1;obtain⟨rfl,rfl,rfl⟩:=h1
  have R:Tryz.prog.cellsOf 76=6:=af
  obtain⟨ms,U,J⟩:=kK (α:=Sr) len (fun i x=>(∀j u,(srV x)[j]? =some u→w.cell? ((a.add (i*6)).add j)=some u)∧um w x) (fun i hi=>by
   obtain⟨ds,hd,I,hg⟩:=hx i hi
   rw[R] at I
   obtain⟨x,rfl,hw⟩:=sr_of hg
   refine⟨x,fun j u hu=>?_,hw⟩
   have hj:j<6:=(List.getElem?_eq_some_iff.1 hu).1
   rw[I j hj]
   exact hu)
  refine⟨ms,⟨U,aa,fun i hi=>⟨a,rfl,?_⟩⟩,fun x hx=>?_⟩
  ·have:=(J i _ (List.getElem?_eq_getElem (show i<ms.length by omega))).1
   rwa [show ms.getD i sr0=ms[i] by simp[List.getD,show i<ms.length by omega]]
  ·obtain⟨i,hi,rfl⟩:=List.getElem_of_mem hx
   exact(J i _ (List.getElem?_eq_getElem hi)).2
end Go.Proofs.YtnicjahcgnhogaaGreatDoor
