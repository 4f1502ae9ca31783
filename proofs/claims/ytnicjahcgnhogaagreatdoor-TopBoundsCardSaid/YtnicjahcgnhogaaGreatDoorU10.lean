/- Part 11 of the walk: contracts of the program's functions, each for every input. No condition. -/
import Derived.Test.YtnicjahcgnhogaaGreatDoorU09
set_option linter.unusedVariables false
set_option linter.unusedSimpArgs false
set_option maxRecDepth 100000
set_option maxHeartbeats 8000000
namespace Go.Proofs.YtnicjahcgnhogaaGreatDoor.Cch
open Go Go.RowKit Go.Calli Go.Dskp Go.Maps
attribute [local irreducible] wpStill wpAnyH wpAnyS wpList Code.wp
def tZ(zs:List Int)(n:Nat)(r:Int):Ca:=⟨0,0,0,0,⟨zs,fun _=>none,0,0⟩,List.replicate n q0,0,r,0⟩
theorem newC_ok(zs:List Int)(n:Nat)(r:Int):COk (tZ zs n r):=fun i hi=>by
 show SOk ((List.replicate n q0).getD i q0)
 rw[qQ]
 exact SOk.q0
theorem MR(zs:List Int)(hz:zs.length≤4194304)(n:Nat)(r:Int)(h0:0≤r)(h1:r≤8):lN 0 (tZ zs n r):=⟨Int.le_refl _,Int.le_refl _,Int.le_refl _,Int.le_refl _,Int.le_refl _,Int.le_refl _,Int.le_refl _,Int.le_refl _,⟨hz,Int.le_refl _,Int.le_refl _,Int.le_refl _,by rintro k t ⟨⟩⟩,Int.le_refl _,Me,h0,h1⟩
theorem kD{P:Program}{w:World}{ops:Array Oper}{rest:List Oper}{o:Oper}{a:Act}{Q:Exit→Act→World→Prop}(A4:o.guard=none)(s x:Operand)(t e:TypeId)
  (ho:o.op= .call {callee:=.builtin .append,args:=#[s,x],argTypes:=#[t,t]}) (hu:P.underlying t=some (.slice e))
  {z:Value} {bytes:Nat} (U:(P.info? e).map (fun i=>(i.zero,i.size,i.bytes))=some (some z,1,bytes)) (A5:z.cells.size=1)
  (B:Nat) (v:Value) (n:Nat) (xs:List Value) (hs:a.eval s=v) (R:w.ownsRow B e 1 v n xs)
  (ad:Addr) (m c:Nat) (news:List Value) (hx:a.eval x= .slice (some ad) m c) (I:Row w (some ad) m news) (h1: ∀u ∈ news,u.oneCell'=true)
  (A0:(n+m)*bytes≤140737488355328) (hn:n+m≤maxLen) (hB:B≤w.heap.size)
  (h: ∀v' w',w'.ownsRow B e 1 v' (n+m) (xs++news)→ag (fun k=>v.ownBlock=some k) w w'→(v'.ownBlock=v.ownBlock∨v'.ownBlock=some w.heap.size)→wpList P ops Q rest (a.put o.dst v') w'):wpList P ops Q (o::rest) a w:=by
 obtain⟨i,hi,hz,A1,A2⟩:=info_parts U
 have J: ∀j u,news[j]? =some u→w.cell? (ad.add j)=some u:=fun j u hj=>by
  obtain⟨a',A6,hc⟩:=I.cell j u hj
  cases A6
  exact hc
 obtain⟨v',w',hr,h2,h3,_⟩:=run_append_own (P:=P) w B t o.type e i z 1 bytes hu hi hz A1 A2 A5 aq v n xs R ad m c news (by rw[I.hlen];omega) J h1 hn A0 hB
 have A3:=rf (P:=P) t o.type e hu hi hz A1 B v v' n xs R ad m c news I.hlen J h1 (by rw[A2];exact A0) hn hr
 refine wpList_plain A4 fun K hK=>?_
 unfold Oper.wp execOp
 simp only[ho,resolve,invoke,builtin,Sem.run_bind,Sem.run_pure,Result.andThen_ok,List.map_toArray,List.map_cons,List.map_nil,hs,hx,hr]
 exact hK _ _ (h v' w' h2 ((ag.refl _ w).grown h3 fun k hk=>.inr hk) A3)
theorem iH.Gq{A:Ad}{w w':World}{n:Nat}{c:Ca}(h:iH A w n c)(hk:ag A.x w w'):iH A w' n c:=by
 obtain⟨ms,hS,hM⟩:=h.slots
 obtain⟨m,hm,hD⟩:=h.dsk
 have hx:=h.away.2
 exact⟨hk.heap h.row (fun e=>(hx _ e).2.1 (.inl rfl)),⟨ms,hS.kept hk (fun e=>(hx _ e).2.1 (.inr (.inl rfl))),hM.BO (hk.mono fun k _ e=>.inr e)⟩,⟨m,hm,hD.kept hk (fun e=>(hx _ e).2.1 (.inr (.inr (.inl rfl)))) (fun e=>(hx _ e).2.1 (.inr (.inr (.inr rfl)))) (fun a ha e=>(hx _ e).2.2 a ha rfl)⟩,h.len,h.hand,h.uh,h.away.mono hk.size⟩
theorem iH.setX{A:Ad}{w w':World}{n:Nat}{c:Ca}(h:iH A w n c)(hC:COk c)(hk:ag A.x w w'){x:Nat→Prop}(hx: ∀k,x k→k<w'.heap.size∧(A.x k∨w.heap.size≤k)):iH {A with x:=x} w' n c:=by
 have h':=h.Gq hk
 obtain⟨ms,hS,hM⟩:=h.slots
 obtain⟨m,hm,hD⟩:=h'.dsk
 have J:=hM.BO (hk.mono fun k _ e=>.inr e)
 refine⟨h'.row,⟨ms,hS.kept hk (fun e=>(h.away.2 _ e).2.1 (.inr (.inl rfl))),⟨hM.len,fun i hi=>?_⟩⟩,⟨m,hm,hD⟩,h.len,h.hand,h.uh,⟨fun a ha=>h'.away.1 a ha,fun k I=>⟨(hx k I).1,?_,?_⟩⟩⟩
 ·have h1:=hM.is i hi
  have h2:=J.is i hi
  refine⟨h1.p,h1.u,h1.f,fun hf=>?_⟩
  obtain⟨a1,a2,a4,a5⟩:=h2.bs hf
  refine⟨a1,a2,a4,fun a ha hT=>?_⟩
  rcases hT with hT | hT
  ·exact a5 a ha (.inl hT)
  ·rcases(hx _ hT).2 with e | e
   ·exact a5 a ha (.inr e)
   ·have U:=((h1.bs hf).2.2.1).under (by rw[(h1.bs hf).1,((hC i hi) hf).1];decide) a ha
    omega
 ·rcases(hx k I).2 with e | e
  ·exact(h.away.2 k e).2.1
  ·intro R
   have:=h.inW k R
   omega
 ·intro a ha
  rcases(hx k I).2 with e | e
  ·exact(h.away.2 k e).2.2 a ha
  ·have:=h.away.1 a ha
   omega
def O9(A:Ad)(n:Nat)(R:PR)(w:World)(e:Ending)(w':World):Prop:=∃ro rc,e= .returned (.tuple #[.slice ro R.b.length rc,.int .i64 R.e])∧R.b.length≤rc∧iH A w' n R.c∧Ints .u8 w' ro R.b.length R.b∧(∀a,ro=some a→w.heap.size≤a.block)∧ag A.S w w'
def Ad.own(A:Ad)(v:Value):Ad:={A with x:=fun k=>A.x k∨v.ownBlock=some k}
theorem iH.noOwn{A:Ad}{v:Value}{w:World}{n:Nat}{c:Ca}(h:iH (A.own v) w n c):iH A w n c:=by
 obtain⟨ms,hS,hM⟩:=h.slots
 exact⟨h.row,⟨ms,hS,⟨hM.len,fun i hi=>⟨(hM.is i hi).p,(hM.is i hi).u,(hM.is i hi).f,fun hf=>by
  obtain⟨a1,a2,a4,a5⟩:=(hM.is i hi).bs hf
  exact⟨a1,a2,a4,fun a ha hT=>a5 a ha (hT.elim .inl (fun e=>.inr (.inl e)))⟩⟩⟩⟩,h.dsk,h.len,h.hand,h.uh,⟨h.away.1,fun k e=>h.away.2 k (.inl e)⟩⟩
theorem Ie(A:Ad)(n:Nat)(C5:n≤1024)(c:Ca)(K:Nat)(hK:K+70000≤50000000)(hC:COk c)(hL:lN K c)(hi:c.d.img.length≤60000)(a0 m0:Nat)(h1:(a0:Int)≤(c.d.pages:Int)*64)(h2:(m0:Int)≤(c.d.pages:Int)*64 - a0)(w:World)(h:iH A w n c):Calls Tryz.prog 259 #[.pointer (some ⟨A.cb,0,none⟩),.int .i64 a0,.int .i64 m0] w (O9 A n (fO m0 c a0 m0 []) w):=by
 have hN:=pq A n c w h
 obtain⟨mm,-,hD⟩:=h.dsk
 have hP:=rX A.b A.mb A.ib A.kap mm c.d hL.ok w hD
 obtain⟨c0,c1,c2,c3,c4,c5,c6,c7⟩:=bZ h.row
 have E0:(c.d.pages:Int)≤938:=by unfold Dk.pages;omega
 have C2:=h.inW
 have HH:=MI h
 clear h hD
 generalize c.d.pages=N at*
 have B5:IntKind.i64.wrap ((N:Int)*64)=(N:Int)*64:=IntWalk.i64_in _ aa
 have B6:IntKind.i64.wrap ((N:Int)*64 - a0)=(N:Int)*64 - a0:=IntWalk.i64_in _ aa
 have C6:a0+m0≤60100:=aa
 go_enter Tryz.func259,Tryz.ntmps259
 go_wp2_with (first | (go_at_call 73;refine hN.mono ?_;rintro e w' ⟨rfl,rfl⟩) | (go_at_call 23;refine hP.mono ?_;rintro e w' ⟨rfl,rfl⟩))
 clear c0 c1 c2 c3 c4 c5 c6 c7 hN hP B5 B6 h1 h2
 have HC:=MI hC
 have HL:=MI hL
 have C7:Hid (iH (A.own (.slice none 0 0)) w n c):=HH.out.setX hC (ag.refl _ _) (fun k hx=>hx.elim (fun e=>⟨(HH.out.away.2 k e).1,.inl e⟩) (fun e=>by cases e))
 go_loopw [1,2,8] (fun v1 v2 v8 wr=>∃(k:Nat)(c':Ca)(a m:Nat)(out:List Int),m≤k∧k≤m0∧a+m≤60100∧v1= .int .i64 a∧v2= .int .i64 m∧wr.ownsRow w.heap.size 5 1 v8 out.length (out.map (Value.int .u8))∧out.length+m≤60100∧Hid (fO m0 c a0 m0 []=fO k c' a m out)∧iH (A.own v8) wr n c'∧COk c'∧lN (K+(m0 - k)) c'∧(∀z ∈ out,(Lit.int .u8 z).wf=true)∧ag A.S w wr) (fun _ v2 _ _=>(intOf v2).toNat)
 case atStart=>exact⟨m0,c,a0,m0,[],Me,Me,C6,rfl,rfl,World.ownsRow_nil _ _ _ _,by simp;omega,rfl,C7.out,HC.out,by rw[Nat.sub_self];exact HL.out,ar,ag.refl _ _⟩
 case round=>
  obtain⟨k,c',a,m,out,E1,E2,D7,rfl,rfl,J,D8,hE,A6,C8,A7,B7,A8⟩:=hrel
  by_cases B8:m=0
  ·subst B8
   have A9:fO k c' a 0 out=⟨0,out,c'⟩:=by cases k<;>rfl
   rw[A9] at hE
   have HE:=MI hE.out
   obtain⟨ro,rc,rfl,C9,A2,B4,D9,U⟩:=mZ J
   have hI:=A2.ints B4 B7
   clear hE A9 J A2
   go_wp2_with fail
   go_ret2
   rw[HE.out]
   exact⟨ro,rc,rfl,C9,A6.noOwn,hI,fun x hx=>(U x hx).1,A8⟩
  ·obtain⟨j,rfl⟩: ∃j,k=j+1:=⟨k - 1,aa⟩
   have hP:=MJ (A.own u8) n C5 c' (K+(m0 - (j+1))) aa A7 ((a/64:Nat):Int) (WalkArith.wf_i64 aa) wr A6
   have hp:=vH C8 ((a/64:Nat):Int) (WalkArith.wf_i64 aa)
   have hl:=A7.page ((a/64:Nat):Int)
   have I:fO (j+1) c' a m out=if m=0 then⟨0,out,c'⟩ else if(ed c' ((a/64:Nat):Int)).e≠0 then⟨(ed c' ((a/64:Nat):Int)).e,[],(ed c' ((a/64:Nat):Int)).c⟩ else fO j (ed c' ((a/64:Nat):Int)).c (a+min (64 - a%64) m) (m - min (64 - a%64) m) (out++(((ed c' ((a/64:Nat):Int)).b.drop (a%64)).take m)):=rfl
   rw[if_neg B8] at I
   generalize ed c' ((a/64:Nat):Int)=R at*
   have hq:((a:Int))/64=((a/64:Nat):Int):=aa
   rw[←hq] at hP
   have B0:=MI I
   have B1:=MI hp
   clear I hp hq
   go_upto_region 8 with(go_at_call 264;refine hP.mono ?_;clear hP;rintro e w1 ⟨bo,bc,rfl,D0,A3,A4,E3,B2⟩)
   by_cases he:R.e=0
   ·have I:=B0.out
    have hp:=B1.out
    rw[if_neg (by rw[he];exact fun h=>h rfl)] at I
    have hlen:=hp.2.1 he
    rw[he]
    rw[hlen] at D0 A4⊢
    obtain⟨xa,rfl,hx⟩:=A4.some aq
    rw[I] at hE
    have HE:=MI hE.out
    have HX:=MI hx
    clear hE I hp B0 hx
    go_upto_region 11 with fail
    go_upto_region 12 with fail
    obtain⟨q,hq⟩: ∃q,q=min (64 - a%64) m:=⟨_,rfl⟩
    have e1:(if m<64 - a%64 then(m:Int) else((64 - a%64:Nat):Int))=(q:Int):=by split<;>omega
    have D1:q≤64 - a%64:=aa
    have E4:1≤q:=aa
    have E5:q≤m:=aa
    have A1:=(A4.drop (j:=a%64) aa).take D1
    have epart:(R.b.drop (a%64)).take m=(R.b.drop (a%64)).take q:=by
     have E6:(R.b.drop (a%64)).length=64 - a%64:=by rw[List.length_drop,hlen]
     by_cases E7:m≤64 - a%64
     ·rw[show q=m by omega]
     ·rw[List.take_of_length_le aa,List.take_of_length_le aa]
    rw[←hq,epart] at HE
    rw[e1,Int.toNat_natCast]
    have hdiv:a%64<64:=aa
    clear e1 hq epart A4 hlen
    generalize (R.b.drop (a%64)).take q=part at*
    generalize a%64=d at*
    have o:=aB J B2 (fun k hk hS=>by have:=(J.lt k hk).1;have:=C2 k hS;omega)
    have B3:=A1.row
    have C3:=A1.uA
    have B9:=A1.hlen
    have D2:=A1.wf
    have C0:=A8.trans B2
    have B5:IntKind.i64.wrap ((a:Int)+q)=(a:Int)+q:=IntWalk.i64_in _ aa
    have B6:IntKind.i64.wrap ((m:Int) - q)=(m:Int) - q:=IntWalk.i64_in _ aa
    have C1:=MI B9
    clear J A1 B9
    go_wp2_with (at_builtin;refine kD rfl _ _ 63 5 rfl Tryz.underlying63 infoByte rfl w.heap.size _ _ _ rfl o (xa.add d) q (bc - d) (part.map (Value.int .u8)) rfl B3 (lD _ _) ?_ ?_ ?_ ?_)
    ·omega
    ·unfold maxLen;omega
    ·exact C0.size
    ·intro v' w2 A0 A5 U
     have C4:ag A.S w w2:=C0.andThen A5 (fun i hi e=>by have:=(o.lt i e).1;omega)
     have D3:Hid (iH (A.own v') w2 n R.c):=by
      refine A3.setX B1.out.1 (A5.mono fun k _ e=>.inr e) (fun k hx=>?_)
      rcases hx with e | e
      ·exact⟨Nat.lt_of_lt_of_le (A3.away.2 k (.inl e)).1 A5.size,.inl (.inl e)⟩
      ·refine⟨(A0.lt k e).2,?_⟩
       rcases U with e2 | e2
       ·exact .inl (.inr (by rw[←e2];exact e))
       ·rw[e2] at e;cases e;exact .inr Me
     have D4:Hid (∀z ∈ out++part,(Lit.int .u8 z).wf=true):=fun z hz=>by
      rcases List.mem_append.1 hz with e | e
      ·exact B7 z e
      ·exact D2 z e
     have D5:Hid (w2.ownsRow w.heap.size 5 1 v' (out++part).length ((out++part).map (Value.int .u8))):=by
      rw[List.length_append,C1.out,List.map_append]
      exact A0
     have D6:Hid ((out++part).length+(m - q)≤60100):=by
      show _≤60100
      rw[List.length_append,C1.out];omega
     clear o A0 A5 U B3 C3 A3 A6
     go_wp2_with fail
     go_roundw
     case rel=>exact⟨j,R.c,a+q,m - q,out++part,aa,aa,aa,aD,aD,D5.out,D6.out,HE.out,D3.out,B1.out.1,hl.mono aa,D4.out,C4⟩
     case measure=>simp[intOf];omega
   ·have I:=B0.out
    rw[if_pos he] at I
    have E8:(R.e==0)=false:=by simpa using he
    rw[I] at hE
    have HE:=MI hE.out
    clear hE I
    go_wp2_with fail
    go_ret2
    rw[HE.out]
    exact⟨none,0,rfl,Me,A3.noOwn,Ints.nil _ _ _,fun x hx=>(by cases hx),A8.trans B2⟩
end Go.Proofs.YtnicjahcgnhogaaGreatDoor.Cch
namespace Go.Proofs.YtnicjahcgnhogaaGreatDoor
open Go Go.RowKit Go.Calli
attribute [local irreducible] wpStill wpAnyH wpAnyS wpList Code.wp
structure Fx where
 fb:Nat
 A:Cch.Ad
 n:Nat
 D:Bd
abbrev Own:=Nat→Nat
def Fx.ad(X:Fx)(σ:Own):Cch.Ad:={X.A with x:=fun k=>σ k≠0}
structure Fe where
 c:Cch.Ca
 fr:Int
 lo:Int
structure aN(X:Fx)(σ:Own)(w:World)(B:Bk)(K:Nat)(f:Fe):Prop where
 row:w.heap[X.fb]? =some (.cells #[.pointer (some ⟨X.A.cb,0,none⟩),.pointer (some ⟨X.D.bb,0,none⟩),.int .i64 f.fr,.int .i64 f.lo] 102 (0,0))
 ca:Cch.iH (X.ad σ) w X.n f.c
 bk:lJ X.D w B
 tb: ∀k,X.D.T k→σ k=1
 tf:σ X.fb=2
 n1:X.n≤1024
 cok:Cch.COk f.c
 lim:Cch.lN (96*K) f.c
 img:f.c.d.img=B.img
def FF(σ:Own)(k:Nat):Prop:=σ k=0∨σ k=2
theorem aN.tX{X:Fx}{σ:Own}{w:World}{B:Bk}{K:Nat}{f:Fe}(h:aN X σ w B K f): ∀k,σ k≠0→k<w.heap.size:=fun k hk=>(h.ca.away.2 k hk).1
theorem aN.s0{X:Fx}{σ:Own}{w:World}{B:Bk}{K:Nat}{f:Fe}(h:aN X σ w B K f): ∀k,X.A.S k→σ k=0:=fun k hk=>by
 apply Classical.byContradiction
 intro hn
 exact(h.ca.away.2 k hn).2.1 hk
theorem aN.kept{X:Fx}{σ:Own}{w w':World}{B:Bk}{K:Nat}{f:Fe}(h:aN X σ w B K f)(hk:ag (fun k=>3≤σ k) w w'):aN X σ w' B K f:=
 ⟨hk.heap h.row (by show ¬3≤σ X.fb;rw[h.tf];omega),h.ca.Gq (hk.mono fun k _ h=>by show σ k≠0;omega),h.bk.kept hk (fun k hT=>by rw[h.tb k hT];omega),h.tb,h.tf,h.n1,h.cok,h.lim,h.img⟩
theorem aN.aj{X:Fx}{σ:Own}{w w':World}{B:Bk}{K:Nat}{f:Fe}(h:aN X σ w B K f)(hb:Below w.heap.size w w'):aN X σ w' B K f:=h.kept (ag.au hb Me)
theorem aN.own{X:Fx}{σ σ':Own}{w w':World}{B:Bk}{K:Nat}{f:Fe}(h:aN X σ w B K f)(hk:ag (fun k=>3≤σ k) w w')(he: ∀k,k<w.heap.size→σ' k=σ k)(hs: ∀k,σ' k≠0→k<w'.heap.size):aN X σ' w' B K f:=by
 have h':=h.kept hk
 refine⟨h'.row,?_,h'.bk,fun k hT=>?_,?_,h.n1,h.cok,h.lim,h.img⟩
 ·exact h.ca.setX h.cok (hk.mono fun k _ h=>by show σ k≠0;omega) (fun k hx=>⟨hs k hx,by
   by_cases I:k<w.heap.size
   ·left;show σ k≠0;rw[←he k I];exact hx
   ·right;omega⟩)
 ·have:=h.tb k hT
  rw[he k (h.tX k aa)];exact this
 ·have:=h.tf
  rw[he _ (h.tX _ aa)];exact this
theorem kz{w:World}{b T:Nat}{u0 u1 u2 u3:Value}(h:w.heap[b]? =some (.cells #[u0,u1,u2,u3] T (0,0))):w.cell? ⟨b,0,none⟩=some u0∧w.cell? ⟨b,1,none⟩=some u1∧w.cell? ⟨b,2,none⟩=some u2∧w.cell? ⟨b,3,none⟩=some u3∧w.frozen? ⟨b,2,none⟩=false∧w.frozen? ⟨b,3,none⟩=false:=
 ⟨LY h rfl,LY h rfl,LY h rfl,LY h rfl,L6 h,L6 h⟩
section
variable (X:Fx) (σ:Own) (B:Bk) (K:Nat) (f:Fe) (w:World) (h:aN X σ w B K f)
include h
theorem pg:Calls Tryz.prog 70 #[.pointer (some ⟨X.fb,0,none⟩)] w (fun e w'=>e= .returned (.bool false)∧w=w'):=by
 obtain⟨c0,c1,c2,c3,f2,f3⟩:=kz h.row
 clear h
 go_enter Tryz.func70,Tryz.ntmps70
 go_wp2_with fail
 go_ret
 exact⟨rfl,rfl⟩
theorem jB:Calls Tryz.prog 32 #[.pointer (some ⟨X.fb,0,none⟩)] w (fun e w'=>e= .returned (.pointer (some ⟨X.D.bb,0,none⟩))∧w=w'):=by
 have hN:=pg X σ B K f w h
 obtain⟨c0,c1,c2,c3,f2,f3⟩:=kz h.row
 clear h
 go_enter Tryz.func32,Tryz.ntmps32
 go_wp2_with (go_at_call 70;refine hN.mono ?_;rintro e w' ⟨rfl,rfl⟩)
 go_ret
 exact⟨rfl,rfl⟩
theorem oJ:Calls Tryz.prog 36 #[.pointer (some ⟨X.fb,0,none⟩)] w (fun e w'=>e= .returned (.int .i64 f.fr)∧w=w'):=by
 have hN:=pg X σ B K f w h
 obtain⟨c0,c1,c2,c3,f2,f3⟩:=kz h.row
 clear h
 go_enter Tryz.func36,Tryz.ntmps36
 go_wp2_with (go_at_call 70;refine hN.mono ?_;rintro e w' ⟨rfl,rfl⟩)
 go_ret
 exact⟨rfl,rfl⟩
end
end Go.Proofs.YtnicjahcgnhogaaGreatDoor
namespace Go.Proofs.YtnicjahcgnhogaaGreatDoor
open Go Go.RowKit Go.Calli
attribute [local irreducible] wpStill wpAnyH wpAnyS wpList Code.wp
theorem aN.span{X:Fx}{σ:Own}{w w':World}{B:Bk}{K:Nat}{f:Fe}(h:aN X σ w B K f)(hk:ag (X.ad σ).S w w'){c:Cch.Ca}(I:Cch.iH (X.ad σ) w' X.n c)(hc:Cch.COk c)(hl:Cch.lN (96*(K+1)) c)(hi:c.d.img=B.img):aN X σ w' B (K+1) {f with c:=c}:=by
 exact⟨hk.heap h.row (fun e=>by have h3:=h.s0 _ e;rw[h.tf] at h3;cases h3),I,h.bk.kept hk (fun k hT e=>by have h3:=h.s0 k e;rw[h.tb k hT] at h3;cases h3),h.tb,h.tf,h.n1,hc,hl,hi⟩
theorem Ig: ∀(k:Nat)(c:Cch.Ca)(at_ n:Nat)(out:List Int),(at_+n:Int)≤9223372036854775807→Cch.COk c→n≤k→(Cch.fO k c at_ n out).e=0→(Cch.fO k c at_ n out).b.length=out.length+n:=by
 intro k
 induction k with
 | zero=>intro c at_ n out hb hc hn he;simp[Cch.fO];omega
 | succ k ih=>
  intro c at_ n out hb hc hn he
  have hp:=Cch.vH hc ((at_/64:Nat):Int) (WalkArith.wf_i64 aa)
  simp only[Cch.fO] at he⊢
  split at he
  ·rename_i h0
   rw[if_pos h0];simp;omega
  ·rename_i h0
   rw[if_neg h0]
   split at he
   ·rename_i h1;exact absurd he h1
   ·rename_i h1
    rw[if_neg h1]
    have I:(Cch.ed c ((at_/64:Nat):Int)).e=0:=by simpa using h1
    rw[ih _ _ _ _ aa hp.1 aa he,List.length_append,List.length_take,List.length_drop]
    have hl:=hp.2.1 I
    omega
def Ext(σ σ':Own)(n:Nat):Prop:=∀k,k<n→σ' k=σ k
theorem Ext.refl(σ:Own)(n:Nat):Ext σ σ n:=fun _ _=>rfl
theorem Ext.trans{a b c:Own}{n m:Nat}(h:Ext a b n)(k:Ext b c m)(hm:n≤m):Ext a c n:=fun i hi=>(k i aa).trans (h i hi)
def fU(σ:Own)(b t:Nat):Own:=fun k=>if k=b then t else σ k
theorem dN(σ:Own)(b t:Nat):fU σ b t b=t:=if_pos rfl
theorem jY(σ:Own){b k:Nat}(t:Nat)(h:k≠b):fU σ b t k=σ k:=if_neg h
theorem fA(σ:Own){b n:Nat}(t:Nat)(h:n≤b):Ext σ (fU σ b t) n:=fun k hk=>jY σ t aa
theorem aN.fU{X:Fx}{σ:Own}{w w':World}{B:Bk}{K:Nat}{f:Fe}(h:aN X σ w B K f)(hb:Below w.heap.size w w'){b:Nat}(t:Nat)(h0:w.heap.size≤b)(h1:b<w'.heap.size):aN X (fU σ b t) w' B K f:=
 h.own (ag.au hb Me) (fun k hk=>jY σ t aa) (fun k hk=>by
  by_cases e:k=b
  ·subst e;exact h1
  ·rw[jY σ t e] at hk;have:=h.tX k hk;have:=hb.size;omega)
theorem ag.ofFF{σ:Own}{w w':World}{b t:Nat}(h:ag (FF (fU σ b t)) w w')(ht:3≤t){w0:World}(hb:Below w0.heap.size w0 w)(h0:w0.heap.size≤b):ag (FF σ) w0 w':=
 (ag.au hb Me).andThen h (fun i hi e=>by
  unfold FF at e⊢
  rwa [jY σ t aa] at e)
def FopP(X:Fx)(σ:Own)(B:Bk)(K:Nat)(f:Fe)(m:Mt)(ch blk at_:Nat)(w:World)(e:Ending)(w':World):Prop:=∃(z:List Int)(ao:Option Addr)(mm c:Nat)(ts:List (Int×Int))(err:Int)(R:Cch.PR)(σ':Own),Cch.fO B.size f.c at_ B.size []=R∧e= .returned (.tuple #[.agg (frC z (.slice ao mm c)),.int .i64 err])∧z.length=28∧bP eY 2 (0,0) w' ao mm ts∧(∀a,ao=some a→w.heap.size≤a.block)∧ag (FF σ) w w'∧Ext σ σ' w.heap.size∧aN X σ' w' B (K+1) {f with c:=R.c}∧(R.e≠0→err≠0)∧(R.e=0→gm R.b=(bH B.img (m.sums+4*m.num ch blk) 4:Nat)→(frX R.b.length R.b).e=0→fQ (frX R.b.length R.b).z (frX R.b.length R.b).t=true→z=(frX R.b.length R.b).z∧ts=(frX R.b.length R.b).t∧err=0)
theorem Jk(X:Fx)(σ:Own)(B:Bk)(K:Nat)(hK:K≤500000)(f:Fe)(i ch blk:Nat)(hi:i<B.dir.length)(hc:ch<(B.dir.getD i m0).ch)(hb:blk<aO (B.dir.getD i m0).len)(at_:Nat)(E6:at_+B.size≤B.img.length)(w:World)(h:aN X σ w B K f):Calls Tryz.prog 252 #[.pointer (some ⟨X.fb,0,none⟩),.int .i64 i,.int .i64 ch,.int .i64 blk,.int .i64 at_] w (FopP X σ B K f (B.dir.getD i m0) ch blk at_ w):=by
 have A5:=ae w (.cells F0 196)
 have hz:=L9 w (.cells F0 196)
 have h1:=h.fU A5 (b:=w.heap.size) 3 Me ar
 have HE:=MI (fA σ (b:=w.heap.size) 3 Me)
 have HA:=MI A5
 have HZ:=MI hz
 have B5:(Tryz.prog.info? 196).map (·.size)=some F0.size:=af
 have C7:Tryz.prog.built 196 []=some F0:=af
 have C8:(zz [] [] [] []).length=28:=af
 have C9:F0.all (·.oneCell')=true:=dH _ none 0 0
 have E7:=h.bk.ok.s0;have E8:=h.bk.ok.s1;have E9:=h.bk.ok.i1
 have J:=h.img
 have o:=MI (fun bo n cap bs (hn:n≤1000) w D0 A0 (h:lJ X.D w B)=>open_any X.D B i ch blk hi hc hb bo n cap bs hn w D0 A0 h)
 unfold O3 at o
 generalize B.dir.getD i m0=m at*
 have D1:(B.img.length:Int)≤(f.c.d.pages:Int)*64:=by unfold Dskp.Dk.pages;rw[J];omega
 have C6:¬(X.ad (fU σ w.heap.size 3)).S w.heap.size:=fun e=>by have:=h1.s0 _ e;rw[dN] at this;cases this
 have B6:=dN σ w.heap.size 3
 have D2:=MI (fun w1 w2 (h:ag (FF (fU σ w.heap.size 3)) w1 w2)(hb:Below w.heap.size w w1)=>ag.ofFF h aa hb Me)
 generalize fU σ w.heap.size 3=τ at*
 have hlen:f.c.d.img.length=B.img.length:=by rw[J]
 have A6:=MI (fun w h=>Cch.Ie (X.ad τ) X.n h1.n1 f.c (96*K) aa h1.cok h1.lim aa at_ B.size aa aa w h)
 have D3:=Cch.KT B.size f.c at_ B.size [] (96*K) aa h1.cok h1.lim
 unfold Cch.O9 at A6
 have A7:=Ig B.size f.c at_ B.size [] aa h1.cok Me
 generalize B7:Cch.fO B.size f.c at_ B.size []=R at*
 obtain⟨s1,s2,s3,s4,s5⟩:=D3
 have D4:=MI (s2.mono (show 96*K+B.size≤96*(K+1) by omega))
 have D5:=MI s1
 have D6:=MI (s4.trans J)
 have HH:=MI h1
 have D7:=MI (fun w h=>yH (yO X.D B w h))
 obtain⟨c0,c1,c2,c3,f2,f3⟩:=kz h1.row
 have B8:=MI B7
 have HT:=MI B6
 clear h h1 A5 hz hlen D1 s1 s2 s3 s4 s5 J B7 B6
 go_enter Tryz.func252,Tryz.ntmps252
 go_upto_region 1 with fail
 rw[←wY]
 have D8:w.heap.size<(w.alloc (.cells F0 196)).heap.size:=ar
 generalize w.alloc (.cells F0 196)=W at*
 have B9:Below W.heap.size W W.drew:=MB.drew
 have A1:=MI (HH.out.aj B9)
 clear B9
 go_region_with (first
  | (go_at_call 78;refine(D7.out _ A1.out.bk).mono ?_;rintro e w' ⟨rfl,rfl⟩)
  | (go_at_call 259;refine(A6.out _ A1.out.ca).mono ?_;rintro e w1 ⟨ro,rc,rfl,hrc,A8,hint,A9,A2⟩))
 all_goals (have B0:=ag.au (S:=(X.ad τ).S) (show Below W.heap.size W W.drew from MB.drew) Me)
 all_goals (have D9:=MI ((B0.trans A2).mono (S':=FF τ) (fun k _ e=>.inl (HH.out.s0 k e))))
 all_goals (have A3:=MI (A1.out.span A2 A8 D5.out D4.out D6.out))
 all_goals (have U:=A2.heap (show W.drew.heap[w.heap.size]? =_ from HZ.out) C6)
 all_goals (have B1:=L8 U)
 all_goals (obtain⟨c0,c1,c2,c3,f2,f3⟩:=kz A3.out.row)
 all_goals (have B2:=MI hint)
 all_goals (have C0:=MI (D2.out _ _ D9.out HA.out))
 all_goals (have F1: ∀a,ro=some a→w.heap.size<a.block:=fun a ha=>Nat.lt_of_lt_of_le D8 (A9 a ha))
 all_goals (clear A2 B0 A8 HH A1 HZ A6 hint A9)
 all_goals
  by_cases I:R.e=0
  ·have B3:=A7 I
   have E0:=MI I
   simp only[List.length_nil,Nat.zero_add] at B3
   have A0: ∀a,ro=some a→a.block<w1.heap.size:=B2.out.under aa
   have E1:=MI (o.out ro R.b.length rc R.b aa w1 B2.out A0 A3.out.bk)
   clear B3 A7 o B2 A0
   go_wp2_with (first
    | (go_at_call 260;refine E1.out.mono ?_;rintro e w2 ⟨j,z,ao,mm,c,ts,err,rfl,B4,hT,C1,A4⟩;have C2:=cZ U j B1;have E2:=MI hT;have C3:=MI C1;have F2:=Nat.lt_of_lt_of_le B1 j.size;have HG:=MI A4;have E3:=MI (A3.out.aj j);have E4:=MI (C0.out.below j (Nat.le_of_lt B1));have C4:(Tryz.prog.info? 196).map (·.size)=some (frC z (.slice ao mm c)).size:=(by rw[bM _ _ B4];kernel_rfl);have E5:F0.size=(frC z (.slice ao mm c)).size:=(by rw[bM _ _ B4];kernel_rfl);clear A4 hT j U C1)
    | (with_reducible refine MF 196 10 41 ?_;refine wpList_store_row rfl 196 (.tmp 10) (.tmp 41) rfl _ (frC z (.slice ao mm c)) rfl rfl 196 F0 C2 C4 E5 (dH _ _ _ _) ?_))
   exact bodyPost_ret (results_cell_tmp (fn:=Tryz.f252) (p:=10) (q:=11) (ty:=196) rfl _ _ _ _ _ _ _ rfl (setRow_heap _ _ _ _ _ _ C2) Tryz.underlying196 rfl C4) rfl ⟨z,ao,mm,c,ts,err,R,τ,B8.out,rfl,B4,E2.out.kept (aK _ _ _) (fun a ha e=>by have:=C3.out a ha;omega),(fun a ha=>by have:=C3.out a ha;omega),E4.out.andThen (aK _ _ _) (fun i hi e=>aa),HE.out,E3.out.kept ((aK _ _ _).mono (fun k _ e=>by rw[e];exact Nat.le_of_eq HT.out.symm)),fun h=>absurd E0.out h,fun _ h1 h2 h3=>HG.out h1 h2 h3⟩
  ·have q1:(R.e==0)=false:=by simpa using I
   have q2:(R.e !=0)=true:=by simpa using I
   have C5:=MI I
   clear I A7 o
   go_wp2_with (first
    | (refine bf rfl 196 #[] rfl [] ?hl F0 C7 ?_)
    | (with_reducible refine MF 196 10 30 ?_;refine wpList_store_row rfl 196 (.tmp 10) (.tmp 30) rfl _ F0 rfl rfl 196 F0 U B5 rfl C9 ?_))
   exact bodyPost_ret (results_cell_tmp (fn:=Tryz.f252) (p:=10) (q:=11) (ty:=196) rfl _ _ _ _ _ _ _ rfl (setRow_heap _ _ _ _ _ _ U) Tryz.underlying196 rfl B5) rfl ⟨zz [] [] [] [],none,0,0,[],R.e,R,τ,B8.out,rfl,C8,bP.nil _ _ _ _ _,(fun a ha=>by cases ha),C0.out.andThen (aK _ _ _) (fun i hi e=>aa),HE.out,A3.out.kept ((aK _ _ _).mono (fun k _ e=>by rw[e];exact Nat.le_of_eq HT.out.symm)),fun _=>C5.out,fun h=>absurd h C5.out⟩
structure FeB(K:Nat)(f:Fe):Prop where
 f0:0≤f.fr
 f1:f.fr≤K
 l0:0≤f.lo
 l1:f.lo≤K
theorem aA(w:World)(b o:Nat)(v:Value):ag (fun k=>k=b) w (w.setCell ⟨b,o,none⟩ v):=(ag.refl (fun k=>k=b) w).setCell (p:=⟨b,o,none⟩) (.inr rfl) v
theorem aN.setFr{X:Fx}{σ:Own}{w:World}{B:Bk}{K:Nat}{f:Fe}(h:aN X σ w B K f)(x:Int):aN X σ (w.setCell ⟨X.fb,2,none⟩ (.int .i64 x)) B K {f with fr:=x}:=by
 have hk:ag (fun k=>k=X.fb) w (w.setCell ⟨X.fb,2,none⟩ (.int .i64 x)):=aA w X.fb 2 _
 exact⟨Mc h.row,h.ca.Gq (hk.mono fun k _ e=>by subst e;show σ X.fb≠0;rw[h.tf];omega),h.bk.kept hk (fun k hT e=>by have:=h.tb k hT;rw[e,h.tf] at this;cases this),h.tb,h.tf,h.n1,h.cok,h.lim,h.img⟩
theorem aN.AY{X:Fx}{σ:Own}{w:World}{B:Bk}{K:Nat}{f:Fe}(h:aN X σ w B K f)(x:Int):aN X σ (w.setCell ⟨X.fb,3,none⟩ (.int .i64 x)) B K {f with lo:=x}:=by
 have hk:ag (fun k=>k=X.fb) w (w.setCell ⟨X.fb,3,none⟩ (.int .i64 x)):=aA w X.fb 3 _
 exact⟨Mc h.row,h.ca.Gq (hk.mono fun k _ e=>by subst e;show σ X.fb≠0;rw[h.tf];omega),h.bk.kept hk (fun k hT e=>by have:=h.tb k hT;rw[e,h.tf] at this;cases this),h.tb,h.tf,h.n1,h.cok,h.lim,h.img⟩
def FrameP(X:Fx)(σ:Own)(B:Bk)(K:Nat)(f:Fe)(m:Mt)(ch blk:Nat)(w:World)(e:Ending)(w':World):Prop:=∃(z:List Int)(ao:Option Addr)(mm c:Nat)(ts:List (Int×Int))(err:Int)(R:Cch.PR)(σ':Own)(f':Fe),Cch.fO B.size f.c (m.first+m.num ch blk*B.size) B.size []=R∧e= .returned (.tuple #[.agg (frC z (.slice ao mm c)),.int .i64 err])∧z.length=28∧bP eY 2 (0,0) w' ao mm ts∧(∀a,ao=some a→w.heap.size≤a.block)∧ag (FF σ) w w'∧Ext σ σ' w.heap.size∧aN X σ' w' B (K+1) f'∧FeB (K+1) f'∧f'.c=R.c∧f'.fr=f.fr+1∧(R.e≠0→err≠0)∧(R.e=0→gm R.b=(bH B.img (m.sums+4*m.num ch blk) 4:Nat)→(frX R.b.length R.b).e=0→fQ (frX R.b.length R.b).z (frX R.b.length R.b).t=true→z=(frX R.b.length R.b).z∧ts=(frX R.b.length R.b).t∧err=0)
theorem yG(X:Fx)(σ:Own)(B:Bk)(K:Nat)(hK:K≤500000)(f:Fe)(hf:FeB K f)(i ch blk:Nat)(hi:i<B.dir.length)(hc:ch<(B.dir.getD i m0).ch)(hb:blk<aO (B.dir.getD i m0).len)(w:World)(h:aN X σ w B K f):Calls Tryz.prog 237 #[.pointer (some ⟨X.fb,0,none⟩),.int .i64 i,.int .i64 ch,.int .i64 blk] w (FrameP X σ B K f (B.dir.getD i m0) ch blk w):=by
 have A4:=ae w (.cells F0 196)
 have hz:=L9 w (.cells F0 196)
 have h1:=h.fU A4 (b:=w.heap.size) 3 Me ar
 have HE:=MI (fA σ (b:=w.heap.size) 3 Me)
 have HA:=MI A4
 have HZ:=MI hz
 have E4:(Tryz.prog.info? 196).map (·.size)=some F0.size:=af
 have E5:Tryz.prog.built 196 []=some F0:=af
 have D7:=h.bk.ok.f i hi
 have B7:=MP hc hb
 have D8:(B.dir.getD i m0).first+(B.dir.getD i m0).num ch blk*B.size+B.size≤B.img.length:=by
  have:((B.dir.getD i m0).num ch blk+1)*B.size≤(aO (B.dir.getD i m0).len*(B.dir.getD i m0).ch)*B.size:=Nat.mul_le_mul_right _ B7
  rw[Nat.succ_mul,Nat.mul_comm (aO (B.dir.getD i m0).len*(B.dir.getD i m0).ch)] at this
  omega
 have HW:=MI (fun w h=>xI X.D B i ch blk hi hc hb w h)
 have HN:=MI (fun w h=>pg X (fU σ w.heap.size 3) B K f w h)
 have f0:=hf.f0;have f1:=hf.f1;have l0:=hf.l0;have l1:=hf.l1
 have B8:=h.tf
 have E6:=h.tX X.fb aa
 have B9:=MI (fun τ f' w h=>Jk X τ B K hK f' i ch blk hi hc hb _ D8 w h)
 unfold WhP at HW
 generalize B.dir.getD i m0=m at*
 have E7:=MI (fun w1 w2 (h:ag (FF (fU σ w.heap.size 3)) w1 w2)(hb:Below w.heap.size w w1)=>ag.ofFF h aa hb Me)
 have C0:=MI (dN σ w.heap.size 3)
 generalize fU σ w.heap.size 3=τ at*
 have HH:=MI h1
 have C1:=MI (pg X τ B K f _ h1)
 have e1:IntKind.i64.wrap (f.fr+1)=f.fr+1:=IntWalk.i64_in _ aa
 have e2:IntKind.i64.wrap (f.lo+1)=f.lo+1:=IntWalk.i64_in _ aa
 obtain⟨c0,c1,c2,c3,f2,f3⟩:=kz h1.row
 clear h h1 A4 hz hi hc hb D7 B7
 generalize C2:m.first+m.num ch blk*B.size=A at*
 have C3:=MI C2
 clear C2
 go_enter Tryz.func237,Tryz.ntmps237
 go_upto_region 1 with fail
 rw[←wY]
 have E8:w.heap.size<(w.alloc (.cells F0 196)).heap.size:=ar
 generalize w.alloc (.cells F0 196)=W at*
 go_upto_region 6 with(first
  | (go_at_call 70;refine C1.out.mono ?_;rintro e w' ⟨rfl,rfl⟩)
  | (go_at_call 251;refine(HW.out _ HH.out.bk).mono ?_;rintro e w1 ⟨rfl,j⟩))
 clear c0 c1 c2 c3 f2 f3
 have A5:=HH.out.aj j
 have C4:=MI (A5.setFr (f.fr+1))
 have A6:=cZ HZ.out j (L8 HZ.out)
 have D9:=L8 A6
 have C5:=MI (HA.out.trans (j.mono HA.out.size))
 obtain⟨c0,c1,c2,c3,f2,f3⟩:=kz A5.row
 go_upto_region 7 with fail
 have C6:ag (FF σ) w (w1.setCell ⟨X.fb,2,none⟩ (.int .i64 (f.fr+1))):=(ag.au C5.out Me).setCell (p:=⟨X.fb,2,none⟩) (.inr (.inr B8)) _
 have C7:=MI C6
 have A7:=(heap_setCell_other w1 ⟨X.fb,2,none⟩ w.heap.size (.int .i64 (f.fr+1)) (by show w.heap.size≠X.fb;omega)).trans A6
 clear c0 c1 c2 c3 f2 f3 A5 A6 j HH C1 HZ D9 C6
 generalize w1.setCell ⟨X.fb,2,none⟩ (.int .i64 (f.fr+1))=W2 at*
 have A8:=L8 A7
 have C8:=MI (B9.out τ _ W2 C4.out)
 clear B9
 go_upto_region 8 with(first
  | (go_at_call 252;refine C8.out.mono ?_;rintro e w3 ⟨z,ao,mm,c,ts,err,R,σ',hR,rfl,I,hT,A9,B0,B1,o,C9,A0⟩)
  | (with_reducible refine MF 196 13 47 ?_;rw[←wY];refine wpList_store_row rfl 196 (.tmp 13) (.tmp 47) rfl _ (frC z (.slice ao mm c)) rfl rfl 196 F0 (L9 _ _) (kW _ _ I) (by rw[bM _ _ I];kernel_rfl) (dH _ _ _ _) ?_))
 have B2:=B0.heap A7 (fun e=>by unfold FF at e;rw[C0.out] at e;omega)
 have D0:=L8 B2
 have A1:=below_setRow (ae w3 (.cells F0 196)) Me (frC z (.slice ao mm c))
 have A2:=(A1.block _ D0).trans B2
 have B3:=Md (frC z (.slice ao mm c)) (L9 w3 (.cells F0 196))
 have A3:=MI (o.aj A1)
 have B4:=MI (hT.aj A1)
 have B5:=MI ((C7.out.andThen B0 (fun i hi e=>by unfold FF at e⊢;rwa [HE.out i hi] at e)).below A1 (Nat.le_of_lt D0))
 have D1:=MI (HE.out.trans B1 (Nat.le_of_lt A8))
 have D2:=MI ((B1 _ A8).trans C0.out)
 have U:=MI (fun a ha=>Nat.le_trans (Nat.le_of_lt A8) (A9 a ha))
 have B6: ∀a,ao=some a→a.block≠w.heap.size:=fun a ha=>by have:=A9 a ha;omega
 have J:=kW z (.slice ao mm c) I
 have D3:F0.size=(frC z (.slice ao mm c)).size:=by rw[bM _ _ I];kernel_rfl
 have hsb:=o.tX X.fb (by rw[o.tf];omega)
 have HG:=MI A0
 have HR:=MI hR
 have D4:=MI C9
 clear B2 A7 C7 B0 o hT A9 A0 hR C9 B1 C8 C4 C5
 change Code.wp _ _ _ _ ((w3.alloc (.cells F0 196)).setRow w3.heap.size (frC z (.slice ao mm c)))
 generalize (w3.alloc (.cells F0 196)).setRow w3.heap.size (frC z (.slice ao mm c))=W4 at*
 generalize w3.heap.size=gb at*
 obtain⟨c0,c1,c2,c3,f2,f3⟩:=kz A3.out.row
 by_cases he:err=0
 ·subst he
  go_wp2_with (first
   | (with_reducible refine MC 196 13 ?_;refine wpList_load_row rfl 196 (.tmp 13) rfl _ rfl 196 (frC z (.slice ao mm c)) (0,0) _ B3 Tryz.underlying196 rfl J ?_)
   | (with_reducible refine MF 196 8 58 ?_;refine wpList_store_row rfl 196 (.tmp 8) (.tmp 58) rfl _ (frC z (.slice ao mm c)) rfl rfl 196 F0 A2 J D3 (dH _ _ _ _) ?_))
  exact bodyPost_ret (results_cell_tmp (fn:=Tryz.f237) (p:=8) (q:=9) (ty:=196) rfl _ _ _ _ _ _ _ rfl (setRow_heap _ _ _ _ _ _ A2) Tryz.underlying196 rfl J) rfl ⟨z,ao,mm,c,ts,0,R,σ',_,(by rw[C3.out];exact HR.out),rfl,I,B4.out.kept (aK _ _ _) (fun a ha=>B6 a ha),(fun a ha=>U.out a ha),B5.out.andThen (aK _ _ _) (fun i hi e=>aa),D1.out,A3.out.kept ((aK _ _ _).mono (fun k _ e=>by rw[e];exact Nat.le_of_eq D2.out.symm)),⟨by show 0≤f.fr+1;omega,by show f.fr+1≤_;omega,l0,by show f.lo≤_;omega⟩,rfl,rfl,fun h=>D4.out h,fun h0 h1 h2 h3=>⟨(HG.out h0 h1 h2 h3).1,(HG.out h0 h1 h2 h3).2.1,rfl⟩⟩
 ·have q1:(err==0)=false:=by simpa using he
  have q2:(err !=0)=true:=by simpa using he
  clear he
  go_upto_region 10 with fail
  have E0:=MI (A3.out.AY (f.lo+1))
  have D6:gb≠X.fb:=aa
  have D5:=(heap_setCell_other W4 ⟨X.fb,3,none⟩ w.heap.size (.int .i64 (f.lo+1)) (by show w.heap.size≠X.fb;omega)).trans A2
  have E1:=(heap_setCell_other W4 ⟨X.fb,3,none⟩ gb (.int .i64 (f.lo+1)) D6).trans B3
  have E2:=MI (B5.out.setCell (p:=⟨X.fb,3,none⟩) (.inr (.inr B8)) (.int .i64 (f.lo+1)))
  have E3:=MI (B4.out.kept (aA W4 X.fb 3 (.int .i64 (f.lo+1))) (fun a ha e=>by have:=U.out a ha;omega))
  clear A2 B3 A3 B5 B4 c0 c1 c2 c3 f2 f3
  generalize W4.setCell ⟨X.fb,3,none⟩ (.int .i64 (f.lo+1))=W5 at*
  go_wp2_with (first
   | (with_reducible refine MC 196 13 ?_;refine wpList_load_row rfl 196 (.tmp 13) rfl _ rfl 196 (frC z (.slice ao mm c)) (0,0) _ E1 Tryz.underlying196 rfl J ?_)
   | (with_reducible refine MF 196 8 58 ?_;refine wpList_store_row rfl 196 (.tmp 8) (.tmp 58) rfl _ (frC z (.slice ao mm c)) rfl rfl 196 F0 D5 J D3 (dH _ _ _ _) ?_))
  exact bodyPost_ret (results_cell_tmp (fn:=Tryz.f237) (p:=8) (q:=9) (ty:=196) rfl _ _ _ _ _ _ _ rfl (setRow_heap _ _ _ _ _ _ D5) Tryz.underlying196 rfl J) rfl ⟨z,ao,mm,c,ts,err,R,σ',_,(by rw[C3.out];exact HR.out),rfl,I,E3.out.kept (aK _ _ _) (fun a ha=>B6 a ha),(fun a ha=>U.out a ha),E2.out.andThen (aK _ _ _) (fun i hi e=>aa),D1.out,E0.out.kept ((aK _ _ _).mono (fun k _ e=>by rw[e];exact Nat.le_of_eq D2.out.symm)),⟨by show 0≤f.fr+1;omega,by show f.fr+1≤_;omega,by show 0≤f.lo+1;omega,by show f.lo+1≤_;omega⟩,rfl,rfl,fun h=>D4.out h,fun h0 h1 h2 h3=>HG.out h0 h1 h2 h3⟩
structure Kb where
 n:Nat
 wv:List Int
 g:List Int
def kbL(b:Kb):List Int:=(b.n:Int)::(b.wv++b.g)
def kbV(b:Kb):List Value:=iL (kbL b)
def kb0:Kb:=⟨0,[],[]⟩
structure Kb.Ok(b:Kb):Prop where
 w:b.wv.length=16
 g:b.g.length=4
theorem jZ{b:Kb}(h:b.Ok):(kbV b).length=21:=by simp[kbV,kbL,iL,h.w,h.g]
structure Ku where
 p:List Int
 k:Int
 kept:List Kb
 lost:List Int
 fr:Int
structure Kx where
 cb:Nat
 t:Nat
 i:Nat
 ch:Nat
 len:Nat
def eP(fb:Nat)(C:Kx)(kv lv:Value)(fr:Int):List Value:=iL dm++[.pointer (some ⟨fb,0,none⟩),.int .i64 C.i,.int .i64 C.ch,.int .i64 C.len,kv,lv,.int .i64 fr]
structure dO(fb:Nat)(C:Kx)(σ:Own)(w:World)(kv lv:Value)(u:Ku):Prop where
 row:w.heap[C.cb]? =some (.cells (iL u.p++ .int .i64 u.k::eP fb C kv lv u.fr).toArray 210 (0,0))
 p:u.p.length=20
 own:σ C.cb=C.t
 t3:10≤C.t
 kept:w.ownsRow 0 316 21 kv u.kept.length (u.kept.flatMap kbV)
 lost:w.ownsRow 0 3 1 lv u.lost.length (iL u.lost)
 ok: ∀b ∈ u.kept,b.Ok
 k4:u.kept.length≤4
 ko: ∀k,kv.ownBlock=some k→σ k=C.t
 lo: ∀k,lv.ownBlock=some k→σ k=C.t
theorem gX{w:World}{B e size n:Nat}{v:Value}{xs:List Value}(h:w.ownsRow B e size v n xs){k:Nat}(hk:v.ownBlock=some k):k<w.heap.size:=(h.lt k hk).2
theorem dO.ext{fb:Nat}{C:Kx}{σ σ':Own}{w:World}{kv lv:Value}{u:Ku}(h:dO fb C σ w kv lv u)(he:Ext σ σ' w.heap.size):dO fb C σ' w kv lv u:=
 ⟨h.row,h.p,(he _ (L8 h.row)).trans h.own,h.t3,h.kept,h.lost,h.ok,h.k4,fun k hk=>(he _ (gX h.kept hk)).trans (h.ko k hk),fun k hk=>(he _ (gX h.lost hk)).trans (h.lo k hk)⟩
theorem dO.keep{fb:Nat}{C:Kx}{σ:Own}{w w':World}{kv lv:Value}{u:Ku}(h:dO fb C σ w kv lv u){S:Nat→Prop}(hk:ag S w w')(hS: ∀k,S k→k<w.heap.size→σ k≠C.t):dO fb C σ w' kv lv u:=
 ⟨hk.heap h.row (fun e=>hS _ e (L8 h.row) h.own),h.p,h.own,h.t3,aB h.kept hk (fun k e hs=>hS k hs (gX h.kept e) (h.ko k e)),aB h.lost hk (fun k e hs=>hS k hs (gX h.lost e) (h.lo k e)),h.ok,h.k4,h.ko,h.lo⟩
theorem dO.aj{fb:Nat}{C:Kx}{σ:Own}{w w':World}{kv lv:Value}{u:Ku}(h:dO fb C σ w kv lv u)(hb:Below w.heap.size w w'):dO fb C σ w' kv lv u:=h.keep (S:=fun _=>False) (ag.au hb Me) (fun _ e=>e.elim)
theorem vU:dm.length=32:=af
theorem qX{fb:Nat}{C:Kx}{w:World}{kv lv:Value}{p:List Int}{k fr:Int}(hp:p.length=20)(h:w.heap[C.cb]? =some (.cells (iL p++ .int .i64 k::eP fb C kv lv fr).toArray 210 (0,0)))(j:Nat){v:Value}(hv:[Value.pointer (some ⟨fb,0,none⟩),.int .i64 C.i,.int .i64 C.ch,.int .i64 C.len,kv,lv,.int .i64 fr][j]? =some v):w.cell? ⟨C.cb,53+j,none⟩=some v:=by
 refine rU h _ ?_
 unfold eP
 rw[List.getElem?_append_right (by rw[bU];omega),bU,hp,show 53+j - 20=(32+j)+1 by omega,List.getElem?_cons_succ,List.getElem?_append_right (by rw[bU,vU];omega),bU,vU,show 32+j - 32=j by omega]
 exact hv
theorem gK{fb:Nat}{C:Kx}{w:World}{kv lv:Value}{p:List Int}{k fr:Int}(hp:p.length=20)(h:w.heap[C.cb]? =some (.cells (iL p++ .int .i64 k::eP fb C kv lv fr).toArray 210 (0,0))):
  w.cell? ⟨C.cb,53,none⟩=some (.pointer (some ⟨fb,0,none⟩))∧w.cell? ⟨C.cb,54,none⟩=some (.int .i64 C.i)∧w.cell? ⟨C.cb,55,none⟩=some (.int .i64 C.ch)∧w.cell? ⟨C.cb,56,none⟩=some (.int .i64 C.len)∧w.cell? ⟨C.cb,57,none⟩=some kv∧w.cell? ⟨C.cb,58,none⟩=some lv∧w.cell? ⟨C.cb,59,none⟩=some (.int .i64 fr)∧w.frozen? ⟨C.cb,57,none⟩=false∧w.frozen? ⟨C.cb,58,none⟩=false∧w.frozen? ⟨C.cb,59,none⟩=false:=
 ⟨qX hp h 0 rfl,qX hp h 1 rfl,qX hp h 2 rfl,qX hp h 3 rfl,qX hp h 4 rfl,qX hp h 5 rfl,qX hp h 6 rfl,L6 h,L6 h,L6 h⟩
theorem Ag{fb:Nat}{C:Kx}{w:World}{kv lv:Value}{p:List Int}{k fr:Int}(hp:p.length=20)(h:w.heap[C.cb]? =some (.cells (iL p++ .int .i64 k::eP fb C kv lv fr).toArray 210 (0,0))):
  (∀v,(w.setCell ⟨C.cb,57,none⟩ v).heap[C.cb]? =some (.cells (iL p++ .int .i64 k::eP fb C v lv fr).toArray 210 (0,0)))∧(∀v,(w.setCell ⟨C.cb,58,none⟩ v).heap[C.cb]? =some (.cells (iL p++ .int .i64 k::eP fb C kv v fr).toArray 210 (0,0)))∧∀x:Int,(w.setCell ⟨C.cb,59,none⟩ (.int .i64 x)).heap[C.cb]? =some (.cells (iL p++ .int .i64 k::eP fb C kv lv x).toArray 210 (0,0)):=by
 have hl:(iL p).length=20:=by rw[bU,hp]
 have I:(iL dm).length=32:=by rw[bU,vU]
 have key: ∀(pre post:List Value)(u v:Value)(n:Nat),pre.length=n→iL p++ .int .i64 k::eP fb C kv lv fr=pre++u::post→(w.setCell ⟨C.cb,n,none⟩ v).heap[C.cb]? =some (.cells (pre++v::post).toArray 210 (0,0)):=fun pre post u v n hn e=>by
  subst hn
  exact jy pre post u v (by rw[←e];exact h)
 refine⟨fun v=>?_,fun v=>?_,fun x=>?_⟩
 ·have:=key (iL p++ .int .i64 k::(iL dm++[.pointer (some ⟨fb,0,none⟩),.int .i64 C.i,.int .i64 C.ch,.int .i64 C.len])) [lv,.int .i64 fr] kv v 57 (by simp[hl,I]) (by simp[eP])
  rw[this];simp[eP]
 ·have:=key (iL p++ .int .i64 k::(iL dm++[.pointer (some ⟨fb,0,none⟩),.int .i64 C.i,.int .i64 C.ch,.int .i64 C.len,kv])) [.int .i64 fr] lv v 58 (by simp[hl,I]) (by simp[eP])
  rw[this];simp[eP]
 ·have:=key (iL p++ .int .i64 k::(iL dm++[.pointer (some ⟨fb,0,none⟩),.int .i64 C.i,.int .i64 C.ch,.int .i64 C.len,kv,lv])) [] (.int .i64 fr) (.int .i64 x) 59 (by simp[hl,I]) (by simp[eP])
  rw[this];simp[eP]
theorem tH(fb:Nat)(C:Kx)(σ:Own)(kv lv:Value)(u:Ku)(w:World)(h:dO fb C σ w kv lv u):Calls Tryz.prog 140 #[.pointer (some ⟨C.cb,0,none⟩)] w (fun e w'=>e= .returned (.bool false)∧w=w'):=by
 obtain⟨c53,c54,c55,c56,c57,c58,c59,f57,f58,f59⟩:=gK h.p h.row
 clear h
 go_enter Tryz.func140,Tryz.ntmps140
 go_wp2_with fail
 go_ret
 exact⟨rfl,rfl⟩
def O8(fb:Nat)(C:Kx)(σ:Own)(kv:Value)(u:Ku)(w:World)(e:Ending)(w':World):Prop:=∃lo lc,e= .returned (.slice lo u.lost.length lc)∧Ints .i64 w' lo u.lost.length u.lost∧(∀a,lo=some a→σ a.block=C.t)∧dO fb C σ w' kv (.slice none 0 0) {u with lost:=[]}∧ag (fun k=>k=C.cb) w w'
theorem BI(fb:Nat)(C:Kx)(σ:Own)(kv lv:Value)(u:Ku)(U: ∀z ∈ u.lost,(Lit.int .i64 z).wf=true)(w:World)(h:dO fb C σ w kv lv u):Calls Tryz.prog 110 #[.pointer (some ⟨C.cb,0,none⟩)] w (O8 fb C σ kv u w):=by
 obtain⟨c53,c54,c55,c56,c57,c58,c59,f57,f58,f59⟩:=gK h.p h.row
 have hN:=tH fb C σ kv lv u w h
 have HH:=MI h
 obtain⟨lo,lc,j,A1,J,o,A0,R⟩:=mZ h.lost
 subst j
 have HI:Hid (Ints .i64 (w.setCell ⟨C.cb,58,none⟩ (.slice none 0 0)) lo u.lost.length u.lost):=by
  have hk:ag (fun k=>k=C.cb) w (w.setCell ⟨C.cb,58,none⟩ (.slice none 0 0)):=aA w C.cb 58 _
  refine⟨rfl,o,fun i hi=>?_,U⟩
  obtain⟨a,ha,hc⟩:=J.cell i (.int .i64 (u.lost.getD i 0)) (by simp[iL,hi])
  refine⟨a,ha,hk.cell hc ?_⟩
  rw[Addr.add_block]
  intro e
  obtain⟨cs,I⟩:=(R a ha).2
  rw[e,HH.out.row] at I
  cases I
 clear h J A0 R
 have HR:=MI ((Ag HH.out.p HH.out.row).2.1 (.slice none 0 0))
 have HK:=MI (aA w C.cb 58 (.slice none 0 0))
 have HF:=MI (aB (S:=fun k=>k=C.cb) HH.out.kept HK.out (fun k e hs=>by
  obtain⟨cs,I⟩:=ah HH.out.kept e
  rw[hs,HH.out.row] at I
  cases I))
 go_enter Tryz.func110,Tryz.ntmps110
 go_wp2_with (go_at_call 140;refine hN.mono ?_;rintro e w' ⟨rfl,rfl⟩)
 go_ret
 exact⟨lo,lc,rfl,HI.out,(fun a ha=>HH.out.lo a.block (by rw[ha];rfl)),⟨HR.out,HH.out.p,HH.out.own,HH.out.t3,HF.out,World.ownsRow_nil _ _ _ _,HH.out.ok,HH.out.k4,HH.out.ko,fun k hk=>by cases hk⟩,HK.out⟩
end Go.Proofs.YtnicjahcgnhogaaGreatDoor
