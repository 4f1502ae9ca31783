/- Part 16 of the walk: contracts of the program's functions, each for every input. No condition. -/
import Derived.Test.YtnicjahcgnhogaaGreatDoorQ14
import Derived.StillTailTactics
set_option linter.unusedVariables false
set_option linter.unusedSimpArgs false
set_option maxRecDepth 100000
set_option maxHeartbeats 8000000
namespace Go.Proofs.YtnicjahcgnhogaaGreatDoor
open Go Go.RowKit Go.Calli
attribute [local irreducible] wpStill wpAnyH wpAnyS wpList Code.wp
def Hz(B:Bk)(m:Mt)(ch:Nat):Fe→Ku→List (Nat×Int)→Fe→Ku→Prop
 | f,u,[],f',u'=>f'=f∧u'=u
 | f,u,(p,x)::r,f',u'=>∃f1 u1,AtR B f f1 m ch p u u1 x∧Hz B m ch f1 u1 r f' u'
theorem Hz.snoc{B:Bk}{m:Mt}{ch:Nat}: ∀{l:List (Nat×Int)}{f f1 f2:Fe}{u u1 u2:Ku}{p:Nat}{x:Int},Hz B m ch f u l f1 u1→AtR B f1 f2 m ch p u1 u2 x→Hz B m ch f u (l++[(p,x)]) f2 u2:=by
 intro l
 induction l with
 | nil=>intro f f1 f2 u u1 u2 p x h k;obtain⟨rfl,rfl⟩:=h;exact⟨f2,u2,k,rfl,rfl⟩
 | cons a r ih=>intro f f1 f2 u u1 u2 p x h k;obtain⟨q,y⟩:=a;obtain⟨f3,u3,h1,h2⟩:=h;exact⟨f3,u3,h1,ih h2 k⟩
structure UOk(K:Nat)(u:Ku):Prop where
 f0:0≤u.fr
 f1:u.fr≤K
 l:u.lost.length≤K
 wf: ∀z ∈ u.lost,(Lit.int .i64 z).wf=true
theorem UOk.mono{K L:Nat}{u:Ku}(h:UOk K u)(hl:K≤L):UOk L u:=⟨h.f0,by have:=h.f1;omega,by have:=h.l;omega,h.wf⟩
theorem aK.up{X:Fx}{σ:Own}{w:World}{B:Bk}{K L:Nat}{f:Fe}(h:aK X σ w B K f)(hl:K≤L):aK X σ w B L f:=⟨h.row,h.ca,h.bk,h.tb,h.tf,h.n1,h.cok,h.lim.mono (by omega),h.img⟩
theorem FeB.up{K L:Nat}{f:Fe}(h:FeB K f)(hl:K≤L):FeB L f:=⟨h.f0,by have:=h.f1;omega,h.l0,by have:=h.l1;omega⟩
theorem mP.ok{B:Bk}{f f':Fe}{m:Mt}{ch n:Nat}{u u':Ku}{K:Nat}(h:mP B f f' m ch n u u')(hu:UOk K u)(hn:n<2^60):UOk (K+1) u':=by
 have hb:=h.bd
 have h0:=hu.f0;have h1:=hu.f1;have h2:=hu.l
 refine⟨by omega,by omega,by omega,?_⟩
 rcases h with⟨i,_,_,_,rfl,_⟩ | ⟨_,u1,b,R,⟨err,z,ts,_,_,_,_,_,hfr,_,h0,h1⟩,_,rfl,_⟩
 ·exact hu.wf
 ·simp only
  intro z hz
  by_cases he:err=0
  ·rw[(h0 he).2.2.1] at hz;exact hu.wf z hz
  ·rw[(h1 he).2.2.1] at hz
   rcases List.mem_append.1 hz with hz | hz
   ·exact hu.wf z hz
   ·simp only[List.mem_singleton] at hz;subst hz;exact WalkArith.wf_i64 (by omega)
theorem AtR.ok{B:Bk}{f f':Fe}{m:Mt}{ch p:Nat}{u u':Ku}{r:Int}{K:Nat}(h:AtR B f f' m ch p u u' r)(hu:UOk K u)(hp:p<m.len)(hl:m.len≤1048576):UOk (K+2) u':=by
 obtain⟨u1,f1,h1,h2,_⟩:=h
 have hpc:p<16*bu m.len:=by unfold bu;omega
 have hc:bu m.len<2^60:=by unfold bu;omega
 obtain⟨a,b⟩:=zM hpc
 exact h2.ok (h1.ok hu (by omega)) (by omega)
def ValR(B:Bk)(f f':Fe)(m:Mt)(ch:Nat)(at_:Int)(u u':Ku)(r:Int):Prop:=∃(l:List (Nat×Int))(t x:List Int),Hz B m ch f u l f' u'∧l.length≤4∧(∀a ∈ l,a.1<m.len)∧TapL (kJ at_).toNat t∧r=rD t x∧
 (kJ at_=0→(0≤iy m (at_/4294967296)→∃y,l=[((iy m (at_/4294967296)).toNat,y)]∧x.getD 1 0=y)∧(iy m (at_/4294967296)<0→l=[]∧x.getD 1 0=0))
def Lr(X:Fx)(σ:Own)(B:Bk)(K:Nat)(f:Fe)(C:Kx)(u:Ku)(m:Mt)(at_:Int)(w:World)(e:Ending)(w':World):Prop:=∃(r:Int)(kv lv:Value)(u':Ku)(σ':Own)(f':Fe),e= .returned (.int .i64 r)∧ValR B f f' m C.ch at_ u u' r∧aK X σ' w' B (K+8) f'∧FeB (K+8) f'∧dH X.fb C σ' w' kv lv u'∧UOk (K+8) u'∧af (FC σ C.t) w w'∧Ext σ σ' w.heap.size
structure VlS(X:Fx)(σ:Own)(B:Bk)(K:Nat)(f:Fe)(C:Kx)(u:Ku)(v:Vo)(vb:Nat)(co:Option Addr)(cap:Nat)(q:Nat)(xb:Nat)(w:World)(j:Nat)(wr:World)(l:List (Nat×Int))(xs:List Int)(σj:Own)(fj:Fe)(kv lv:Value)(uj:Ku):Prop where
 fe:aK X σj wr B (K+2*j) fj
 feb:FeB (K+2*j) fj
 cu:dH X.fb C σj wr kv lv uj
 uo:UOk (K+2*j) uj
 xc:wr.heap[xb]? =some (.cells (iA xs) 191 (0,0))
 xl:xs.length=4
 xo:σj xb=3
 at_:Hz B v.m C.ch f u l fj uj
 ll:l.length≤j
 lp: ∀a ∈ l,a.1<v.m.len
 keep:af (FC σ C.t) w wr
 ext:Ext σ σj w.heap.size
 vo:dK wr vb co cap v
 vt:σj vb≠C.t∧10≤σj vb
 z0:q=0→(j≤1→l=[]∧xs=[0,0,0,0])∧(1<j→(0≤iy v.m (v.at_/4294967296)→∃y,l=[((iy v.m (v.at_/4294967296)).toNat,y)]∧xs.getD 1 0=y)∧(iy v.m (v.at_/4294967296)<0→l=[]∧xs.getD 1 0=0))
theorem VlS.skip{X:Fx}{σ:Own}{B:Bk}{K:Nat}{f:Fe}{C:Kx}{u:Ku}{v:Vo}{vb:Nat}{co:Option Addr}{cap q xb:Nat}{w:World}{j:Nat}{wr wr':World}{l:List (Nat×Int)}{xs:List Int}{σj:Own}{fj:Fe}{kv lv:Value}{uj:Ku}(h:VlS X σ B K f C u v vb co cap q xb w j wr l xs σj fj kv lv uj)(hb:Below wr.heap.size wr wr')(hz:q=0→j≠1∨iy v.m (v.at_/4294967296)<0):VlS X σ B K f C u v vb co cap q xb w (j+1) wr' l xs σj fj kv lv uj:=
 ⟨(h.fe.ah hb).up (by omega),h.feb.up (by omega),h.cu.ah hb,h.uo.mono (by omega),bT h.xc hb (L8 h.xc),h.xl,h.xo,h.at_,Nat.le_succ_of_le h.ll,h.lp,h.keep.below hb h.keep.size,h.ext,h.vo.keep hb h.vo.lt,h.vt,fun hq=>by
  obtain⟨a,b⟩:=h.z0 hq
  refine⟨fun h1=>a (by omega),fun h1=>?_⟩
  rcases hz hq with h2 | h2
  ·exact b (by omega)
  ·by_cases hj:1<j
   ·exact b hj
   ·obtain⟨a1,a2⟩:=a (by omega)
    exact⟨fun h3=>by omega,fun _=>⟨a1,by rw[a2];rfl⟩⟩⟩
theorem VlS.step{X:Fx}{σ:Own}{B:Bk}{K:Nat}{f:Fe}{C:Kx}{u:Ku}{v:Vo}{vb:Nat}{co:Option Addr}{cap q xb:Nat}{w:World}{j:Nat}{wr w2:World}{l:List (Nat×Int)}{xs:List Int}{σj σ2:Own}{fj f2:Fe}{kv lv kv2 lv2:Value}{uj u2:Ku}(h:VlS X σ B K f C u v vb co cap q xb w j wr l xs σj fj kv lv uj)(hj:j<4)(hml:v.m.len≤1048576)(hxw:w.heap.size≤xb){p:Nat}{r:Int}(hp:p<v.m.len)(hR:AtR B fj f2 v.m C.ch p uj u2 r)(hF:aK X σ2 w2 B (K+2*j+2) f2)(hFB:FeB (K+2*j+2) f2)(hU:dH X.fb C σ2 w2 kv2 lv2 u2)(hk:af (FC σj C.t) wr w2)(he:Ext σj σ2 wr.heap.size)
  (hz:q=0→j=1∧0≤iy v.m (v.at_/4294967296)∧p=(iy v.m (v.at_/4294967296)).toNat):VlS X σ B K f C u v vb co cap q xb w (j+1) (w2.setCell ⟨xb,j,none⟩ (.int .i64 r)) (l++[(p,r)]) (xs.set j r) σ2 f2 kv2 lv2 u2:=by
 have ht:=h.cu.t3
 have hxl:=L8 h.xc
 have hxo2:σ2 xb=3:=(he _ hxl).trans h.xo
 have hx2:=hk.heap h.xc (fun e=>by unfold FC at e;rw[h.xo] at e;omega)
 have hks:=aC w2 xb j (.int .i64 r)
 have hv2:=hk.heap h.vo (fun e=>by unfold FC at e;have:=h.vt;omega)
 have hvl:=h.vo.lt
 refine⟨(hF.kept (hks.mono fun k _ e=>by rw[e,hxo2];omega)).up (by omega),hFB.up (by omega),hU.keep hks (fun k e _=>by rw[e,hxo2];omega),(hR.ok h.uo hp hml).mono (by omega),bJ hx2 j r,by rw[List.length_set];exact h.xl,hxo2,h.at_.snoc hR,by rw[List.length_append];exact Nat.succ_le_succ h.ll,fun a ha=>?_,(Eo h.keep hk h.ext).setCell (p:=⟨xb,j,none⟩) (.inl hxw) _,h.ext.trans he h.keep.size,hks.heap hv2 (fun e=>?_),by rw[he _ hvl];exact h.vt,fun hq=>?_⟩
 ·rcases List.mem_append.1 ha with ha | ha
  ·exact h.lp a ha
  ·simp only[List.mem_singleton] at ha;subst ha;exact hp
 ·have:=h.vt;rw[e,h.xo] at this;omega
 ·obtain⟨h1,h2,h3⟩:=hz hq
  subst h1
  obtain⟨a1,a2⟩:=(h.z0 hq).1 (by omega)
  refine⟨fun h4=>by omega,fun _=>⟨fun _=>⟨r,by rw[a1,h3];rfl,by rw[a2];rfl⟩,fun h5=>by omega⟩⟩
theorem wu(X:Fx)(σ:Own)(B:Bk)(K:Nat)(hK:K≤490000)(f:Fe)(hf:FeB K f)(C:Kx)(hC:KOk B C)(kv lv:Value)(u:Ku)(hu:UOk K u)(vb:Nat)(co:Option Addr)(cap:Nat)(v:Vo)(hv:v.Ok)(hvm:v.m=B.dir.getD C.i m0)(w:World)(h:aK X σ w B K f)(hcu:dH X.fb C σ w kv lv u)(hvo:dK w vb co cap v)(hvt:σ vb≠C.t∧10≤σ vb):Calls Tryz.prog 136 #[.pointer (some ⟨vb,0,none⟩),.pointer (some ⟨C.cb,0,none⟩)] w (Lr X σ B K f C u v.m v.at_ w):=by
 obtain⟨c0,c1,c2,c3,c4,c5,c6,c7,c8,c9,c10,c11,c12,f10,f11,f12⟩:=dE hvo
 have ha0:=hv.a0;have ha1:=hv.a1
 have HPh:=MI (fun w=>Gg v.at_ w)
 have hq0:0≤kJ v.at_:=by unfold kJ;omega
 have hq1:kJ v.at_<32:=by unfold kJ;omega
 have HQ0:=MI hq0
 obtain⟨q,hq⟩: ∃q:Nat,kJ v.at_=(q:Int):=⟨(kJ v.at_).toNat,by omega⟩
 rw[hq] at HPh hq1
 have HQ:=MI hq
 have hql:q<32:=by omega
 have HTp:=MI (fun w=>yZ q hql w)
 unfold TapP at HTp
 have hba:=ae w (.cells #[(),(),(),()] 191)
 have hz:=L9 w (.cells #[(),(),(),()] 191)
 have hx:=eH σ (b:=w.heap.size) 3 Me
 have hvl:=hvo.lt
 have hs0:VlS X σ B K f C u v vb co cap q w.heap.size w 0 (w.alloc (.cells #[(),(),(),()] 191)) [] [0,0,0,0] (fD σ w.heap.size 3) f kv lv u:=
  ⟨h.fD hba 3 Me (by simp),hf,(hcu.ext hx).ah hba,hu,hz,rfl,dG σ _ 3,⟨rfl,rfl⟩,by simp,fun a ha=>by simp at ha,af.au hba Me,hx,hvo.keep hba hvl,by rw[hx vb hvl];exact hvt,fun _=>⟨fun _=>⟨rfl,rfl⟩,fun h=>by omega⟩⟩
 have HS0:=MI hs0
 have hm:=hv.m
 have hml:=hm.l1
 have HVM:=MI hvm
 clear hvm
 clear h hcu hvo hba hx hq hq0 hs0 hz
 go_enter Tryz.func136,Tryz.ntmps136
 go_upto_region 3 with(go_at_call 175;refine(HPh.out _).mono ?_;rintro e w' ⟨rfl,rfl⟩)
 generalize w.alloc (.cells #[(),(),(),()] 191)=W at*
 clear c0 c1 c2 c3 c4 c5 c6 c7 c8 c9 c10 c11 c12 f10 f11 f12
 have hxb:w.heap.size<W.heap.size:=L8 HS0.out.xc
 go_upto_region 4 with(go_at_call 176;refine(HTp.out _).mono ?_;rintro e w1 ⟨⟨t,ht,ht0,rfl⟩,hb1⟩)
 have HS1:Hid (VlS X σ B K f C u v vb co cap q w.heap.size w 0 w1 [] [0,0,0,0] (fD σ w.heap.size 3) f kv lv u):=by
  have h:=HS0.out
  exact⟨h.fe.ah hb1,h.feb,h.cu.ah hb1,h.uo,bT h.xc hb1 hxb,h.xl,h.xo,h.at_,h.ll,h.lp,h.keep.below hb1 (Nat.le_of_lt hxb),h.ext,h.vo.keep hb1 h.vo.lt,h.vt,h.z0⟩
 have HIX:=MI (fun k (hk:k<4) w=>iG (P:=Tryz.prog) 285 2 4 Tryz.underlying285 Tryz.underlying2 (by kernel_rfl) t ht k hk w)
 have HTL:Hid (TapL q t):=⟨ht,ht0⟩
 clear HS0 hb1 ht ht0 HTp hxb
 generalize hxw:w.heap.size=xb at*
 have HXW:=MI (Nat.le_of_eq hxw)
 clear hxw
 generalize fD σ xb 3=τ at*
 go_loopw [17] (fun v17 wr=>∃(j:Nat)(l:List (Nat×Int))(xs:List Int)(σj:Own)(fj:Fe)(kvj lvj:Value)(uj:Ku),j≤4∧v17= .int .i64 (j:Int)∧VlS X σ B K f C u v vb co cap q xb w j wr l xs σj fj kvj lvj uj) (fun v17 _=>4 - aG v17)
 case atStart=>exact⟨0,[],_,τ,f,kv,lv,u,by omega,rfl,HS1.out⟩
 case round=>
  clear HS1
  obtain⟨j,l,xs,σj,fj,kvj,lvj,uj,hj,rfl,hS⟩:=hrel
  have HS:=MI hS
  by_cases hlt:j<4
  ·have hix:=HIX.out j hlt
   obtain⟨tj,htj⟩: ∃tj,t.getD j 0=tj:=⟨_,rfl⟩
   rw[htj] at hix
   have hz1:q=0→tj≠0→j=1:=fun h0 hn=>by
    have:=HTL.out.2 h0
    rw[this] at htj
    have:j=0∨j=1∨j=2∨j=3:=by omega
    rcases this with rfl | rfl | rfl | rfl<;>first | rfl | (exact absurd htj.symm hn)
   have hz2:q=0→tj=0→j≠1:=fun h0 hn hj1=>by
    have:=HTL.out.2 h0
    rw[this,hj1,hn] at htj
    cases htj
   have HZ1:=MI hz1
   have HZ2:=MI hz2
   clear hz1 hz2 htj
   by_cases h0:tj=0
   ·subst h0
    have HN:=MI (hS.skip (wr':=wr) MB (fun h=>.inl (HZ2.out h rfl)))
    clear hS
    go_wp2_with fail
    exact⟨⟨j+1,l,xs,σj,fj,kvj,lvj,uj,by omega,by go_num,HN.out⟩,by simp[aG];omega⟩
   ·have q0:(tj==0)=false:=by simpa using h0
    have HT0:=MI h0
    clear h0
    obtain⟨c0,c1,c2,c3,c4,c5,c6,c7,c8,c9,c10,c11,c12,f10,f11,f12⟩:=dE hS.vo
    have hrm:=hS.vo.mtx
    obtain⟨a,ha⟩: ∃a,v.at_/4294967296 - 1+(j:Int)=a:=⟨_,rfl⟩
    have e1:IntKind.i64.wrap (v.at_/4294967296 - 1)=v.at_/4294967296 - 1:=IntWalk.i64_in _ (by omega)
    have e2:IntKind.i64.wrap (v.at_/4294967296 - 1+(j:Int))=a:=by rw[ha];exact IntWalk.i64_in _ (by omega)
    have HUn:=MI (fun w=>BD v.m hm a (by omega) (by omega) w)
    have hub:=EX hm a
    have HAE:=MI (show j=1→a=v.at_/4294967296 from fun h=>by omega)
    obtain⟨p,hp⟩: ∃p,iy v.m a=p:=⟨_,rfl⟩
    rw[hp] at HUn hub
    have HP:=MI hp
    clear ha hp hS
    go_upto_region 7 with fail
    refine wp_region_still_tail 12 (by kernel_rfl) (by kernel_rfl) ?_
    simp only[List.take_succ_cons,List.take_zero,List.drop_succ_cons,List.drop_zero]
    change wpStill _ _ wr.drew _ _ _
    repeat (first
     | (refine dh rfl 54 (.tmp 25) rfl vb 0 rfl (aP v.m) _ hrm Tryz.underlying54 rfl (by kernel_rfl) ?_)
     | still_step)
    try refine wpStill_nil ?_
    change wpList _ _ _ _ _ wr.drew
    rw[show(aP v.m).toArray=aB v.m from rfl]
    go_upto_region 8 with(go_at_call 177;refine(HUn.out _).mono ?_;rintro e w2 ⟨rfl,hb2⟩)
    have hbw:Below wr.heap.size wr w2:=((Below.refl _ wr).drew).trans hb2
    clear c0 c1 c2 c3 c4 c5 c6 c7 c8 c9 c10 c11 c12 f10 f11 f12 hrm e1 e2 hb2
    by_cases hpp:p<0
    ·have HN:=MI (HS.out.skip hbw (fun h=>.inr (by rw[←HAE.out (HZ1.out h HT0.out),HP.out];exact hpp)))
     have hp1:¬0≤p:=by omega
     clear hbw
     go_wp2_with fail
     exact⟨⟨j+1,l,xs,σj,fj,kvj,lvj,uj,by omega,by go_num,HN.out⟩,by simp[aG];omega⟩
    ·obtain⟨n,rfl⟩: ∃n:Nat,p=(n:Int):=⟨p.toNat,by omega⟩
     have hS2:=HS.out
     have hnl:n<v.m.len:=by omega
     have hF2:=hS2.fe.ah hbw
     have hU2:=hS2.cu.ah hbw
     have HAt:=MI (at_any X σj B (K+2*j) (by omega) fj hS2.feb C hC kvj lvj uj hS2.uo.f0 hS2.uo.f1 hS2.uo.l n (by rw[hC.len,←HVM.out];exact hnl) w2 hF2 hU2)
     unfold AtP at HAt
     rw[←HVM.out] at HAt
     clear hS2 hF2 hU2 hpp
     have HBW:=MI hbw
     clear hbw
     have hx2:=bT HS.out.xc HBW.out (L8 HS.out.xc)
     have HX2:=MI hx2
     clear hx2
     go_upto_region 10 with(go_at_call 178;refine HAt.out.mono ?_;rintro e w3 ⟨r,kv3,lv3,u3,σ3,f3,rfl,hR3,hF3,hFB3,hU3,hK3,hE3⟩;have hx3:=hK3.heap HX2.out (fun e=>(by have:=HS.out.cu.t3;unfold FC at e;rw[HS.out.xo] at e;omega));have cj:=aH (k:=j) hx3 (by have:=HS.out.xl;omega);have fj3:=aj hx3 j)
     have HN:=MI (HS.out.step hlt hml HXW.out hnl hR3 hF3 hFB3 hU3 ((af.au HBW.out Me).trans hK3) (fun k hk=>hE3 k (Nat.lt_of_lt_of_le hk HBW.out.size)) (fun h=>by
      have hj1:=HZ1.out h HT0.out
      refine⟨hj1,?_,?_⟩
      ·rw[←HAE.out hj1,HP.out];omega
      ·rw[←HAE.out hj1,HP.out];simp))
     clear hR3 hF3 hFB3 hU3 hK3 hE3 hx3 cj fj3
     go_wp2_with fail
     exact⟨⟨j+1,_,_,σ3,f3,kv3,lv3,u3,by omega,by go_num,HN.out⟩,by simp[aG];omega⟩
  ·obtain rfl:j=4:=by omega
   have hx4:=hS.xc
   have hi4:(Tryz.prog.info? 191).map (·.size)=some (iA xs).size:=by rw[az,hS.xl];kernel_rfl
   have HBl:=MI (Hl q hql xs hS.xl wr)
   unfold LV at HBl
   clear hS
   go_wp2_with (first
    | (with_reducible refine MC 191 6 ?_;refine wpList_load_row rfl 191 (.tmp 6) rfl _ rfl 191 (iA xs) (0,0) _ hx4 Tryz.underlying191 rfl hi4 ?_)
    | (go_at_call 179;refine HBl.out.mono ?_;rintro e w2 ⟨t2,ht2,rfl,hb2⟩))
   go_ret
   have hS:=HS.out
   refine⟨rD t2 xs,kvj,lvj,uj,σj,fj,rfl,⟨l,t2,xs,hS.at_,hS.ll,hS.lp,by rw[HQ.out];simpa using ht2,rfl,fun h0=>?_⟩,hS.fe.ah hb2,hS.feb,hS.cu.ah hb2,hS.uo,hS.keep.below hb2 hS.keep.size,hS.ext⟩
   exact(hS.z0 (by rw[HQ.out] at h0;omega)).2 (by omega)
structure Vx where
 vb:Nat
 i:Nat
 cs:List Nat
 T:Nat
def Vx.C(V:Vx)(m:Mt)(k:Nat):Kx:=⟨V.cs.getD k 0,V.T+1+k,V.i,k,m.len⟩
structure fJ(X:Fx)(V:Vx)(B:Bk)(K:Nat)(σ:Own)(w:World)(v:Vo)(us:List Ku):Prop where
 i:V.i<B.dir.length
 m:v.m=B.dir.getD V.i m0
 ok:v.Ok
 vH:us.length=v.m.ch
 t:10≤V.T
 row: ∃pb cap,dK w V.vb (some ⟨pb,0,none⟩) cap v∧σ pb=V.T∧pb<w.heap.size∧∀k,k<v.m.ch→w.cell? ⟨pb,k,none⟩=some (Cf (V.cs.getD k 0))
 own:σ V.vb=V.T
 cur: ∀k,k<v.m.ch→∃kv lv,dH X.fb (V.C v.m k) σ w kv lv (us.getD k u0)
 uo: ∀k,k<v.m.ch→UOk K (us.getD k u0)
def FV(σ:Own)(T k:Nat):Prop:=σ k=0∨σ k=2∨σ k=T∨σ k=T+1∨σ k=T+2
theorem fJ.keep{X:Fx}{V:Vx}{B:Bk}{K:Nat}{σ:Own}{w w':World}{v:Vo}{us:List Ku}(h:fJ X V B K σ w v us){S:Nat→Prop}(hk:af S w w')(hS: ∀k,S k→k<w.heap.size→σ k≠V.T∧σ k≠V.T+1∧σ k≠V.T+2):fJ X V B K σ w' v us:=by
 obtain⟨pb,cap,h1,h2,h3,h4⟩:=h.row
 have hc:=h.ok.m.c1
 refine⟨h.i,h.m,h.ok,h.vH,h.t,⟨pb,cap,hk.heap h1 (fun e=>(hS _ e h1.lt).1 h.own),h2,Nat.lt_of_lt_of_le h3 hk.size,fun k hkk=>hk.cell (h4 k hkk) (fun e=>(hS pb e h3).1 h2)⟩,h.own,fun k hkk=>?_,h.uo⟩
 obtain⟨kv,lv,hcu⟩:=h.cur k hkk
 refine⟨kv,lv,hcu.keep hk (fun b e hl=>?_)⟩
 have:=hS b e hl
 show σ b≠V.T+1+k
 have:k=0∨k=1:=by omega
 rcases this with rfl | rfl<;>omega
theorem fJ.ah{X:Fx}{V:Vx}{B:Bk}{K:Nat}{σ:Own}{w w':World}{v:Vo}{us:List Ku}(h:fJ X V B K σ w v us)(hb:Below w.heap.size w w'):fJ X V B K σ w' v us:=h.keep (S:=fun _=>False) (af.au hb Me) (fun _ e=>e.elim)
theorem fJ.ext{X:Fx}{V:Vx}{B:Bk}{K:Nat}{σ σ':Own}{w:World}{v:Vo}{us:List Ku}(h:fJ X V B K σ w v us)(he:Ext σ σ' w.heap.size):fJ X V B K σ' w v us:=by
 obtain⟨pb,cap,h1,h2,h3,h4⟩:=h.row
 refine⟨h.i,h.m,h.ok,h.vH,h.t,⟨pb,cap,h1,(he _ h3).trans h2,h3,h4⟩,(he _ h1.lt).trans h.own,fun k hkk=>?_,h.uo⟩
 obtain⟨kv,lv,hcu⟩:=h.cur k hkk
 exact⟨kv,lv,hcu.ext he⟩
theorem fJ.up{X:Fx}{V:Vx}{B:Bk}{K L:Nat}{σ:Own}{w:World}{v:Vo}{us:List Ku}(h:fJ X V B K σ w v us)(hl:K≤L):fJ X V B L σ w v us:=⟨h.i,h.m,h.ok,h.vH,h.t,h.row,h.own,h.cur,fun k hk=>(h.uo k hk).mono hl⟩
theorem fJ.kok{X:Fx}{V:Vx}{B:Bk}{K:Nat}{σ:Own}{w:World}{v:Vo}{us:List Ku}(h:fJ X V B K σ w v us){k:Nat}(hk:k<v.m.ch):KOk B (V.C v.m k):=⟨h.i,by show k<(B.dir.getD V.i m0).ch;rw[←h.m];exact hk,by show v.m.len=(B.dir.getD V.i m0).len;rw[h.m]⟩
theorem fJ.IP{X:Fx}{V:Vx}{B:Bk}{K L:Nat}{σ σ':Own}{w w':World}{v:Vo}{us:List Ku}(h:fJ X V B K σ w v us)(hl:K≤L){k:Nat}(hk:k<v.m.ch){kv lv:Value}{u':Ku}(hcu:dH X.fb (V.C v.m k) σ' w' kv lv u')(huo:UOk L u')(hkk:af (FC σ (V.T+1+k)) w w')(he:Ext σ σ' w.heap.size):fJ X V B L σ' w' v (us.set k u'):=by
 obtain⟨pb,cap,h1,h2,h3,h4⟩:=h.row
 have hc:=h.ok.m.c1
 have ht:=h.t
 have hsz:=hkk.size
 refine⟨h.i,h.m,h.ok,by rw[List.length_set];exact h.vH,h.t,⟨pb,cap,hkk.heap h1 (fun e=>by unfold FC at e;rw[h.own] at e;omega),(he _ h3).trans h2,by omega,fun j hj=>hkk.cell (h4 j hj) (fun e=>by unfold FC at e;rw[h2] at e;omega)⟩,(he _ h1.lt).trans h.own,fun j hj=>?_,fun j hj=>?_⟩
 ·by_cases e:j=k
  ·subst e
   exact⟨kv,lv,by rw[show(us.set j u').getD j u0=u' by simp[List.getD,h.vH,hj]];exact hcu⟩
  ·obtain⟨kv2,lv2,h5⟩:=h.cur j hj
   refine⟨kv2,lv2,?_⟩
   rw[show(us.set k u').getD j u0=us.getD j u0 by simp[List.getD,List.getElem?_set,Ne.symm e]]
   refine(h5.ext he).keep hkk (fun b hb hbl=>?_)
   rw[he b hbl]
   show σ b≠V.T+1+j
   unfold FC at hb
   omega
 ·by_cases e:j=k
  ·subst e
   rw[show(us.set j u').getD j u0=u' by simp[List.getD,h.vH,hj]];exact huo
  ·rw[show(us.set k u').getD j u0=us.getD j u0 by simp[List.getD,List.getElem?_set,Ne.symm e]]
   exact(h.uo j hj).mono hl
def Ba(B:Bk)(f f':Fe)(v v':Vo)(us us':List Ku)(l r:Int):Prop:=
 (v.done=true∧l=0∧r=0∧f'=f∧v'=v∧us'=us)∨
 (v.done=false∧v'=mQ v∧∃(f1:Fe)(a:Ku),ValR B f f1 v.m 0 v.at_ (us.getD 0 u0) a l∧((v.m.ch=1∧r=l∧f'=f1∧us'=us.set 0 a)∨(v.m.ch=2∧∃b,ValR B f1 f' v.m 1 v.at_ (us.getD 1 u0) b r∧us'=(us.set 0 a).set 1 b)))
def NextP(X:Fx)(V:Vx)(B:Bk)(K:Nat)(σ:Own)(f:Fe)(v:Vo)(us:List Ku)(w:World)(e:Ending)(w':World):Prop:=∃(l r:Int)(f':Fe)(v':Vo)(us':List Ku)(σ':Own),e= .returned (.agg #[.int .i64 l,.int .i64 r])∧Ba B f f' v v' us us' l r∧aK X σ' w' B (K+16) f'∧FeB (K+16) f'∧fJ X V B (K+16) σ' w' v' us'∧af (FV σ V.T) w w'∧Ext σ σ' w.heap.size
theorem fJ.stepped{X:Fx}{V:Vx}{B:Bk}{K:Nat}{σ:Own}{w w':World}{v:Vo}{us:List Ku}(h:fJ X V B K σ w v us)(hd:v.done=false){pb:Nat}{cap:Nat}(hrow:dK w V.vb (some ⟨pb,0,none⟩) cap v)(hr:dK w' V.vb (some ⟨pb,0,none⟩) cap (mQ v))(hk:af (fun k=>k=V.vb) w w'):fJ X V B K σ w' (mQ v) us:=by
 obtain⟨pb2,cap2,h1,h2,h3,h4⟩:=h.row
 have e:(some (⟨pb2,0,none⟩:Addr),cap2)=(some ⟨pb,0,none⟩,cap):=by
  have a:=(dE h1).2.2.2.2.2.2.2.2.2.1
  have b:=(dE hrow).2.2.2.2.2.2.2.2.2.1
  rw[a] at b
  simp only[Option.some.injEq,Value.slice.injEq] at b
  rw[b.1];simp[b.2.2]
 simp only[Prod.mk.injEq,Option.some.injEq,Addr.mk.injEq,and_true] at e
 obtain⟨rfl,rfl⟩:=e
 have hm:(mQ v).m=v.m:=by unfold mQ;split<;>(try split)<;>rfl
 have hne:pb2≠V.vb:=fun e=>by
  have hc:=h.ok.m.c0
  have h5:=h4 0 (by omega)
  rw[e,(dE hrow).1] at h5
  cases h5
 refine⟨h.i,by rw[hm];exact h.m,IK h.ok hd,by rw[hm];exact h.vH,h.t,⟨pb2,cap2,hr,h2,Nat.lt_of_lt_of_le h3 hk.size,fun k hkk=>hk.cell (h4 k (by rw[hm] at hkk;exact hkk)) (fun e=>hne e)⟩,h.own,fun k hkk=>?_,fun k hkk=>h.uo k (by rw[hm] at hkk;exact hkk)⟩
 rw[hm] at hkk⊢
 obtain⟨kv,lv,hcu⟩:=h.cur k hkk
 refine⟨kv,lv,hcu.keep hk (fun b e hl=>?_)⟩
 rw[e,h.own]
 show V.T≠V.T+1+k
 omega
theorem next_any(X:Fx)(V:Vx)(B:Bk)(K:Nat)(hK:K≤480000)(σ:Own)(f:Fe)(hf:FeB K f)(v:Vo)(us:List Ku)(w:World)(h:aK X σ w B K f)(hvo:fJ X V B K σ w v us):Calls Tryz.prog 106 #[.pointer (some ⟨V.vb,0,none⟩)] w (NextP X V B K σ f v us w):=by
 have hba:=ae w (.cells #[(),()] 81)
 have hz:=L9 w (.cells #[(),()] 81)
 have hx:=eH σ (b:=w.heap.size) 3 Me
 have HF:=MI (h.fD hba (b:=w.heap.size) 3 Me (by simp))
 have HV:=MI ((hvo.ext hx).ah hba)
 have HE:=MI hx
 have hs3:=MI (dG σ w.heap.size 3)
 have HB:=MI hba
 have hi2: ∀l r:Int,(Tryz.prog.info? 81).map (·.size)=some (#[Value.int .i64 l,.int .i64 r]:Array Value).size:=fun l r=>by kernel_rfl
 have ht:=hvo.t
 have hVl:V.vb<w.heap.size:=by
  obtain⟨_,_,h1,_⟩:=hvo.row
  exact h1.lt
 clear h hvo hba hx
 go_enter Tryz.func106,Tryz.ntmps106
 go_upto_region 1 with fail
 generalize w.alloc (.cells #[(),()] 81)=W at*
 generalize fD σ w.heap.size 3=τ at*
 have hw0:=L8 hz
 obtain⟨pb,cap,hrow,hpo,hpl,hpc⟩:=HV.out.row
 have HD:=MI (wo V.vb (some ⟨pb,0,none⟩) cap v HV.out.ok W hrow)
 have hc0:=HV.out.ok.m.c0
 have hc1:=HV.out.ok.m.c1
 cases hd:v.done with
 | true=>
  rw[hd] at HD
  obtain⟨c0,c1⟩:=bD hz
  have f0:=frozen_of_row _ _ 0 _ _ hz
  have f1:=frozen_of_row _ _ 1 _ _ hz
  have HDD:=MI hd
  clear hd
  go_wp2_with (go_at_call 111;refine HD.out.mono ?_;rintro e w' ⟨rfl,rfl⟩)
  have hk2:=(aC W w.heap.size 0 (.int .i64 0)).trans (aC (W.setCell ⟨w.heap.size,0,none⟩ (.int .i64 0)) w.heap.size 1 (.int .i64 0))
  exact bodyPost_ret (results_cell_row (fn:=Tryz.f106) rfl _ _ _ _ _ _ _ rfl (Mc (Mc hz)) Tryz.underlying81 rfl (hi2 0 0)) rfl ⟨0,0,f,v,us,τ,rfl,.inl ⟨HDD.out,rfl,rfl,rfl,rfl,rfl⟩,(HF.out.kept (hk2.mono fun k _ e=>by rw[e,hs3.out];omega)).up (by omega),hf.up (by omega),(HV.out.keep hk2 (fun k e _=>by rw[e,hs3.out];omega)).up (by omega),(af.au HB.out Me).andThen hk2 (fun i hi e=>by omega),HE.out⟩
 | false=>
  rw[hd] at HD
  have HDD:=MI hd
  clear hd
  have hd0:=hpc 0 (by omega)
  have HPC:=MI hpc
  obtain⟨kv0,lv0,hcu0⟩:=HV.out.cur 0 (by omega)
  have HV0:=wu X τ B K (by omega) f hf (V.C v.m 0) (HV.out.kok (by omega)) kv0 lv0 (us.getD 0 u0) (HV.out.uo 0 (by omega)) V.vb (some ⟨pb,0,none⟩) cap v HV.out.ok HV.out.m W HF.out hcu0 hrow (by rw[HV.out.own];exact⟨by show V.T≠V.T+1+0;omega,ht⟩)
  have HV0':Calls Tryz.prog 136 #[.pointer (some ⟨V.vb,0,none⟩),.pointer (some ⟨V.cs.getD 0 0,0,none⟩)] W (Lr X τ B K f (V.C v.m 0) (us.getD 0 u0) v.m v.at_ W):=HV0
  have hd0':W.cell? ⟨pb,0,none⟩=some (.pointer (some ⟨V.cs.getD 0 0,0,none⟩)):=hd0
  generalize V.cs.getD 0 0=cb0 at*
  have HVC:=MI HV0'
  unfold Lr at HVC
  have hr0:=hrow
  obtain⟨c0,c1,c2,c3,c4,c5,c6,c7,c8,c9,c10,c11,c12,f10,f11,f12⟩:=dE hr0
  have HROW:=MI hrow
  have hlp:0<v.m.ch:=by omega
  clear hpc hd0 hr0 HV0 HV0' hcu0 hrow c0 c1 c2 c3 c4 c5 c6 c7 c8 c10 c11 c12 f10 f11 f12
  go_upto_region 5 with(first
   | (go_at_call 111;refine HD.out.mono ?_;rintro e w' ⟨rfl,rfl⟩)
   | (go_at_call 136;refine HVC.out.mono ?_;rintro e w1 ⟨l,kv1,lv1,a1,σ1,f1,rfl,hR1,hF1,hFB1,hCU1,hUO1,hK1,hE1⟩))
  have hz1:=hK1.heap hz (fun e=>by unfold FC at e;rw[hs3.out] at e;show False;have:(V.C v.m 0).t=V.T+1+0:=rfl;omega)
  have HV1:=MI (HV.out.IP (L:=K+8) (by omega) (k:=0) (by omega) hCU1 hUO1 hK1 hE1)
  have hrow1:=hK1.heap HROW.out (fun e=>by unfold FC at e;rw[HV.out.own] at e;have:(V.C v.m 0).t=V.T+1+0:=rfl;omega)
  have HD1:=MI (show 1<v.m.ch→w1.cell? ⟨pb,1,none⟩=some (.pointer (some ⟨V.cs.getD 1 0,0,none⟩)) from fun h1=>hK1.cell (HPC.out 1 h1) (fun e=>by unfold FC at e;have:(V.C v.m 0).t=V.T+1+0:=rfl;have e4:τ pb=V.T:=hpo;simp only at e;omega))
  have HRel1:=MI hR1
  have HK1:=MI ((af.au (S:=FV σ V.T) HB.out Me).andThen hK1 (fun i hi e=>by
   have e2:(V.C v.m 0).t=V.T+1+0:=rfl
   unfold FC at e;unfold FV;rw[HE.out i hi] at e;omega))
  have HE1:=MI (HE.out.trans hE1 (Nat.le_of_lt hw0))
  have HS1:=MI ((hE1 _ hw0).trans hs3.out)
  have HF1:=MI hF1
  have HFB1:=MI hFB1
  have hsz1:W.heap.size≤w1.heap.size:=hK1.size
  obtain⟨c0,c1,c2,c3,c4,c5,c6,c7,c8,c9,c10,c11,c12,f10,f11,f12⟩:=dE hrow1
  have HROW1:=MI hrow1
  have HZ1:=MI hz1
  clear hR1 hF1 hFB1 hCU1 hUO1 hK1 hE1 hrow1 hz1 c0 c1 c2 c3 c4 c5 c6 c7 c8 c10 c11 c12 f10 f11 f12 HVC hd0'
  by_cases hch:v.m.ch=1
  ·have q1:¬1<v.m.ch:=by omega
   have HCH:=MI hch
   clear hch
   have HROWN:=HROW1
   have HZN:=HZ1
   have HVN:=HV1
   have HFN:=HF1
   have HFBN:=HFB1
   have HKN:=HK1
   have HEN:=HE1
   have HSN:=HS1
   have HST:=MI (vZ V.vb (some ⟨pb,0,none⟩) cap v HV.out.ok HDD.out w1 HROWN.out)
   obtain⟨y,hy⟩: ∃y,w1.heap[w.heap.size]? =some (.cells #[(),()] 81 (0,0))∧y=(0:Nat):=⟨0,HZN.out,rfl⟩
   go_upto_region 8 with(go_at_call 137;refine HST.out.mono ?_;rintro e w5 ⟨rfl,hr5,hk5⟩)
   have hz5:=hk5.heap HZN.out (fun e=>by have:=HV.out.own;rw[←e,hs3.out] at this;omega)
   have HV5:=MI (HVN.out.stepped HDD.out HROWN.out hr5 hk5)
   have HF5:=MI (HFN.out.kept (hk5.mono fun k _ e=>by rw[e,HVN.out.own];omega))
   have HK5:=MI (HKN.out.andThen hk5 (fun i hi e=>.inr (.inr (.inl (by rw[e,←HEN.out V.vb (by omega)];exact HVN.out.own)))))
   have HZ5:=MI hz5
   obtain⟨d0,d1⟩:=bD hz5
   have g0:=frozen_of_row _ _ 0 _ _ hz5
   have g1:=frozen_of_row _ _ 1 _ _ hz5
   clear hz5 hr5 hk5 HST hy
   go_wp2_with fail
   have hk6:=(aC w5 w.heap.size 0 (.int .i64 l)).trans (aC (w5.setCell ⟨w.heap.size,0,none⟩ (.int .i64 l)) w.heap.size 1 (.int .i64 l))
   exact bodyPost_ret (results_cell_row (fn:=Tryz.f106) rfl _ _ _ _ _ _ _ rfl (Mc (Mc HZ5.out)) Tryz.underlying81 rfl (hi2 l l)) rfl ⟨l,l,_,mQ v,_,_,rfl,.inr ⟨HDD.out,rfl,⟨f1,a1,HRel1.out,.inl ⟨HCH.out,rfl,rfl,rfl⟩⟩⟩,(HF5.out.kept (hk6.mono fun k _ e=>by rw[e,HSN.out];omega)).up (by omega),HFBN.out.up (by omega),(HV5.out.keep hk6 (fun k e _=>by rw[e,HSN.out];omega)).up (by omega),HK5.out.andThen hk6 (fun i hi e=>by omega),HEN.out⟩
  ·have q1:1<v.m.ch:=by omega
   have HCH:=MI (show v.m.ch=2 by omega)
   clear hch
   have hd1:=HD1.out q1
   obtain⟨kv1',lv1',hcu1⟩:=HV1.out.cur 1 q1
   have hus:(us.set 0 a1).getD 1 u0=us.getD 1 u0:=by simp[List.getD,List.getElem?_set]
   have HW0:=wu X σ1 B (K+8) (by omega) f1 HFB1.out (V.C v.m 1) (HV1.out.kok q1) kv1' lv1' ((us.set 0 a1).getD 1 u0) (HV1.out.uo 1 q1) V.vb (some ⟨pb,0,none⟩) cap v HV.out.ok HV1.out.m w1 HF1.out hcu1 HROW1.out (by rw[HV1.out.own];exact⟨by show V.T≠V.T+1+1;omega,ht⟩)
   rw[hus] at HW0
   have HW1:Calls Tryz.prog 136 #[.pointer (some ⟨V.vb,0,none⟩),.pointer (some ⟨V.cs.getD 1 0,0,none⟩)] w1 (Lr X σ1 B (K+8) f1 (V.C v.m 1) (us.getD 1 u0) v.m v.at_ w1):=HW0
   generalize V.cs.getD 1 0=cb1 at*
   have HWC:=MI HW1
   unfold Lr at HWC
   clear HW0 HW1 hcu1 hus
   go_upto_region 7 with(go_at_call 136;refine HWC.out.mono ?_;rintro e w2 ⟨r,kv2,lv2,a2,σ2,f2,rfl,hR2,hF2,hFB2,hCU2,hUO2,hK2,hE2⟩)
   have hw1:w.heap.size<w1.heap.size:=by omega
   have hz2:=hK2.heap HZ1.out (fun e=>by unfold FC at e;rw[HS1.out] at e;have:(V.C v.m 1).t=V.T+1+1:=rfl;omega)
   have HVN:=MI (HV1.out.IP (L:=K+16) (by omega) (k:=1) q1 hCU2 (hUO2.mono (by omega)) hK2 hE2)
   have hrow2:=hK2.heap HROW1.out (fun e=>by unfold FC at e;rw[HV1.out.own] at e;have:(V.C v.m 1).t=V.T+1+1:=rfl;omega)
   have HRel2:=MI hR2
   have HKN:=MI (HK1.out.andThen hK2 (fun i hi e=>by
    have e2:(V.C v.m 1).t=V.T+1+1:=rfl
    unfold FC at e;unfold FV;rw[HE1.out i hi] at e;omega))
   have HEN:=MI (HE1.out.trans hE2 (Nat.le_of_lt hw1))
   have HSN:=MI ((hE2 _ hw1).trans HS1.out)
   have HFN:=MI hF2
   have HFBN:=MI hFB2
   have HROWN:=MI hrow2
   have HZN:=MI hz2
   clear hR2 hF2 hFB2 hCU2 hUO2 hK2 hE2 hrow2 hz2 HWC hd1 c9
   have HST:=MI (vZ V.vb (some ⟨pb,0,none⟩) cap v HV.out.ok HDD.out w2 HROWN.out)
   obtain⟨y,hy⟩: ∃y,w2.heap[w.heap.size]? =some (.cells #[(),()] 81 (0,0))∧y=(0:Nat):=⟨0,HZN.out,rfl⟩
   go_upto_region 8 with(go_at_call 137;refine HST.out.mono ?_;rintro e w5 ⟨rfl,hr5,hk5⟩)
   have hz5:=hk5.heap HZN.out (fun e=>by have:=HV.out.own;rw[←e,hs3.out] at this;omega)
   have HV5:=MI (HVN.out.stepped HDD.out HROWN.out hr5 hk5)
   have HF5:=MI (HFN.out.kept (hk5.mono fun k _ e=>by rw[e,HVN.out.own];omega))
   have HK5:=MI (HKN.out.andThen hk5 (fun i hi e=>.inr (.inr (.inl (by rw[e,←HEN.out V.vb (by omega)];exact HVN.out.own)))))
   have HZ5:=MI hz5
   obtain⟨d0,d1⟩:=bD hz5
   have g0:=frozen_of_row _ _ 0 _ _ hz5
   have g1:=frozen_of_row _ _ 1 _ _ hz5
   clear hz5 hr5 hk5 HST hy
   go_wp2_with fail
   have hk6:=(aC w5 w.heap.size 0 (.int .i64 l)).trans (aC (w5.setCell ⟨w.heap.size,0,none⟩ (.int .i64 l)) w.heap.size 1 (.int .i64 r))
   exact bodyPost_ret (results_cell_row (fn:=Tryz.f106) rfl _ _ _ _ _ _ _ rfl (Mc (Mc HZ5.out)) Tryz.underlying81 rfl (hi2 l r)) rfl ⟨l,r,_,mQ v,_,_,rfl,.inr ⟨HDD.out,rfl,⟨f1,a1,HRel1.out,.inr ⟨HCH.out,a2,HRel2.out,rfl⟩⟩⟩,(HF5.out.kept (hk6.mono fun k _ e=>by rw[e,HSN.out];omega)).up (by omega),HFBN.out.up (by omega),(HV5.out.keep hk6 (fun k e _=>by rw[e,HSN.out];omega)).up (by omega),HK5.out.andThen hk6 (fun i hi e=>by omega),HEN.out⟩
structure Ls where
 v:Int
 c:Int
 b:Int
def lS(x:Ls):List Value:=[.int .i64 x.v,.int .i64 x.c,.int .i64 x.b]
def ls0:Ls:=⟨0,0,0⟩
theorem qR(x:Ls):(lS x).length=3:=rfl
theorem Ew:(Tryz.prog.info? 215).map (fun i=>(i.zero,i.size,i.bytes))=some (some (.agg #[(),(),()]),3,24):=by kernel_rfl
def oM(id:Int)(us:List Ku)(k:Nat):List Ls:=(us.getD k u0).lost.map (fun b=>⟨id,k,b⟩)
def jd(id:Int)(us:List Ku):Nat→List Ls
 | 0=>[]
 | k+1=>jd id us k++oM id us k
def Ku.clr(u:Ku):Ku:={u with lost:=[]}
def mX(us:List Ku)(k:Nat):List Ku:=(us.take k).map Ku.clr++us.drop k
theorem KR(us:List Ku)(k:Nat)(hk:k<us.length):(mX us k).getD k u0=us.getD k u0:=by
 unfold mX
 rw[List.getD,List.getElem?_append_right (by simp;omega),List.getD]
 simp
 rw[show k - min k us.length=0 by omega]
 simp
theorem KQ(us:List Ku)(k:Nat)(hk:k<us.length):(mX us k).set k (us.getD k u0).clr=mX us (k+1):=by
 apply List.ext_getElem?
 intro i
 unfold mX
 rw[List.getElem?_set]
 by_cases hi:k=i
 ·subst hi
  rw[if_pos rfl,if_pos (by simp;omega),List.getElem?_append_left (by simp;omega)]
  simp[List.getD,hk]
 ·rw[if_neg hi]
  by_cases hlt:i<k
  ·rw[List.getElem?_append_left (by simp;omega),List.getElem?_append_left (by simp;omega)]
   simp[List.getElem?_take,hlt,show i<k+1 by omega]
  ·rw[List.getElem?_append_right (by simp;omega),List.getElem?_append_right (by simp;omega)]
   simp only[List.length_map,List.length_take,List.getElem?_drop]
   rw[show min k us.length=k by omega,show min (k+1) us.length=k+1 by omega,show k+(i - k)=i by omega,show k+1+(i - (k+1))=i by omega]
def FL(σ:Own)(T k:Nat):Prop:=σ k=T+1∨σ k=T+2
def LostP(X:Fx)(V:Vx)(B:Bk)(K:Nat)(σ:Own)(v:Vo)(us:List Ku)(id:Int)(w:World)(e:Ending)(w':World):Prop:=∃ao n cap,e= .returned (.slice ao n cap)∧bH lS 3 ls0 w' ao n (jd id us v.m.ch)∧(∀a,ao=some a→w.heap.size≤a.block)∧fJ X V B K σ w' v (mX us v.m.ch)∧af (FL σ V.T) w w'
theorem wV(id:Int)(us:List Ku)(K:Nat)(h: ∀k,k<2→(us.getD k u0).lost.length≤K): ∀k,k≤2→(jd id us k).length≤k*K:=by
 intro k
 induction k with
 | zero=>intro _;simp[jd]
 | succ k ih=>
  intro hk
  have h1:=ih (by omega)
  have h2:=h k (by omega)
  simp only[jd,List.length_append,oM,List.length_map,Nat.succ_mul]
  omega
theorem fJ.told{X:Fx}{V:Vx}{B:Bk}{K:Nat}{σ:Own}{w w':World}{v:Vo}{us:List Ku}(h:fJ X V B K σ w v us){k:Nat}(hk:k<v.m.ch){kv:Value}(hcu:dH X.fb (V.C v.m k) σ w' kv (.slice none 0 0) {us.getD k u0 with lost:=[]})(hkk:af (fun j=>j=(V.C v.m k).cb) w w')(hown:σ (V.C v.m k).cb=V.T+1+k):fJ X V B K σ w' v (us.set k (us.getD k u0).clr):=by
 have hu:=h.uo k hk
 exact h.IP Me hk hcu ⟨hu.f0,hu.f1,Nat.zero_le _,fun z hz=>by cases hz⟩ (hkk.mono fun b _ e=>.inr (.inr (by rw[e];exact hown))) (Ext.refl _ _)
theorem JH(X:Fx)(V:Vx)(B:Bk)(K:Nat)(hK:K≤500000)(σ:Own)(v:Vo)(us:List Ku)(id:Int)(w:World)(hsane: ∀k,σ k≠0→k<w.heap.size)(hvo:fJ X V B K σ w v us):Calls Tryz.prog 75 #[.pointer (some ⟨V.vb,0,none⟩),.int .i64 id] w (LostP X V B K σ v us id w):=by
 obtain⟨pb,cap,hrow,hpo,hpl,hpc⟩:=hvo.row
 have HN:=MI (lG V.vb (some ⟨pb,0,none⟩) cap v hvo.ok w hrow)
 have hc0:=hvo.ok.m.c0
 have hc1:=hvo.ok.m.c1
 have hun:=hvo.vH
 obtain⟨c0,c1,c2,c3,c4,c5,c6,c7,c8,c9,c10,c11,c12,f10,f11,f12⟩:=dE hrow
 have ht:=hvo.t
 have hul:=fun k (hk:k<v.m.ch)=>(hvo.uo k hk).l
 have HW:=MI (fun k (hk:k<v.m.ch)=>(hvo.uo k hk).wf)
 have HV:=MI hvo
 have HPC:=MI hpc
 have hge: ∀k,¬k<v.m.ch→us.getD k u0=u0:=fun k hk=>by simp[List.getD,hun,hk]
 have hul2: ∀k,k<2→(us.getD k u0).lost.length≤K:=fun k _=>by
  by_cases h:k<v.m.ch
  ·exact hul k h
  ·rw[hge k h];exact Nat.zero_le _
 have HLL:=MI (wV id us K hul2)
 have HUL:=MI hul
 have HUN:=MI hun
 clear hvo hrow c0 c1 c2 c3 c4 c5 c6 c7 c8 c10 c11 c12 f10 f11 f12 hpc hul hul2 hge hun
 go_enter Tryz.func75,Tryz.ntmps75
 go_upto_region 5 with(go_at_call 109;refine HN.out.mono ?_;rintro e w' ⟨rfl,rfl⟩)
 go_loopw [17,5] (fun v17 v5 wr=>∃j:Nat,j≤v.m.ch∧v17= .int .i64 (j:Int)∧wr.ownsRow w.heap.size 215 3 v5 (jd id us j).length ((jd id us j).flatMap lS)∧fJ X V B K σ wr v (mX us j)∧af (FL σ V.T) w wr) (fun v17 _ _=>v.m.ch - aG v17)
 case atStart=>exact⟨0,by omega,rfl,World.ownsRow_nil _ _ _ _,by rw[show mX us 0=us by simp[mX]];exact HV.out,af.refl _ _⟩
 case round=>
  clear c9
  obtain⟨j,hj,rfl,hown,hVj,hK0⟩:=hrel
  by_cases hlt:j<v.m.ch
  ·have hcj:wr.cell? ⟨pb,j,none⟩=some (.pointer (some ⟨V.cs.getD j 0,0,none⟩)):=hK0.cell (HPC.out j hlt) (fun e=>by unfold FL at e;simp only at e;omega)
   obtain⟨kv,lv,hcu⟩:=hVj.cur j hlt
   have hgj:(mX us j).getD j u0=us.getD j u0:=KR us j (by rw[HUN.out];exact hlt)
   rw[hgj] at hcu
   have hcs:σ (V.C v.m j).cb=V.T+1+j:=hcu.own
   have hwf: ∀z ∈ (us.getD j u0).lost,(Lit.int .i64 z).wf=true:=HW.out j hlt
   have HM0:=zO X.fb (V.C v.m j) σ kv lv (us.getD j u0) hwf wr hcu
   have HM:Calls Tryz.prog 110 #[.pointer (some ⟨V.cs.getD j 0,0,none⟩)] wr (LH X.fb (V.C v.m j) σ kv (us.getD j u0) wr):=HM0
   have HCB:=MI (show(V.C v.m j).cb=V.cs.getD j 0 from rfl)
   generalize V.cs.getD j 0=cbj at*
   have HMH:=MI HM
   unfold LH at HMH
   have HSet:=MI (KQ us j (by rw[HUN.out];exact hlt))
   have hlj:=HUL.out j hlt
   have HLj:=MI (HLL.out j (by omega))
   have HGJ:=MI hgj
   have HRC:=MI hcu.row
   have htt:((V.C v.m j).t=V.T+1+j):=rfl
   have hlk:oM id us j=(us.getD j u0).lost.map (fun b=>⟨id,j,b⟩):=rfl
   have hls:jd id us (j+1)=jd id us j++oM id us j:=rfl
   generalize hll:(us.getD j u0).lost=ll at*
   have HLK:=MI hlk
   have HLS:=MI hls
   have HLI:=MI hll
   have HVj:=MI hVj
   have HK0:=MI hK0
   have HOwn:=MI hown
   have HCS:=MI hcs
   have hlt2:(j:Int)<(v.m.ch:Int):=by omega
   clear hVj hcu HM HM0 hown hK0 hgj hcs hlk hls hll
   go_upto_region 8 with(first
    | (go_at_call 110;refine HMH.out.mono ?_;rintro e w2 ⟨lo,lc,rfl,hI2,hlo2,hCU2,hK2⟩))
   have HV2:Hid (fJ X V B K σ w2 v (mX us (j+1))):=by
    have h1:=HVj.out.told hlt (kv:=kv) (by rw[HGJ.out];exact hCU2) hK2 HCS.out
    rw[HGJ.out,HSet.out] at h1
    exact h1
   have hown2:=ay HOwn.out hK2 (fun k e hs=>by
    obtain⟨cs,hcs⟩:=ag HOwn.out e
    have h1:=HRC.out
    rw[←hs,hcs] at h1
    cases h1)
   have HK2:=MI (HK0.out.andThen hK2 (S:=FL σ V.T) (fun i hi e=>by unfold FL;rw[e,HCS.out];omega))
   have HI2:=MI hI2
   have HLo2:=MI hlo2
   have HO2:=MI hown2
   have hll1:ll.length≤K:=hlj
   clear hI2 hlo2 hCU2 hK2 hown2 HMH hcj
   go_loopw [25,5] (fun v25 v5 wi=>∃i:Nat,i≤ll.length∧v25= .int .i64 (i:Int)∧wi.ownsRow w.heap.size 215 3 v5 ((jd id us j).length+i) ((jd id us j++(oM id us j).take i).flatMap lS)∧fJ X V B K σ wi v (mX us (j+1))∧af (FL σ V.T) w wi∧Ints .i64 wi lo ll.length ll) (fun v25 _ _=>ll.length - aG v25)
   case atStart=>exact⟨0,by omega,rfl,by simpa using HO2.out,HV2.out,HK2.out,HI2.out⟩
   case round=>
    clear HO2 HV2 HK2 HI2
    obtain⟨i,hi,rfl,howni,hVi,hKi,hIi⟩:=hrel
    by_cases hil:i<ll.length
    ·obtain⟨a,c,rfl,hcc,hc,hc1',hc2'⟩:=hIi.int hil
     have hlo3:=HLo2.out a rfl
     have hbd:(jd id us j).length+i+1≤2000000:=by
      have h1:=HLj.out
      have h2:j*K≤2*K:=Nat.mul_le_mul_right _ (by omega)
      omega
     have HTK:Hid (lS ⟨id,j,c⟩=[.int .i64 id,.int .i64 j,.int .i64 c]):=rfl
     have HST:Hid ((jd id us j++(oM id us j).take (i+1)).flatMap lS=(jd id us j++(oM id us j).take i).flatMap lS++[.int .i64 id,.int .i64 j,.int .i64 c]):=by
      have h1:(oM id us j).take (i+1)=(oM id us j).take i++[⟨id,j,c⟩]:=by
       rw[HLK.out,←List.map_take,←List.map_take,fU ll i hil,hcc.out,List.map_append]
       rfl
      show _=_
      rw[h1,←List.append_assoc,List.flatMap_append]
      rfl
     have HIi:=MI hIi
     have HVi:=MI hVi
     have HKi:=MI hKi
     have HOi:=MI howni
     clear hIi hVi hKi howni hcc
     go_wp2_with (at_builtin;refine pq rfl (.tmp 29) (.tmp 34) 32 215 3 rfl Tryz.underlying32 Ew rfl (by omega) w.heap.size _ _ _ rfl HOi.out [.int .i64 id,.int .i64 j,.int .i64 c] rfl rfl (by simp[Value.oneCell']) (by omega) (by unfold maxLen;omega) HKi.out.size ?_;intro v' w3 hown3 hk3)
     refine⟨⟨i+1,by omega,by go_num,by rw[HST.out];exact hown3,HVi.out.keep hk3 (fun k e _=>?_),HKi.out.andThen hk3 (fun k hk e=>?_),HIi.out.kept hk3 (fun x hx e=>?_)⟩,by simp[aG];omega⟩
     ·have h1:=(HOi.out.lt k e).1
      have h2:σ k=0:=Classical.byContradiction fun hn=>by have:=hsane k hn;omega
      rw[h2]
      omega
     ·have h1:=(HOi.out.lt k e).1
      omega
     ·cases hx
      have h1:=(HOi.out.lt _ e).1
      have h2:=hsane a.block (by rw[hlo3,htt];omega)
      omega
    ·obtain rfl:i=ll.length:=by omega
     have hnl:¬ll.length<ll.length:=by omega
     have HN:Hid (wr.ownsRow w.heap.size 215 3 u5 (jd id us (j+1)).length ((jd id us (j+1)).flatMap lS)):=by
      have h1:(oM id us j).length=ll.length:=by rw[HLK.out,List.length_map]
      rw[List.take_of_length_le (by omega)] at howni
      show wr.ownsRow _ _ _ _ _ _
      rw[HLS.out,List.length_append,h1]
      exact howni
     clear howni
     go_wp2_with fail
     exact⟨⟨j+1,by omega,by go_num,HN.out,hVi,hKi⟩,by simp[aG];omega⟩
  ·obtain rfl:j=v.m.ch:=by omega
   obtain⟨ao,cap5,rfl,hnc,hrec,hao⟩:=jO ls0 qR (by omega) hown
   have hnl:¬v.m.ch<v.m.ch:=by omega
   go_wp2_with fail
   go_ret
   exact⟨ao,_,cap5,rfl,hrec,fun a ha=>(hao a ha).1,hVj,hK0⟩
end Go.Proofs.YtnicjahcgnhogaaGreatDoor
