/- Part 33 of the walk: contracts of the program's functions, each for every input. No condition. -/
import Derived.Test.YtnicjahcgnhogaaGreatDoorQ31
set_option linter.unusedVariables false
set_option linter.unusedSimpArgs false
set_option maxRecDepth 100000
set_option maxHeartbeats 8000000
namespace Go.Proofs.YtnicjahcgnhogaaGreatDoor
open Go Go.RowKit Go.Calli
attribute [local irreducible] wpStill wpAnyH wpAnyS wpList Code.wp
def mA:Mt:=⟨strOfNums [97],2,1,1,false,0,0,84,96⟩
def ZL:List Int:=[0,0,0,0,0,0,0,0,0,0,0,0,0,0,0,0,0,0,0,0,0,0,0,0,0,0,0,0,0,0,0,0,0,0,0,0,0,0,0,0,0,0,0,0,0,0,0,0,0,0,0,0,0,0,0,0,0,0,0,0,0,0,0,0,0,0,0,0,0,0,0,0,0,0,0,0,0,0,0,0,0,0,0,0,227,119,106,108,0,0,0,0,0,0,0,0,64,0,28,6,1,128,99,74,243,124,210,112,130,131,37,0,21,128,63,0,0,0,0,0,0,0,0,0,0,0,0,0,0,0,0,0,0,0,0,0,0,0,0,0,0,0,0,0,0,0,0,0,0,0,0,0,0,0,0,0,0,0,0,0,0,0,0,0,0,0,0,0,0,0,0,0,0,0,0,0,0,0,0,0,0,0,0,0,0,0,0,0,0,0,0,0]
def ZH:List Int:=[67,65,76,49,0,0,0,192,0,1,55,0,0,0,0,0,97,0,0,0,0,0,0,0,0,0,0,0,0,0,0,0,0,0,0,0,0,0,0,0,0,0,0,0,0,0,0,0,0,0,0,2,0,0,0,1,0,0,0,0,0,0,0,0,0,0,0,84,0,0,0,96,1,0,0,0,0,0,0,0,0,0,0,0,227,119,106,108,0,0,0,0,0,0,0,0,64,0,28,6,1,128,99,74,243,124,210,112,130,131,37,0,21,128,63,0,0,0,0,0,0,0,0,0,0,0,0,0,0,0,0,0,0,0,0,0,0,0,0,0,0,0,0,0,0,0,0,0,0,0,0,0,0,0,0,0,0,0,0,0,0,0,0,0,0,0,0,0,0,0,0,0,0,0,0,0,0,0,0,0,0,0,0,0,0,0,0,0,0,0,0,0]
theorem layA:rW (List.replicate 192 0) mA [50,60] 55=ZL:=by
 unfold rW
 rw[frA,cfAll]
 kernel_rfl
theorem hdA:hdS ZL [mA] 55 1=ZH:=by kernel_rfl
theorem tkA:ZH.take 80=[67,65,76,49,0,0,0,192,0,1,55,0,0,0,0,0,97,0,0,0,0,0,0,0,0,0,0,0,0,0,0,0,0,0,0,0,0,0,0,0,0,0,0,0,0,0,0,0,0,0,0,2,0,0,0,1,0,0,0,0,0,0,0,0,0,0,0,84,0,0,0,96,1,0,0,0,0,0,0,0]:=by kernel_rfl
theorem headA:uM ZL [mA] 55=IMG:=by
 show jP (hdS ZL [mA] 55 1) 80 4 (fH ((hdS ZL [mA] 55 1).take 80)).toNat 4=IMG
 rw[hdA,tkA,chAll]
 kernel_rfl
theorem imgA(d:Option Addr)(dc:Nat):yD (sA d dc) [50,60] 55=IMG:=by
 unfold yD
 rw[upA,plLA]
 show uM (rW (List.replicate 192 0) mA [50,60] 55) [mA] 55=IMG
 rw[layA,headA]
theorem w8A:W8 IMG:=by
 have h:IMG.all (fun z=>(Lit.int .u8 z).wf)=true:=by kernel_rfl
 exact fun z hz=>(List.all_eq_true.1 h) z hz
theorem b8A:W8 (frB (exF [50,60]).z [] 55):=by
 rw[frA]
 have h:([64,0,28,6,1,128,99,74,243,124,210,112,130,131,37,0,21,128,63,0,0,0,0,0,0,0,0,0,0,0,0,0,0,0,0,0,0,0,0,0,0,0,0,0,0,0,0,0,0,0,0,0,0,0,0]:List Int).all (fun z=>(Lit.int .u8 z).wf)=true:=by kernel_rfl
 exact fun z hz=>(List.all_eq_true.1 h) z hz
theorem layX:LK mA [50,60] 55:=⟨rfl,exA,rtA,by rw[lnA];decide,b8A⟩
theorem chkA(d:Option Addr)(dc:Nat):rO (sA d dc):=by
 refine⟨show ku [97]=true by kernel_rfl,show(1:Int)≤1∧(1:Int)≤192000 by decide,show(1≤1∧1≤2)∧1≤2∧2≤1048576 by decide,show oO false 0 0 2=true by kernel_rfl,fun k hk=>?_,fun k hk j hj=>?_⟩
 ·have h1:k<1:=hk
  obtain rfl:k=0:=by omega
  rfl
 ·have h1:k<1:=hk
  have h2:j<2:=hj
  obtain rfl:k=0:=by omega
  have h3:j=0∨j=1:=by omega
  rcases h3 with rfl | rfl
  ·show(-32768:Int)≤50∧(50:Int)<32768;decide
  ·show(-32768:Int)≤60∧(60:Int)<32768;decide
theorem pA1:mG IMG=false:=by kernel_rfl
theorem pA2:jv IMG=false:=by kernel_rfl
theorem pA3:lC IMG=false:=by
 unfold lC
 rw[show IMG.take (16+64*nOf IMG)=[67,65,76,49,0,0,0,192,0,1,55,0,0,0,0,0,97,0,0,0,0,0,0,0,0,0,0,0,0,0,0,0,0,0,0,0,0,0,0,0,0,0,0,0,0,0,0,0,0,0,0,2,0,0,0,1,0,0,0,0,0,0,0,0,0,0,0,84,0,0,0,96,1,0,0,0,0,0,0,0] by kernel_rfl,chAll]
 kernel_rfl
theorem pA4:(List.range (nOf IMG)).any (gY IMG)=false:=by kernel_rfl
theorem pA5:eU IMG=false:=by kernel_rfl
theorem pA6:IMG.length=192:=by kernel_rfl
theorem pA7:nOf IMG=1:=by kernel_rfl
theorem errA:kz IMG 1 1 0=0:=by
 have h:dO IMG=0:=by
  unfold dO
  rw[pA6,pA1,pA2,pA3,pA4,pA5,pA7]
  rfl
 unfold kz
 rw[h]
 rfl
theorem mtbA:MtB mA:=⟨by rw[show mA.nm.size=1 by kernel_rfl];decide,fun i=>by
 have h:((six mA).all (fun x=>decide (x<4294967296)))=true:=by kernel_rfl
 rw[List.all_eq_true] at h
 rw[List.getD]
 cases hg:(six mA)[i]? with
 | none=>decide
 | some x=>exact of_decide_eq_true (h x (List.mem_of_getElem? hg)),show 1≤2 by decide⟩
theorem packA(b cap:Nat)(d:Option Addr)(dc:Nat)(W:World)(hS:lY W (sA d dc))(h:W.rangeAt b 0 (srV (sA d dc))):Calls Tryz.prog 19 #[.int .i64 55,.slice (some ⟨b,0,none⟩) 1 cap] W (Lu (sA d dc) [50,60] 55 W):=
 Cm 55 (by decide) (by decide) b cap (sA d dc) [50,60] rfl (chkA d dc) (show(0:Int)≤1 by decide) (Int.le_refl 0) (Int.le_refl 0) (by decide) (by decide) (fun ms LL h1 h2=>by rw[plLA] at h1;subst h1;exact layX) (fun ms LL h1 h2=>by rw[plLA] at h1;rw[upA] at h2;subst h1 h2;decide) (fun ms h1=>by rw[plLA] at h1;subst h1;exact mtbA) (by rw[upA];decide) ⟨show 2≤1048576 by decide,show 1≤2 by decide⟩ (by rw[upA];decide) W hS h
theorem madeA(b0 c0:Nat)(d:Option Addr)(dc:Nat)(w:World)(hS:lY w (sA d dc))(h:w.rangeAt b0 0 (srV (sA d dc))):Calls Tryz.prog 5 #[.int .i64 55,.slice (some ⟨b0,0,none⟩) 1 c0,.agg #[.int .i64 1,.int .i64 1,()]] w (MadeP IMG 1 1 0 w):=by
 have hI:=imgA d dc
 have hm:=Gv 55 b0 c0 (sA d dc) [50,60] rfl (show 1≤100 by decide) (show 2≤150 by decide) (by rw[upA];decide) (by rw[hI,upA];exact pA6) (by rw[hI];exact w8A) 1 1 0 (fun W b cap g c hS h=>packA b cap (some ⟨g,0,none⟩) c W hS h) (by rw[hI];exact errA) w hS h
 rw[hI] at hm
 exact hm
theorem srokA{w:World}{d g:Nat}{cd cg:Nat}(h1:w.heap[d]? =some (.cells #[.slice (some ⟨g,0,none⟩) 2 cg] 33 (0,0)))(h2:w.heap[g]? =some (.cells #[.int .i64 50,.int .i64 60] 3 (0,0))):lY w (sA (some ⟨d,0,none⟩) cd):=by
 refine⟨fun x hx=>?_,show 1≤1000000000000 by decide,show 1≤1000000 by decide,fun k hk=>?_⟩
 ·have h:x=97:=by simpa[sA] using hx
  subst h
  decide
 ·have h3:k<1:=hk
  obtain rfl:k=0:=by omega
  refine⟨⟨d,0,none⟩,some ⟨g,0,none⟩,cg,rfl,?_,?_⟩
  ·exact LY h1 rfl
  ·refine⟨rfl,show 2≤2^63 - 1 by decide,fun i hi=>⟨_,rfl,?_⟩,fun z hz=>?_⟩
   ·have h4:i<2:=hi
    have h5:i=0∨i=1:=by omega
    rcases h5 with rfl | rfl
    ·exact LY h2 rfl
    ·exact LY h2 rfl
   ·have h4:z=50∨z=60:=by simpa[sA] using hz
    rcases h4 with rfl | rfl<;>decide
end Go.Proofs.YtnicjahcgnhogaaGreatDoor
namespace Go.Proofs.YtnicjahcgnhogaaGreatDoor
open Go Go.RowKit Go.Calli Go.Dskp Go.Maps
attribute [local irreducible] wpStill wpAnyH wpAnyS wpList Code.wp
theorem uV{X:Fx}{σ:Own}{w w':World}{B:Bk}{K:Nat}{f:Fe}(h:aK X σ w B K f){m m':Nat}(hm:m≤f.c.mx){d':Dk}(hok:d'.Ok)(himg:d'.img=f.c.d.img)(hr:d'.r=f.c.d.r)(hm':m'≤m+1)(hD:Cch.Dsk w' X.A.b X.A.mb X.A.ib X.A.kap m' d')(hk:af (fun k=>k=X.A.b∨k=X.A.mb) w w'):aK X σ w' B (K+1) {f with c:={f.c with d:=d',mx:=f.c.mx+1}}:=by
 have s0:=h.s0
 have hb0:σ X.A.b=0:=s0 _ (.inr (.inr (.inl rfl)))
 have hm0:σ X.A.mb=0:=s0 _ (.inr (.inr (.inr rfl)))
 have h0: ∀k,(k=X.A.b∨k=X.A.mb)→σ k=0:=fun k e=>e.elim (fun e=>e▸hb0) (fun e=>e▸hm0)
 obtain⟨ms,hS,hM⟩:=h.ca.slots
 obtain⟨d1,d2,d3,d4,d5,d6⟩:=h.ca.rY
 have hl:=h.lim.mono (j:=96*(K+1)) (by omega)
 refine⟨hk.heap h.row (fun e=>by have:=h0 _ e;have:=h.tf;omega),⟨hk.heap h.ca.row (fun e=>e.elim (fun e=>d2 e.symm) (fun e=>d3 e.symm)),⟨ms,hS.kept hk (fun e=>e.elim (fun e=>d4 e.symm) (fun e=>d5 e.symm)),hM.kept (hk.mono fun k _ e=>e.elim (fun e=>.inr (.inr (.inl e))) (fun e=>.inr (.inr (.inr e))))⟩,⟨m',by show m'≤f.c.mx+1;omega,hD⟩,h.ca.len,h.ca.hand,h.ca.rY,h.ca.away.mono hk.size⟩,h.bk.kept hk (fun k hT e=>by have:=h.tb k hT;have:=h0 k e;omega),h.tb,h.tf,h.n1,h.cok,⟨hl.h0,hl.h1,hl.m0,hl.m1,hl.t0,hl.t1,hl.l0,hl.l1,hok,by show d'.r≤_;rw[hr];exact hl.r,by show f.c.mx+1≤_;have:=h.lim.mx;omega,hl.r0,hl.r1⟩,by show d'.img=B.img;rw[himg];exact h.img⟩
theorem Ky{X:Fx}{σ:Own}{w w':World}{B:Bk}{K:Nat}{f:Fe}(h:aK X σ w B K f)(p:Int)(hca:Cch.gZ (X.ad σ) w' X.n (Cch.evC f.c p))(hk:af (X.ad σ).S w w'):aK X σ w' B (K+1) {f with c:=Cch.evC f.c p}:=by
 refine h.span hk hca ?_ ((h.lim.ev p).mono (by omega)) ?_
 ·exact(Cch.evC_ok h.cok p).1
 ·unfold Cch.evC
  split<;>exact h.img
structure Ac where
 k:Int
 v:Int
 nm:ByteArray
 n:Int
 m:Int
 p:Int
 x:Int
def acA(a:Ac):Array Value:=#[.int .i64 a.k,.int .i64 a.v,.string a.nm,.int .i64 a.n,.int .i64 a.m,.int .i64 a.p,.int .i64 a.x]
structure Ac.Wf(a:Ac):Prop where
 n:(Lit.int .i64 a.n).wf=true
 m:(Lit.int .i64 a.m).wf=true
structure Tl where
 err:Int
 n:Int
 ov:Value
 lv:Value
 ev:Value
 fr:Int
 rd:Int
def tlA(t:Tl):Array Value:=#[.int .i64 t.err,.int .i64 t.n,t.ov,t.lv,t.ev,.int .i64 t.fr,.int .i64 t.rd]
def qT(err n:Int):Tl:=⟨err,n,.slice none 0 0,.slice none 0 0,.slice none 0 0,0,0⟩
structure Rs where
 f:Fe
 y:Ye
 sh:Envp.Sh
def lU(f:Fe)(a:Ac):Fe:=
 if a.k=7 then{f with c:=Cch.evC f.c a.n} else if a.k=8 then{f with c:={f.c with d:=flS f.c.d a.n a.m,mx:=f.c.mx+1}} else if a.k=9 then{f with c:={f.c with d:=spS f.c.d a.n a.m (a.x%256),mx:=f.c.mx+1}} else if a.k=10 then{f with c:={f.c with d:=hlS f.c.d a.n,mx:=f.c.mx+1}} else f
def lT(f:Fe)(a:Ac):Tl:=
 if a.k=7 then qT 0 (if Cch.evB f.c a.n then 1 else 0) else if a.k=8 then qT (flE f.c.d a.n) 0 else if a.k=9 then qT (spE f.c.d a.n a.m) 0 else if a.k=10 then qT (flE f.c.d a.n) 0 else qT 1 0
def RenT(B:Bk)(n:Nat)(s s':Rs)(k:Nat)(t:Tl)(O:List (Int×Int))(r:Rp):Prop:=A8 B n s.f s.y k s'.f s'.y r O∧O.length=k∧s'.sh=s.sh∧t.err=0∧t.n=0∧(∃oo oc,t.ov= .slice oo O.length oc)∧(∃lo lc,t.lv= .slice lo r.lost.length lc)∧(∃eo ec,t.ev= .slice eo r.ended.length ec)∧t.fr=s'.f.fr - s.f.fr∧t.rd=s'.f.c.d.r - s.f.c.d.r
def dY(B:Bk)(Y:Yx)(a:Ac)(s s':Rs)(t:Tl)(O:List (Int×Int))(r:Rp):Prop:=
 if a.k=6 then((a.n<0∨256<a.n)∧s'=s∧t=qT 5 0∧O=[])∨(0≤a.n∧a.n≤256∧RenT B Y.n s s' a.n.toNat t O r)
 else O=[]∧(if a.k=1 then(fM B.dir a.nm=false∧s'=s∧t=qT 7 0)∨(fM B.dir a.nm=true∧∃P:Px,P.V.i=gm B.dir a.nm∧s'={s with y:=⟨s.y.ps.set (gI Y s.y) (some (P,pJ (B.dir.getD (gm B.dir a.nm) m0) s.sh (s.y.count+1))),s.y.count+1⟩}∧t=qT 0 (gI Y s.y))
 else if a.k=2 then s'={s with y:=(iT Y s.y a.v).2}∧t=qT (iT Y s.y a.v).1 0
 else if a.k=3 then s'={s with y:=(cZ Y s.y a.v (fun p=>((dJ p.v a.n).1,{p with v:=(dJ p.v a.n).2}))).2}∧t=qT (cZ Y s.y a.v (fun p=>((dJ p.v a.n).1,{p with v:=(dJ p.v a.n).2}))).1 0
 else if a.k=4 then s'={s with y:=(cZ Y s.y a.v (fun p=>((dI p.v a.p).1,{p with v:=(dI p.v a.p).2}))).2}∧t=qT (cZ Y s.y a.v (fun p=>((dI p.v a.p).1,{p with v:=(dI p.v a.p).2}))).1 0
 else if a.k=5 then s'={s with y:=(cZ Y s.y a.v (kZ a.n a.m)).2}∧t=qT (cZ Y s.y a.v (kZ a.n a.m)).1 0
 else if a.k=11 then s'=(if Nv.okB ⟨a.n,a.n,a.x,a.m⟩=true then{s with sh:=⟨a.n,a.n,a.x,a.m⟩} else s)∧t=qT (if Nv.okB ⟨a.n,a.n,a.x,a.m⟩=true then 0 else 1) 0
 else if a.k=12 then s'={s with y:=(cZ Y s.y a.v (fun p=>(0,{p with sl:=Envp.rel p.sl}))).2}∧t=qT (cZ Y s.y a.v (fun p=>(0,{p with sl:=Envp.rel p.sl}))).1 0
 else s'={s with f:=lU s.f a}∧t=lT s.f a)
theorem aQ{w:World}{b T:Nat}{v0 v1 v2 v3 v4 v5 v6:Value}(h:w.heap[b]? =some (.cells #[v0,v1,v2,v3,v4,v5,v6] T (0,0))):w.cell? ⟨b,0,none⟩=some v0∧w.cell? ⟨b,1,none⟩=some v1∧w.cell? ⟨b,2,none⟩=some v2∧w.cell? ⟨b,3,none⟩=some v3∧w.cell? ⟨b,4,none⟩=some v4∧w.cell? ⟨b,5,none⟩=some v5∧w.cell? ⟨b,6,none⟩=some v6:=
 ⟨LY h rfl,LY h rfl,LY h rfl,LY h rfl,LY h rfl,LY h rfl,LY h rfl⟩
theorem tl_info(t:Tl):(Tryz.prog.info? 37).map (·.size)=some (tlA t).size:=by kernel_rfl
def yQ(X:Fx)(Y:Yx)(B:Bk)(K:Nat)(σ:Own)(rb:Nat)(f:Fe)(a:Ac)(w:World)(e:Ending)(w':World):Prop:=∃σ',e= .returned (.agg (tlA (lT f a)))∧Ext σ σ' w.heap.size∧aK X σ' w' B (K+1) (lU f a)∧af (fun k=>σ k=0) w w'
structure FlS(X:Fx)(B:Bk)(K:Nat)(σ:Own)(f:Fe)(a:Ac)(w W:World)(t:Tl):Prop where
 fe:aK X (aA σ w.heap.size (w.heap.size+2) 3) W B K f
 box:W.heap[w.heap.size]? =some (.cells (acA a) 40 (0,0))
 tl:W.heap[w.heap.size+1]? =some (.cells (tlA t) 37 (0,0))
 k:af (fun k=>σ k=0) w W
theorem FlS.fin{X:Fx}{Y:Yx}{B:Bk}{K:Nat}{σ:Own}{rb:Nat}{f f':Fe}{a:Ac}{w W W':World}{t t':Tl}(h:FlS X B K σ f a w W t)(hF:aK X (aA σ w.heap.size (w.heap.size+2) 3) W' B (K+1) f')(hk:af (fun k=>aA σ w.heap.size (w.heap.size+2) 3 k=0∨w.heap.size≤k) W W')(ef:lU f a=f')(et:lT f a=t'):yQ X Y B K σ rb f a w (.returned (.agg (tlA t'))) W':=by
 have hx:=bZ σ w.heap.size (w.heap.size+2) 3
 refine⟨_,by rw[et],hx,by rw[ef];exact hF,h.k.andThen hk (fun i hi e=>?_)⟩
 rw[hx i hi] at e
 rcases e with e | e
 ·exact e
 ·omega
theorem kC{X:Fx}{B:Bk}{K:Nat}{σ:Own}{f:Fe}(a:Ac){w:World}(h:aK X σ w B K f):FlS X B K σ f a w ((w.alloc (.cells (acA a) 40)).alloc (.cells (tlA (qT 0 0)) 37)) (qT 0 0):=by
 have hb1:=ae w (.cells (acA a) 40)
 have hb2:=iR hb1 (.cells (tlA (qT 0 0)) 37)
 have h7:=h.aA (af.au (S:=fun k=>3≤σ k) hb2 Me) 3
 refine⟨by simpa using h7,(heap_alloc_old _ _ (by simp)).trans (L9 w _),?_,af.au hb2 Me⟩
 have h1:=L9 (w.alloc (.cells (acA a) 40)) (.cells (tlA (qT 0 0)) 37)
 simpa using h1
theorem FlS.tail{X:Fx}{Y:Yx}{B:Bk}{K:Nat}{σ:Own}{rb:Nat}{f f':Fe}{a:Ac}{w W w2 W':World}{t t':Tl}(h:FlS X B K σ f a w W t)(hF:aK X (aA σ w.heap.size (w.heap.size+2) 3) w2 B (K+1) f')(hk:af (fun k=>aA σ w.heap.size (w.heap.size+2) 3 k=0) W w2)(hk2:af (fun k=>k=w.heap.size+1) w2 W')(ef:lU f a=f')(et:lT f a=t'):yQ X Y B K σ rb f a w (.returned (.agg (tlA t'))) W':=
 h.fin (hF.kept (hk2.mono fun k _ e=>by rw[e,aT σ 3 (by omega) (by omega)];exact Nat.le_refl 3)) ((hk.mono fun k _ e=>.inl e).andThen hk2 (fun i hi e=>.inr (by omega))) ef et
def RkC(X:Fx)(Y:Yx)(w:World)(rb:Nat)(sh:Envp.Sh):Prop:=(w.cell? ⟨rb,0,none⟩=some (.pointer (some ⟨Y.yb,0,none⟩))∧w.cell? ⟨rb,1,none⟩=some (.pointer (some ⟨X.D.bb,0,none⟩))∧w.cell? ⟨rb,2,none⟩=some (.pointer (some ⟨X.A.b,0,none⟩))∧w.cell? ⟨rb,3,none⟩=some (.pointer (some ⟨X.A.cb,0,none⟩)))∧w.cell? ⟨rb,4,none⟩=some (.int .i64 sh.a)∧w.cell? ⟨rb,5,none⟩=some (.int .i64 sh.d)∧w.cell? ⟨rb,6,none⟩=some (.int .i64 sh.s)∧w.cell? ⟨rb,7,none⟩=some (.int .i64 sh.r)
theorem dZ.cells{X:Fx}{Y:Yx}{σ:Own}{w:World}{rb:Nat}{sh:Envp.Sh}{m:Nat×Nat}(h:dZ X Y σ w rb sh m):RkC X Y w rb sh:=by
 obtain⟨tv,xs,h1,-,-⟩:=h.row
 exact⟨⟨LY h1 rfl,LY h1 rfl,LY h1 rfl,LY h1 rfl⟩,LY h1 rfl,LY h1 rfl,LY h1 rfl,LY h1 rfl⟩
theorem Du(X:Fx)(Y:Yx)(B:Bk)(K:Nat)(hK:K≤470000)(σ:Own)(rb:Nat)(sh:Envp.Sh)(M:Nat×Nat)(f:Fe)(a:Ac)(ha:a.Wf)(h8:a.k=8)(w:World)(h:aK X σ w B K f)(hr:dZ X Y σ w rb sh M):Calls Tryz.prog 68 #[.pointer (some ⟨rb,0,none⟩),.agg (acA a)] w (yQ X Y B K σ rb f a w):=by
 have hS:=kC a h
 have hb1:=ae w (.cells (acA a) 40)
 have hb2:=iR hb1 (.cells (tlA (qT 0 0)) 37)
 obtain⟨⟨c0,c1,c2,c3⟩,-⟩:=(hr.ah hb2).cells
 have hfm:=bounds_i64 ha.m
 have hok:=h.lim.ok
 have eF:lU f a={f with c:={f.c with d:=flS f.c.d a.n a.m,mx:=f.c.mx+1}}:=by unfold lU;rw[if_neg (by omega),if_pos h8]
 have eT:lT f a=qT (flE f.c.d a.n) 0:=by unfold lT;rw[if_neg (by omega),if_pos h8]
 have hlim:=h.lim.mx
 have hd'1:(flS f.c.d a.n a.m).img=f.c.d.img:=by unfold flS;split<;>rfl
 have hd'2:(flS f.c.d a.n a.m).r=f.c.d.r:=by unfold flS;split<;>rfl
 have hd'3:=flS_ok hok a.n a.m (by omega)
 have HS:=MI hS
 have HT:=MI (fun w2 W' hF hk hk2=>hS.tail (Y:=Y) (rb:=rb) (w2:=w2) (W':=W') hF hk hk2 eF eT)
 have hn:=MI ha.n
 clear hb1 hb2 hr h hS eF eT
 obtain⟨ak,av,anm,an,am,ap,ax⟩:=a
 simp only at*
 subst h8
 unfold acA tlA qT at*
 simp only at*
 go_enter Tryz.func68,Tryz.ntmps68
 go_upto_region 1 with fail
 generalize (w.alloc (.cells #[.int .i64 8,.int .i64 av,.string anm,.int .i64 an,.int .i64 am,.int .i64 ap,.int .i64 ax] 40)).alloc (.cells #[(),(),.slice none 0 0,.slice none 0 0,.slice none 0 0,(),()] 37)=W at*
 obtain⟨b0,b1,b2,b3,b4,b5,b6⟩:=aQ HS.out.box
 have hd:W.drew.heap=W.heap:=rfl
 have hFd:aK X (aA σ w.heap.size (w.heap.size+2) 3) W.drew B K f:=HS.out.fe.ah MB.drew
 have HFd:=MI hFd
 obtain⟨m,hm,hD⟩:=hFd.ca.dsk
 have HC:=MI (Cch.qg X.A.b X.A.mb X.A.ib X.A.kap m f.c.d hok (by omega) an am hn.out W.drew hD)
 unfold Cch.ou at HC
 have hTl:W.drew.heap[w.heap.size+1]? =some (.cells #[(),(),.slice none 0 0,.slice none 0 0,.slice none 0 0,(),()] 37 (0,0)):=HS.out.tl
 have HTl:=MI hTl
 have s0:=hFd.s0
 have ht3: ∀k,(k=X.A.b∨k=X.A.mb)→aA σ w.heap.size (w.heap.size+2) 3 k=0:=fun k e=>e.elim (fun e=>e▸s0 _ (.inr (.inr (.inl rfl)))) (fun e=>e▸s0 _ (.inr (.inr (.inr rfl))))
 have hne:¬(w.heap.size+1=X.A.b∨w.heap.size+1=X.A.mb):=fun e=>by have h1:=ht3 _ e;rw[aT σ 3 (by omega) (by omega)] at h1;cases h1
 have HT3:=MI ht3
 have HNe:=MI hne
 clear hFd hD hTl s0 ht3 hne hd
 generalize flS f.c.d an am=d' at*
 generalize flE f.c.d an=fe' at*
 have hsz:(Tryz.prog.info? 37).map (·.size)=some (#[.int .i64 fe',.int .i64 0,.slice none 0 0,.slice none 0 0,.slice none 0 0,.int .i64 0,.int .i64 0]:Array Value).size:=by kernel_rfl
 have hone:(#[.int .i64 fe',(),.slice none 0 0,.slice none 0 0,.slice none 0 0,(),()]:Array Value).all (·.oneCell')=true:=by simp[Value.oneCell']
 go_upto_region 7 with fail
 go_region_law (go_simp;go_at_call 102;refine HC.out.mono ?_;rintro e w2 ⟨rfl,⟨m',hm',hD2⟩,hk2⟩;have hr2:=hk2.heap HTl.out HNe.out;have hF2:=uV HFd.out hm hd'3 hd'1 hd'2 hm' hD2 hk2;have hk3:af (fun k=>aA σ w.heap.size (w.heap.size+2) 3 k=0) W w2:=((af.refl _ W).drew).andThen hk2 (fun i hi e=>HT3.out i e);obtain⟨q0,q1,q2,q3,q4,q5,q6⟩:=aQ hr2;have z0:=frozen_of_row _ _ 0 _ _ hr2;have hr9:(w2.setCell ⟨w.heap.size+1,0,none⟩ (.int .i64 fe')).heap[w.heap.size+1]? =some (.cells #[.int .i64 fe',(),.slice none 0 0,.slice none 0 0,.slice none 0 0,(),()] 37 (0,0)):=(Mc hr2).trans rfl)
 all_goals go_wp2_with (first
  | (with_reducible refine MC 37 4 ?_;refine wpList_load_row rfl 37 (.tmp 4) rfl (w.heap.size+1) rfl 37 _ (0,0) _ hr9 Tryz.underlying37 rfl hsz ?_)
  | (with_reducible refine MF 37 4 55 ?_;refine wpList_store_row rfl 37 (.tmp 4) (.tmp 55) rfl (w.heap.size+1) _ rfl rfl 37 _ hr9 hsz rfl hone ?_))
 all_goals exact bodyPost_ret (results_cell_row rfl _ _ (w.heap.size+1) 37 _ (0,0) _ rfl (setRow_heap _ _ _ _ _ _ hr9) Tryz.underlying37 rfl hsz) rfl (HT.out w2 _ hF2 hk3 ((aC w2 (w.heap.size+1) 0 _).trans (aJ _ _ _)))
theorem Dt(X:Fx)(Y:Yx)(B:Bk)(K:Nat)(hK:K≤470000)(σ:Own)(rb:Nat)(sh:Envp.Sh)(M:Nat×Nat)(f:Fe)(a:Ac)(ha:a.Wf)(h8:a.k=9)(w:World)(h:aK X σ w B K f)(hr:dZ X Y σ w rb sh M):Calls Tryz.prog 68 #[.pointer (some ⟨rb,0,none⟩),.agg (acA a)] w (yQ X Y B K σ rb f a w):=by
 have hS:=kC a h
 have hb1:=ae w (.cells (acA a) 40)
 have hb2:=iR hb1 (.cells (tlA (qT 0 0)) 37)
 obtain⟨⟨c0,c1,c2,c3⟩,-⟩:=(hr.ah hb2).cells
 have hfm:=bounds_i64 ha.m
 have hok:=h.lim.ok
 have eF:lU f a={f with c:={f.c with d:=spS f.c.d a.n a.m (a.x%256),mx:=f.c.mx+1}}:=by unfold lU;rw[if_neg (by omega),if_neg (by omega),if_pos h8]
 have eT:lT f a=qT (spE f.c.d a.n a.m) 0:=by unfold lT;rw[if_neg (by omega),if_neg (by omega),if_pos h8]
 have hlim:=h.lim.mx
 have hd'1:(spS f.c.d a.n a.m (a.x%256)).img=f.c.d.img:=by unfold spS;split;rfl;split<;>rfl
 have hd'2:(spS f.c.d a.n a.m (a.x%256)).r=f.c.d.r:=by unfold spS;split;rfl;split<;>rfl
 have hd'3:=spS_ok hok a.n a.m (a.x%256) (by omega) (by omega)
 have HS:=MI hS
 have HT:=MI (fun w2 W' hF hk hk2=>hS.tail (Y:=Y) (rb:=rb) (w2:=w2) (W':=W') hF hk hk2 eF eT)
 have hn:=MI ha.n
 clear hb1 hb2 hr h hS eF eT
 obtain⟨ak,av,anm,an,am,ap,ax⟩:=a
 simp only at*
 subst h8
 unfold acA tlA qT at*
 simp only at*
 go_enter Tryz.func68,Tryz.ntmps68
 go_upto_region 1 with fail
 generalize (w.alloc (.cells #[.int .i64 9,.int .i64 av,.string anm,.int .i64 an,.int .i64 am,.int .i64 ap,.int .i64 ax] 40)).alloc (.cells #[(),(),.slice none 0 0,.slice none 0 0,.slice none 0 0,(),()] 37)=W at*
 obtain⟨b0,b1,b2,b3,b4,b5,b6⟩:=aQ HS.out.box
 have hd:W.drew.heap=W.heap:=rfl
 have hFd:aK X (aA σ w.heap.size (w.heap.size+2) 3) W.drew B K f:=HS.out.fe.ah MB.drew
 have HFd:=MI hFd
 obtain⟨m,hm,hD⟩:=hFd.ca.dsk
 have HC:=MI (Cch.Fj X.A.b X.A.mb X.A.ib X.A.kap m f.c.d hok (by omega) an am (ax%256) hn.out W.drew hD)
 unfold Cch.ou at HC
 have hTl:W.drew.heap[w.heap.size+1]? =some (.cells #[(),(),.slice none 0 0,.slice none 0 0,.slice none 0 0,(),()] 37 (0,0)):=HS.out.tl
 have HTl:=MI hTl
 have s0:=hFd.s0
 have ht3: ∀k,(k=X.A.b∨k=X.A.mb)→aA σ w.heap.size (w.heap.size+2) 3 k=0:=fun k e=>e.elim (fun e=>e▸s0 _ (.inr (.inr (.inl rfl)))) (fun e=>e▸s0 _ (.inr (.inr (.inr rfl))))
 have hne:¬(w.heap.size+1=X.A.b∨w.heap.size+1=X.A.mb):=fun e=>by have h1:=ht3 _ e;rw[aT σ 3 (by omega) (by omega)] at h1;cases h1
 have HT3:=MI ht3
 have HNe:=MI hne
 clear hFd hD hTl s0 ht3 hne hd
 generalize spS f.c.d an am (ax%256)=d' at*
 generalize spE f.c.d an am=fe' at*
 have hsz:(Tryz.prog.info? 37).map (·.size)=some (#[.int .i64 fe',.int .i64 0,.slice none 0 0,.slice none 0 0,.slice none 0 0,.int .i64 0,.int .i64 0]:Array Value).size:=by kernel_rfl
 have hone:(#[.int .i64 fe',(),.slice none 0 0,.slice none 0 0,.slice none 0 0,(),()]:Array Value).all (·.oneCell')=true:=by simp[Value.oneCell']
 have hwx:IntKind.u8.wrap ax=ax%256:=IntKind.wrap_u8 ax
 go_upto_region 9 with fail
 go_region_law (go_simp;go_at_call 103;refine HC.out.mono ?_;rintro e w2 ⟨rfl,⟨m',hm',hD2⟩,hk2⟩;have hr2:=hk2.heap HTl.out HNe.out;have hF2:=uV HFd.out hm hd'3 hd'1 hd'2 hm' hD2 hk2;have hk3:af (fun k=>aA σ w.heap.size (w.heap.size+2) 3 k=0) W w2:=((af.refl _ W).drew).andThen hk2 (fun i hi e=>HT3.out i e);obtain⟨q0,q1,q2,q3,q4,q5,q6⟩:=aQ hr2;have z0:=frozen_of_row _ _ 0 _ _ hr2;have hr9:(w2.setCell ⟨w.heap.size+1,0,none⟩ (.int .i64 fe')).heap[w.heap.size+1]? =some (.cells #[.int .i64 fe',(),.slice none 0 0,.slice none 0 0,.slice none 0 0,(),()] 37 (0,0)):=(Mc hr2).trans rfl)
 all_goals go_wp2_with (first
  | (with_reducible refine MC 37 4 ?_;refine wpList_load_row rfl 37 (.tmp 4) rfl (w.heap.size+1) rfl 37 _ (0,0) _ hr9 Tryz.underlying37 rfl hsz ?_)
  | (with_reducible refine MF 37 4 55 ?_;refine wpList_store_row rfl 37 (.tmp 4) (.tmp 55) rfl (w.heap.size+1) _ rfl rfl 37 _ hr9 hsz rfl hone ?_))
 all_goals exact bodyPost_ret (results_cell_row rfl _ _ (w.heap.size+1) 37 _ (0,0) _ rfl (setRow_heap _ _ _ _ _ _ hr9) Tryz.underlying37 rfl hsz) rfl (HT.out w2 _ hF2 hk3 ((aC w2 (w.heap.size+1) 0 _).trans (aJ _ _ _)))
theorem Am(X:Fx)(Y:Yx)(B:Bk)(K:Nat)(hK:K≤470000)(σ:Own)(rb:Nat)(sh:Envp.Sh)(M:Nat×Nat)(f:Fe)(a:Ac)(ha:a.Wf)(h8:a.k=10)(w:World)(h:aK X σ w B K f)(hr:dZ X Y σ w rb sh M):Calls Tryz.prog 68 #[.pointer (some ⟨rb,0,none⟩),.agg (acA a)] w (yQ X Y B K σ rb f a w):=by
 have hS:=kC a h
 have hb1:=ae w (.cells (acA a) 40)
 have hb2:=iR hb1 (.cells (tlA (qT 0 0)) 37)
 obtain⟨⟨c0,c1,c2,c3⟩,-⟩:=(hr.ah hb2).cells
 have hfm:=bounds_i64 ha.m
 have hok:=h.lim.ok
 have eF:lU f a={f with c:={f.c with d:=hlS f.c.d a.n,mx:=f.c.mx+1}}:=by unfold lU;rw[if_neg (by omega),if_neg (by omega),if_neg (by omega),if_pos h8]
 have eT:lT f a=qT (flE f.c.d a.n) 0:=by unfold lT;rw[if_neg (by omega),if_neg (by omega),if_neg (by omega),if_pos h8]
 have hlim:=h.lim.mx
 have hd'1:(hlS f.c.d a.n).img=f.c.d.img:=by unfold hlS;split<;>rfl
 have hd'2:(hlS f.c.d a.n).r=f.c.d.r:=by unfold hlS;split<;>rfl
 have hd'3:=hlS_ok hok a.n
 have HS:=MI hS
 have HT:=MI (fun w2 W' hF hk hk2=>hS.tail (Y:=Y) (rb:=rb) (w2:=w2) (W':=W') hF hk hk2 eF eT)
 have hn:=MI ha.n
 clear hb1 hb2 hr h hS eF eT
 obtain⟨ak,av,anm,an,am,ap,ax⟩:=a
 simp only at*
 subst h8
 unfold acA tlA qT at*
 simp only at*
 go_enter Tryz.func68,Tryz.ntmps68
 go_upto_region 1 with fail
 generalize (w.alloc (.cells #[.int .i64 10,.int .i64 av,.string anm,.int .i64 an,.int .i64 am,.int .i64 ap,.int .i64 ax] 40)).alloc (.cells #[(),(),.slice none 0 0,.slice none 0 0,.slice none 0 0,(),()] 37)=W at*
 obtain⟨b0,b1,b2,b3,b4,b5,b6⟩:=aQ HS.out.box
 have hd:W.drew.heap=W.heap:=rfl
 have hFd:aK X (aA σ w.heap.size (w.heap.size+2) 3) W.drew B K f:=HS.out.fe.ah MB.drew
 have HFd:=MI hFd
 obtain⟨m,hm,hD⟩:=hFd.ca.dsk
 have HC:=MI (Cch.J4 X.A.b X.A.mb X.A.ib X.A.kap m f.c.d hok an hn.out W.drew hD)
 unfold Cch.ou at HC
 have hTl:W.drew.heap[w.heap.size+1]? =some (.cells #[(),(),.slice none 0 0,.slice none 0 0,.slice none 0 0,(),()] 37 (0,0)):=HS.out.tl
 have HTl:=MI hTl
 have s0:=hFd.s0
 have ht3: ∀k,(k=X.A.b∨k=X.A.mb)→aA σ w.heap.size (w.heap.size+2) 3 k=0:=fun k e=>e.elim (fun e=>e▸s0 _ (.inr (.inr (.inl rfl)))) (fun e=>e▸s0 _ (.inr (.inr (.inr rfl))))
 have hne:¬(w.heap.size+1=X.A.b∨w.heap.size+1=X.A.mb):=fun e=>by have h1:=ht3 _ e;rw[aT σ 3 (by omega) (by omega)] at h1;cases h1
 have HT3:=MI ht3
 have HNe:=MI hne
 clear hFd hD hTl s0 ht3 hne hd
 generalize hlS f.c.d an=d' at*
 generalize flE f.c.d an=fe' at*
 have hsz:(Tryz.prog.info? 37).map (·.size)=some (#[.int .i64 fe',.int .i64 0,.slice none 0 0,.slice none 0 0,.slice none 0 0,.int .i64 0,.int .i64 0]:Array Value).size:=by kernel_rfl
 have hone:(#[.int .i64 fe',(),.slice none 0 0,.slice none 0 0,.slice none 0 0,(),()]:Array Value).all (·.oneCell')=true:=by simp[Value.oneCell']
 go_upto_region 11 with fail
 go_region_law (go_simp;go_at_call 104;refine HC.out.mono ?_;rintro e w2 ⟨rfl,⟨m',hm',hD2⟩,hk2⟩;have hr2:=hk2.heap HTl.out HNe.out;have hF2:=uV HFd.out hm hd'3 hd'1 hd'2 hm' hD2 hk2;have hk3:af (fun k=>aA σ w.heap.size (w.heap.size+2) 3 k=0) W w2:=((af.refl _ W).drew).andThen hk2 (fun i hi e=>HT3.out i e);obtain⟨q0,q1,q2,q3,q4,q5,q6⟩:=aQ hr2;have z0:=frozen_of_row _ _ 0 _ _ hr2;have hr9:(w2.setCell ⟨w.heap.size+1,0,none⟩ (.int .i64 fe')).heap[w.heap.size+1]? =some (.cells #[.int .i64 fe',(),.slice none 0 0,.slice none 0 0,.slice none 0 0,(),()] 37 (0,0)):=(Mc hr2).trans rfl)
 all_goals go_wp2_with (first
  | (with_reducible refine MC 37 4 ?_;refine wpList_load_row rfl 37 (.tmp 4) rfl (w.heap.size+1) rfl 37 _ (0,0) _ hr9 Tryz.underlying37 rfl hsz ?_)
  | (with_reducible refine MF 37 4 55 ?_;refine wpList_store_row rfl 37 (.tmp 4) (.tmp 55) rfl (w.heap.size+1) _ rfl rfl 37 _ hr9 hsz rfl hone ?_))
 all_goals exact bodyPost_ret (results_cell_row rfl _ _ (w.heap.size+1) 37 _ (0,0) _ rfl (setRow_heap _ _ _ _ _ _ hr9) Tryz.underlying37 rfl hsz) rfl (HT.out w2 _ hF2 hk3 ((aC w2 (w.heap.size+1) 0 _).trans (aJ _ _ _)))
theorem Dv(X:Fx)(Y:Yx)(B:Bk)(K:Nat)(hK:K≤470000)(σ:Own)(rb:Nat)(sh:Envp.Sh)(M:Nat×Nat)(f:Fe)(a:Ac)(h8:a.k=7)(w:World)(h:aK X σ w B K f)(hr:dZ X Y σ w rb sh M):Calls Tryz.prog 68 #[.pointer (some ⟨rb,0,none⟩),.agg (acA a)] w (yQ X Y B K σ rb f a w):=by
 have hS:=kC a h
 have hb1:=ae w (.cells (acA a) 40)
 have hb2:=iR hb1 (.cells (tlA (qT 0 0)) 37)
 obtain⟨⟨c0,c1,c2,c3⟩,-⟩:=(hr.ah hb2).cells
 have eF:lU f a={f with c:=Cch.evC f.c a.n}:=by unfold lU;rw[if_pos h8]
 have eT:lT f a=qT 0 (if Cch.evB f.c a.n then 1 else 0):=by unfold lT;rw[if_pos h8]
 have HS:=MI hS
 have HT:=MI (fun w2 W' hF hk hk2=>hS.tail (Y:=Y) (rb:=rb) (w2:=w2) (W':=W') hF hk hk2 eF eT)
 clear hb1 hb2 hr h hS eF eT
 obtain⟨ak,av,anm,an,am,ap,ax⟩:=a
 simp only at*
 subst h8
 unfold acA tlA qT at*
 simp only at*
 go_enter Tryz.func68,Tryz.ntmps68
 go_upto_region 1 with fail
 generalize (w.alloc (.cells #[.int .i64 7,.int .i64 av,.string anm,.int .i64 an,.int .i64 am,.int .i64 ap,.int .i64 ax] 40)).alloc (.cells #[(),(),.slice none 0 0,.slice none 0 0,.slice none 0 0,(),()] 37)=W at*
 obtain⟨b0,b1,b2,b3,b4,b5,b6⟩:=aQ HS.out.box
 have hFd:aK X (aA σ w.heap.size (w.heap.size+2) 3) W.drew B K f:=HS.out.fe.ah MB.drew
 have HFd:=MI hFd
 have hC0:Calls Tryz.prog 101 #[.pointer (some ⟨X.A.cb,0,none⟩),.int .i64 an] W.drew (Cch.DW (X.ad (aA σ w.heap.size (w.heap.size+2) 3)) X.n (.bool (Cch.evB f.c an)) (Cch.evC f.c an) W.drew):=Cch.GX (X.ad (aA σ w.heap.size (w.heap.size+2) 3)) X.n hFd.n1 f.c an W.drew hFd.ca
 have HC:=MI hC0
 unfold Cch.DW at HC
 have hTl:W.drew.heap[w.heap.size+1]? =some (.cells #[(),(),.slice none 0 0,.slice none 0 0,.slice none 0 0,(),()] 37 (0,0)):=HS.out.tl
 have HTl:=MI hTl
 have HS0:=MI hFd.s0
 have HNe:Hid (¬(X.ad (aA σ w.heap.size (w.heap.size+2) 3)).S (w.heap.size+1)):=fun e=>by have h1:=HS0.out _ e;rw[aT σ 3 (by omega) (by omega)] at h1;cases h1
 clear hFd hTl hC0
 generalize Cch.evB f.c an=q at*
 generalize hcc:Cch.evC f.c an=c' at*
 go_upto_region 4 with fail
 go_cut [16] (fun v16 wx=>v16= .bool q∧wx.heap[w.heap.size+1]? =some (.cells #[(),(),.slice none 0 0,.slice none 0 0,.slice none 0 0,(),()] 37 (0,0))∧aK X (aA σ w.heap.size (w.heap.size+2) 3) wx B (K+1) {f with c:=c'}∧af (fun k=>aA σ w.heap.size (w.heap.size+2) 3 k=0) W wx)
 case first=>
  go_region_law (go_simp;go_at_call 101;refine HC.out.mono ?_;rintro e w2 ⟨rfl,hca,hk2⟩;have hr2:=hk2.heap HTl.out HNe.out;have hF2:=Ky HFd.out an (by rw[hcc];exact hca) hk2;have hk3:af (fun k=>aA σ w.heap.size (w.heap.size+2) 3 k=0) W w2:=((af.refl _ W).drew).andThen hk2 (fun i hi e=>HS0.out i e))
  all_goals go_wp2_with fail
  all_goals go_meet
  all_goals exact⟨rfl,hr2,by rw[hcc] at hF2;exact hF2,hk3⟩
 case rest=>
  obtain⟨rfl,hr2,hF2,hk3⟩:=hcut
  obtain⟨w2,rfl⟩: ∃w',w'=wc:=⟨_,rfl⟩
  cases q with
  | false=>
   have hsz:(Tryz.prog.info? 37).map (·.size)=some (#[.int .i64 0,.int .i64 0,.slice none 0 0,.slice none 0 0,.slice none 0 0,.int .i64 0,.int .i64 0]:Array Value).size:=by kernel_rfl
   have hone:(#[(),(),.slice none 0 0,.slice none 0 0,.slice none 0 0,(),()]:Array Value).all (·.oneCell')=true:=by simp[Value.oneCell']
   clear HFd HC HTl HNe HS
   go_wp2_with (first
    | (with_reducible refine MC 37 4 ?_;refine wpList_load_row rfl 37 (.tmp 4) rfl (w.heap.size+1) rfl 37 _ (0,0) _ hr2 Tryz.underlying37 rfl hsz ?_)
    | (with_reducible refine MF 37 4 55 ?_;refine wpList_store_row rfl 37 (.tmp 4) (.tmp 55) rfl (w.heap.size+1) _ rfl rfl 37 _ hr2 hsz rfl hone ?_))
   exact bodyPost_ret (results_cell_row rfl _ _ (w.heap.size+1) 37 _ (0,0) _ rfl (setRow_heap _ _ _ _ _ _ hr2) Tryz.underlying37 rfl hsz) rfl (HT.out w2 _ hF2 hk3 (aJ _ _ _))
  | true=>
   have hsz:(Tryz.prog.info? 37).map (·.size)=some (#[.int .i64 0,.int .i64 1,.slice none 0 0,.slice none 0 0,.slice none 0 0,.int .i64 0,.int .i64 0]:Array Value).size:=by kernel_rfl
   have hone:(#[(),.int .i64 1,.slice none 0 0,.slice none 0 0,.slice none 0 0,(),()]:Array Value).all (·.oneCell')=true:=by simp[Value.oneCell']
   have hr9:(w2.setCell ⟨w.heap.size+1,1,none⟩ (.int .i64 1)).heap[w.heap.size+1]? =some (.cells #[(),.int .i64 1,.slice none 0 0,.slice none 0 0,.slice none 0 0,(),()] 37 (0,0)):=(Mc hr2).trans rfl
   obtain⟨q0,q1,q2,q3,q4,q5,q6⟩:=aQ hr2
   have z1:=frozen_of_row _ _ 1 _ _ hr2
   clear HFd HC HTl HNe HS
   go_wp2_with (first
    | (with_reducible refine MC 37 4 ?_;refine wpList_load_row rfl 37 (.tmp 4) rfl (w.heap.size+1) rfl 37 _ (0,0) _ hr9 Tryz.underlying37 rfl hsz ?_)
    | (with_reducible refine MF 37 4 55 ?_;refine wpList_store_row rfl 37 (.tmp 4) (.tmp 55) rfl (w.heap.size+1) _ rfl rfl 37 _ hr9 hsz rfl hone ?_))
   exact bodyPost_ret (results_cell_row rfl _ _ (w.heap.size+1) 37 _ (0,0) _ rfl (setRow_heap _ _ _ _ _ _ hr9) Tryz.underlying37 rfl hsz) rfl (HT.out w2 _ hF2 hk3 ((aC w2 (w.heap.size+1) 1 _).trans (aJ _ _ _)))
theorem Dq(X:Fx)(Y:Yx)(B:Bk)(K:Nat)(hK:K≤470000)(σ:Own)(rb:Nat)(f:Fe)(a:Ac)(h7:a.k≠7)(h8:a.k≠8)(h9:a.k≠9)(h10:a.k≠10)(w:World)(h:aK X σ w B K f):Calls Tryz.prog 68 #[.pointer (some ⟨rb,0,none⟩),.agg (acA a)] w (yQ X Y B K σ rb f a w):=by
 have hS:=kC a h
 have eF:lU f a=f:=by unfold lU;rw[if_neg h7,if_neg h8,if_neg h9,if_neg h10]
 have eT:lT f a=qT 1 0:=by unfold lT;rw[if_neg h7,if_neg h8,if_neg h9,if_neg h10]
 have HS:=MI hS
 have HT:=MI (fun w2 W' hF hk hk2=>hS.tail (Y:=Y) (rb:=rb) (w2:=w2) (W':=W') hF hk hk2 eF eT)
 have n7:(a.k==7)=false:=by simpa using h7
 have n8:(a.k==8)=false:=by simpa using h8
 have n9:(a.k==9)=false:=by simpa using h9
 have n10:(a.k==10)=false:=by simpa using h10
 clear h hS eF eT h7 h8 h9 h10
 obtain⟨ak,av,anm,an,am,ap,ax⟩:=a
 simp only at*
 unfold acA tlA qT at*
 simp only at*
 go_enter Tryz.func68,Tryz.ntmps68
 go_upto_region 1 with fail
 generalize (w.alloc (.cells #[.int .i64 ak,.int .i64 av,.string anm,.int .i64 an,.int .i64 am,.int .i64 ap,.int .i64 ax] 40)).alloc (.cells #[(),(),.slice none 0 0,.slice none 0 0,.slice none 0 0,(),()] 37)=W at*
 obtain⟨b0,-⟩:=aQ HS.out.box
 have hr2:=HS.out.tl
 have HF2:=MI (HS.out.fe.up (L:=K+1) (by omega))
 have hsz:(Tryz.prog.info? 37).map (·.size)=some (#[.int .i64 1,.int .i64 0,.slice none 0 0,.slice none 0 0,.slice none 0 0,.int .i64 0,.int .i64 0]:Array Value).size:=by kernel_rfl
 have hone:(#[.int .i64 1,(),.slice none 0 0,.slice none 0 0,.slice none 0 0,(),()]:Array Value).all (·.oneCell')=true:=by simp[Value.oneCell']
 have hr9:(W.setCell ⟨w.heap.size+1,0,none⟩ (.int .i64 1)).heap[w.heap.size+1]? =some (.cells #[.int .i64 1,(),.slice none 0 0,.slice none 0 0,.slice none 0 0,(),()] 37 (0,0)):=(Mc hr2).trans rfl
 obtain⟨q0,q1,q2,q3,q4,q5,q6⟩:=aQ hr2
 have z0:=frozen_of_row _ _ 0 _ _ hr2
 clear HS
 go_wp2_with (first
  | (with_reducible refine MC 37 4 ?_;refine wpList_load_row rfl 37 (.tmp 4) rfl (w.heap.size+1) rfl 37 _ (0,0) _ hr9 Tryz.underlying37 rfl hsz ?_)
  | (with_reducible refine MF 37 4 55 ?_;refine wpList_store_row rfl 37 (.tmp 4) (.tmp 55) rfl (w.heap.size+1) _ rfl rfl 37 _ hr9 hsz rfl hone ?_))
 exact bodyPost_ret (results_cell_row rfl _ _ (w.heap.size+1) 37 _ (0,0) _ rfl (setRow_heap _ _ _ _ _ _ hr9) Tryz.underlying37 rfl hsz) rfl (HT.out W _ HF2.out (af.refl _ _) ((aC W (w.heap.size+1) 0 _).trans (aJ _ _ _)))
end Go.Proofs.YtnicjahcgnhogaaGreatDoor
