/- Part 12 of the walk: contracts of the program's functions, each for every input. No condition. -/
import Derived.Test.YtnicjahcgnhogaaGreatDoorU10
set_option linter.unusedVariables false
set_option linter.unusedSimpArgs false
set_option maxRecDepth 100000
set_option maxHeartbeats 8000000
namespace Go.Proofs.YtnicjahcgnhogaaGreatDoor
open Go Go.RowKit Go.Calli
attribute [local irreducible] wpStill wpAnyH wpAnyS wpList Code.wp
def pV(B:Bk)(c:Cch.Ca)(m:Mt)(ch n:Nat)(u u':Ku)(b:Kb)(R:Cch.PR):Prop:=∃(err:Int)(z:List Int)(ts:List (Int×Int)),Cch.fO B.size c (m.first+m.num ch n*B.size) B.size []=R∧z.length=28∧(R.e≠0→err≠0)∧(R.e=0→gm R.b=(bH B.img (m.sums+4*m.num ch n) 4:Nat)→(frX R.b.length R.b).e=0→fQ (frX R.b.length R.b).z (frX R.b.length R.b).t=true→z=(frX R.b.length R.b).z∧ts=(frX R.b.length R.b).t∧err=0)∧u'.kept=u.kept∧u'.fr=u.fr+1∧b.n=n∧(err=0→u'.p=dV z ts∧u'.k=0∧u'.lost=u.lost∧b.wv=oH ((dV z ts).take 16)∧b.g=(dV z ts).drop 16)∧(err≠0→u'.p=u.p∧u'.k=wrap64 (u.k+1)∧u'.lost=u.lost++[(n:Int)]∧b.wv=oH ((pR u.p (wrap64 (u.k+1))).take 16)∧b.g=(pR u.p (wrap64 (u.k+1))).drop 16)
def FC(σ:Own)(t k:Nat):Prop:=σ k=0∨σ k=2∨σ k=t
def TakP(X:Fx)(σ:Own)(B:Bk)(K:Nat)(f:Fe)(C:Kx)(kv:Value)(u:Ku)(n:Nat)(w:World)(e:Ending)(w':World):Prop:=∃(b:Kb)(R:Cch.PR)(u':Ku)(lv:Value)(σ':Own)(f':Fe),e= .returned (.agg (iA (kbL b)))∧b.Ok∧pV B f.c (B.dir.getD C.i m0) C.ch n u u' b R∧aN X σ' w' B (K+1) f'∧FeB (K+1) f'∧f'.c=R.c∧f'.fr=f.fr+1∧dO X.fb C σ' w' kv lv u'∧ag (FC σ C.t) w w'∧Ext σ σ' w.heap.size
structure KOk(B:Bk)(C:Kx):Prop where
 i:C.i<B.dir.length
 ch:C.ch<(B.dir.getD C.i m0).ch
 len:C.len=(B.dir.getD C.i m0).len
theorem dO.frame{fb:Nat}{C:Kx}{τ σ':Own}{w w':World}{kv lv:Value}{u:Ku}(h:dO fb C τ w kv lv u)(hk:ag (FF τ) w w')(he:Ext τ σ' w.heap.size):dO fb C σ' w' kv lv u:=
 (h.ext he).keep hk (fun k e hl=>by have:=h.t3;rw[he k hl];unfold FF at e;omega)
theorem tY{P:Program}(w:World)(g:Nat)(t ty:TypeId)(old cells:Array Value)(hg:w.heap[g]? =some (.cells old t (0,0)))(hi:(P.info? ty).map (·.size)=some cells.size)(ho:old.size=cells.size)(h1:cells.all (·.oneCell')=true):
  (Instr.storeAt ty (.pointer (some ⟨g,0,none⟩)) (.agg cells)).run P w= .ok () (w.setRow g cells):=by
 simp only[Instr.storeAt,Instr.sureAddr,Sem.run_bind,Sem.run_pure,Result.andThen]
 exact run_storeVar_row w g t ty old cells hg hi ho h1
theorem pY{P:Program}(w:World)(g:Nat)(t ty:TypeId)(old cells:Array Value)(hg:w.heap[g]? =some (.cells old t (0,0)))(hi:(P.info? ty).map (·.size)=some cells.size)(ho:old.size=cells.size)(h1:cells.all (·.oneCell')=true):
  (storeCells ⟨g,0,none⟩ cells.toList 0).run P w= .ok () (w.setRow g cells):=by
 have:=run_storeVar_row (P:=P) w g t ty old cells hg hi ho h1
 cases hq:P.info? ty with
 | none=>simp[hq] at hi
 | some i=>
  have hs:cells.size=i.size:=by simp[hq] at hi;omega
  simpa[storeVar,sizeOf,typeInfo,hq,Value.cells,hs] using this
def gU:Array Value:=iA (List.replicate 21 0)
theorem oO:gU=#[.int .i64 0,.int .i64 0,.int .i64 0,.int .i64 0,.int .i64 0,.int .i64 0,.int .i64 0,.int .i64 0,.int .i64 0,.int .i64 0,.int .i64 0,.int .i64 0,.int .i64 0,.int .i64 0,.int .i64 0,.int .i64 0,.int .i64 0,.int .i64 0,.int .i64 0,.int .i64 0,.int .i64 0]:=af
theorem mJ{P:Program}{ops:Array Oper}{w:World}{Q:Act→Prop}{rest:List Oper}{o:Oper}{a:Act}(I:o.guard=none)(ty:TypeId)(x:Operand)(ho:o.op= .load ty x)(g:Nat)(hx:a.eval x= .pointer (some ⟨g,0,none⟩))(t:TypeId)(cs:Array Value)(fr:Nat×Nat)(d:TypeDesc)(hg:w.heap[g]? =some (.cells cs t fr))(hu:P.underlying ty=some d)(hd:(match d with | .struct _ | .array _ _=>true | _=>false)=true)(hi:(P.info? ty).map (·.size)=some cs.size)
  (h:wpStill P ops w Q rest (a.put o.dst (.agg cs))):wpStill P ops w Q (o::rest) a:=by
 refine wpStill_step (fun K hK=>?_)
 rw[if_pos (by simp[Region.wanted,I])]
 unfold Oper.still execOp
 simp only[ho,hx,Instr.loadAt,Instr.sureAddr,Sem.run_bind,Sem.run_pure,Result.andThen_ok,run_loadVar_row w g t ty cs fr d hg hu hd hi]
 exact⟨rfl,hK _ h⟩
theorem dD{P:Program}{ops:Array Oper}{w:World}{Q:Act→Prop}{rest:List Oper}{op:Oper}{a:Act}(I:op.guard=none)(ty:TypeId)(x:Operand)(ho:op.op= .load ty x)(b o:Nat)(hx:a.eval x= .pointer (some ⟨b,o,none⟩))(cs:List Value)(d:TypeDesc)(hc:w.rangeAt b o cs)
  (hu:P.underlying ty=some d) (hd:d.isRow=true) (hi:(P.info? ty).map (·.size)=some cs.length)
  (h:wpStill P ops w Q rest (a.put op.dst (.agg cs.toArray))):wpStill P ops w Q (op::rest) a:=by
 refine wpStill_step (fun K hK=>?_)
 rw[if_pos (by simp[Region.wanted,I])]
 unfold Oper.still execOp
 simp only[ho,hx,Instr.loadAt,Instr.sureAddr,Sem.run_bind,Sem.run_pure,Result.andThen_ok,run_loadVar_mid w b o ty cs d hc hu hd hi]
 exact⟨rfl,hK _ h⟩
def Aj:Array Value:=iA (List.replicate 20 0)
theorem OV:Aj=#[.int .i64 0,.int .i64 0,.int .i64 0,.int .i64 0,.int .i64 0,.int .i64 0,.int .i64 0,.int .i64 0,.int .i64 0,.int .i64 0,.int .i64 0,.int .i64 0,.int .i64 0,.int .i64 0,.int .i64 0,.int .i64 0,.int .i64 0,.int .i64 0,.int .i64 0,.int .i64 0]:=af
theorem Gu:(Tryz.prog.info? 3).map (fun i=>(i.zero,i.size,i.bytes))=some (some (.int .i64 0),1,8):=af
theorem dO.veil{fb:Nat}{C:Kx}{σ:Own}{w w':World}{kv lv:Value}{u:Ku}(h:dO fb C σ w kv lv u){p:List Int}{k:Int}(hp:p.length=20)(hr:w'.heap[C.cb]? =some (.cells (iL p++ .int .i64 k::eP fb C kv lv u.fr).toArray 210 (0,0)))(hk:ag (fun j=>j=C.cb) w w'):dO fb C σ w' kv lv {u with p:=p,k:=k}:=
 ⟨hr,hp,h.own,h.t3,aB h.kept hk (fun k e hs=>by
  obtain⟨cs,I⟩:=ah h.kept e
  rw[hs,h.row] at I
  cases I),aB h.lost hk (fun k e hs=>by
  obtain⟨cs,I⟩:=ah h.lost e
  rw[hs,h.row] at I
  cases I),h.ok,h.k4,h.ko,h.lo⟩
theorem dO.app{fb:Nat}{C:Kx}{σ:Own}{w w':World}{kv lv:Value}{u:Ku}(h:dO fb C σ w kv lv u)(hk:ag (fun k=>lv.ownBlock=some k) w w'):w'.heap[C.cb]? =some (.cells (iL u.p++ .int .i64 u.k::eP fb C kv lv u.fr).toArray 210 (0,0))∧w'.ownsRow 0 316 21 kv u.kept.length (u.kept.flatMap kbV):=
 ⟨hk.heap h.row (fun e=>by
  obtain⟨cs,I⟩:=ah h.lost e
  rw[h.row] at I
  cases I),aB h.kept hk (fun k e hs=>by
  obtain⟨cs,I⟩:=ah h.lost hs
  obtain⟨ds,J⟩:=ah h.kept e
  rw[J] at I
  cases I)⟩
theorem dO.lostAdd{X:Fx}{C:Kx}{σ:Own}{B:Bk}{K:Nat}{f:Fe}{w w4:World}{kv lv lv5:Value}{u:Ku}{n:Int}(hF:aN X σ w B K f)(h:dO X.fb C σ w kv lv u)(J:w4.ownsRow 0 3 1 lv5 (u.lost.length+1) (iL u.lost++[.int .i64 n]))(hk:ag (fun k=>lv.ownBlock=some k) w w4)(hb:lv5.ownBlock=lv.ownBlock∨∃k,lv5.ownBlock=some k∧w.heap.size≤k):
  ∃σ5,Ext σ σ5 w.heap.size∧aN X σ5 (w4.setCell ⟨C.cb,58,none⟩ lv5) B K f∧dO X.fb C σ5 (w4.setCell ⟨C.cb,58,none⟩ lv5) kv lv5 {u with lost:=u.lost++[n]}∧ag (fun k=>σ k=C.t) w (w4.setCell ⟨C.cb,58,none⟩ lv5):=by
 obtain⟨R,U⟩:=h.app hk
 have ht:=h.t3
 have o:ag (fun k=>σ k=C.t) w (w4.setCell ⟨C.cb,58,none⟩ lv5):=(hk.mono (fun k _ e=>h.lo k e)).setCell (p:=⟨C.cb,58,none⟩) (.inr h.own) _
 have A2:(w4.setCell ⟨C.cb,58,none⟩ lv5).heap.size=w4.heap.size:=by simp[World.setCell]
 have A0:=aA w4 C.cb 58 lv5
 have A3:=L8 h.row
 have main: ∀σ5:Own,Ext σ σ5 w.heap.size→(∀k,σ5 k≠0→k<w4.heap.size)→(∀k,lv5.ownBlock=some k→σ5 k=C.t)→∃σ5,Ext σ σ5 w.heap.size∧aN X σ5 (w4.setCell ⟨C.cb,58,none⟩ lv5) B K f∧dO X.fb C σ5 (w4.setCell ⟨C.cb,58,none⟩ lv5) kv lv5 {u with lost:=u.lost++[n]}∧ag (fun k=>σ k=C.t) w (w4.setCell ⟨C.cb,58,none⟩ lv5):=fun σ5 he hs ho=>by
  refine⟨σ5,he,hF.own (o.mono fun k _ e=>aa) he (fun k hk=>by rw[A2];exact hs k hk),⟨(Ag h.p R).2.1 lv5,h.p,(he _ A3).trans h.own,h.t3,aB U A0 (fun k e hs=>by
   obtain⟨cs,I⟩:=ah U e
   rw[hs,R] at I
   cases I),?_,h.ok,h.k4,fun k hk=>(he _ (gX h.kept hk)).trans (h.ko k hk),ho⟩,o⟩
  have:=aB J A0 (fun k e hs=>by
   obtain⟨cs,I⟩:=ah J e
   rw[hs,R] at I
   cases I)
  simpa[iL] using this
 rcases hb with hb | ⟨k,A1,A4⟩
 ·exact main σ (Ext.refl _ _) (fun j hj=>Nat.lt_of_lt_of_le (hF.tX j hj) hk.size) (fun k e=>h.lo k (by rw[←hb];exact e))
 ·exact main (fU σ k C.t) (fA σ C.t A4) (fun j hj=>by
   by_cases e:j=k
   ·subst e;exact gX J A1
   ·rw[jY σ _ e] at hj;exact Nat.lt_of_lt_of_le (hF.tX j hj) hk.size) (fun j e=>by
   rw[A1] at e;cases e;exact dN σ k C.t)
theorem kY{P:Program}{ops:Array Oper}{S:World→Prop}{o:Oper}{a:Act}(hw:Region.wanted o (yielded ops a.tmps)=true)(t:TypeId)(parts:Array (Nat×Operand))(ho:o.op= .build t parts)(cells:Array Value)(hc:P.built t (parts.map fun(i,x)=>(i,a.eval x)).toList=some cells):YieldsIf P ops S o (.agg cells) a:=
 .inl ⟨hw,fun w _=>by
  unfold execOp
  simp only[ho,Sem.run_bind,run_build w t _ cells hc,Result.andThen_ok]
  rfl⟩
theorem D8{w w':World}{b o n:Nat}{cs:List Value}(h:w.rangeAt b o cs)(hb:Below n w w')(hn:b<n):w'.rangeAt b o cs:=fun j v hv=>by rw[hb.cell (by exact hn)];exact h j v hv
theorem D7{w:World}{b o g:Nat}{cs:List Value}(h:w.rangeAt b o cs)(hn:b≠g)(ds:Array Value):(w.setRow g ds).rangeAt b o cs:=fun j v hv=>by rw[cell_setRow_other _ _ _ _ (by exact hn)];exact h j v hv
theorem OA(n:Int)(wv g:List Int)(h1:wv.length=16)(h2:g.length=4):Tryz.prog.built 316 [(0,.int .i64 n),(1,.agg (iA wv)),(2,.agg (iA g))]=some (iA (n::(wv++g))):=by
 obtain⟨a0,a1,a2,a3,a4,a5,a6,a7,a8,a9,a10,a11,a12,a13,a14,a15,rfl⟩:=o5 h1
 obtain⟨b0,b1,b2,b3,rfl⟩:=vO h2
 kernel_rfl
theorem CO{fb:Nat}{C:Kx}{w:World}{kv lv:Value}{p:List Int}{k fr:Int}(hp:p.length=20)(h:w.heap[C.cb]? =some (.cells (iL p++ .int .i64 k::eP fb C kv lv fr).toArray 210 (0,0))):w.rangeAt C.cb 37 (iL aJ)∧w.rangeAt C.cb 21 (iL dm):=by
 constructor
 ·have:=ik (w:=w) (b:=C.cb) (T:=210) (fr:=(0,0)) (iL p++Value.int .i64 k::iL aJ) (iL aJ) [.pointer (some ⟨fb,0,none⟩),.int .i64 C.i,.int .i64 C.ch,.int .i64 C.len,kv,lv,.int .i64 fr] (by rw[h];simp[eP,dm,iL])
  have e:(iL p++Value.int .i64 k::iL aJ).length=37:=by rw[List.length_append,List.length_cons,bU,bU,hp];rfl
  rwa [e] at this
 ·have:=ik (w:=w) (b:=C.cb) (T:=210) (fr:=(0,0)) (iL p++[Value.int .i64 k]) (iL dm) [.pointer (some ⟨fb,0,none⟩),.int .i64 C.i,.int .i64 C.ch,.int .i64 C.len,kv,lv,.int .i64 fr] (by rw[h];simp[eP,iL])
  have e:(iL p++[Value.int .i64 k]).length=21:=by rw[List.length_append,bU,hp];rfl
  rwa [e] at this
def TkD(X:Fx)(σ:Own)(B:Bk)(K:Nat)(f:Fe)(C:Kx)(kv:Value)(u:Ku)(m:Mt)(n:Nat)(w:World)(pb:Nat)(wx:World):Prop:=∃(P:List Int)(err:Int)(z:List Int)(ts:List (Int×Int))(R:Cch.PR)(σ':Own)(f':Fe)(lv:Value)(u':Ku),Cch.fO B.size f.c (m.first+m.num C.ch n*B.size) B.size []=R∧z.length=28∧P.length=20∧wx.heap[pb]? =some (.cells (iA P) 205 (0,0))∧wx.heap[w.heap.size]? =some (.cells gU 316 (0,0))∧ag (FC σ C.t) w wx∧Ext σ σ' w.heap.size∧σ' w.heap.size=3∧aN X σ' wx B (K+1) f'∧FeB (K+1) f'∧f'.c=R.c∧f'.fr=f.fr+1∧dO X.fb C σ' wx kv lv u'∧u'.kept=u.kept∧u'.fr=u.fr+1∧(R.e≠0→err≠0)∧(R.e=0→gm R.b=(bH B.img (m.sums+4*m.num C.ch n) 4:Nat)→(frX R.b.length R.b).e=0→fQ (frX R.b.length R.b).z (frX R.b.length R.b).t=true→z=(frX R.b.length R.b).z∧ts=(frX R.b.length R.b).t∧err=0)∧(err=0→u'.p=dV z ts∧u'.k=0∧u'.lost=u.lost∧P=dV z ts)∧(err≠0→u'.p=u.p∧u'.k=wrap64 (u.k+1)∧u'.lost=u.lost++[(n:Int)]∧P=pR u.p (wrap64 (u.k+1)))
def TkC(X:Fx)(σ:Own)(B:Bk)(K:Nat)(f:Fe)(C:Kx)(kv lv:Value)(u:Ku)(m:Mt)(n:Nat)(w:World)(v5 v6:Value)(wx:World):Prop:=∃(gb:Nat)(z:List Int)(ao:Option Addr)(mm c:Nat)(ts:List (Int×Int))(err:Int)(R:Cch.PR)(σ':Own)(f':Fe),v5= .pointer (some ⟨gb,0,none⟩)∧v6= .int .i64 err∧Cch.fO B.size f.c (m.first+m.num C.ch n*B.size) B.size []=R∧z.length=28∧wx.heap[gb]? =some (.cells (frC z (.slice ao mm c)) 196 (0,0))∧bP eY 2 (0,0) wx ao mm ts∧(∀a,ao=some a→w.heap.size<a.block)∧wx.heap[w.heap.size]? =some (.cells gU 316 (0,0))∧ag (FC σ C.t) w wx∧Ext σ σ' w.heap.size∧σ' w.heap.size=3∧w.heap.size<gb∧aN X σ' wx B (K+1) f'∧FeB (K+1) f'∧f'.c=R.c∧f'.fr=f.fr+1∧dO X.fb C σ' wx kv lv {u with fr:=u.fr+1}∧(R.e≠0→err≠0)∧(R.e=0→gm R.b=(bH B.img (m.sums+4*m.num C.ch n) 4:Nat)→(frX R.b.length R.b).e=0→fQ (frX R.b.length R.b).z (frX R.b.length R.b).t=true→z=(frX R.b.length R.b).z∧ts=(frX R.b.length R.b).t∧err=0)
theorem take_any(X:Fx)(σ:Own)(B:Bk)(K:Nat)(hK:K≤500000)(f:Fe)(hf:FeB K f)(C:Kx)(hC:KOk B C)(kv lv:Value)(u:Ku)(P4:0≤u.fr)(P5:u.fr≤K)(P6:u.lost.length≤K)(n:Nat)(hn:n<aO C.len)(w:World)(h:aN X σ w B K f)(E6:dO X.fb C σ w kv lv u):Calls Tryz.prog 230 #[.pointer (some ⟨C.cb,0,none⟩),.int .i64 n] w (TakP X σ B K f C kv u n w):=by
 have C9:=ae w (.cells gU 316)
 have hz:=L9 w (.cells gU 316)
 have h1:=h.fU C9 (b:=w.heap.size) 3 Me ar
 have hx:=fA σ (b:=w.heap.size) 3 Me
 have HE:=MI hx
 have hu:=(E6.ext hx).aj C9
 have HZ:=MI hz
 have D0:=MI (dN σ w.heap.size 3)
 generalize fU σ w.heap.size 3=τ at*
 have e1:IntKind.i64.wrap (u.fr+1)=u.fr+1:=IntWalk.i64_in _ aa
 obtain⟨c53,c54,c55,c56,c57,c58,c59,f57,f58,f59⟩:=gK hu.p hu.row
 have P7:=L8 E6.row
 have HU:=MI hu
 have HH:=MI h1
 have HA:=MI C9
 clear h h1 E6 C9 hz hx hu
 go_enter Tryz.func230,Tryz.ntmps230
 go_upto_region 1 with fail
 rw[←oO]
 have P8:w.heap.size<(w.alloc (.cells gU 316)).heap.size:=ar
 generalize w.alloc (.cells gU 316)=W at*
 go_upto_region 2 with fail
 have I2:=(Ag HU.out.p HU.out.row).2.2 (u.fr+1)
 have A8:=aA W C.cb 59 (.int .i64 (u.fr+1))
 have I3:=HH.out.kept (A8.mono fun k _ e=>by rw[e,HU.out.own];have:=HU.out.t3;omega)
 have I4:=A8.heap HZ.out (fun e=>aa)
 have D1:dO X.fb C τ (W.setCell ⟨C.cb,59,none⟩ (.int .i64 (u.fr+1))) kv lv {u with fr:=u.fr+1}:=⟨I2,HU.out.p,HU.out.own,HU.out.t3,aB HU.out.kept A8 (fun k e hs=>by
  obtain⟨cs,B6⟩:=ah HU.out.kept e
  rw[hs,HU.out.row] at B6
  cases B6),aB HU.out.lost A8 (fun k e hs=>by
  obtain⟨cs,B6⟩:=ah HU.out.lost e
  rw[hs,HU.out.row] at B6
  cases B6),HU.out.ok,HU.out.k4,HU.out.ko,HU.out.lo⟩
 have E7:=MI (A8.mono (S':=FC τ C.t) (fun k _ e=>.inr (.inr (by rw[e];exact HU.out.own))))
 have N0:=MI (show(W.setCell ⟨C.cb,59,none⟩ (.int .i64 (u.fr+1))).heap.size=W.heap.size by simp[World.setCell])
 clear A8 I2 HU HH HZ c53 c54 c55 c56 c57 c58 c59 f57 f58 f59
 generalize W.setCell ⟨C.cb,59,none⟩ (.int .i64 (u.fr+1))=W1 at*
 have D2:=MI D1
 have E8:=MI I3
 have B7:=MI I4
 have I5:=MI (E8.out.aj (show Below W1.heap.size W1 W1.drew from MB.drew))
 have I6:=MI (fun w h=>yG X τ B K hK f hf C.i C.ch n hC.i hC.ch (by rw[←hC.len];exact hn) w h)
 obtain⟨c53,c54,c55,c56,c57,c58,c59,f57,f58,f59⟩:=gK D1.p D1.row
 clear D1 I3 I4
 have B8:(#[(),(),(),(),.slice none 0 0,(),(),(),(),(),(),(),(),(),(),(),(),(),(),(),(),(),(),(),(),(),(),(),()]:Array Value).size=29:=rfl
 have L5:C.cb<W1.heap.size:=L8 D2.out.row
 have B3:¬C.cb=W1.heap.size:=aa
 have E9:=fA τ (b:=W1.heap.size) 3 Me
 have D3:=ae W1 (.cells #[(),(),(),(),.slice none 0 0,(),(),(),(),(),(),(),(),(),(),(),(),(),(),(),(),(),(),(),(),(),(),(),()] 196)
 have I7:=MI ((E8.out.fU D3 (b:=W1.heap.size) 3 Me ar).aj (show Below _ _ (W1.alloc (.cells #[(),(),(),(),.slice none 0 0,(),(),(),(),(),(),(),(),(),(),(),(),(),(),(),(),(),(),(),(),(),(),(),()] 196)).drew from MB.drew))
 have I8:=MI ((((D2.out.ext E9).aj D3)).aj (show Below _ _ (W1.alloc (.cells #[(),(),(),(),.slice none 0 0,(),(),(),(),(),(),(),(),(),(),(),(),(),(),(),(),(),(),(),(),(),(),(),()] 196)).drew from MB.drew))
 have I9:=MI E9
 have F1:=MI (dN τ W1.heap.size 3)
 have F2:=MI (fun k (h:k≠W1.heap.size)=>jY τ 3 h)
 have J0:(W1.alloc (.cells #[(),(),(),(),.slice none 0 0,(),(),(),(),(),(),(),(),(),(),(),(),(),(),(),(),(),(),(),(),(),(),(),()] 196)).drew.heap[W1.heap.size]? =some (.cells #[(),(),(),(),.slice none 0 0,(),(),(),(),(),(),(),(),(),(),(),(),(),(),(),(),(),(),(),(),(),(),(),()] 196 (0,0)):=L9 W1 _
 have J1:=MI J0
 have F3:=MI (show Below W1.heap.size W1 (W1.alloc (.cells #[(),(),(),(),.slice none 0 0,(),(),(),(),(),(),(),(),(),(),(),(),(),(),(),(),(),(),(),(),(),(),(),()] 196)).drew from D3.drew)
 clear J0 D3 E9
 generalize fU τ W1.heap.size 3=τ2 at*
 have F4:=MI (fun w h=>yG X τ2 B K hK f hf C.i C.ch n hC.i hC.ch (by rw[←hC.len];exact hn) w h)
 go_cut [5,6] (fun v5 v6 wx=>TkC X σ B K f C kv lv u (B.dir.getD C.i m0) n w v5 v6 wx)
 case first=>
  go_region_held3 (fun w'=>w'.cell? ⟨C.cb,53,none⟩=some (.pointer (some ⟨X.fb,0,none⟩))∧w'.cell? ⟨C.cb,54,none⟩=some (.int .i64 C.i)∧w'.cell? ⟨C.cb,55,none⟩=some (.int .i64 C.ch)) (first | go_keep | exact⟨(cell_setRow_other _ _ _ _ B3).trans d53,(cell_setRow_other _ _ _ _ B3).trans d54,(cell_setRow_other _ _ _ _ B3).trans d55⟩) ((go_at_call 237;first
   | ((with_reducible refine(I6.out W1.drew I5.out).mono ?_);rintro e w3 ⟨z,ao,mm,c,ts,err,R,σ',f',hR,rfl,I,hT,D4,A0,A3,F5,F6,F7,F8,A9,o⟩;have A4:=MI (D2.out.frame ((ag.au (S:=FF τ) (show Below W1.heap.size W1 W1.drew from MB.drew) Me).trans A0) A3);obtain⟨d53,d54,d55,-⟩:=gK A4.out.p A4.out.row;have L6:=bM z (.slice ao mm c) I;have N1:=run_storeAt_new (P:=Tryz.prog) w3 196 #[(),(),(),(),.slice none 0 0,(),(),(),(),(),(),(),(),(),(),(),(),(),(),(),(),(),(),(),(),(),(),(),()] (frC z (.slice ao mm c)) (kW _ _ I) (by rw[bM _ _ I];exact B8) (dH _ _ _ _);have L7:=run_storeCells_new (P:=Tryz.prog) w3 196 #[(),(),(),(),.slice none 0 0,(),(),(),(),(),(),(),(),(),(),(),(),(),(),(),(),(),(),(),(),(),(),(),()] (frC z (.slice ao mm c)) (kW _ _ I) (by rw[bM _ _ I];exact B8) (dH _ _ _ _))
   | ((with_reducible refine(F4.out _ I7.out).mono ?_);rintro e w3 ⟨z,ao,mm,c,ts,err,R,σ',f',hR,rfl,I,hT,D4,A0,A3,F5,F6,F7,F8,A9,o⟩;have A4:=MI (I8.out.frame A0 A3);obtain⟨d53,d54,d55,-⟩:=gK A4.out.p A4.out.row;have F9:=A0.heap J1.out (fun e=>by unfold FF at e;rw[F1.out] at e;omega);have L6:=bM z (.slice ao mm c) I;have N1:=tY (P:=Tryz.prog) w3 W1.heap.size 196 196 #[(),(),(),(),.slice none 0 0,(),(),(),(),(),(),(),(),(),(),(),(),(),(),(),(),(),(),(),(),(),(),(),()] (frC z (.slice ao mm c)) F9 (kW _ _ I) (by rw[bM _ _ I];exact B8) (dH _ _ _ _);have L7:=pY (P:=Tryz.prog) w3 W1.heap.size 196 196 #[(),(),(),(),.slice none 0 0,(),(),(),(),(),(),(),(),(),(),(),(),(),(),(),(),(),(),(),(),(),(),(),()] (frC z (.slice ao mm c)) F9 (kW _ _ I) (by rw[bM _ _ I];exact B8) (dH _ _ _ _))))
  ·go_wp2_with fail
   go_meet
   have B9:=L8 B7.out
   have C6:=(A3 _ B9).trans D0.out
   have M0:=(ag.au (S:=FF τ) (show Below W1.heap.size W1 W1.drew from MB.drew) Me).trans A0
   have C7:=A0.heap (show W1.drew.heap[w.heap.size]? =_ from B7.out) (fun e=>by unfold FF at e;rw[D0.out] at e;omega)
   have C0:=ae w3 (.cells (frC z (.slice ao mm c)) 196)
   have H8:W1.heap.size≤w3.heap.size:=A0.size
   exact⟨_,z,ao,mm,c,ts,err,R,σ',f',rfl,rfl,hR,I,L9 _ _,hT.aj C0,(fun a ha=>Nat.lt_of_lt_of_le B9 (D4 a ha)),(C0.block _ aa).trans C7,(((ag.au HA.out Me).andThen E7.out (fun i hi e=>by unfold FC at e⊢;rwa [HE.out i hi] at e)).andThen M0 (fun i hi e=>by unfold FF at e;unfold FC;rw[HE.out i hi] at e;omega)).below C0 aa,HE.out.trans A3 (Nat.le_of_lt B9),C6,aa,F5.aj C0,F6,F7,F8,A4.out.aj C0,fun h=>A9 h,fun h0 h1 h2 h3=>o h0 h1 h2 h3⟩
  ·go_wp2_with fail
   go_meet
   have B9:=L8 B7.out
   have M1:W1.heap.size+1=(W1.alloc (.cells #[(),(),(),(),.slice none 0 0,(),(),(),(),(),(),(),(),(),(),(),(),(),(),(),(),(),(),(),(),(),(),(),()] 196)).drew.heap.size:=ar
   have J2:τ2 w.heap.size=3:=(F2.out _ aa).trans D0.out
   have C6:=(A3 w.heap.size aa).trans J2
   have G0:=(A3 W1.heap.size aa).trans F1.out
   have C7:=A0.heap ((F3.out.block _ B9).trans B7.out) (fun e=>by unfold FF at e;rw[J2] at e;omega)
   have H8:W1.heap.size+1≤w3.heap.size:=by rw[M1];exact A0.size
   exact⟨_,z,ao,mm,c,ts,err,R,σ',f',rfl,rfl,hR,I,setRow_heap _ _ _ _ _ _ F9,hT.kept (aK _ _ _) (fun a ha e=>by have:=D4 a ha;omega),(fun a ha=>by have:=D4 a ha;omega),(setRow_other _ _ _ _ aa).trans C7,((((ag.au HA.out Me).andThen E7.out (fun i hi e=>by unfold FC at e⊢;rwa [HE.out i hi] at e)).below F3.out aa).andThen A0 (fun i hi e=>by unfold FF at e;unfold FC;rw[F2.out i aa,HE.out i hi] at e;omega)).andThen (aK _ _ _) (fun i hi e=>aa),HE.out.trans (I9.out.trans A3 aa) aa,C6,aa,F5.kept ((aK _ _ _).mono (fun k _ e=>by rw[e];exact Nat.le_of_eq G0.symm)),F6,F7,F8,A4.out.keep (aK _ _ _) (fun k e _=>by have:=A4.out.t3;rw[e,G0];omega),fun h=>A9 h,fun h0 h1 h2 h3=>o h0 h1 h2 h3⟩
 case rest=>
 obtain⟨W2,rfl⟩: ∃w',w'=wc:=⟨_,rfl⟩
 obtain⟨gb,z,ao,mm,c,ts,err,R,σ',f',rfl,rfl,hR,I,D5,hT,P9,hz,hK,hE,hs,Q0,hF,hB,hc,J3,hU,A9,o⟩:=hcut
 clear J1 I7 I8 I9 F1 F2 F3 I6 F4 I5 D2 E8 B7 E7 L5 B3 B8 N0 D0 HE c53 c54 c55 c56 c57 c58 c59 f57 f58 f59
 have HR:=MI hR
 have G1:=MI A9
 have HG:=MI o
 have D6:=fA σ' (b:=W2.heap.size) 3 Me
 have HE:=MI (hE.trans D6 (Nat.le_of_lt (L8 hz)))
 have HS:=MI ((D6 _ (L8 hz)).trans hs)
 have B0:=MI (dN σ' W2.heap.size 3)
 have HC:=MI hc
 have G2:=MI J3
 have A5:=ae W2 (.cells Aj 205)
 have C1:=L9 W2 (.cells Aj 205)
 have B1:=(A5.block _ (L8 hz)).trans hz
 have G3:=(A5.block _ (L8 D5)).trans D5
 have D9:=MI (hF.fU A5 (b:=W2.heap.size) 3 Me ar)
 have J:=MI ((hU.ext D6).aj A5)
 have G4:=MI (hT.aj A5)
 have E0:=MI (hK.below A5 (Nat.le_of_lt (L8 hz)))
 have Q1:=L8 hz
 have Q2:=L8 D5
 have Q3:=L8 hU.row
 have Q4:=MI (show(W2.alloc (.cells Aj 205)).heap.size=W2.heap.size+1 by simp)
 clear hR A9 o hE hs hc J3 hF hU hT hK hz D5 A5 D6
 generalize fU σ' W2.heap.size 3=τ' at*
 go_upto_if 33 with fail
 rw[←OV]
 generalize W2.alloc (.cells Aj 205)=W3 at*
 generalize W2.heap.size=pb at*
 go_cut [] (fun wx=>TkD X σ B K f C kv u (B.dir.getD C.i m0) n w pb wx)
 case first=>
  have G5:pb≠C.cb:=aa
  by_cases he:err=0
  ·subst he
   have J4:=MI (NL C.cb 210 u.p J.out.p u.k (eP X.fb C kv lv (u.fr+1)) z I ao mm c ts W3.drew (G4.out.aj (show Below W3.heap.size W3 W3.drew from MB.drew)) J.out.row)
   unfold yU at J4
   have A2:(dV z ts).length=20:=gW z ts
   have G6:(Tryz.prog.info? 205).map (·.size)=some (iA (dV z ts)).size:=by rw[az,gW];kernel_rfl
   have G7:Aj.size=(iA (dV z ts)).size:=by rw[az,gW];kernel_rfl
   have J5:=MI (show dV z ts=dV z ts from rfl)
   go_wp2_with fail
   refine wp_region_still_tail 4 af af ?_
   simp only[List.take_succ_cons,List.take_zero,List.drop_succ_cons,List.drop_zero]
   change wpStill _ _ W3.drew _ _ _
   repeat (first | (refine mJ rfl 196 (.tmp 5) rfl gb rfl 196 (frC z (.slice ao mm c)) (0,0) _ G3 Tryz.underlying196 rfl (kW _ _ I) ?_) | still_step)
   try refine wpStill_nil ?_
   change wpList _ _ _ _ _ W3.drew
   go_wp2_with (first
    | (go_at_call 238;refine J4.out.mono ?_;rintro e w4 ⟨rfl,A6,B2⟩;have C2:=B2.heap (show W3.drew.heap[pb]? =_ from C1) G5)
    | (with_reducible refine MF 205 7 38 ?_;refine wpList_store_row rfl 205 (.tmp 7) (.tmp 38) rfl _ (iA (dV z ts)) rfl rfl 205 Aj C2 G6 G7 (bV _) ?_))
   go_meet
   have Q5:=(setRow_other w4 pb C.cb (iA (dV z ts)) (Ne.symm G5)).trans A6
   have E1:ag (fun j=>j=C.cb) W3 w4:=(ag.au (S:=fun j=>j=C.cb) (show Below W3.heap.size W3 W3.drew from MB.drew) Me).trans B2
   have A7:=J.out.veil A2 A6 E1
   have G8:=D9.out.kept (E1.mono fun k _ e=>by rw[e,J.out.own];have:=J.out.t3;omega)
   exact⟨dV z ts,0,z,ts,R,τ',f',lv,_,HR.out,I,A2,setRow_heap _ _ _ _ _ _ C2,(setRow_other _ _ _ _ aa).trans (E1.heap B1 aa),(E0.out.andThen E1 (fun i hi e=>.inr (.inr (by rw[←HE.out i hi,e];exact J.out.own)))).andThen (aK _ _ _) (fun i hi e=>aa),HE.out,HS.out,G8.kept ((aK _ _ _).mono (fun k _ e=>by rw[e];exact Nat.le_of_eq B0.out.symm)),hB,HC.out,G2.out,A7.keep (aK _ _ _) (fun k e _=>by have:=J.out.t3;rw[e,B0.out];omega),rfl,rfl,fun h=>G1.out h,fun h0 h1 h2 h3=>⟨(HG.out h0 h1 h2 h3).1,(HG.out h0 h1 h2 h3).2.1,rfl⟩,fun _=>⟨rfl,rfl,rfl,rfl⟩,fun h=>absurd rfl h⟩
  ·have q1:(err==0)=false:=by simpa using he
   have N2:=MI he
   clear he
   obtain⟨c53,c54,c55,c56,c57,c58,c59,f57,f58,f59⟩:=gK J.out.p J.out.row
   have J6:=MI J.out.lost
   go_upto_region 7 with(at_builtin;refine nY rfl (.tmp 43) (.tmp 45) 33 3 rfl Tryz.underlying33 Gu rfl 0 _ _ _ rfl J6.out (.int .i64 (n:Int)) rfl rfl (by show(u.lost.length+1)*8≤_;omega) (by show u.lost.length+1≤_;unfold maxLen;omega) (Nat.zero_le _) ?_;intro lv4 w4 B4 B2 J7;obtain⟨ao4,cap4,rfl⟩:=dh B4;obtain⟨A6,G9⟩:=J.out.app B2;have d58:=qX J.out.p A6 5 rfl;have g58:=frozen_of_row _ _ 58 _ _ A6;have N3:=MI A6;have N4:=MI G9;have J8:=MI B4;have J9:=MI B2;have K0:=MI J7;clear A6 G9 B4 B2 J7)
   obtain⟨τ5,E2,K1,K2,C3⟩:=dO.lostAdd D9.out J.out J8.out J9.out K0.out
   have E3:=C3.heap B1 (fun e=>by have:=J.out.t3;rw[HS.out] at e;omega)
   have M3:=C3.heap C1 (fun e=>by have:=J.out.t3;rw[B0.out] at e;omega)
   have Q6:=C3.size
   have N5:=MI (E0.out.andThen C3 (fun i hi e=>.inr (.inr (by rw[←HE.out i hi];exact e))))
   have K3:=MI (HE.out.trans E2 (by have:=L8 B1;omega))
   have N6:=MI ((E2 _ (L8 B1)).trans HS.out)
   have H0:=MI ((E2 _ (L8 C1)).trans B0.out)
   have K4:=MI K1
   have A1:=MI K2
   clear d58 g58 N3 N4 J8 J9 K0 C3 K1 K2 E2 c53 c54 c55 c56 c57 c58 c59 f57 f58 f59 G3 D9 J G4 E0 C1 B1 HE HS B0 J6
   simp only at A1 K4
   generalize w4.setCell ⟨C.cb,58,none⟩ (.slice ao4 (u.lost.length+1) cap4)=W5 at*
   generalize Value.slice ao4 (u.lost.length+1) cap4=lv5 at*
   have K5:=MI (Nk C.cb 210 u.p A1.out.p u.k (eP X.fb C kv lv5 (u.fr+1)) W5 A1.out.row)
   unfold yU at K5
   have A2:(pR u.p (wrap64 (u.k+1))).length=20:=yA _ A1.out.p _
   generalize K6:pR u.p (wrap64 (u.k+1))=P at*
   have J5:=MI K6
   clear K6
   have G6:(Tryz.prog.info? 205).map (·.size)=some (iA P).size:=by rw[az,A2];kernel_rfl
   have G7:Aj.size=(iA P).size:=by rw[az,A2];kernel_rfl
   go_wp2_with (first
    | (go_at_call 239;refine K5.out.mono ?_;rintro e w6 ⟨rfl,N7,C4⟩;have K7:=C4.heap M3 G5)
    | (with_reducible refine MF 205 7 52 ?_;refine wpList_store_row rfl 205 (.tmp 7) (.tmp 52) rfl _ (iA P) rfl rfl 205 Aj K7 G6 G7 (bV _) ?_))
   go_meet
   have N8:=A1.out.veil A1.out.p N7 C4
   have N9:=K4.out.kept (C4.mono fun k _ e=>by rw[e,A1.out.own];have:=A1.out.t3;omega)
   exact⟨P,err,z,ts,R,τ5,f',lv5,_,HR.out,I,A2,setRow_heap _ _ _ _ _ _ K7,(setRow_other _ _ _ _ aa).trans (C4.heap E3 aa),(N5.out.andThen C4 (fun i hi e=>.inr (.inr (by rw[←K3.out i hi,e];exact A1.out.own)))).andThen (aK _ _ _) (fun i hi e=>aa),K3.out,N6.out,N9.kept ((aK _ _ _).mono (fun k _ e=>by rw[e];exact Nat.le_of_eq H0.out.symm)),hB,HC.out,G2.out,N8.keep (aK _ _ _) (fun k e _=>by have:=A1.out.t3;rw[e,H0.out];omega),rfl,rfl,fun h=>G1.out h,fun h0 h1 h2 h3=>HG.out h0 h1 h2 h3,fun h=>absurd h N2.out,fun _=>⟨rfl,rfl,rfl,J5.out.symm⟩⟩
 case rest=>
 obtain⟨W4,rfl⟩: ∃w',w'=wc:=⟨_,rfl⟩
 obtain⟨P,err2,z2,ts2,R2,σ2,f2,lv2,u2,O0,M4,A2,C8,C2,O1,O2,K8,G8,O3,O4,O5,A7,O6,M5,M6,H2,M7,M8⟩:=hcut
 have B5:(P.take 16).length=16:=by simp[A2]
 have E4:(P.drop 16).length=4:=by simp[A2]
 have O7:=(CO A7.p A7.row).1
 have O8:W4.rangeAt pb 0 (iL (P.take 16)):=ik [] (iL (P.take 16)) (iL (P.drop 16)) (by rw[C8,List.nil_append,←NE,List.take_append_drop];rfl)
 have O9:W4.rangeAt pb 16 (iL (P.drop 16)):=by
  have:=ik (w:=W4) (b:=pb) (T:=205) (fr:=(0,0)) (iL (P.take 16)) (iL (P.drop 16)) [] (by rw[C8,List.append_nil,←NE,List.take_append_drop];rfl)
  rwa [bU,B5] at this
 have P0:=MI (fun w=>(both_any (P.take 16) B5 w).1)
 have H3:(oH (P.take 16)).length=16:=by unfold oH;simp only[iy];exact B5
 generalize K9:P.take 16=TK at*
 generalize hG:P.drop 16=G at*
 generalize L0:oH TK=IV at*
 have L1:=MI K9
 have L2:=MI hG
 have L3:=MI L0
 clear K9 hG L0
 have P1:=MI (show Tryz.prog.built 316 [(0,.int .i64 n),(1,.agg (iA IV)),(2,.agg (iA G))]=some (iA (kbL ⟨n,IV,G⟩)) from OA n IV G H3 E4)
 have H9:(Tryz.prog.info? 194).map (·.size)=some (iL (TK)).length:=by rw[bU,B5];kernel_rfl
 have I0:(Tryz.prog.info? 191).map (·.size)=some (iL (G)).length:=by rw[bU,E4];kernel_rfl
 have L4:(kbL ⟨n,IV,G⟩).length=21:=by simp only[kbL,List.length_cons,List.length_append,H3,E4]
 have E5:(Tryz.prog.info? 316).map (·.size)=some (iA (kbL ⟨n,IV,G⟩)).size:=by rw[az,L4];kernel_rfl
 have I1:gU.size=(iA (kbL ⟨n,IV,G⟩)).size:=by rw[az,L4];kernel_rfl
 have P2:=L8 C2
 have M9:C.cb<W4.drew.heap.size:=L8 A7.row
 have H4:pb<W4.drew.heap.size:=L8 C8
 have P3:C.cb≠w.heap.size:=aa
 have H5:pb≠w.heap.size:=aa
 clear G3 C1 B1 HR G1 HG HE HS HC G2 B0 D9 J G4 E0
 go_upto_region 8 with fail
 refine wp_region_noPanic ?_
 refine wp_region_held_drew (S:=fun w'=>w'.rangeAt C.cb 37 (iL aJ)∧w'.rangeAt pb 0 (iL (TK))∧w'.rangeAt pb 16 (iL (G))) af ?_ (fun U=>?_)
 ·exact⟨O7,O8,O9⟩
 refine ba 0 ?_
 try simp only[Act.put,aS]
 refine ba 1 ?_
 try simp only[Act.put,aS]
 refine ba 2 ?_
 try simp only[Act.put,aS]
 refine ba 3 ?_
 try simp only[Act.put,aS]
 refine ba 4 ?_
 try simp only[Act.put,aS]
 refine wpAnyH_take (i:=5) (v:=.agg (iL aJ).toArray) rfl af af af (fun _ _ _ h=>h) (yieldsIf_load_mid af 176 (.tmp 57) rfl C.cb 37 rfl (iL aJ) _ (fun w h=>h.1) Tryz.underlying176 rfl af) aw ?_
 try simp only[Act.put,aS]
 refine ba 6 ?_
 try simp only[Act.put,aS]
 refine wpAnyH_take (i:=7) (v:=.agg (iL (TK)).toArray) rfl af af af (fun _ _ _ h=>h) (yieldsIf_load_mid af 194 (.tmp 59) rfl pb 0 rfl (iL (TK)) _ (fun w h=>h.2.1) Tryz.underlying194 rfl H9) aw ?_
 try simp only[Act.put,aS]
 refine ba 9 ?_
 try simp only[Act.put,aS]
 refine wpAnyH_take (i:=10) (v:=.agg (iL (G)).toArray) rfl af af af (fun _ _ _ h=>h) (yieldsIf_load_mid af 191 (.tmp 62) rfl pb 16 rfl (iL (G)) _ (fun w h=>h.2.2) Tryz.underlying191 rfl I0) aw ?_
 try simp only[Act.put,aS]
 refine bj 8 (fun K hK=>?_)
 go_simp
 go_at_call 240;refine(P0.out _).mono ?_;rintro e w5 ⟨rfl,C5⟩;have E3:=cZ C2 (show Below W4.heap.size W4 w5 from((Below.refl _ W4).drew).trans C5) P2
 refine hK.out _ _ ?_ (fun U=>?_)
 ·(try dsimp only);exact⟨D8 U.1 C5 M9,D8 U.2.1 C5 H4,D8 U.2.2 C5 H4⟩
 clear hK K
 try simp only[Act.put,aS]
 refine wpAnyH_take (i:=11) (v:=.agg (iA (kbL ⟨n,IV,G⟩))) rfl af af af (fun _ _ _ h=>h) (kY af 316 _ rfl (iA (kbL ⟨n,IV,G⟩)) (Eq.trans (b:=Tryz.prog.built 316 [(0,.int .i64 n),(1,.agg (iA (IV))),(2,.agg (iA (G)))]) af P1.out)) aw ?_
 try simp only[Act.put,aS]
 refine bj 12 (fun K hK=>?_)
 rw[if_pos af]
 refine wp_store_row 316 (.tmp 4) (.tmp 64) rfl _ (iA (kbL ⟨n,IV,G⟩)) rfl rfl 316 gU E3 E5 I1 (bV _) ?_
 refine hK.out _ _ ?_ (fun U=>?_)
 ·(try dsimp only);exact⟨D7 U.1 P3 _,D7 U.2.1 H5 _,D7 U.2.2 H5 _⟩
 clear hK K
 try simp only[Act.put,aS]
 refine wpAnyH_done af ?_ _
 refine NoPanic.normal ?_
 go_wp2_with fail
 have H6:Below W4.heap.size W4 w5:=((Below.refl _ W4).drew).trans C5
 have H7:=aK w5 w.heap.size (iA (kbL ⟨n,IV,G⟩))
 refine bodyPost_ret (results_cell_row (fn:=Tryz.f230) rfl _ _ _ _ _ _ _ rfl (setRow_heap _ _ _ _ _ _ E3) Tryz.underlying316 rfl E5) rfl ⟨⟨n,IV,G⟩,R2,u2,lv2,σ2,f2,rfl,⟨H3,E4⟩,⟨err2,z2,ts2,O0,M4,M6,H2,O6,M5,rfl,fun h=>?_,fun h=>?_⟩,(G8.aj H6).kept (H7.mono (fun k _ e=>by rw[e];exact Nat.le_of_eq K8.symm)),O3,O4,O5,(A7.aj H6).keep H7 (fun k e _=>by have:=A7.t3;rw[e,K8];omega),(O1.below H6 aa).andThen H7 (fun i hi e=>aa),O2⟩
 ·obtain⟨a1,a2,a3,a4⟩:=M7 h
  exact⟨a1,a2,a3,by rw[←a4,L1.out];exact L3.out.symm,by rw[←a4];exact L2.out.symm⟩
 ·obtain⟨a1,a2,a3,a4⟩:=M8 h
  exact⟨a1,a2,a3,by rw[←a4,L1.out];exact L3.out.symm,by rw[←a4];exact L2.out.symm⟩
theorem lY{P:Program}(w:World)(dT sT ty elem:TypeId)(b o dLen dCap:Nat)(a:Addr)(sLen sCap size m:Nat)(cs:List Value)
  (hu:P.underlying dT=some (.slice elem)) (hs:(P.info? elem).map (·.size)=some size) (hn:Nat.min sLen dLen=m) (J:cs.length=m*size)
  (I: ∀j v,cs[j]? =some v→w.cell? (a.add j)=some v) (hc: ∀j,j<cs.length→(w.cell? ⟨b,o+j,none⟩).isSome=true) (hf: ∀j,j<cs.length→w.frozen? ⟨b,o+j,none⟩=false) (h1: ∀v ∈ cs,v.oneCell'=true):
  (Builtin.copy_ #[dT,sT] ty #[.slice (some ⟨b,o,none⟩) dLen dCap,.slice (some a) sLen sCap]).run P w= .ok (goInt m) (w.setCells b o cs):=by
 have hl:=run_loadCells_list (P:=P) w a cs I
 have R:=run_storeCells_cells (P:=P) b o cs 0 w (by simpa using hc) (by simpa using hf) h1
 cases hq:P.info? elem with
 | none=>simp[hq] at hs
 | some i=>
  have hi:i.size=size:=by simpa[hq] using hs
  simp[Builtin.copy_,run_underlying hu,Builtin.lenOf,Builtin.firstCells,sizeOf,typeInfo,hq,hi,hn,←J,hl,R]
theorem xu{P:Program}(w:World)(dT sT ty elem:TypeId)(d a:Option Addr)(dLen dCap sLen sCap size:Nat)(hu:P.underlying dT=some (.slice elem))(hs:(P.info? elem).map (·.size)=some size)(hn:Nat.min sLen dLen=0):
  (Builtin.copy_ #[dT,sT] ty #[.slice d dLen dCap,.slice a sLen sCap]).run P w= .ok (goInt 0) w:=by
 cases hq:P.info? elem with
 | none=>simp[hq] at hs
 | some i=>
  have hl: ∀(x:Addr),(loadCells x 0).run P w= .ok #[] w:=fun x=>by simpa using run_loadCells_list (P:=P) w x [] ar
  cases d<;>cases a<;>simp[Builtin.copy_,run_underlying hu,Builtin.lenOf,Builtin.firstCells,sizeOf,typeInfo,hq,hn,storeCells,hl]
theorem nX{P:Program}{w w':World}{ops:Array Oper}{rest:List Oper}{o:Oper}{a:Act}{Q:Exit→Act→World→Prop}(I:o.guard=none)(d s:Operand)(dT sT:TypeId)
  (ho:o.op= .call {callee:=.builtin .copy,args:=#[d,s],argTypes:=#[dT,sT]}) {u v z:Value} (hd:a.eval d=u) (hs:a.eval s=v) (hr:(Builtin.copy_ #[dT,sT] o.type #[u,v]).run P w= .ok z w')
  (h:wpList P ops Q rest (a.put o.dst z) w'):wpList P ops Q (o::rest) a w:=by
 refine wpList_plain I fun K hK=>?_
 unfold Oper.wp execOp
 simp only[ho,resolve,invoke,builtin,Sem.run_bind,Sem.run_pure,Result.andThen_ok,List.map_toArray,List.map_cons,List.map_nil,hd,hs,hr]
 exact hK _ _ h
theorem xq{P:Program}(T e:TypeId)(hT:P.underlying T=some (.slice e))(size:Nat)(I:(P.info? e).map (·.size)=some size)(g len cap lo hi:Nat)(h1:lo≤hi)(h2:hi≤cap)(h3:cap≤maxLen)(R:lo≠cap)(w:World):
  (Instr.slice T (.slice (some ⟨g,0,none⟩) len cap) (some (.int .i64 (lo:Int))) (some (.int .i64 (hi:Int))) none).run P w= .ok (.slice (some ⟨g,lo*size,none⟩) (hi - lo) (cap - lo)) w:=by
 have he:P.elem T=e:=by simp[Program.elem,hT]
 unfold maxLen at h3
 rw[run_slice_lh w T (some ⟨g,0,none⟩) len cap (by rw[he];exact hT) .i64 .i64 lo hi aa aa aa,he]
 have hs:(sizeOf e).run P w= .ok size w:=by
  cases J:P.info? e with
  | none=>rw[J] at I;cases I
  | some i=>rw[J] at I;simp at I;simp[sizeOf,typeInfo,J,I]
 rw[hs]
 simp[Result.andThen,sliced,R,Ne.symm R,add0]
end Go.Proofs.YtnicjahcgnhogaaGreatDoor
