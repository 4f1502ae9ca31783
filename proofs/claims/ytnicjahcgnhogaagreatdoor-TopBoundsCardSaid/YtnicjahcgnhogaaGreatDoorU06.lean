/- Part 7 of the walk: contracts of the program's functions, each for every input. No condition. -/
import Derived.Test.YtnicjahcgnhogaaGreatDoorU05
set_option linter.unusedVariables false
set_option linter.unusedSimpArgs false
set_option maxRecDepth 100000
set_option maxHeartbeats 8000000
namespace Go.Proofs.YtnicjahcgnhogaaGreatDoor
open Go Go.RowKit Go.Calli
attribute [local irreducible] wpStill wpAnyH wpAnyS wpList Code.wp
def iL(zs:List Int):List Value:=zs.map (Value.int .i64)
theorem yD(zs:List Int):iA zs=(iL zs).toArray:=rfl
theorem uG{P:Program}{o:Oper}{a:Act}{w:World}{K:Act→World→Prop}{Q:Exit→Act→World→Prop}(t:TypeId)(parts:Array (Nat×Operand))(ho:o.op= .build t parts)
  (cells:Array Value) (hc:P.built t (parts.map fun(i,x)=>(i,a.eval x)).toList=some cells) (h:K (a.put o.dst (.agg cells)) w):o.wp P a w K Q:=
 wp_build t parts ho (by rw[hc];rfl) (by rw[hc];exact h)
theorem fJ.qc{w:World}{b:Nat}{z:List Int}{tv:Value}(h:fJ w b z tv):w.rangeAt b 0 ((gL z).map (Value.int .i64)):=by
 intro j v hv
 have hj:j<4:=by have:=(List.getElem?_eq_some_iff.1 hv).1;simpa[gL] using this
 rw[Nat.zero_add,h.lo hj,←hv]
 simp[gL,hj]
theorem vO{α:Type}{l:List α}(h:l.length=4): ∃a b c d,l=[a,b,c,d]:=by
 obtain⟨a,l,rfl⟩:=List.exists_cons_of_length_eq_add_one h
 obtain⟨b,l,rfl⟩:=List.exists_cons_of_length_eq_add_one (by simpa using h)
 obtain⟨c,l,rfl⟩:=List.exists_cons_of_length_eq_add_one (by simpa using h)
 obtain⟨d,l,rfl⟩:=List.exists_cons_of_length_eq_add_one (by simpa using h)
 exact⟨a,b,c,d,by simp at h;rw[h]⟩
theorem fB{α:Type}{l:List α}{n:Nat}(h:l.length=n+1): ∃a r,l=a::r∧r.length=n:=by
 obtain⟨a,r,rfl⟩:=List.exists_cons_of_length_eq_add_one h
 exact⟨a,r,rfl,by simpa using h⟩
theorem o5{α:Type}{l:List α}(h:l.length=16): ∃a0 a1 a2 a3 a4 a5 a6 a7 a8 a9 a10 a11 a12 a13 a14 a15,l=[a0,a1,a2,a3,a4,a5,a6,a7,a8,a9,a10,a11,a12,a13,a14,a15]:=by
 obtain⟨a0,l0,rfl,h0⟩:=fB h
 obtain⟨a1,l1,rfl,h1⟩:=fB h0
 obtain⟨a2,l2,rfl,h2⟩:=fB h1
 obtain⟨a3,l3,rfl,h3⟩:=fB h2
 obtain⟨a4,l4,rfl,h4⟩:=fB h3
 obtain⟨a5,l5,rfl,h5⟩:=fB h4
 obtain⟨a6,l6,rfl,h6⟩:=fB h5
 obtain⟨a7,l7,rfl,h7⟩:=fB h6
 obtain⟨a8,l8,rfl,h8⟩:=fB h7
 obtain⟨a9,l9,rfl,h9⟩:=fB h8
 obtain⟨a10,l10,rfl,I⟩:=fB h9
 obtain⟨a11,l11,rfl,J⟩:=fB I
 obtain⟨a12,l12,rfl,R⟩:=fB J
 obtain⟨a13,l13,rfl,U⟩:=fB R
 obtain⟨a14,l14,rfl,j⟩:=fB U
 obtain⟨a15,l15,rfl,o⟩:=fB j
 obtain rfl:=List.length_eq_zero_iff.1 o
 exact⟨_,_,_,_,_,_,_,_,_,_,_,_,_,_,_,_,rfl⟩
theorem OC(s g:List Int)(hs:s.length=16)(hg:g.length=4):Tryz.prog.built 205 [(0,.agg (iA s)),(1,.agg (iA g))]=some (iA (s++g)):=by
 obtain⟨a0,a1,a2,a3,a4,a5,a6,a7,a8,a9,a10,a11,a12,a13,a14,a15,rfl⟩:=o5 hs
 obtain⟨b0,b1,b2,b3,rfl⟩:=vO hg
 kernel_rfl
def dV(z:List Int)(ts:List (Int×Int)):List Int:=uO z ts++gL z
theorem xU(z:List Int)(ts:List (Int×Int)):(uO z ts).length=16:=jr _
theorem gW(z:List Int)(ts:List (Int×Int)):(dV z ts).length=20:=by unfold dV;rw[List.length_append,xU,wB]
theorem Dy(z:List Int)(hz:z.length=28)(ao:Option Addr)(n cap:Nat)(ts:List (Int×Int))(w:World)(h:bP eY 2 (0,0) w ao n ts):Calls Tryz.prog 253 #[.agg (frC z (.slice ao n cap))] w (fun e w'=>e= .returned (.agg (iA (dV z ts)))∧Below w.heap.size w w'):=by
 have A0:=ae w (.cells (frC z (.slice ao n cap)) 196)
 have A7:fJ (w.alloc (.cells (frC z (.slice ao n cap)) 196)) w.heap.size z (.slice ao n cap):=⟨L9 w _,hz⟩
 have I:=ae (w.alloc (.cells (frC z (.slice ao n cap)) 196)) (.cells #[(),(),(),(),(),(),(),(),(),(),(),(),(),(),(),(),(),(),(),()] 205)
 have A1:=L9 (w.alloc (.cells (frC z (.slice ao n cap)) 196)) (.cells #[(),(),(),(),(),(),(),(),(),(),(),(),(),(),(),(),(),(),(),()] 205)
 have A8:=A7.aj I
 have hB:=A0.trans (I.mono A0.size)
 have hT:=(h.aj A0).aj I
 rw[World.size_alloc] at A1
 have A9:(Tryz.prog.info? 196).map (·.size)=some (frC z (.slice ao n cap)).size:=by rw[bM _ _ hz];kernel_rfl
 have U:(Tryz.prog.info? 191).map (·.size)=some ((gL z).map (Value.int .i64)).length:=by rw[List.length_map,wB];kernel_rfl
 have A3:(Tryz.prog.info? 205).map (·.size)=some (iA (dV z ts)).size:=by rw[az,gW];kernel_rfl
 have A4:(#[(),(),(),(),(),(),(),(),(),(),(),(),(),(),(),(),(),(),(),()]:Array Value).size=(iA (dV z ts)).size:=by rw[az,gW];rfl
 have B0:=MI (OC (uO z ts) (gL z) (xU z ts) (wB z))
 have HS:=MI (fun w h=>KR z hz ao n cap ts w h)
 have HP:Hid (dV z ts=uO z ts++gL z):=rfl
 clear A0 I A7 h hz
 go_enter Tryz.func253,Tryz.ntmps253
 go_upto_region 1 with fail
 generalize (w.alloc (.cells (frC z (.slice ao n cap)) 196)).alloc (.cells #[(),(),(),(),(),(),(),(),(),(),(),(),(),(),(),(),(),(),(),()] 205)=W0 at*
 have o:Below W0.heap.size W0 W0.drew:=(Below.refl _ W0).drew
 have A5:=hT.aj o
 have hF:=A8.aj o
 have hO:=(o.block _ (L8 A1)).trans A1
 have j:=MI (hB.trans (o.mono hB.size))
 clear A8 hT A1 o hB
 generalize uO z ts=S at*
 generalize hG:gL z=G at*
 refine wp_region_any af ?_
 change wpAny _ _ _ _ _ _ _ (World.drew _)
 refine wpAny_take (i:=2) (v:=?_) rfl af af af (fun _ _ _ h=>h) (Or.inl ⟨by rfl,?_⟩) ?_
 rotate_left
 ·intro w9
  first
   | (go_simp;done)
   | (go_simp;with_reducible rfl)
 refine wpAny_ready (rs:=[0,3]) af ar (BigFrame.allReady_want rfl af (fun K hK=>?_) (BigFrame.allReady_want rfl af (fun K hK=>?_) AllReady.nil))
 rotate_right
 focus
  first
   | (refine wp_load_mid 191 (.tmp 5) rfl _ 0 rfl _ _ J Tryz.underlying191 rfl U ?_)
   | (have R:=hF.qc;rw[hG] at R;refine wp_load_mid 191 (.tmp 5) rfl _ 0 rfl _ _ R Tryz.underlying191 rfl U ?_)
  try go_simp
  refine hK _ _ ?_
  clear hK K
  refine wpAny_ready (rs:=[0]) af ar ?_
  refine BigFrame.allReady_want rfl af (fun K hK=>?_) AllReady.nil
  refine wp_load_row 196 (.tmp 1) rfl _ rfl 196 (frC z (.slice ao n cap)) (0,0) _ hF.row Tryz.underlying196 rfl A9 ?_
  try go_simp
  refine hK _ _ ?_
  clear hK K
  refine wpAny_ready (rs:=[1]) af ar ?_
  refine BigFrame.allReady_want rfl af (fun K hK=>?_) AllReady.nil
  go_simp
  go_at_call 261
  refine(HS.out _ A5).mono ?_
  rintro e w1 ⟨rfl,I⟩
  have J:=(hF.aj I).qc
  rw[hG] at J
  have A2:=(I.block _ (L8 hO)).trans hO
  have A6:=MI (j.out.trans (I.mono j.out.size))
 rotate_right
 focus
  refine wp_load_row 196 (.tmp 1) rfl _ rfl 196 (frC z (.slice ao n cap)) (0,0) _ hF.row Tryz.underlying196 rfl A9 ?_
  try go_simp
  refine hK _ _ ?_
  clear hK K
  refine wpAny_ready (rs:=[1,3]) af ar (BigFrame.allReady_want rfl af (fun K hK=>?_) (BigFrame.allReady_want rfl af (fun K hK=>?_) AllReady.nil))
  rotate_right
  focus
   first
    | (refine wp_load_mid 191 (.tmp 5) rfl _ 0 rfl _ _ J Tryz.underlying191 rfl U ?_)
    | (have R:=hF.qc;rw[hG] at R;refine wp_load_mid 191 (.tmp 5) rfl _ 0 rfl _ _ R Tryz.underlying191 rfl U ?_)
   try go_simp
   refine hK _ _ ?_
   clear hK K
   refine wpAny_ready (rs:=[1]) af ar ?_
   refine BigFrame.allReady_want rfl af (fun K hK=>?_) AllReady.nil
   go_simp
   go_at_call 261
   refine(HS.out _ A5).mono ?_
   rintro e w1 ⟨rfl,I⟩
   have J:=(hF.aj I).qc
   rw[hG] at J
   have A2:=(I.block _ (L8 hO)).trans hO
   have A6:=MI (j.out.trans (I.mono j.out.size))
  rotate_right
  focus
   go_simp
   go_at_call 261
   refine(HS.out _ A5).mono ?_
   rintro e w1 ⟨rfl,I⟩
   have J:=(hF.aj I).qc
   rw[hG] at J
   have A2:=(I.block _ (L8 hO)).trans hO
   have A6:=MI (j.out.trans (I.mono j.out.size))
   try go_simp
   refine hK _ _ ?_
   clear hK K
   refine wpAny_ready (rs:=[3]) af ar ?_
   refine BigFrame.allReady_want rfl af (fun K hK=>?_) AllReady.nil
   first
    | (refine wp_load_mid 191 (.tmp 5) rfl _ 0 rfl _ _ J Tryz.underlying191 rfl U ?_)
    | (have R:=hF.qc;rw[hG] at R;refine wp_load_mid 191 (.tmp 5) rfl _ 0 rfl _ _ R Tryz.underlying191 rfl U ?_)
 all_goals
  try go_simp
  refine hK _ _ ?_
  clear hK K
  refine wpAny_ready (rs:=[4]) af ar ?_
  refine BigFrame.allReady_want rfl af (fun K hK=>?_) AllReady.nil
  refine uG 205 _ rfl (iA (S++G)) (Eq.trans (b:=Tryz.prog.built 205 [(0,.agg (iA S)),(1,.agg (iA G))]) af B0.out) ?_
  try go_simp
  refine hK _ _ ?_
  clear hK K
  refine wpAny_ready (rs:=[5]) af ar ?_
  refine BigFrame.allReady_want rfl af (fun K hK=>?_) AllReady.nil
  rw[HP.out] at A3 A4
  refine wp_store_row 205 (.tmp 2) (.tmp 7) rfl _ (iA (S++G)) rfl rfl 205 _ A2 A3 A4 (bV _) ?_
  try go_simp
  refine hK _ _ ?_
  clear hK K
  refine wpAny_done af ?_ _
  go_wp2_with fail
  exact bodyPost_ret (results_cell_row (fn:=Tryz.f253) rfl _ _ _ _ _ _ _ rfl (setRow_heap _ _ _ _ _ _ A2) Tryz.underlying205 rfl A3) rfl ⟨by rw[HP.out],below_setRow A6.out aa _⟩
end Go.Proofs.YtnicjahcgnhogaaGreatDoor
namespace Go.Proofs.YtnicjahcgnhogaaGreatDoor
open Go Go.RowKit Go.Calli
theorem ik{w:World}{b T:Nat}{fr:Nat×Nat}(pre mid post:List Value)(h:w.heap[b]? =some (.cells (pre++(mid++post)).toArray T fr)):w.rangeAt b pre.length mid:=fun j v hv=>by
 have hj:j<mid.length:=(List.getElem?_eq_some_iff.1 hv).1
 rw[LZ h,List.getElem?_toArray,List.getElem?_append_right aa,List.getElem?_append_left aa,show pre.length+j - pre.length=j by omega]
 exact hv
theorem rQ{w:World}{b T:Nat}{cs:List Value}(h:w.heap[b]? =some (.cells cs.toArray T (0,0)))(o n:Nat)(hn:o+n≤cs.length):w.there b o n:=fun j hj=>by
 refine⟨?_,L6 h⟩
 rw[LZ h,List.getElem?_toArray,List.getElem?_eq_getElem aa]
 rfl
theorem rU{w:World}{b T:Nat}{fr:Nat×Nat}{cs:List Value}(h:w.heap[b]? =some (.cells cs.toArray T fr))(o:Nat){v:Value}(hv:cs[o]? =some v):w.cell? ⟨b,o,none⟩=some v:=by
 rw[LZ h,List.getElem?_toArray];exact hv
theorem spl_mid(pre old post new:List Value)(h:old.length=new.length):spl (pre++(old++post)).toArray pre.length new=(pre++(new++post)).toArray:=by
 apply Array.ext_getElem?
 intro j
 rw[uu new _ _ _ (by simp;omega),List.getElem?_toArray,List.getElem?_toArray]
 by_cases h1:pre.length≤j
 ·by_cases h2:j<pre.length+new.length
  ·rw[if_pos ⟨h1,h2⟩,List.getElem?_append_right h1,List.getElem?_append_left aa]
  ·rw[if_neg aa,List.getElem?_append_right h1,List.getElem?_append_right h1,List.getElem?_append_right aa,List.getElem?_append_right aa,h]
 ·rw[if_neg aa,List.getElem?_append_left aa,List.getElem?_append_left aa]
theorem kT{w:World}{b T:Nat}(pre old post new:List Value)(h:w.heap[b]? =some (.cells (pre++(old++post)).toArray T (0,0)))(hl:old.length=new.length):
  (w.setCells b pre.length new).heap[b]? =some (.cells (pre++(new++post)).toArray T (0,0)):=by
 rw[iR _ _ _ _ _ _ h,spl_mid _ _ _ _ hl]
theorem jy{w:World}{b T:Nat}(pre post:List Value)(v v':Value)(h:w.heap[b]? =some (.cells (pre++v::post).toArray T (0,0))):
  (w.setCell ⟨b,pre.length,none⟩ v').heap[b]? =some (.cells (pre++v'::post).toArray T (0,0)):=by
 rw[Mc h]
 simp
theorem bU(zs:List Int):(iL zs).length=zs.length:=by simp[iL]
theorem NE(a b:List Int):iL (a++b)=iL a++iL b:=by simp[iL]
theorem zS(zs:List Int): ∀v ∈ iL zs,v.oneCell'=true:=fun v hv=>by
 obtain⟨x,_,rfl⟩:=List.mem_map.1 hv
 rfl
theorem cZ{w w':World}{n b:Nat}{o:Obj}(h:w.heap[b]? =some o)(hb:Below n w w')(hn:b<n):w'.heap[b]? =some o:=(hb.block b hn).trans h
end Go.Proofs.YtnicjahcgnhogaaGreatDoor
namespace Go.Proofs.YtnicjahcgnhogaaGreatDoor
open Go Go.RowKit Go.Calli
attribute [local irreducible] wpStill wpAnyH wpAnyS wpList Code.wp
structure Vo where
 m:Mt
 at_:Int
 dP:Int
 done:Bool
structure Vo.Ok(v:Vo):Prop where
 m:v.m.Ok
 a0:0≤v.at_
 a1:v.at_≤4611686052787126272
 a2:v.done=false→v.at_<4611686018427387904
 p0:0≤v.dP
 p1:v.dP≤34359738368
def dQ(w:World)(vb:Nat)(co:Option Addr)(cap:Nat)(v:Vo):Prop:=w.heap[vb]? =some (.cells #[.string v.m.nm,.int .i64 v.m.len,.int .i64 v.m.rate,.int .i64 v.m.ch,.bool v.m.loop,.int .i64 v.m.ls,.int .i64 v.m.le,.int .i64 v.m.sums,.int .i64 v.m.first,.slice co v.m.ch cap,.int .i64 v.at_,.int .i64 v.dP,.bool v.done] 148 (0,0))
theorem dJ{w:World}{vb:Nat}{co:Option Addr}{cap:Nat}{v:Vo}(h:dQ w vb co cap v):
  w.cell? ⟨vb,0,none⟩=some (.string v.m.nm)∧w.cell? ⟨vb,1,none⟩=some (.int .i64 v.m.len)∧w.cell? ⟨vb,2,none⟩=some (.int .i64 v.m.rate)∧w.cell? ⟨vb,3,none⟩=some (.int .i64 v.m.ch)∧w.cell? ⟨vb,4,none⟩=some (.bool v.m.loop)∧w.cell? ⟨vb,5,none⟩=some (.int .i64 v.m.ls)∧w.cell? ⟨vb,6,none⟩=some (.int .i64 v.m.le)∧w.cell? ⟨vb,7,none⟩=some (.int .i64 v.m.sums)∧w.cell? ⟨vb,8,none⟩=some (.int .i64 v.m.first)∧w.cell? ⟨vb,9,none⟩=some (.slice co v.m.ch cap)∧w.cell? ⟨vb,10,none⟩=some (.int .i64 v.at_)∧w.cell? ⟨vb,11,none⟩=some (.int .i64 v.dP)∧w.cell? ⟨vb,12,none⟩=some (.bool v.done)∧w.frozen? ⟨vb,10,none⟩=false∧w.frozen? ⟨vb,11,none⟩=false∧w.frozen? ⟨vb,12,none⟩=false:=
 ⟨LY h rfl,LY h rfl,LY h rfl,LY h rfl,LY h rfl,LY h rfl,LY h rfl,LY h rfl,LY h rfl,LY h rfl,LY h rfl,LY h rfl,LY h rfl,L6 h,L6 h,L6 h⟩
theorem dQ.setAt{w:World}{vb:Nat}{co:Option Addr}{cap:Nat}{v:Vo}(h:dQ w vb co cap v)(a:Int):dQ (w.setCell ⟨vb,10,none⟩ (.int .i64 a)) vb co cap {v with at_:=a}:=Mc h
theorem dQ.La{w:World}{vb:Nat}{co:Option Addr}{cap:Nat}{v:Vo}(h:dQ w vb co cap v)(a:Int):dQ (w.setCell ⟨vb,11,none⟩ (.int .i64 a)) vb co cap {v with dP:=a}:=Mc h
theorem dQ.FW{w:World}{vb:Nat}{co:Option Addr}{cap:Nat}{v:Vo}(h:dQ w vb co cap v)(d:Bool):dQ (w.setCell ⟨vb,12,none⟩ (.bool d)) vb co cap {v with done:=d}:=Mc h
theorem dQ.mtx{w:World}{vb:Nat}{co:Option Addr}{cap:Nat}{v:Vo}(h:dQ w vb co cap v):w.rangeAt vb 0 (aV v.m):=ik [] (aV v.m) [.slice co v.m.ch cap,.int .i64 v.at_,.int .i64 v.dP,.bool v.done] h
theorem dQ.load{w:World}{vb:Nat}{co:Option Addr}{cap:Nat}{v:Vo}(h:dQ w vb co cap v):(Instr.loadAt 54 (.pointer (some ⟨vb,0,none⟩))).run Tryz.prog w= .ok (.agg (aF v.m)) w:=run_loadAt_mid w vb 0 54 (aV v.m) _ h.mtx Tryz.underlying54 rfl af
theorem dQ.keep{w w':World}{vb:Nat}{co:Option Addr}{cap:Nat}{v:Vo}(h:dQ w vb co cap v){n:Nat}(hb:Below n w w')(hn:vb<n):dQ w' vb co cap v:=cZ h hb hn
theorem dQ.lt{w:World}{vb:Nat}{co:Option Addr}{cap:Nat}{v:Vo}(h:dQ w vb co cap v):vb<w.heap.size:=L8 h
theorem mM(vb:Nat)(co:Option Addr)(cap:Nat)(v:Vo)(hv:v.Ok)(w:World)(h:dQ w vb co cap v):Calls Tryz.prog 109 #[.pointer (some ⟨vb,0,none⟩)] w (fun e w'=>e= .returned (.bool false)∧w=w'):=by
 have h0:=hv.m.c0
 have I:((v.m.ch:Int)==0)=false:=by simp;omega
 obtain⟨c0,c1,c2,c3,c4,c5,c6,c7,c8,c9,c10,c11,c12,f10,f11,f12⟩:=dJ h
 go_enter Tryz.func109,Tryz.ntmps109
 go_wp2_with fail
 go_ret
 exact⟨rfl,rfl⟩
theorem xK(vb:Nat)(co:Option Addr)(cap:Nat)(v:Vo)(hv:v.Ok)(w:World)(h:dQ w vb co cap v):Calls Tryz.prog 111 #[.pointer (some ⟨vb,0,none⟩)] w (fun e w'=>e= .returned (.bool v.done)∧w=w'):=by
 have hN:=mM vb co cap v hv w h
 obtain⟨c0,c1,c2,c3,c4,c5,c6,c7,c8,c9,c10,c11,c12,f10,f11,f12⟩:=dJ h
 go_enter Tryz.func111,Tryz.ntmps111
 go_wp2_with (go_at_call 109;refine hN.mono ?_;rintro e w' ⟨rfl,rfl⟩)
 go_ret
 exact⟨rfl,rfl⟩
theorem Dw(vb:Nat)(co:Option Addr)(cap:Nat)(v:Vo)(hv:v.Ok)(w:World)(h:dQ w vb co cap v):Calls Tryz.prog 85 #[.pointer (some ⟨vb,0,none⟩)] w (fun e w'=>e= .returned (.int .i64 v.at_)∧w=w'):=by
 have hN:=mM vb co cap v hv w h
 obtain⟨c0,c1,c2,c3,c4,c5,c6,c7,c8,c9,c10,c11,c12,f10,f11,f12⟩:=dJ h
 go_enter Tryz.func85,Tryz.ntmps85
 go_wp2_with (go_at_call 109;refine hN.mono ?_;rintro e w' ⟨rfl,rfl⟩)
 go_ret
 exact⟨rfl,rfl⟩
def dL(v:Vo)(a:Int):Int×Vo:=if a<0∨(v.m.len:Int)≤a then(5,v) else(0,{v with at_:=a*4294967296,done:=false})
theorem Ld{v:Vo}(h:v.Ok)(a:Int):(dL v a).2.Ok:=by
 have h1:=h.m.l1
 unfold dL
 split
 ·exact h
 ·exact⟨h.m,by simp only;omega,by simp only;omega,fun _=>by simp only;omega,h.p0,h.p1⟩
def VoP(vb:Nat)(co:Option Addr)(cap:Nat)(x:Int×Vo)(w:World)(e:Ending)(w':World):Prop:=e= .returned (.int .i64 x.1)∧dQ w' vb co cap x.2∧ag (fun k=>k=vb) w w'
theorem Hm(vb:Nat)(co:Option Addr)(cap:Nat)(v:Vo)(hv:v.Ok)(a:Int)(w:World)(h:dQ w vb co cap v):Calls Tryz.prog 98 #[.pointer (some ⟨vb,0,none⟩),.int .i64 a] w (VoP vb co cap (dL v a) w):=by
 have hN:=mM vb co cap v hv w h
 have h1:=hv.m.l1
 obtain⟨c0,c1,c2,c3,c4,c5,c6,c7,c8,c9,c10,c11,c12,f10,f11,f12⟩:=dJ h
 have HX:=MI h
 clear h
 unfold dL VoP
 by_cases h2:a<0
 ·rw[if_pos (.inl h2)]
  go_enter Tryz.func98,Tryz.ntmps98
  go_wp2_with (go_at_call 109;refine hN.mono ?_;rintro e w' ⟨rfl,rfl⟩)
  go_ret
  exact⟨rfl,HX.out,ag.refl _ _⟩
 ·by_cases h3:(v.m.len:Int)≤a
  ·rw[if_pos (.inr h3)]
   go_enter Tryz.func98,Tryz.ntmps98
   go_wp2_with (go_at_call 109;refine hN.mono ?_;rintro e w' ⟨rfl,rfl⟩)
   go_ret
   exact⟨rfl,HX.out,ag.refl _ _⟩
  ·rw[if_neg aa]
   have e1:IntKind.i64.wrap (a*4294967296)=a*4294967296:=IntWalk.i64_in _ aa
   go_enter Tryz.func98,Tryz.ntmps98
   go_wp2_with (go_at_call 109;refine hN.mono ?_;rintro e w' ⟨rfl,rfl⟩)
   go_ret
   exact⟨rfl,(HX.out.setAt _).FW _,((ag.refl (fun k=>k=vb) w).setCell (p:=⟨vb,10,none⟩) (.inr rfl) _).setCell (p:=⟨vb,12,none⟩) (.inr rfl) _⟩
def dK(v:Vo)(p:Int):Int×Vo:=if p<0∨34359738368<p then(5,v) else(0,{v with dP:=p})
theorem Kr{v:Vo}(h:v.Ok)(a:Int):(dK v a).2.Ok:=by
 unfold dK
 split
 ·exact h
 ·exact⟨h.m,h.a0,h.a1,h.a2,by simp only;omega,by simp only;omega⟩
theorem Hl(vb:Nat)(co:Option Addr)(cap:Nat)(v:Vo)(hv:v.Ok)(a:Int)(w:World)(h:dQ w vb co cap v):Calls Tryz.prog 99 #[.pointer (some ⟨vb,0,none⟩),.int .i64 a] w (VoP vb co cap (dK v a) w):=by
 have hN:=mM vb co cap v hv w h
 obtain⟨c0,c1,c2,c3,c4,c5,c6,c7,c8,c9,c10,c11,c12,f10,f11,f12⟩:=dJ h
 have HX:=MI h
 clear h
 unfold dK VoP
 by_cases h2:a<0
 ·rw[if_pos (.inl h2)]
  go_enter Tryz.func99,Tryz.ntmps99
  go_wp2_with (go_at_call 109;refine hN.mono ?_;rintro e w' ⟨rfl,rfl⟩)
  go_ret
  exact⟨rfl,HX.out,ag.refl _ _⟩
 ·by_cases h3:34359738368<a
  ·rw[if_pos (.inr h3)]
   go_enter Tryz.func99,Tryz.ntmps99
   go_wp2_with (go_at_call 109;refine hN.mono ?_;rintro e w' ⟨rfl,rfl⟩)
   go_ret
   exact⟨rfl,HX.out,ag.refl _ _⟩
  ·rw[if_neg aa]
   go_enter Tryz.func99,Tryz.ntmps99
   go_wp2_with (go_at_call 109;refine hN.mono ?_;rintro e w' ⟨rfl,rfl⟩)
   go_ret
   exact⟨rfl,HX.out.La _,(ag.refl (fun k=>k=vb) w).setCell (p:=⟨vb,11,none⟩) (.inr rfl) _⟩
def je(v:Vo):Vo:=if v.m.loop=false then{v with at_:=v.at_+v.dP,done:=decide ((v.m.len:Int)≤(v.at_+v.dP)/4294967296)} else if 1073741824≤(v.at_+v.dP)/4294967296 then{v with at_:=qP v.m (v.at_+v.dP)} else{v with at_:=v.at_+v.dP}
theorem KJ{v:Vo}(h:v.Ok)(hd:v.done=false):(je v).Ok:=by
 have h1:=h.m.l1;have h2:=h.a0;have h3:=h.a2 hd;have h4:=h.p0;have h5:=h.p1
 unfold je
 split
 ·refine⟨h.m,by simp only;omega,by simp only;omega,fun I=>?_,h.p0,h.p1⟩
  simp only[decide_eq_false_iff_not] at I
  simp only
  omega
 ·rename_i hl
  split
  ·have hb:=BX h.m (by simpa using hl) (a:=v.at_+v.dP) aa aa
   exact⟨h.m,hb.1,by simp only;omega,fun _=>by simp only;omega,h.p0,h.p1⟩
  ·exact⟨h.m,by simp only;omega,by simp only;omega,fun _=>by simp only;omega,h.p0,h.p1⟩
theorem xJ(vb:Nat)(co:Option Addr)(cap:Nat)(v:Vo)(hv:v.Ok)(hd:v.done=false)(w:World)(h:dQ w vb co cap v):Calls Tryz.prog 137 #[.pointer (some ⟨vb,0,none⟩)] w (fun e w'=>e= .returned (.tuple #[])∧dQ w' vb co cap (je v)∧ag (fun k=>k=vb) w w'):=by
 have h1:=hv.m.l1;have h2:=hv.a0;have h3:=hv.a2 hd;have h4:=hv.p0;have h5:=hv.p1
 have HM:=MI hv.m
 obtain⟨c0,c1,c2,c3,c4,c5,c6,c7,c8,c9,c10,c11,c12,f10,f11,f12⟩:=dJ h
 have hx:=MI (h.setAt (v.at_+v.dP));have o:=MI ((ag.refl (fun k=>k=vb) w).setCell (p:=⟨vb,10,none⟩) (.inr rfl) (.int .i64 (v.at_+v.dP)))
 have e1:IntKind.i64.wrap (v.at_+v.dP)=v.at_+v.dP:=IntWalk.i64_in _ aa
 obtain⟨v',I⟩: ∃v',je v=v':=⟨_,rfl⟩
 rw[I]
 unfold je at I
 clear h hd hv
 cases hl:v.m.loop with
 | false=>
  rw[if_pos hl] at I
  have HV:=MI I
  rw[hl] at c4
  have U:=MI hl
  clear I hl
  go_enter Tryz.func137,Tryz.ntmps137
  go_wp2_with fail
  go_still_tail 11,af
  repeat still_step
  try refine wpStill_nil ?_
  change wpList _ _ _ _ _ w.drew
  go_upto_region 1 with fail
  have J:dQ (w.setCell ⟨vb,10,none⟩ (.int .i64 (v.at_+v.dP))).drew vb co cap {v with at_:=v.at_+v.dP}:=hx.out
  have R:=MI ((ag.refl (fun k=>k=vb) w).setCell (p:=⟨vb,10,none⟩) (.inr rfl) (.int .i64 (v.at_+v.dP))).drew
  clear hx c0 c1 c2 c3 c4 c5 c6 c7 c8 c9 c10 c11 c12 f10 f11 f12 o
  generalize (w.setCell ⟨vb,10,none⟩ (.int .i64 (v.at_+v.dP))).drew=W at*
  obtain⟨c0,c1,c2,c3,c4,c5,c6,c7,c8,c9,c10,c11,c12,f10,f11,f12⟩:=dJ J
  simp only at c0 c1 c2 c3 c4 c5 c6 c7 c8 c9 c10 c11 c12
  rw[U.out] at c4
  have A0:=MI J
  clear J
  generalize v.at_+v.dP=a at*
  go_wp2_with fail
  go_still_tail 14,af
  repeat still_step
  try refine wpStill_nil ?_
  change wpList _ _ _ _ _ W.drew
  go_wp2_with fail
  exact bodyPost_ret (results_none rfl _ _ _) rfl ⟨rfl,by rw[←HV.out];exact A0.out.FW _,(R.out.drew).setCell (p:=⟨vb,12,none⟩) (.inr rfl) _⟩
 | true=>
  rw[if_neg (by rw[hl];decide)] at I
  have U:=MI hl
  by_cases A1:1073741824≤(v.at_+v.dP)/4294967296
  ·rw[if_pos A1] at I
   have HV:=MI I
   have HH:=fun w=>NG v.m HM.out U.out (v.at_+v.dP) aa aa w
   have A3:aF v.m=#[.string v.m.nm,.int .i64 v.m.len,.int .i64 v.m.rate,.int .i64 v.m.ch,.bool true,.int .i64 v.m.ls,.int .i64 v.m.le,.int .i64 v.m.sums,.int .i64 v.m.first]:=by unfold aF;rw[hl]
   simp only[A3] at HH
   clear A3
   clear I hl
   go_enter Tryz.func137,Tryz.ntmps137
   go_wp2_with fail
   go_still_tail 11,af
   repeat still_step
   try refine wpStill_nil ?_
   change wpList _ _ _ _ _ w.drew
   go_upto_region 1 with fail
   have J:dQ (w.setCell ⟨vb,10,none⟩ (.int .i64 (v.at_+v.dP))).drew vb co cap {v with at_:=v.at_+v.dP}:=hx.out
   have R:=MI ((ag.refl (fun k=>k=vb) w).setCell (p:=⟨vb,10,none⟩) (.inr rfl) (.int .i64 (v.at_+v.dP))).drew
   clear hx c0 c1 c2 c3 c4 c5 c6 c7 c8 c9 c10 c11 c12 f10 f11 f12 o
   generalize (w.setCell ⟨vb,10,none⟩ (.int .i64 (v.at_+v.dP))).drew=W at*
   obtain⟨c0,c1,c2,c3,c4,c5,c6,c7,c8,c9,c10,c11,c12,f10,f11,f12⟩:=dJ J
   simp only at c0 c1 c2 c3 c4 c5 c6 c7 c8 c9 c10 c11 c12
   rw[U.out] at c4
   have j:dQ W.drew vb co cap {v with at_:=v.at_+v.dP}:=J
   clear J
   generalize v.at_+v.dP=a at*
   go_upto_region 4 with fail
   go_region_with (go_at_call 180;refine(HH _).mono ?_;rintro e w3 ⟨rfl,A2⟩;obtain⟨d0,d1,d2,d3,d4,d5,d6,d7,d8,d9,d10,d11,d12,g10,g11,g12⟩:=dJ (j.keep A2 j.lt);have A4:=MI ((j.keep A2 j.lt).setAt (qP v.m a));have A5:=MI (((R.out.drew).below A2 (by have:=R.out.size;exact this)).setCell (p:=⟨vb,10,none⟩) (.inr rfl) (.int .i64 (qP v.m a))))
   all_goals go_wp2_with fail
   all_goals go_end0
   all_goals exact⟨rfl,by rw[←HV.out];exact A4.out,A5.out⟩
  ·rw[if_neg A1] at I
   have HV:=MI I
   clear I hl
   go_enter Tryz.func137,Tryz.ntmps137
   go_wp2_with fail
   go_still_tail 11,af
   repeat still_step
   try refine wpStill_nil ?_
   change wpList _ _ _ _ _ w.drew
   go_upto_region 1 with fail
   have J:dQ (w.setCell ⟨vb,10,none⟩ (.int .i64 (v.at_+v.dP))).drew vb co cap {v with at_:=v.at_+v.dP}:=hx.out
   have R:=MI ((ag.refl (fun k=>k=vb) w).setCell (p:=⟨vb,10,none⟩) (.inr rfl) (.int .i64 (v.at_+v.dP))).drew
   clear hx c0 c1 c2 c3 c4 c5 c6 c7 c8 c9 c10 c11 c12 f10 f11 f12 o
   generalize (w.setCell ⟨vb,10,none⟩ (.int .i64 (v.at_+v.dP))).drew=W at*
   obtain⟨c0,c1,c2,c3,c4,c5,c6,c7,c8,c9,c10,c11,c12,f10,f11,f12⟩:=dJ J
   simp only at c0 c1 c2 c3 c4 c5 c6 c7 c8 c9 c10 c11 c12
   rw[U.out] at c4
   have A0:=MI J
   clear J
   generalize v.at_+v.dP=a at*
   go_wp2_with fail
   go_end0
   exact⟨rfl,by rw[←HV.out];exact A0.out,R.out⟩
end Go.Proofs.YtnicjahcgnhogaaGreatDoor
namespace Go.Proofs.YtnicjahcgnhogaaGreatDoor
open Go.RowKit Go.Calli
def lV(x:Nat):Nat:=if x%2=1 then(x/2)^^^3988292384 else x/2
def aU:Nat→Nat→Nat | 0,x=>x | k+1,x=>lV (aU k x)
theorem CQ(x:Nat)(h:x<4294967296):lV x<4294967296:=by
 unfold lV;split
 ·exact Nat.xor_lt_two_pow (n:=32) aa aa
 ·omega
theorem yL(k x:Nat)(h:x<4294967296):aU k x<4294967296:=by
 induction k with
 | zero=>exact h
 | succ k ih=>exact CQ _ ih
theorem and1(x:Nat)(h:x<4294967296):bits BinOp.and IntKind.u32 (x:Int) 1=((x%2:Nat):Int):=by
 have:=u32_and_nat x 1 h aa
 rw[nat_mask1] at this;exact this
theorem KH(x:Nat)(h:x<4294967296)(h1:(bits BinOp.and IntKind.u32 (x:Int) 1==1)=true):
   bits BinOp.xor IntKind.u32 ((x:Int)/2) 3988292384=(lV x:Nat):=by
  rw[and1 x h] at h1
  have h1 : x % 2 = 1 := by have : ((x % 2 : Nat) : Int) = 1 := by simpa using h1
                            omega
  have:=u32_xor_nat (x/2) 3988292384 aa aa
  unfold lV;rw[if_pos h1];rw[←this];rfl
theorem H8(x:Nat)(h:x<4294967296)(h1:(bits BinOp.and IntKind.u32 (x:Int) 1==1)=false):
   ((x:Int)/2)=(lV x:Nat):=by
  rw[and1 x h] at h1
  have h1:¬x%2=1:=by
    intro h2;rw[h2] at h1;simp at h1
  unfold lV;rw[if_neg h1];rfl
theorem JX(a b:Nat):(a^^^b)/2=a/2^^^b/2:=by
 have:=Nat.shiftRight_xor_distrib (a:=a) (b:=b) (i:=1)
 simpa[Nat.shiftRight_eq_div_pow] using this
theorem JV(a b:Nat):(a^^^b)%2=(a%2+b%2)%2:=by
 have:=Nat.xor_mod_two_pow (a:=a) (b:=b) (n:=1)
 simp only[Nat.pow_one] at this
 rw[this]
 rcases Nat.mod_two_eq_zero_or_one a with ha | ha<;>rcases Nat.mod_two_eq_zero_or_one b with hb | hb<;>rw[ha,hb]<;>rfl
theorem Jy(a b:Nat):lV (a^^^b)=lV a^^^lV b:=by
 unfold lV
 rw[JX,JV]
 rcases Nat.mod_two_eq_zero_or_one a with ha | ha<;>rcases Nat.mod_two_eq_zero_or_one b with hb | hb<;>rw[ha,hb]<;>simp
 ·rw[Nat.xor_assoc]
 ·rw[Nat.xor_assoc,Nat.xor_assoc,Nat.xor_comm (b/2)]
 ·rw[Nat.xor_assoc,Nat.xor_comm 3988292384,Nat.xor_assoc (b/2),Nat.xor_self,Nat.xor_zero]
theorem ES(k a b:Nat):aU k (a^^^b)=aU k a^^^aU k b:=by
 induction k with
 | zero=>rfl
 | succ k ih=>show lV (aU k (a^^^b))=_;rw[ih,Jy];rfl
theorem CP(k y:Nat):aU k (2^k*y)=y:=by
 induction k generalizing y with
 | zero=>simp[aU]
 | succ k ih=>
  show lV (aU k (2^(k+1)*y))=y
  rw[Nat.pow_succ,Nat.mul_assoc,ih]
  unfold lV;rw[if_neg aa];omega
theorem DI(x:Nat):x=(x%256)^^^(2^8*(x/256)):=by
 apply Nat.eq_of_testBit_eq
 intro i
 rw[Nat.testBit_xor,show 256=2^8 from rfl,Nat.testBit_mod_two_pow,Nat.testBit_two_pow_mul,Nat.testBit_div_two_pow]
 by_cases h:i<8
 ·simp[h,show ¬8≤i by omega]
 ·simp[h,show 8≤i by omega,show i - 8+8=i by omega]
theorem pushed(x c:Nat):aU 8 ((x%256)^^^c)^^^(x/256)=aU 8 (x^^^c):=by
 have h:x^^^c=((x%256)^^^c)^^^(2^8*(x/256)):=by
  have e:=DI x
  generalize x%256=lo at*
  generalize 2^8*(x/256)=hi at*
  rw[e,Nat.xor_assoc,Nat.xor_comm hi c,←Nat.xor_assoc]
 rw[h,ES 8 _ (2^8*(x/256)),CP]
theorem Ju(c:Nat)(hc:c<256)(w:World):Calls Tryz.prog 79 #[.int .u8 c] w fun e w'=>e= .returned (.int .u32 (aU 8 c:Nat))∧w=w':=by
 go_enter Tryz.func79,Tryz.ntmps79
 go_wp2
 go_loop [3,6] (fun x i=>∃k:Nat,k≤8∧i= .int .i64 k∧aU k c<4294967296∧x= .int .u32 (aU k c:Nat)) (fun _ i=>(8 - intOf i).toNat)
 case atStart=>exact⟨0,aa,rfl,by simp[aU];omega,rfl⟩
 case round=>
  obtain⟨k,hk,rfl,hb,rfl⟩:=hrel
  have I:=CQ _ hb
  go_wp2
  ·go_round
   case rel=>exact⟨k+1,aa,aD,I,by rw[KH _ hb ‹_›];rfl⟩
   case measure=>simp[intOf];omega
  ·go_round
   case rel=>exact⟨k+1,aa,aD,I,by rw[H8 _ hb ‹_›];rfl⟩
   case measure=>simp[intOf];omega
  ·go_ret
   obtain rfl:k=8:=aa
   exact⟨rfl,rfl⟩
def reg(l:List Int):Nat:=l.foldl (fun x c=>aU 8 (x^^^c.toNat)) 4294967295
theorem LC(zs:List Int)(k:Nat)(h:k<zs.length):reg (zs.take (k+1))=aU 8 (reg (zs.take k)^^^(zs.getD k 0).toNat):=by
 rw[gG zs k h];unfold reg;rw[List.foldl_append];rfl
theorem JW{x c:Nat}(hx:x<4294967296)(hc:c<4294967296):x^^^c<4294967296:=Nat.xor_lt_two_pow (n:=32) hx hc
theorem DZ(l:List Int)(h: ∀c ∈ l,(Lit.int .u8 c).wf=true)(x:Nat)(hx:x<4294967296):l.foldl (fun x c=>aU 8 (x^^^c.toNat)) x<4294967296:=by
 induction l generalizing x with
 | nil=>exact hx
 | cons c l ih=>
  have:=bounds_u8 (h c ar)
  exact ih (fun c hc=>h c (by simp[hc])) _ (yL _ _ (JW hx aa))
theorem LD(l:List Int)(h: ∀c ∈ l,(Lit.int .u8 c).wf=true):reg l<4294967296:=DZ l h _ aa
def gm(l:List Int):Int:=4294967295 - reg l
theorem not32(x:Nat)(h:x<4294967296):bits BinOp.xor IntKind.u32 IntKind.u32.max (x:Int)=4294967295 - (x:Int):=by
 have h1:=u32_xor_nat 4294967295 x aa h
 have h2:4294967295^^^x=2^32 - (x+1):=by
  apply Nat.eq_of_testBit_eq
  intro i
  rw[Nat.testBit_two_pow_sub_succ aa,Nat.testBit_xor,show 4294967295=2^32 - (0+1) from rfl,Nat.testBit_two_pow_sub_succ aa]
  by_cases hi:i<32
  ·simp[hi]
  ·have:x.testBit i=false:=Nat.testBit_lt_two_pow (Nat.lt_of_lt_of_le (show x<2^32 from h) (Nat.pow_le_pow_right aq (Nat.le_of_not_lt hi)))
   simp[hi,this]
 show bits BinOp.xor IntKind.u32 ((4294967295:Nat):Int) x=_
 rw[h1,h2];omega
theorem div256(x:Nat):(x:Int)/256=((x/256:Nat):Int):=rfl
theorem mod256(x:Nat):(x:Int)%256=((x%256:Nat):Int):=rfl
theorem u8_lt{x c:Nat}(hc:c<256):x%256^^^c<256:=Nat.xor_lt_two_pow (n:=8) aa hc
theorem sum_any(ao:Option Addr)(len cap:Nat)(zs:List Int)(w:World)(h:Ints .u8 w ao len zs):Calls Tryz.prog 46 #[.slice ao len cap] w fun e w'=>e= .returned (.int .u32 (gm zs))∧w=w':=by
 have hm:=h.lim
 unfold maxLen at hm
 have hz:=MI h.hlen
 go_enter Tryz.func46,Tryz.ntmps46
 go_wp2
 go_loop [3,8] (fun x i=>∃k:Nat,k≤len∧i= .int .i64 k∧x= .int .u32 (reg (zs.take k):Nat)) (fun _ i=>(len - intOf i).toNat)
 case atStart=>exact⟨0,aa,rfl,by simp[reg]⟩
 case round=>
  obtain⟨k,hk,rfl,rfl⟩:=hrel
  have hb:reg (zs.take k)<4294967296:=LD _ (fun c hc=>h.wf c (List.mem_of_mem_take hc))
  by_cases J:k<len
  ·obtain⟨a,c,rfl,R,U,I⟩:=h.byte J
   have hs:=MI (LC zs k (by rw[hz.out];exact J))
   generalize hr:reg (zs.take k)=x at*
   have hx:=MI (u8_xor_nat (x%256) c aa I)
   have hy:=MI (u32_xor_nat (aU 8 (x%256^^^c)) (x/256) (yL _ _ (by have:=u8_lt (x:=x) I;omega)) aa)
   clear hr
   have hp:=MI (pushed x c)
   go_wp2_with (go_at_call 79;rw[mod256,hx.out];refine(Ju _ (u8_lt I) _).mono ?_;rintro e w' ⟨rfl,rfl⟩)
   go_round
   case rel=>exact⟨k+1,aa,aD,by rw[hs.out,R.out,div256,hy.out,hp.out];rfl⟩
   case measure=>simp[intOf];omega
  ·go_wp2
   go_ret
   obtain rfl:k=len:=aa
   refine⟨bg ?_,rfl⟩
   rw[List.take_of_length_le (by rw[hz.out];omega)] at hb⊢
   rw[not32 _ hb];rfl
end Go.Proofs.YtnicjahcgnhogaaGreatDoor
namespace Go.Proofs.YtnicjahcgnhogaaGreatDoor
open Go Go.RowKit Go.Calli
attribute [local irreducible] wpStill wpAnyH wpAnyS wpList Code.wp
theorem or8(x y:Int)(h0:0≤x)(h1:x<1099511627776)(h2:x%256=0)(h3:0≤y)(h4:y<256):bits .or .i64 x y=x+y:=
 bits_join .i64 40 aq (fun n h h'=>IntWalk.i64_in _ aa) 8 x y h0 (by simpa using h2) (by simpa using h1) h3 (by simpa using h4) aa
def bH(bs:List Int)(at_:Nat):Nat→Nat
 | 0=>0
 | k+1=>bH bs at_ k*256+(bs.getD (at_+k) 0).toNat
theorem vg(bs:List Int)(hb: ∀z ∈ bs,(Lit.int .u8 z).wf=true)(at_:Nat): ∀k,bH bs at_ k<256^k:=by
 intro k
 induction k with
 | zero=>simp[bH]
 | succ k ih=>
  have h2:(bs.getD (at_+k) 0).toNat<256:=by
   have:=bounds_u8 (uB hb aq (at_+k))
   omega
  simp only[bH]
  rw[Nat.pow_succ]
  omega
theorem sO(ao:Option Addr)(n cap:Nat)(bs:List Int)(at_ k:Nat)(hk:k≤4)(U:at_+k≤n)(hn:n≤60000)(w:World)(h:Ints .u8 w ao n bs):Calls Tryz.prog 45 #[.slice ao n cap,.int .i64 at_,.int .i64 k] w (fun e w'=>e= .returned (.int .i64 (bH bs at_ k:Nat))∧w=w'):=by
 have I:=MI h.wf
 go_enter Tryz.func45,Tryz.ntmps45
 go_wp2_with fail
 go_loop [7,10] (fun v i=>∃j:Nat,j≤k∧i= .int .i64 (j:Int)∧v= .int .i64 (bH bs at_ j:Nat)) (fun _ i=>(k - intOf i).toNat)
 case atStart=>exact⟨0,aa,rfl,rfl⟩
 case round=>
  obtain⟨j,hj,rfl,rfl⟩:=hrel
  by_cases o:j<k
  ·obtain⟨a,c,rfl,J,A0,A1⟩:=h.byte (i:=at_+j) aa
   have hb:=vg bs I.out at_ j
   have A2:bH bs at_ j<16777216:=Nat.lt_of_lt_of_le hb (by have:=Nat.pow_le_pow_right (show 0<256 by omega) (show j≤3 by omega);exact this)
   have hs:=MI (show bH bs at_ (j+1)=bH bs at_ j*256+(bs.getD (at_+j) 0).toNat from rfl)
   clear hb
   generalize bH bs at_ j=x at*
   have ho:=or8 ((x:Int)*256) (c:Int) aa aa aa aa aa
   have e1:IntKind.i64.wrap ((x:Int)*256)=(x:Int)*256:=IntWalk.i64_in _ aa
   have hi:IntKind.i64.wrap ((at_:Int)+(j:Int))=((at_+j:Nat):Int):=by rw[IntWalk.i64_in _ aa];omega
   have R:at_+j<n:=aa
   go_wp2_with fail
   go_round
   case rel=>exact⟨j+1,aa,aD,by rw[hs.out,J.out];simp⟩
   case measure=>simp[intOf];omega
  ·obtain rfl:j=k:=aa
   go_wp2_with fail
   go_ret
   exact⟨rfl,rfl⟩
def yU(b T:Nat)(rest:List Value)(q:List Int)(k:Int)(ret:List Int)(w:World)(e:Ending)(w':World):Prop:=
 e= .returned (.agg (iA ret))∧w'.heap[b]? =some (.cells (iL q++ .int .i64 k::rest).toArray T (0,0))∧ag (fun j=>j=b) w w'
theorem NL(b T:Nat)(p:List Int)(hp:p.length=20)(k:Int)(rest:List Value)(z:List Int)(hz:z.length=28)(ao:Option Addr)(n cap:Nat)(ts:List (Int×Int))(w:World)(h:bP eY 2 (0,0) w ao n ts)
  (hr:w.heap[b]? =some (.cells (iL p++ .int .i64 k::rest).toArray T (0,0))):
  Calls Tryz.prog 238 #[.pointer (some ⟨b,0,none⟩),.agg (frC z (.slice ao n cap))] w (yU b T rest (dV z ts) 0 (dV z ts) w):=by
 have J:=ae w (.cells (frC z (.slice ao n cap)) 196)
 have A2:fJ (w.alloc (.cells (frC z (.slice ao n cap)) 196)) w.heap.size z (.slice ao n cap):=⟨L9 w _,hz⟩
 have I:=ae (w.alloc (.cells (frC z (.slice ao n cap)) 196)) (.cells #[(),(),(),(),(),(),(),(),(),(),(),(),(),(),(),(),(),(),(),()] 205)
 have R:=L9 (w.alloc (.cells (frC z (.slice ao n cap)) 196)) (.cells #[(),(),(),(),(),(),(),(),(),(),(),(),(),(),(),(),(),(),(),()] 205)
 have A9:=A2.aj I
 have hB:=J.trans (I.mono J.size)
 have hT:=(h.aj J).aj I
 rw[World.size_alloc] at R
 have B0:(Tryz.prog.info? 196).map (·.size)=some (frC z (.slice ao n cap)).size:=by rw[bM _ _ hz];kernel_rfl
 have A0:(Tryz.prog.info? 205).map (·.size)=some (iA (dV z ts)).size:=by rw[az,gW];kernel_rfl
 have B1:(Tryz.prog.info? 205).map (·.size)=some (iL (dV z ts)).length:=by rw[bU,gW];kernel_rfl
 have A8:(#[(),(),(),(),(),(),(),(),(),(),(),(),(),(),(),(),(),(),(),()]:Array Value).size=(iA (dV z ts)).size:=by rw[az,gW];rfl
 have HO:=MI (fun w h=>Dy z hz ao n cap ts w h)
 have U:(iL (dV z ts)).length=20:=by rw[bU,gW]
 have A3:=L8 hr
 have A4:=cZ hr hB A3
 have A5:(iL p).length=20:=by rw[bU,hp]
 have HB:=MI hB
 clear J I A2 h hz hr hB
 unfold yU
 generalize dV z ts=P at*
 go_enter Tryz.func238,Tryz.ntmps238
 go_upto_region 3 with fail
 generalize (w.alloc (.cells (frC z (.slice ao n cap)) 196)).alloc (.cells #[(),(),(),(),(),(),(),(),(),(),(),(),(),(),(),(),(),(),(),()] 205)=W0 at*
 have J:b<W0.heap.size:=Nat.lt_of_lt_of_le A3 HB.out.size
 have B2:=A9.row
 go_wp2_with (first
  | (with_reducible refine MC 196 3 ?_;refine wpList_load_row rfl 196 (.tmp 3) rfl _ rfl 196 (frC z (.slice ao n cap)) (0,0) _ B2 Tryz.underlying196 rfl B0 ?_)
  | (go_at_call 253;refine(HO.out _ hT).mono ?_;rintro e w1 ⟨rfl,I⟩;have A6:=cZ A4 I J;have B3:=cZ R I (L8 R);have B4:=rQ A6 0 (iA P).size (by rw[az,←bU,U,List.length_append,A5];omega);have B5:=MI (HB.out.trans (I.mono HB.out.size));clear A4 R I)
  | (with_reducible refine MF 205 13 11 ?_;refine wpList_store_mid rfl 205 (.tmp 13) (.tmp 11) rfl b 0 (iA P) rfl rfl B4 A0 (bV _) ?_;have o:=kT [] (iL p) (.int .i64 k::rest) (iL P) A6 (by rw[A5,U]);have B6:=(gI (iL P) w1 b 0 (w.heap.size+1) aa).trans B3;have B7:=MI ((ag.au (S:=fun j=>j=b) B5.out Me).setCells (iL P) (b:=b) (.inr rfl) 0);rw[yD,List.toList_toArray];simp only[List.length_nil,List.nil_append] at o;generalize w1.setCells b 0 (iL P)=w2 at*;have c20:=rU o 20 (v:=.int .i64 k) (by rw[←U];simp);have f20:=frozen_of_row _ b 20 _ _ o;have A1:=jy (iL P) rest (.int .i64 k) (.int .i64 0) o;rw[U] at A1;have B8:=ik [] (iL P) (.int .i64 0::rest) A1;have A7:=(heap_setCell_other w2 ⟨b,20,none⟩ (w.heap.size+1) (.int .i64 0) (by show w.heap.size+1≠b;omega)).trans B6)
  | (with_reducible refine MC 205 18 ?_;refine wpList_load_mid rfl 205 (.tmp 18) rfl _ 0 rfl _ _ B8 Tryz.underlying205 rfl B1 ?_;rw[←yD])
  | (with_reducible refine MF 205 4 19 ?_;refine wpList_store_row rfl 205 (.tmp 4) (.tmp 19) rfl _ (iA P) rfl rfl 205 _ A7 A0 A8 (bV _) ?_))
 exact bodyPost_ret (results_cell_row (fn:=Tryz.f238) rfl _ _ _ _ _ _ _ rfl (setRow_heap _ _ _ _ _ _ A7) Tryz.underlying205 rfl A0) rfl ⟨rfl,(setRow_other _ _ _ _ aa).trans A1,(B7.out.setCell (p:=⟨b,20,none⟩) (.inr rfl) _).andThen (aK _ _ _) (fun i hi e=>aa)⟩
def Ot(v k:Int):Int:=if k<0 then 0 else cutZ v k.toNat
theorem Oq(v k:Int)(h1:k≤62)(w:World):Calls Tryz.prog 254 #[.int .i64 v,.int .i64 k] w (Qt (.int .i64 (Ot v k)) w):=by
 by_cases hk:k<0
 ·go_enter Tryz.func254,Tryz.ntmps254
  go_wp2_with fail
  go_ret
  exact⟨bg (if_pos hk).symm,0,rfl⟩
 ·have e:k=(k.toNat:Int):=aa
  have hc:Ot v k=cutZ v k.toNat:=if_neg hk
  rw[hc]
  have:=cut_any v k.toNat aa w
  rwa [←e] at this
def sJ(p:List Int)(k:Int)(j:Nat):List Int:=(p.take j).map (fun v=>Ot v k)++p.drop j
theorem qW(p:List Int)(k:Int)(j:Nat)(hj:j≤p.length):(sJ p k j).length=p.length:=by simp[sJ];omega
theorem Oo(p:List Int)(k:Int)(j:Nat)(hj:j<p.length):(sJ p k j).getD j 0=p.getD j 0:=by
 unfold sJ
 rw[List.getD,List.getElem?_append_right (by simp;omega),List.getD]
 simp
 rw[show j - min j p.length=0 by omega]
 simp
theorem Om(p:List Int)(k:Int)(j:Nat)(hj:j<p.length):(sJ p k j).set j (Ot (p.getD j 0) k)=sJ p k (j+1):=by
 apply List.ext_getElem?
 intro i
 unfold sJ
 rw[List.getElem?_set]
 by_cases hi:j=i
 ·subst hi
  rw[if_pos rfl,if_pos (by simp;omega),List.getElem?_append_left (by simp;omega)]
  simp[List.getD,hj]
 ·rw[if_neg hi]
  by_cases I:i<j
  ·rw[List.getElem?_append_left (by simp;omega),List.getElem?_append_left (by simp;omega)]
   simp[List.getElem?_take,I,show i<j+1 by omega]
  ·rw[List.getElem?_append_right (by simp;omega),List.getElem?_append_right (by simp;omega)]
   simp only[List.length_map,List.length_take,List.getElem?_drop]
   rw[show min j p.length=j by omega,show min (j+1) p.length=j+1 by omega,show j+(i - j)=i by omega,show j+1+(i - (j+1))=i by omega]
def pR(p:List Int)(k:Int):List Int:=if 4<k then List.replicate 20 0 else sJ p k 16
theorem yA(p:List Int)(hp:p.length=20)(k:Int):(pR p k).length=20:=by
 unfold pR
 split
 ·simp
 ·rw[qW _ _ _ aa,hp]
theorem Nk(b T:Nat)(p:List Int)(hp:p.length=20)(k:Int)(rest:List Value)(w:World)
  (hr:w.heap[b]? =some (.cells (iL p++ .int .i64 k::rest).toArray T (0,0))):
  Calls Tryz.prog 239 #[.pointer (some ⟨b,0,none⟩)] w (yU b T rest p (wrap64 (k+1)) (pR p (wrap64 (k+1))) w):=by
 have A6:=ae w (.cells #[(),(),(),(),(),(),(),(),(),(),(),(),(),(),(),(),(),(),(),()] 205)
 have A7:=L9 w (.cells #[(),(),(),(),(),(),(),(),(),(),(),(),(),(),(),(),(),(),(),()] 205)
 have R:(iL p).length=20:=by rw[bU,hp]
 have C5:=L8 hr
 have A1:=cZ hr A6 C5
 have c0:=rU A1 20 (v:=.int .i64 k) (by rw[←R];simp)
 have f0:=frozen_of_row _ b 20 _ _ A1
 have A8:=yA p hp (wrap64 (k+1))
 unfold yU
 have I:pR p (wrap64 (k+1))=if 4<wrap64 (k+1) then List.replicate 20 0 else sJ p (wrap64 (k+1)) 16:=rfl
 have HB:=MI A6
 have A2:=MI A1
 have B1:(Tryz.prog.info? 205).map (·.size)=some (iL p).length:=by rw[R];kernel_rfl
 have A3:b≠w.heap.size:=aa
 clear A6 A1
 generalize hK:wrap64 (k+1)=K at*
 by_cases h4:4<K
 ·rw[if_pos h4] at I
  rw[I]
  have U:(Tryz.prog.info? 205).map (·.size)=some (iA (List.replicate 20 0)).size:=af
  clear I A8
  go_enter Tryz.func239,Tryz.ntmps239
  go_upto_region 3 with fail
  generalize w.alloc (.cells #[(),(),(),(),(),(),(),(),(),(),(),(),(),(),(),(),(),(),(),()] 205)=W0 at*
  have J:=jy (iL p) rest (.int .i64 k) (.int .i64 K) A2.out
  rw[R] at J
  have A4:=MI ((ag.au (S:=fun j=>j=b) HB.out Me).setCell (p:=⟨b,20,none⟩) (.inr rfl) (.int .i64 K))
  have o:=(heap_setCell_other W0 ⟨b,20,none⟩ w.heap.size (.int .i64 K) (by exact Ne.symm A3)).trans A7
  have c2:=rU J 20 (v:=.int .i64 K) (by rw[←R];simp)
  have A5:=MI J
  clear J A2
  go_wp2_with (first
   | (with_reducible show wpList _ _ _ (Oper.mk _ (Op.build 205 _) _ _ _ _::_) _ _;refine bf rfl 205 _ rfl (iA (List.replicate 20 0)) af ?_)
   | (with_reducible refine MF 205 2 20 ?_;refine wpList_store_row rfl 205 (.tmp 2) (.tmp 20) rfl _ (iA (List.replicate 20 0)) rfl rfl 205 _ o U rfl (bV _) ?_))
  exact bodyPost_ret (results_cell_row (fn:=Tryz.f239) rfl _ _ _ _ _ _ _ rfl (setRow_heap _ _ _ _ _ _ o) Tryz.underlying205 rfl U) rfl ⟨rfl,(setRow_other _ _ _ _ A3).trans A5.out,A4.out.andThen (aK _ _ _) (fun i hi e=>aa)⟩
 ·rw[if_neg h4] at I
  have D6:K≤4:=aa
  have HL:=MI I
  have C6:=MI (fun v w=>Oq v K aa w)
  have D7:=MI A8
  clear I A8
  go_enter Tryz.func239,Tryz.ntmps239
  go_upto_region 3 with fail
  generalize w.alloc (.cells #[(),(),(),(),(),(),(),(),(),(),(),(),(),(),(),(),(),(),(),()] 205)=W0 at*
  have J:=jy (iL p) rest (.int .i64 k) (.int .i64 K) A2.out
  rw[R] at J
  have A4:=MI ((ag.au (S:=fun j=>j=b) HB.out Me).setCell (p:=⟨b,20,none⟩) (.inr rfl) (.int .i64 K))
  have o:=MI ((heap_setCell_other W0 ⟨b,20,none⟩ w.heap.size (.int .i64 K) (by exact Ne.symm A3)).trans A7)
  have c2:=rU J 20 (v:=.int .i64 K) (by rw[←R];simp)
  have A5:=MI J
  have B2:=ik [] (iL p) (.int .i64 K::rest) J
  clear J A2 A7
  have B3:(W0.setCell ⟨b,20,none⟩ (.int .i64 K)).heap.size=W0.heap.size:=by simp[World.setCell]
  have A9:=L9 (W0.setCell ⟨b,20,none⟩ (.int .i64 K)) (.cells #[(),(),(),(),(),(),(),(),(),(),(),(),(),(),(),(),(),(),(),()] 205)
  have A0:=ae (W0.setCell ⟨b,20,none⟩ (.int .i64 K)) (.cells #[(),(),(),(),(),(),(),(),(),(),(),(),(),(),(),(),(),(),(),()] 205)
  rw[B3] at A9 A0
  have C7:w.heap.size<W0.heap.size:=by have:=L8 o.out;omega
  clear B3
  have B0:=MI A9
  have C8:(Tryz.prog.info? 205).map (·.size)=some (iA p).size:=B1
  have C9:(#[(),(),(),(),(),(),(),(),(),(),(),(),(),(),(),(),(),(),(),()]:Array Value).size=(iA p).size:=by rw[az,hp];rfl
  clear A9
  go_upto_region 7 with(first
   | (with_reducible refine MC 205 23 ?_;refine wpList_load_mid rfl 205 (.tmp 23) rfl _ 0 rfl _ _ B2 Tryz.underlying205 rfl B1 ?_;rw[←yD])
   | (with_reducible refine MF 205 3 24 ?_;refine wpList_store_row rfl 205 (.tmp 3) (.tmp 24) rfl _ (iA p) rfl rfl 205 #[(),(),(),(),(),(),(),(),(),(),(),(),(),(),(),(),(),(),(),()] B0.out C8 C9 (bV _) ?_))
  have B4:=Md (iA p) B0.out
  have B5:=(setRow_other _ W0.heap.size w.heap.size (iA p) aa).trans ((A0.block _ C7).trans o.out)
  have B6:=(setRow_other _ W0.heap.size b (iA p) aa).trans ((A0.block _ aa).trans A5.out)
  have B7:=A4.out.andThen (((ag.au (S:=fun j=>j=W0.heap.size) A0 (by simp[World.setCell])).trans (aK _ _ (iA p)))) (fun i hi e=>aa)
  clear B0 o A5 A0 c2 c0 f0 B2 A4
  generalize (((W0.setCell ⟨b,20,none⟩ (.int .i64 K)).alloc (.cells #[(),(),(),(),(),(),(),(),(),(),(),(),(),(),(),(),(),(),(),()] 205)).setRow W0.heap.size (iA p))=W7 at*
  generalize W0.heap.size=pb at*
  have B8:=MI B4
  have B9:=MI B5
  have C0:=MI B6
  have C1:=MI B7
  clear B4 B5 B6 B7 HB
  go_upto_region 8 with fail
  go_loopw [25] (fun v25 wr=>∃j:Nat,j≤16∧v25= .int .i64 (j:Int)∧wr.heap[pb]? =some (.cells (iA (sJ p K j)) 205 (0,0))∧ag (fun k=>k=pb) W7 wr) (fun v25 _=>16 - aC v25)
  case atStart=>exact⟨0,aa,rfl,B8.out,ag.refl _ _⟩
  case round=>
   clear B8
   obtain⟨j,hj,rfl,hv,hk⟩:=hrel
   by_cases D5:j<16
   ·have D8:=qW p K j aa
    have cj:=aH (k:=j) hv aa
    have fj:=ay hv j
    have c20:=rU (hk.heap C0.out aa) 20 (v:=.int .i64 K) (by rw[←R];simp)
    rw[Oo p K j aa] at cj
    have C2:=Om p K j aa
    have D9:(j:Int)<16:=aa
    have HC:=MI (C6.out (p.getD j 0))
    have D0:=MI C2
    have HV:=MI hv
    have D1:=MI hk
    clear C2 hv hk
    generalize p.getD j 0=x at*
    go_upto_region 10 with fail
    go_region_with (go_at_call 254;refine(HC.out _).mono ?_;rintro e w2 ⟨rfl,m,rfl⟩)
    all_goals go_wp2_with fail
    all_goals (have hs:=bY (w:=wr.drewN (1+m)) (T:=205) HV.out j (Ot x K))
    all_goals rw[D0.out] at hs
    all_goals refine⟨⟨j+1,aa,aD,hs,(D1.out.drewN _).setCell (p:=⟨pb,j,none⟩) (.inr rfl) _⟩,?_⟩
    all_goals (simp[aC];omega)
   ·obtain rfl:j=16:=aa
    have C3:=hk.heap B9.out aa
    have C4:=hk.heap C0.out aa
    have E0:=HL.out
    have U:(Tryz.prog.info? 205).map (·.size)=some (iA (sJ p K 16)).size:=by rw[az,qW p K 16 aa,hp];kernel_rfl
    have D2:(#[(),(),(),(),(),(),(),(),(),(),(),(),(),(),(),(),(),(),(),()]:Array Value).size=(iA (sJ p K 16)).size:=by rw[az,qW p K 16 aa,hp];rfl
    have D3:=MI (C1.out.andThen hk (fun i hi e=>by have:=L8 B9.out;omega))
    have D4:=MI C4
    clear C4 hk C1
    generalize sJ p K 16=C at*
    go_wp2_with (first
     | (with_reducible refine MC 205 3 ?_;refine wpList_load_row rfl 205 (.tmp 3) rfl _ rfl 205 (iA C) (0,0) _ hv Tryz.underlying205 rfl U ?_)
     | (with_reducible refine MF 205 2 41 ?_;refine wpList_store_row rfl 205 (.tmp 2) (.tmp 41) rfl _ (iA C) rfl rfl 205 _ C3 U D2 (bV _) ?_))
    exact bodyPost_ret (results_cell_row (fn:=Tryz.f239) rfl _ _ _ _ _ _ _ rfl (setRow_heap _ _ _ _ _ _ C3) Tryz.underlying205 rfl U) rfl ⟨by rw[HL.out],(setRow_other _ _ _ _ A3).trans D4.out,D3.out.andThen (aK _ _ _) (fun i hi e=>aa)⟩
end Go.Proofs.YtnicjahcgnhogaaGreatDoor
