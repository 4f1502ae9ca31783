/- Part 30 of the walk: contracts of the program's functions, each for every input. No condition. -/
import Derived.Test.YtnicjahcgnhogaaGreatDoorU28
set_option linter.unusedVariables false
set_option linter.unusedSimpArgs false
set_option maxRecDepth 100000
set_option maxHeartbeats 8000000
namespace Go.Proofs.YtnicjahcgnhogaaGreatDoor
open Go Go.RowKit Go.Calli
attribute [local irreducible] wpStill wpAnyH wpAnyS wpList Code.wp
theorem zy{P:Program}{w w':World}{ops:Array Oper}{o:Oper}{a:Act}{K:Act→World→Prop}{Q:Exit→Act→World→Prop}{E:Prop}(I:o.guard=none)(s x:Operand)(t u:TypeId)
  (ho:o.op= .call {callee:=.builtin .copy,args:=#[s,x],argTypes:=#[t,u]}) {v v' z:Value} (hs:a.eval s=v) (hx:a.eval x=z) (hr:(Builtin.copy_ #[t,u] o.type #[v,z]).run P w= .ok v' w')
  (hK:K (a.put o.dst v') w'):if Region.wanted o (yielded ops a.tmps)=true then Oper.wp P o a w K Q else E:=by
 have hw:Region.wanted o (yielded ops a.tmps)=true:=by simp[Region.wanted,I]
 rw[if_pos hw]
 unfold Oper.wp
 simp[execOp,ho,resolve,invoke,builtin,hs,hx,hr,Result.andThen]
 exact hK
theorem IZ{base g c cap:Nat}{w:World}{z:List Int}(h:w.ownsRow base 194 16 (.slice (some ⟨g,0,none⟩) c cap) c (iL z))(hw:wfL z){o:Nat}(ho:o+8≤c*16):Ints .i64 w (some ⟨g,o,none⟩) 8 ((z.drop o).take 8):=by
 have hl:z.length=c*16:=by have:=h.1;rwa [bU] at this
 refine⟨by rw[List.length_take,List.length_drop];omega,aE,fun i hi=>⟨_,rfl,?_⟩,fun x hx=>hw x (List.mem_of_mem_drop (List.mem_of_mem_take hx))⟩
 have h7:=h.cells (g:=g) rfl (o+i) (.int .i64 (z.getD (o+i) 0)) (by unfold iL;rw[List.getElem?_map,List.getElem?_eq_getElem aa];simp[List.getD,show o+i<z.length by omega])
 rw[add0,Nat.zero_add] at h7
 rw[add0,h7]
 simp[List.getD,List.getElem?_take,hi]
theorem meet193(c:Nat)(hc:c≤10000):G9 c:=by
 intro W base g cap z i C8 B7 hO A3
 have hl:z.length=c*16:=by have:=hO.1;rwa [bU] at this
 have hz:=ae W (.cells (iA dm) 178)
 have HO:=MI (aQ hO hz)
 have C9:g<W.heap.size:=gX hO rfl
 have HB:=MI hz
 have HW:=MI A3
 have J:=MI (GR ⟨g,(i - 1)*16+8,none⟩ 8 _ _ (IZ HO.out A3 aa))
 unfold Ha at J
 obtain⟨k,hk⟩: ∃k,(i - 1)*16=k:=⟨_,rfl⟩
 rw[hk] at J⊢
 clear hz hO
 go_enter Tryz.func193,Tryz.ntmps193
 go_upto_region 1 with fail
 generalize W.alloc (.cells (iA dm) 178)=W1 at*
 go_upto_region 2 with(go_at_call 218;refine J.out.mono ?_;rintro e w2 ⟨gx,zx,rfl,A4,B8,A5,B9,U⟩;have C6:W.heap.size≤gx:=Nat.le_trans HB.out.size A4)
 have HT:=MI (turn194 base g c cap gx i B7 hc w2 ⟨⟨zx,B8,B9,A5⟩,z,HW.out,hl,aQ HO.out U⟩)
 unfold TrnP at HT
 have A6:=MI ((ag.au (S:=fun q=>q=g) HB.out Me).andThen (ag.au (S:=fun q=>q=g) U Me) (fun _ _ e=>e))
 have D0:=HB.out.size
 clear J A5 U HO HB A4
 go_upto_region 3 with(go_at_call 194;refine HT.out.mono ?_;rintro e w3 ⟨rfl,C0,A7⟩)
 have A8:=MI (A6.out.andThen A7 (fun q hq e=>e.elim id (fun e=>aa)))
 obtain⟨⟨zx3,B4,B5,A9⟩,z3,o,C7,A0⟩:=C0
 have B0:=Blk.ints (k:=.i64) A9 8 B4 aE B5
 have C1:=MI A0
 have B1:=MI (GR ⟨gx,0,none⟩ 8 zx3 w3.drew (B0.aj MB.drew))
 unfold Ha at B1
 have D1:g<w3.heap.size:=gX A0 rfl
 clear A7 A6 HT A9 A0 B0
 go_region_law (first
  | (go_simp;go_at_call 218;refine B1.out.mono ?_;rintro e w4 ⟨g4,z4,rfl,D2,I,B2,B6,B3⟩;have A1:=MI (((Below.refl _ w3).drew).trans B3);have R:=MI (aQ C1.out A1.out);have C2: ∀ty,(Builtin.copy_ #[68,68] ty #[.slice (some ⟨g,k+8,none⟩) 8 8,.slice (some ⟨g4,0,none⟩) 8 8]).run Tryz.prog w4= .ok (goInt 8) (w4.setCells g (k+8) (iL z4)):=fun ty=>lY w4 68 68 ty 2 g (k+8) 8 8 ⟨g4,0,none⟩ 8 8 1 8 (iL z4) Tryz.underlying68 af rfl (by rw[bU,I]) (fun j v hv=>by rw[add0,Nat.zero_add];have hj:j<z4.length:=(by have:=(List.getElem?_eq_some_iff.1 hv).1;rwa [bU] at this);rw[Blk.cell (k:=.i64) B2 hj,←hv];simp[iL,List.getD,hj]) (fun j hj=>(bJ R.out (k+8) 8 aa j (by rw[bU,I] at hj;exact hj)).1) (fun j hj=>(bJ R.out (k+8) 8 aa j (by rw[bU,I] at hj;exact hj)).2) (zS z4))
  | (refine zy rfl (.tmp 21) (.tmp 23) 68 68 rfl rfl rfl (C2 _) ?_))
 all_goals (
  have A2:=iZ R.out rfl (k+8) (iL z4) (by rw[bU,I];omega)
  have e5:aT (iL z3) (k+8) (iL z4)=iL (aT z3 (k+8) z4):=by simp[iL,aT,List.map_take,List.map_drop]
  rw[e5] at A2
  have C3:=MI A2
  have C4:Hid (wfL (aT z3 (k+8) z4)):=fun x hx=>by
   unfold aT at hx
   rcases List.mem_append.1 hx with hx | hx
   ·exact o x (List.mem_of_mem_take hx)
   ·rcases List.mem_append.1 hx with hx | hx
    ·exact B6 x hx
    ·exact o x (List.mem_of_mem_drop hx)
  have C5:=MI (ag.setCells (iL z4) (A8.out.andThen (ag.au (S:=fun _=>False) A1.out Me) (fun _ _ e=>e.elim)) (b:=g) (.inr rfl) (k+8))
  clear A2 e5 R A1 A8 B2 B3
  generalize w4.setCells g (k+8) (iL z4)=W9 at*
  go_wp2_with fail
  go_end0
  exact⟨rfl,_,C3.out,C4.out,C5.out⟩)
def Dn(w:World)(e:Ending)(w':World):Prop:=∃r:Int,e= .returned (.int .i64 r)∧Below w.heap.size w w'
theorem cmp224(x0 x1 y0 y1:Int)(w:World):Calls Tryz.prog 224 #[.agg #[.int .i64 x0,.int .i64 x1],.agg #[.int .i64 y0,.int .i64 y1]] w (Dn w):=by
 have hb:=MI (bD (ae w (.cells #[.int .i64 x0,.int .i64 x1] 282)) (ae _ (.cells #[.int .i64 y0,.int .i64 y1] 282)))
 have HA:=MI (fun v w=>uD v w)
 have HC:=MI (fun v lo hi w=>sK v lo hi w)
 unfold Qt at HA HC
 go_enter Tryz.func224,Tryz.ntmps224
 go_upto_region 1 with fail
 have hx:((w.alloc (.cells #[.int .i64 x0,.int .i64 x1] 282)).alloc (.cells #[.int .i64 y0,.int .i64 y1] 282)).cell? ⟨w.heap.size,1,none⟩=some (.int .i64 x1):=(LZ (cZ (L9 w (.cells #[.int .i64 x0,.int .i64 x1] 282)) (ae _ (.cells #[.int .i64 y0,.int .i64 y1] 282)) (L8 (L9 w (.cells #[.int .i64 x0,.int .i64 x1] 282))))).trans rfl
 have hy:((w.alloc (.cells #[.int .i64 x0,.int .i64 x1] 282)).alloc (.cells #[.int .i64 y0,.int .i64 y1] 282)).cell? ⟨w.heap.size+1,1,none⟩=some (.int .i64 y1):=by
  have h:=L9 (w.alloc (.cells #[.int .i64 x0,.int .i64 x1] 282)) (.cells #[.int .i64 y0,.int .i64 y1] 282)
  rw[World.size_alloc] at h
  exact LY h rfl
 generalize (w.alloc (.cells #[.int .i64 x0,.int .i64 x1] 282)).alloc (.cells #[.int .i64 y0,.int .i64 y1] 282)=W at*
 go_region_held3 (fun w'=>w'.cell? ⟨w.heap.size,1,none⟩=some (.int .i64 x1)∧w'.cell? ⟨w.heap.size+1,1,none⟩=some (.int .i64 y1)) (first | exact⟨hx,hy⟩ | go_keep) (first
  | (go_at_call 197;refine(HA.out _ _).mono ?_;rintro e w2 ⟨rfl,m2,rfl⟩)
  | (go_at_call 141;refine(HC.out _ _ _ _).mono ?_;rintro e w2 ⟨rfl,m2,rfl⟩))
 all_goals go_wp2_with fail
 all_goals go_ret
 all_goals exact⟨_,rfl,below_drewN hb.out _⟩
theorem cmp226(x0 x1 y0 y1:Int)(w:World):Calls Tryz.prog 226 #[.agg #[.int .i64 x0,.int .i64 x1],.agg #[.int .i64 y0,.int .i64 y1]] w (Dn w):=by
 have hb:=MI (bD (ae w (.cells #[.int .i64 x0,.int .i64 x1] 282)) (ae _ (.cells #[.int .i64 y0,.int .i64 y1] 282)))
 go_enter Tryz.func226,Tryz.ntmps226
 go_wp2_with fail
 go_ret
 exact⟨_,rfl,hb.out⟩
def lH(w:World)(B g n cap:Nat)(z:List Int):Prop:=w.ownsRow B 282 2 (.slice (some ⟨g,0,none⟩) n cap) n (iL z)∧z.length=n*2
theorem lH.cells{w:World}{B g n cap:Nat}{z:List Int}(h:lH w B g n cap z){i:Nat}(hi:i<n): ∃x0 x1,w.rangeAt g (i*2) [.int .i64 x0,.int .i64 x1]:=by
 have h1:=oW h.1 (i*2) 2
 have h2:((iL z).drop (i*2)).take 2=[.int .i64 (z.getD (i*2) 0),.int .i64 (z.getD (i*2+1) 0)]:=by
  have hl:=h.2
  apply List.ext_getElem?
  intro j
  unfold iL
  rw[List.getElem?_take]
  by_cases hj:j<2
  ·rw[if_pos hj,List.getElem?_drop,List.getElem?_map,List.getElem?_eq_getElem (show i*2+j<z.length by omega)]
   have h3:j=0∨j=1:=aa
   rcases h3 with rfl | rfl
   ·simp[List.getD,show i*2<z.length by omega]
   ·simp[List.getD,show i*2+1<z.length by omega]
  ·rw[if_neg hj,List.getElem?_eq_none (by simp;omega)]
 rw[h2] at h1
 exact⟨_,_,h1⟩
theorem lH.set{w:World}{B g n cap:Nat}{z:List Int}(h:lH w B g n cap z){o:Nat}(ho:o<n*2)(v:Int):lH (w.setCell ⟨g,o,none⟩ (.int .i64 v)) B g n cap (aT z o [v]):=by
 have h1:=iZ h.1 rfl o [.int .i64 v] (by simp;omega)
 have h2:iL (aT z o [v])=aT (iL z) o [.int .i64 v]:=by simp[iL,aT,List.map_take,List.map_drop]
 exact⟨by rw[h2];exact h1,by rw[gu _ _ _ (by have:=h.2;simp;omega)];exact h.2⟩
def rE(B g n cap:Nat)(w:World)(e:Ending)(w':World):Prop:=e= .returned (.tuple #[])∧(∃z,lH w' B g n cap z)∧ag (fun k=>k=g) w w'
theorem Pm(f:Nat)(hf:f=224∨f=226)(B g n cap a b:Nat)(B1:a≤b)(hb:b≤n)(hn:n≤1000)(z:List Int)(w:World)(h:lH w B g n cap z):Calls Tryz.prog 242 #[.slice (some ⟨g,0,none⟩) n cap,.int .i64 (a:Int),.int .i64 (b:Int),.func (.func f) #[] #[]] w (rE B g n cap w):=by
 have HF:Hid (∀x0 x1 y0 y1 w,Calls Tryz.prog f #[.agg #[.int .i64 x0,.int .i64 x1],.agg #[.int .i64 y0,.int .i64 y1]] w (Dn w)):=MI (by rcases hf with rfl | rfl;exact cmp224;exact cmp226)
 rcases hf with rfl | rfl
 all_goals
  unfold Dn at HF
  have HZ:=MI h
  have B2:g<w.heap.size:=gX h.1 rfl
  clear h
  go_enter Tryz.func242,Tryz.ntmps242
  go_upto_region 1 with fail
  go_loopw [8] (fun v8 wr=>∃(i:Nat)(z:List Int),i≤b+1∧a+1≤i∧v8= .int .i64 (i:Int)∧lH wr B g n cap z∧ag (fun k=>k=g) w wr) (fun v8 _=>b+1 - aC v8)
  case atStart=>exact⟨a+1,z,aa,aa,aD,HZ.out,ag.refl _ _⟩
  case round=>
   clear HZ
   obtain⟨i,z,hi,B3,rfl,hZ,hk⟩:=hrel
   by_cases B4:i<b
   ·have A6:(i:Int)<(b:Int):=aa
    go_upto_region 4 with fail
    go_loopw [9] (fun v9 wx=>∃(j:Nat)(z:List Int),j≤i∧a≤j∧v9= .int .i64 (j:Int)∧lH wx B g n cap z∧ag (fun k=>k=g) w wx) (fun v9 _=>aC v9)
    case atStart=>exact⟨i,z,aa,aa,rfl,hZ,hk⟩
    case round=>
     clear hZ hk
     obtain⟨j,z,hj,B5,rfl,hZ,hk⟩:=hrel
     by_cases B6:a<j
     ·obtain⟨k,A1⟩: ∃k,j=k+1:=⟨j - 1,aa⟩
      have A7:(a:Int)<(j:Int):=aa
      obtain⟨x0,x1,hx⟩:=hZ.cells (i:=j) aa
      obtain⟨y0,y1,hy⟩:=hZ.cells (i:=k) aa
      have HZ:=MI hZ
      have HK:=MI hk
      have HJ:=MI A1
      have B7:IntKind.i64.wrap ((j:Int) - 1)=(k:Int):=by rw[IntWalk.i64_in _ aa];omega
      have B8:k<n:=aa
      have A8:j<n:=aa
      have c0:wr.cell? ⟨g,j*2,none⟩=some (.int .i64 x0):=hx 0 _ rfl
      have c1:wr.cell? ⟨g,j*2+1,none⟩=some (.int .i64 x1):=hx 1 _ rfl
      have d0:wr.cell? ⟨g,k*2,none⟩=some (.int .i64 y0):=hy 0 _ rfl
      have d1:wr.cell? ⟨g,k*2+1,none⟩=some (.int .i64 y1):=hy 1 _ rfl
      have J:g<wr.heap.size:=gX hZ.1 rfl
      clear A1
      clear hZ hk hx hy
      go_upto_region 4 with fail
      go_cut [34] (fun v34 wx=>∃r:Bool,v34= .bool r∧Below wr.heap.size wr wx)
      case first=>
       go_region_held3 (fun w'=>(w'.cell? ⟨g,j*2,none⟩=some (.int .i64 x0)∧w'.cell? ⟨g,j*2+1,none⟩=some (.int .i64 x1))∧w'.cell? ⟨g,k*2,none⟩=some (.int .i64 y0)∧w'.cell? ⟨g,k*2+1,none⟩=some (.int .i64 y1)) (first | exact⟨⟨c0,c1⟩,d0,d1⟩ | go_keep) (first
        | ((first | go_at_call 224 | go_at_call 226);refine(HF.out _ _ _ _ _).mono ?_;rintro e w2 ⟨r,rfl,I⟩;have c0:=(I.cell (p:=⟨g,j*2,none⟩) J).trans c0;have c1:=(I.cell (p:=⟨g,j*2+1,none⟩) J).trans c1;have d0:=(I.cell (p:=⟨g,k*2,none⟩) J).trans d0;have d1:=(I.cell (p:=⟨g,k*2+1,none⟩) J).trans d1))
       all_goals go_wp2_with fail
       all_goals go_meet
       all_goals exact⟨_,rfl,MB.drew.trans I⟩
      case rest=>
       obtain⟨r,rfl,I⟩:=hcut
       have U:=HZ.out
       have R:Hid (lH wc B g n cap z):=⟨aQ U.1 I,U.2⟩
       have A0:Hid (ag (fun k=>k=g) w wc):=HK.out.andThen (ag.au (S:=fun _=>False) I Me) (fun _ _ e=>e.elim)
       have B9:g<wc.heap.size:=Nat.lt_of_lt_of_le J I.size
       have c0:=(I.cell (p:=⟨g,j*2,none⟩) J).trans c0
       have c1:=(I.cell (p:=⟨g,j*2+1,none⟩) J).trans c1
       have d0:=(I.cell (p:=⟨g,k*2,none⟩) J).trans d0
       have d1:=(I.cell (p:=⟨g,k*2+1,none⟩) J).trans d1
       clear HZ HK U J I
       go_upto_if 34 with fail
       cases r with
       | false=>
        go_wp2_with fail
        exact⟨⟨i+1,z,aa,aa,aD,R.out,A0.out⟩,by simp[aC];omega⟩
       | true=>
        go_upto_region 6 with fail
        have hT:=R.out
        have f0:wc.frozen? ⟨g,j*2,none⟩=false:=(bJ hT.1 (j*2) 2 aa 0 aa).2
        have f1:wc.frozen? ⟨g,j*2+1,none⟩=false:=(bJ hT.1 (j*2) 2 aa 1 aa).2
        have g0:wc.frozen? ⟨g,k*2,none⟩=false:=(bJ hT.1 (k*2) 2 aa 0 aa).2
        have g1:wc.frozen? ⟨g,k*2+1,none⟩=false:=(bJ hT.1 (k*2) 2 aa 1 aa).2
        have A9:¬j=k:=by have:=HJ.out;omega
        have B0:¬k=j:=by have:=HJ.out;omega
        clear hT
        go_region
        have hT:=(((R.out.set (o:=j*2) aa y0).set (o:=j*2+1) aa y1).set (o:=k*2) aa x0).set (o:=k*2+1) aa x1
        have hK:=((((A0.out.setCell (p:=⟨g,j*2,none⟩) (.inr rfl) (.int .i64 y0)).setCell (p:=⟨g,j*2+1,none⟩) (.inr rfl) (.int .i64 y1)).setCell (p:=⟨g,k*2,none⟩) (.inr rfl) (.int .i64 x0)).setCell (p:=⟨g,k*2+1,none⟩) (.inr rfl) (.int .i64 x1)).drew
        have A2:=MI (aQ hT.1 (MB.drew))
        have A3:=MI hT.2
        have A4:=MI hK
        clear hT hK R A0 c0 c1 d0 d1 f0 f1 g0 g1
        generalize ((((wc.setCell ⟨g,j*2,none⟩ (.int .i64 y0)).setCell ⟨g,j*2+1,none⟩ (.int .i64 y1)).setCell ⟨g,k*2,none⟩ (.int .i64 x0)).setCell ⟨g,k*2+1,none⟩ (.int .i64 x1)).drew=W at*
        go_wp2_with fail
        have C0:=HJ.out
        exact⟨⟨k,_,aa,aa,rfl,⟨A2.out,A3.out⟩,A4.out⟩,by simp[aC];omega⟩
     ·obtain rfl:j=a:=aa
      have A5:¬(j:Int)<(j:Int):=aa
      go_upto_region 4 with fail
      go_quiet (fail)
      go_wp2_with fail
      exact⟨⟨i+1,z,aa,aa,aD,⟨aQ hZ.1 (below_drewN MB _),hZ.2⟩,⟨hk.os,hk.tape,hk.output,hk.size,hk.block⟩⟩,by simp[aC];omega⟩
   ·have A5:¬(i:Int)<(b:Int):=aa
    have HE:Hid (rE B g n cap w (.returned (.tuple #[])) wr):=⟨rfl,⟨z,hZ⟩,hk⟩
    clear hZ hk
    go_wp2_with fail
    go_end0
    exact HE.out
theorem Ia(B g n cap:Nat)(hn:n<20)(z:List Int)(w:World)(h:lH w B g n cap z):Calls Tryz.prog 234 #[.slice (some ⟨g,0,none⟩) n cap,.int .i64 (n:Int),.func (.func 224) #[] #[]] w (rE B g n cap w):=by
 have HI:=MI (Pm 224 (.inl rfl) B g n cap 0 n aa aa aa z w h)
 unfold rE at HI⊢
 have I:¬(20:Int)≤(n:Int):=aa
 have J:¬(20:Int)<(n:Int):=aa
 clear h
 go_enter Tryz.func234,Tryz.ntmps234
 go_upto_region 2 with fail
 go_loopw [7,8] (fun v7 v8 wr=>v7= .int .i64 0∧v8= .int .i64 20∧w=wr) (fun _ _ _=>0)
 case atStart=>exact⟨rfl,rfl,rfl⟩
 case round=>
  obtain⟨rfl,rfl,rfl⟩:=hrel
  go_upto_region 7 with(go_at_call 242;refine HI.out.mono ?_;rintro e w2 ⟨rfl,hz,hk⟩)
  have HE:=MI hz
  have HK:=MI hk
  clear hz hk
  go_loopw [6] (fun v6 wx=>v6= .int .i64 20∧w2=wx) (fun _ _=>0)
  case atStart=>exact⟨rfl,rfl⟩
  case round=>
   obtain⟨rfl,rfl⟩:=hrel
   go_wp2_with fail
   go_end0
   exact⟨rfl,HE.out,HK.out⟩
theorem sort223(B g n cap:Nat)(hn:n<20)(z:List Int)(w:World)(h:lH w B g n cap z):Calls Tryz.prog 223 #[.slice (some ⟨g,0,none⟩) n cap,.func (.func 224) #[] #[]] w (rE B g n cap w):=by
 have HI:=MI (Ia B g n cap hn z w h)
 unfold rE at HI⊢
 clear h
 go_enter Tryz.func223,Tryz.ntmps223
 go_wp2_with (go_at_call 234;refine HI.out.mono ?_;rintro e w2 ⟨rfl,hz,hk⟩)
 go_end0
 exact⟨rfl,hz,hk⟩
theorem Jb: ∀n:Nat,n<12→∀w:World,Calls Tryz.prog 156 #[.int .u64 (n:Int)] w (fun e w'=>(∃r:Int,e= .returned (.int .i64 r))∧w=w')
 | 0,_,w | 1,_,w | 2,_,w | 3,_,w | 4,_,w | 5,_,w | 6,_,w | 7,_,w | 8,_,w | 9,_,w | 10,_,w | 11,_,w=>by
  go_enter Tryz.func156,Tryz.ntmps156
  go_wp2_with fail
  go_ret
  exact⟨⟨_,rfl⟩,rfl⟩
theorem qZ(n:Nat)(hn:n<12)(w:World):Calls Tryz.prog 126 #[.int .u64 (n:Int)] w (fun e w'=>(∃r:Int,e= .returned (.int .i64 r))∧w=w'):=by
 have h:=MI (Jb n hn w)
 go_enter Tryz.func126,Tryz.ntmps126
 go_wp2_with (go_at_call 156;refine h.out.mono ?_;rintro e w2 ⟨⟨r,rfl⟩,rfl⟩)
 go_ret
 exact⟨⟨_,rfl⟩,rfl⟩
theorem pdq235(B g n cap:Nat)(hn:n<12)(l:Int)(z:List Int)(w:World)(h:lH w B g n cap z):Calls Tryz.prog 235 #[.slice (some ⟨g,0,none⟩) n cap,(),.int .i64 (n:Int),.int .i64 l,.func (.func 226) #[] #[]] w (rE B g n cap w):=by
 have HI:=MI (Pm 226 (.inr rfl) B g n cap 0 n aa aa aa z w h)
 unfold rE at HI⊢
 have I:(n:Int)≤12:=aa
 have hw:IntKind.i64.wrap ((n:Int) - 0)=(n:Int):=by rw[IntWalk.i64_in _ aa];omega
 have J:IntKind.i64.wrap (n:Int)=(n:Int):=IntWalk.i64_in _ aa
 clear h
 go_enter Tryz.func235,Tryz.ntmps235
 go_upto_region 2 with fail
 go_loopw [1,2] (fun v1 v2 wr=>v1= .int .i64 0∧v2= .int .i64 (n:Int)∧w=wr) (fun _ _ _=>0)
 case atStart=>exact⟨rfl,rfl,rfl⟩
 case round=>
  obtain⟨rfl,rfl,rfl⟩:=hrel
  go_wp2_with (go_at_call 242;refine HI.out.mono ?_;rintro e w2 ⟨rfl,hz,hk⟩)
  exact bodyPost_ret (results_none rfl _ _ _) rfl ⟨rfl,hz,hk⟩
theorem sort225(B g n cap:Nat)(hn:n<12)(z:List Int)(w:World)(h:lH w B g n cap z):Calls Tryz.prog 225 #[.slice (some ⟨g,0,none⟩) n cap,.func (.func 226) #[] #[]] w (rE B g n cap w):=by
 have HI:=MI (fun l=>pdq235 B g n cap hn l z w h)
 have HB:=MI (qZ n hn w)
 have hc:IntKind.u64.wrap (n:Int)=(n:Int):=IntWalk.u64_in _ aa
 unfold rE at HI⊢
 clear h
 go_enter Tryz.func225,Tryz.ntmps225
 go_wp2_with (first
  | (go_at_call 126;refine HB.out.mono ?_;rintro e w2 ⟨⟨l,rfl⟩,rfl⟩)
  | (go_at_call 235;refine(HI.out l).mono ?_;rintro e w2 ⟨rfl,hz,hk⟩))
 go_end0
 exact⟨rfl,hz,hk⟩
theorem vY(v f:Value)(w:World):Calls Tryz.prog 242 #[v,(),(),f] w (fun e w'=>e= .returned (.tuple #[])∧w=w'):=by
 go_enter Tryz.func242,Tryz.ntmps242
 go_upto_region 1 with fail
 go_loop [8] (fun v8=>v8= .int .i64 1) (fun _=>0)
 case atStart=>rfl
 case round=>
  subst hrel
  go_wp2_with fail
  go_end0
  exact⟨rfl,rfl⟩
theorem AX(cap:Nat)(w:World):Calls Tryz.prog 223 #[.slice none 0 cap,.func (.func 224) #[] #[]] w (fun e w'=>e= .returned (.tuple #[])∧w=w'):=by
 have HI:=MI (fun f=>vY (.slice none 0 cap) f w)
 have HS:Hid (Calls Tryz.prog 234 #[.slice none 0 cap,(),.func (.func 224) #[] #[]] w (fun e w'=>e= .returned (.tuple #[])∧w=w')):=by
  show Calls _ _ _ _ _
  go_enter Tryz.func234,Tryz.ntmps234
  go_upto_region 2 with fail
  go_loop [7,8] (fun v7 v8=>v7= .int .i64 0∧v8= .int .i64 20) (fun _ _=>0)
  case atStart=>exact⟨rfl,rfl⟩
  case round=>
   obtain⟨rfl,rfl⟩:=hrel
   go_upto_region 7 with(go_at_call 242;refine(HI.out _).mono ?_;rintro e w2 ⟨rfl,rfl⟩)
   go_loop [6] (fun v6=>v6= .int .i64 20) (fun _=>0)
   case atStart=>rfl
   case round=>
    subst hrel
    go_wp2_with fail
    go_end0
    exact⟨rfl,rfl⟩
 go_enter Tryz.func223,Tryz.ntmps223
 go_wp2_with (go_at_call 234;refine HS.out.mono ?_;rintro e w2 ⟨rfl,rfl⟩)
 go_end0
 exact⟨rfl,rfl⟩
theorem AV(cap:Nat)(w:World):Calls Tryz.prog 225 #[.slice none 0 cap,.func (.func 226) #[] #[]] w (fun e w'=>e= .returned (.tuple #[])∧w=w'):=by
 have HI:=MI (fun f=>vY (.slice none 0 cap) f w)
 have HB:=MI (qZ 0 aa w)
 have HS:Hid (∀l:Int,Calls Tryz.prog 235 #[.slice none 0 cap,(),(),.int .i64 l,.func (.func 226) #[] #[]] w (fun e w'=>e= .returned (.tuple #[])∧w=w')):=by
  intro l
  go_enter Tryz.func235,Tryz.ntmps235
  go_upto_region 2 with fail
  go_loop [1,2] (fun v1 v2=>v1= .int .i64 0∧v2= .int .i64 0) (fun _ _=>0)
  case atStart=>exact⟨rfl,rfl⟩
  case round=>
   obtain⟨rfl,rfl⟩:=hrel
   go_wp2_with (go_at_call 242;refine(HI.out _).mono ?_;rintro e w2 ⟨rfl,rfl⟩)
   exact bodyPost_ret (results_none rfl _ _ _) rfl ⟨rfl,rfl⟩
 go_enter Tryz.func225,Tryz.ntmps225
 go_wp2_with (first
  | (go_at_call 126;refine HB.out.mono ?_;rintro e w2 ⟨⟨l,rfl⟩,rfl⟩)
  | (go_at_call 235;refine(HS.out l).mono ?_;rintro e w2 ⟨rfl,rfl⟩))
 go_end0
 exact⟨rfl,rfl⟩
theorem JJ(b:List Int)(hb:b.length=16)(i:Nat)(hi:i<16)(w:World):Calls Tryz.prog 233 #[.agg (iA b),.int .i64 (i:Int)] w (Dn w):=by
 have hB:=MI (ae w (.cells (iA b) 194))
 have hz:=MI (L9 w (.cells (iA b) 194))
 have HA:=MI (fun v w=>uD v w)
 have I:=MI (fun w=>OL i hi w)
 unfold Qt at HA I
 unfold Dn
 have R:=MI hb
 obtain⟨q,hq⟩: ∃q,i/4=q:=⟨_,rfl⟩
 have o:q<4:=aa
 rw[hq] at I
 have e1:IntKind.i64.wrap ((q:Int)*4)=((q*4:Nat):Int):=by rw[IntWalk.i64_in _ aa];omega
 clear hb hq
 go_enter Tryz.func233,Tryz.ntmps233
 go_upto_region 1 with fail
 generalize w.alloc (.cells (iA b) 194)=W at*
 go_upto_region 3 with(go_at_call 173;refine(I.out _).mono ?_;rintro e w2 ⟨rfl,m2,rfl⟩)
 go_upto_region 4 with fail
 go_loopw [6,7] (fun v6 v7 wr=>∃(k m:Nat)(p:Int),k≤q*4+4∧q*4≤k∧v6= .int .i64 p∧v7= .int .i64 (k:Int)∧wr=W.drewN m) (fun _ v7 _=>16 - aC v7)
 case atStart=>exact⟨q*4,m2,0,aa,aa,rfl,rfl,rfl⟩
 case round=>
  obtain⟨k,m,p,hk,A0,rfl,rfl,rfl⟩:=hrel
  by_cases A1:k<q*4+4
  ·have j:(k:Int)<((q*4:Nat):Int)+4:=aa
   have hc:=aH (k:=k) hz.out (by rw[R.out];omega)
   generalize b.getD k 0=bk at*
   have A2:(W.drewN m).cell? ⟨w.heap.size,k,none⟩=some (.int .i64 bk):=hc
   by_cases U:k=i
   ·have J:((k:Int) !=(i:Int))=false:=by simp[U]
    go_wp2_with fail
    exact⟨⟨k+1,_,_,aa,aa,rfl,aD,rfl⟩,by simp[aC];omega⟩
   ·have J:((k:Int) !=(i:Int))=true:=by simp;omega
    go_wp2_with (go_at_call 197;refine(HA.out _ _).mono ?_;rintro e w3 ⟨rfl,m3,rfl⟩)
    exact⟨⟨k+1,_,_,aa,aa,rfl,aD,rfl⟩,by simp[aC];omega⟩
  ·have A3:¬(k:Int)<((q*4:Nat):Int)+4:=aa
   go_wp2_with fail
   go_ret
   exact⟨⟨p,rfl⟩,below_drewN hB.out m⟩
def BoolP(w:World)(e:Ending)(w':World):Prop:=∃r:Bool,e= .returned (.bool r)∧Below w.heap.size w w'
theorem is222(b:List Int)(hb:b.length=16)(i:Nat)(hi:i<16)(w:World):Calls Tryz.prog 222 #[.agg (iA b),.int .i64 (i:Int)] w (BoolP w):=by
 have hB:=MI (ae w (.cells (iA b) 194))
 have hz:=L9 w (.cells (iA b) 194)
 have HA:=MI (fun v w=>uD v w)
 unfold Qt at HA
 obtain⟨x0,x1,x2,x3,x4,x5,x6,x7,x8,x9,x10,x11,x12,x13,x14,x15,rfl⟩:=o5 hb
 have HR:Hid (∀w,Calls Tryz.prog 233 #[.agg #[.int .i64 x0,.int .i64 x1,.int .i64 x2,.int .i64 x3,.int .i64 x4,.int .i64 x5,.int .i64 x6,.int .i64 x7,.int .i64 x8,.int .i64 x9,.int .i64 x10,.int .i64 x11,.int .i64 x12,.int .i64 x13,.int .i64 x14,.int .i64 x15],.int .i64 (i:Int)] w (fun e w'=>∃r:Int,e= .returned (.int .i64 r)∧Below w.heap.size w w')):=fun w=>JJ [x0,x1,x2,x3,x4,x5,x6,x7,x8,x9,x10,x11,x12,x13,x14,x15] rfl i hi w
 have h0:¬(i:Int)<0:=aa
 have U:¬(16:Int)≤(i:Int):=aa
 have hc:=aH (k:=i) hz (by rw[hb];exact hi)
 generalize List.getD [x0,x1,x2,x3,x4,x5,x6,x7,x8,x9,x10,x11,x12,x13,x14,x15] i 0=bi at*
 go_enter Tryz.func222,Tryz.ntmps222
 go_upto_region 1 with fail
 generalize w.alloc (.cells (iA [x0,x1,x2,x3,x4,x5,x6,x7,x8,x9,x10,x11,x12,x13,x14,x15]) 194)=W at*
 go_upto_region 4 with(go_at_call 197;refine(HA.out _ _).mono ?_;rintro e w2 ⟨rfl,m2,rfl⟩)
 have I:(W.drewN m2).heap[w.heap.size]? =some (.cells #[.int .i64 x0,.int .i64 x1,.int .i64 x2,.int .i64 x3,.int .i64 x4,.int .i64 x5,.int .i64 x6,.int .i64 x7,.int .i64 x8,.int .i64 x9,.int .i64 x10,.int .i64 x11,.int .i64 x12,.int .i64 x13,.int .i64 x14,.int .i64 x15] 194 (0,0)):=hz
 have J:=MI (below_drewN hB.out m2)
 clear hz hc HA
 generalize W.drewN m2=W2 at*
 generalize wV bi=v at*
 by_cases j:(64:Int)≤v
 ·have c0:W2.cell? ⟨w.heap.size,0,none⟩=some (.int .i64 x0):=LY I rfl
  have c1:W2.cell? ⟨w.heap.size,1,none⟩=some (.int .i64 x1):=LY I rfl
  have c2:W2.cell? ⟨w.heap.size,2,none⟩=some (.int .i64 x2):=LY I rfl
  have c3:W2.cell? ⟨w.heap.size,3,none⟩=some (.int .i64 x3):=LY I rfl
  have c4:W2.cell? ⟨w.heap.size,4,none⟩=some (.int .i64 x4):=LY I rfl
  have c5:W2.cell? ⟨w.heap.size,5,none⟩=some (.int .i64 x5):=LY I rfl
  have c6:W2.cell? ⟨w.heap.size,6,none⟩=some (.int .i64 x6):=LY I rfl
  have c7:W2.cell? ⟨w.heap.size,7,none⟩=some (.int .i64 x7):=LY I rfl
  have c8:W2.cell? ⟨w.heap.size,8,none⟩=some (.int .i64 x8):=LY I rfl
  have c9:W2.cell? ⟨w.heap.size,9,none⟩=some (.int .i64 x9):=LY I rfl
  have c10:W2.cell? ⟨w.heap.size,10,none⟩=some (.int .i64 x10):=LY I rfl
  have c11:W2.cell? ⟨w.heap.size,11,none⟩=some (.int .i64 x11):=LY I rfl
  have c12:W2.cell? ⟨w.heap.size,12,none⟩=some (.int .i64 x12):=LY I rfl
  have c13:W2.cell? ⟨w.heap.size,13,none⟩=some (.int .i64 x13):=LY I rfl
  have c14:W2.cell? ⟨w.heap.size,14,none⟩=some (.int .i64 x14):=LY I rfl
  have c15:W2.cell? ⟨w.heap.size,15,none⟩=some (.int .i64 x15):=LY I rfl
  clear I
  go_wp2_with (go_at_call 233;refine(HR.out _).mono ?_;rintro e w3 ⟨r,rfl,R⟩)
  go_ret
  exact⟨_,rfl,J.out.trans (R.mono J.out.size)⟩
 ·go_wp2_with fail
  go_ret
  exact⟨_,rfl,J.out⟩
theorem NC:(Tryz.prog.info? 282).map (fun i=>(i.zero,i.size,i.bytes))=some (some (.agg #[(),()]),2,16):=af
structure TfS(b:List Int)(w:World)(v:Value)(k:Nat)(wr:World):Prop where
 own: ∃z,wr.ownsRow (w.heap.size+1) 282 2 v k (iL z)∧z.length=k*2
 low:Below w.heap.size w wr
 box:wr.heap[w.heap.size]? =some (.cells (iA b) 194 (0,0))
theorem TfS.aj{b:List Int}{w:World}{v:Value}{k:Nat}{wr w':World}(h:TfS b w v k wr)(hb:Below wr.heap.size wr w'):TfS b w v k w':=by
 obtain⟨z,h1,h2⟩:=h.own
 exact⟨⟨z,aQ h1 hb,h2⟩,bD h.low hb,cZ h.box hb (L8 h.box)⟩
theorem lH.cut{w:World}{B g n cap:Nat}{z:List Int}(h:lH w B g n cap z){m:Nat}(hm:m≤n):lH w B g m cap (z.take (m*2)):=by
 obtain⟨⟨h0,h1⟩,hl⟩:=h
 rcases h1 with⟨e1,-⟩ | ⟨g',cap',cur,e1,hb,hg,U,I,J,R⟩
 ·cases e1
 ·cases e1
  have hle:m*2≤n*2:=Nat.mul_le_mul_right _ hm
  have hlen:(z.take (m*2)).length=m*2:=by rw[List.length_take];omega
  refine⟨⟨by simp only[iL,List.length_map];exact hlen,.inr ⟨g,cap,cur,rfl,hb,hg,aa,I,J,?_⟩⟩,hlen⟩
  have e:iL (z.take (m*2))=(iL z).take (m*2):=by simp[iL,List.map_take]
  rw[e,←R,List.take_take,Nat.min_eq_left hle]
theorem lH.recs{w:World}{B g n cap:Nat}{z:List Int}(h:lH w B g n cap z)(hn:n≤100): ∃ts,bP eY 2 (0,0) w (some ⟨g,0,none⟩) n ts:=by
 refine⟨(List.range n).map (fun i=>(z.getD (i*2) 0,z.getD (i*2+1) 0)),ar,aE,fun i hi=>⟨_,rfl,fun j u hu=>?_⟩⟩
 have hg:((List.range n).map (fun i=>(z.getD (i*2) 0,z.getD (i*2+1) 0))).getD i (0,0)=(z.getD (i*2) 0,z.getD (i*2+1) 0):=by simp[List.getD,hi]
 rw[hg] at hu
 have hj:j<2:=(List.getElem?_eq_some_iff.1 hu).1
 have hl:=h.2
 have hc:=h.1.cells (g:=g) rfl (i*2+j) (.int .i64 (z.getD (i*2+j) 0)) (by
  unfold iL
  rw[List.getElem?_map,List.getElem?_eq_getElem (show i*2+j<z.length by omega)]
  simp[List.getD,show i*2+j<z.length by omega])
 have e:((⟨g,0,none⟩:Addr).add (i*2)).add j=(⟨g,0,none⟩:Addr).add (i*2+j):=Addr.add_add _ _ _
 rw[e]
 refine hc.trans ?_
 rw[←hu]
 have h3:j=0∨j=1:=aa
 rcases h3 with rfl | rfl<;>rfl
theorem Cm(b:List Int)(hb:b.length=16)(w:World):Calls Tryz.prog 198 #[.agg (iA b)] w (He w):=by
 have hB:=ae w (.cells (iA b) 194)
 have hz:=L9 w (.cells (iA b) 194)
 have hs:=World.size_alloc w (.cells (iA b) 194)
 have HI:=MI (fun i hi w=>is222 b hb i hi w)
 unfold BoolP at HI
 have j:(Tryz.prog.info? 194).map (·.size)=some (iA b).size:=by rw[az,hb];kernel_rfl
 have HS:Hid (TfS b w (.slice none 0 0) 0 (w.alloc (.cells (iA b) 194))):=⟨⟨[],World.ownsRow_nil _ _ _ _,rfl⟩,hB,hz⟩
 have HX:=MI (fun k (hk:k<16) w=>gZ (P:=Tryz.prog) 194 2 16 Tryz.underlying194 Tryz.underlying2 af b hb k hk w)
 clear hB hs
 go_enter Tryz.func198,Tryz.ntmps198
 go_upto_region 2 with fail
 generalize w.alloc (.cells (iA b) 194)=W at*
 go_upto_region 3 with(with_reducible refine MC 194 1 ?_;refine wpList_load_row rfl 194 (.tmp 1) rfl w.heap.size rfl 194 (iA b) (0,0) _ hz Tryz.underlying194 rfl j ?_)
 go_loopw [3,7] (fun v3 v7 wr=>∃(i k:Nat),i≤16∧k≤i∧v7= .int .i64 (i:Int)∧TfS b w v3 k wr) (fun _ v7 _=>16 - aC v7)
 case atStart=>exact⟨0,0,aa,aa,rfl,HS.out⟩
 case round=>
  clear hz HS
  obtain⟨i,k,hi,B8,rfl,hT⟩:=hrel
  obtain⟨z,ho,R⟩:=hT.own
  obtain⟨ao,cap,rfl⟩:=dh ho
  by_cases o:i<16
  ·have B6:(i:Int)<16:=aa
   have B9:=HX.out i o
   have HT:=MI hT
   have A0:=hT.box
   generalize b.getD i 0=bi at*
   go_upto_if 13 with(first
    | (with_reducible refine MC 194 1 ?_;refine wpList_load_row rfl 194 (.tmp 1) rfl w.heap.size rfl 194 (iA b) (0,0) _ A0 Tryz.underlying194 rfl j ?_)
    | (go_at_call 222;refine(HI.out i o _).mono ?_;rintro e w2 ⟨r,rfl,A1⟩))
   have I:=MI (HT.out.aj A1)
   clear hT A0 HT A1 ho R
   cases r with
   | false=>
    go_wp2_with fail
    exact⟨⟨i+1,k,aa,aa,aD,I.out⟩,by simp[aC];omega⟩
   | true=>
    obtain⟨z,ho,R⟩:=I.out.own
    have C0:=I.out.low.size
    have C1:=L8 I.out.box
    have HO:=MI ho
    clear ho
    go_upto_region 7 with(at_builtin;refine iI rfl (.tmp 14) (.tmp 18) 192 282 2 rfl Tryz.underlying192 NC rfl aa (w.heap.size+1) _ k _ rfl HO.out [.int .i64 i,.int .i64 bi] rfl rfl (by simp[Value.oneCell']) aa aE aa ?_;intro v' w3 U J)
    have A2:TfS b w v' (k+1) w3:=by
     have A3: ∀q,(Value.slice ao k cap).ownBlock=some q→w.heap.size+1≤q:=fun q hq=>jH HO.out hq
     refine⟨⟨z++[(i:Int),bi],?_,by simp[R];omega⟩,?_,?_⟩
     ·have e:iL (z++[(i:Int),bi])=iL z++[.int .i64 i,.int .i64 bi]:=by simp[iL]
      rw[e];exact U
     ·exact((ag.au (S:=fun _=>False) I.out.low Me).andThen J (fun q hq e=>by have:=A3 q e;omega)).aW Me (fun _ _ e=>e)
     ·exact J.heap I.out.box (fun e=>by have:=A3 _ e;omega)
    have A7:=MI A2
    clear A2 U J I HO
    go_wp2_with fail
    exact⟨⟨i+1,k+1,aa,aa,aD,A7.out⟩,by simp[aC];omega⟩
  ·obtain rfl:i=16:=aa
   have C2:¬((16:Nat):Int)<16:=aa
   have HL:=MI hT.low
   cases ao with
   | none=>
    have A8:k=0:=by
     rcases ho.2 with⟨-,h⟩ | ⟨g,c,cur,h,-⟩
     ·exact h
     ·cases h
    subst A8
    have H1:=MI (fun w=>AX cap w)
    have H2:=MI (fun cap w=>AV cap w)
    clear ho hT
    go_wp2_with (first
     | (go_at_call 223;refine(H1.out _).mono ?_;rintro e w2 ⟨rfl,rfl⟩)
     | (go_at_call 225;refine(H2.out _ _).mono ?_;rintro e w2 ⟨rfl,rfl⟩))
    go_ret
    exact⟨none,0,cap,[],rfl,bP.nil _ _ _ _ _,nofun,aa,HL.out⟩
   | some ad=>
    obtain⟨g,rfl,C3,C4⟩: ∃g,ad=⟨g,0,none⟩∧w.heap.size+1≤g∧k≤cap:=by
     rcases ho.2 with⟨h,-⟩ | ⟨g,c,cur,h,hb,-,A9,-⟩
     ·cases h
     ·cases h;exact⟨g,rfl,hb,A9⟩
    have H1:=MI (sort223 _ g k cap aa z wr ⟨ho,R⟩)
    unfold rE at H1
    obtain⟨M,hM⟩: ∃M,min k 2=M:=⟨_,rfl⟩
    have B0:M≤k:=aa
    have C5:M≤cap:=aa
    have B1:M≤2:=aa
    have B7:(if(2:Int)<(k:Int) then(2:Int) else(k:Int))=((M:Nat):Int):=by split<;>omega
    have B5:min (k:Int) 2=((M:Nat):Int):=aa
    clear ho hT hM
    go_upto_region 10 with(go_at_call 223;refine H1.out.mono ?_;rintro e w2 ⟨rfl,⟨z2,A4⟩,A5⟩)
    have H2:=MI (sort225 _ g M cap aa _ w2 (A4.cut B0))
    unfold rE at H2
    have A6:Below w.heap.size w w2:=((ag.au (S:=fun _=>False) HL.out Me).andThen A5 (fun q hq e=>aa)).aW Me (fun _ _ e=>e)
    have B2:=MI A6
    clear A4 A5 A6 H1
    go_wp2_with (go_at_call 225;refine H2.out.mono ?_;rintro e w3 ⟨rfl,⟨z3,B3⟩,J⟩)
    go_ret
    obtain⟨ts,B4⟩:=B3.recs aa
    exact⟨_,M,cap,ts,rfl,B4,fun a ha=>by cases ha;show w.heap.size≤g;omega,B1,((ag.au (S:=fun _=>False) B2.out Me).andThen J (fun q hq e=>aa)).aW Me (fun _ _ e=>e)⟩
def wM(w:World)(a:Addr):Nat:=match w.cell? a with
 | some v=>aC v
 | none=>0
def GofP(w:World)(e:Ending)(w':World):Prop:=∃g:List Int,g.length=4∧e= .returned (.agg (iA g))∧Below w.heap.size w w'
structure GfS(b:List Int)(w wr:World)(g:List Int):Prop where
 len:g.length=4
 bd: ∀z ∈ g,0≤z∧z≤3
 low:Below w.heap.size w wr
 box:wr.heap[w.heap.size]? =some (.cells (iA b) 194 (0,0))
 res:wr.heap[w.heap.size+1]? =some (.cells (iA [0,0,0,0]) 191 (0,0))
 gs:wr.heap[w.heap.size+2]? =some (.cells (iA g) 191 (0,0))
theorem GfS.drewN{b:List Int}{w wr:World}{g:List Int}(h:GfS b w wr g)(m:Nat):GfS b w (wr.drewN m) g:=⟨h.len,h.bd,below_drewN h.low m,h.box,h.res,h.gs⟩
theorem GfS.set{b:List Int}{w wr:World}{g:List Int}(h:GfS b w wr g){i:Nat}(hi:i<4){v:Int}(h0:0≤v)(h3:v≤3):GfS b w (wr.setCell ⟨w.heap.size+2,i,none⟩ (.int .i64 v)) (g.set i v):=by
 have hk:=aA wr (w.heap.size+2) i (.int .i64 v)
 refine⟨by rw[List.length_set];exact h.len,fun z hz=>?_,?_,hk.heap h.box aa,hk.heap h.res aa,bY h.gs i v⟩
 ·rcases List.mem_or_eq_of_mem_set hz with hz | rfl
  ·exact h.bd z hz
  ·exact⟨h0,h3⟩
 ·exact((ag.au (S:=fun _=>False) h.low Me).andThen hk (fun q hq e=>aa)).aW Me (fun _ _ e=>e)
theorem gof_any(b:List Int)(hb:b.length=16)(B1: ∀z ∈ b,(Lit.int .i64 z).wf=true)(w:World):Calls Tryz.prog 161 #[.agg (iA b)] w (GofP w):=by
 have hB:=ae w (.cells (iA b) 194)
 have hz:=L9 w (.cells (iA b) 194)
 have HP:=MI (fun ao n cap zs w h=>vG ao n cap zs w h)
 unfold Qt at HP
 go_enter Tryz.func161,Tryz.ntmps161
 go_upto_region 1 with fail
 have A4:=World.size_alloc w (.cells (iA b) 194)
 have R:=(L9 (w.alloc (.cells (iA b) 194)) (.cells (iA [0,0,0,0]) 191))
 have o:=bD hB (ae (w.alloc (.cells (iA b) 194)) (.cells (iA [0,0,0,0]) 191))
 have U:=rwB hz (ae (w.alloc (.cells (iA b) 194)) (.cells (iA [0,0,0,0]) 191))
 have I:=World.size_alloc (w.alloc (.cells (iA b) 194)) (.cells (iA [0,0,0,0]) 191)
 rw[A4] at R I
 change ((w.alloc (.cells (iA b) 194)).alloc (.cells #[(),(),(),()] 191)).heap[_]? =_ at R
 change Below _ _ ((w.alloc (.cells (iA b) 194)).alloc (.cells #[(),(),(),()] 191)) at o
 change ((w.alloc (.cells (iA b) 194)).alloc (.cells #[(),(),(),()] 191)).heap[_]? =_ at U
 change ((w.alloc (.cells (iA b) 194)).alloc (.cells #[(),(),(),()] 191)).heap.size=_ at I
 generalize (w.alloc (.cells (iA b) 194)).alloc (.cells #[(),(),(),()] 191)=W at*
 have A5:Hid (∀m,GfS b w ((W.drewN m).alloc (.cells #[(),(),(),()] 191)) [0,0,0,0]):=fun m=>by
  have A0:=ae (W.drewN m) (.cells #[(),(),(),()] 191)
  have h4:=L9 (W.drewN m) (.cells #[(),(),(),()] 191)
  have e:(W.drewN m).heap.size=w.heap.size+2:=I
  rw[e] at h4
  refine⟨rfl,fun z hz=>?_,bD (below_drewN o m) A0,rwB (w:=W.drewN m) U A0,rwB (w:=W.drewN m) R A0,h4⟩
  simp at hz
  subst hz
  exact⟨Int.le_refl _,aq⟩
 have A1: ∀wr,wr.heap[w.heap.size]? =some (.cells (iA b) 194 (0,0))→Ints .i64 wr (some ⟨w.heap.size,0,none⟩) 16 b:=fun wr h=>Blk.ints (show Blk .i64 wr w.heap.size 194 b from h) 16 hb aE B1
 have B2:=MI A1
 have A6:=A1 W U
 clear hB hz A4 R o
 go_upto_region 2 with(go_at_call 166;refine(HP.out _ _ _ _ _ A6).mono ?_;rintro e w2 ⟨rfl,m2,rfl⟩)
 generalize jf b=top at*
 have HG:=MI (A5.out m2)
 have e2:(W.drewN m2).heap.size=w.heap.size+2:=I
 go_upto_region 3 with fail
 generalize (W.drewN m2).alloc (.cells #[(),(),(),()] 191)=W1 at*
 clear U A5 A6 I A1
 go_upto_region 4 with fail
 go_loopw [5,6,9] (fun v5 v6 v9 wr=>∃(i:Nat)(g:List Int),i≤4∧v9= .int .i64 (i:Int)∧GfS b w wr g) (fun _ _ v9 _=>4 - aC v9)
 case atStart=>exact⟨0,_,aa,rfl,HG.out⟩
 case round=>
  clear HG
  obtain⟨i,g,hi,rfl,hG⟩:=hrel
  by_cases J:i<4
  ·have B7:(i:Int)<4:=aa
   have w1:IntKind.i64.wrap ((i:Int)*4)=((i*4:Nat):Int):=by rw[IntWalk.i64_in _ aa];omega
   have w2:IntKind.i64.wrap ((i:Int)+1)=((i+1:Nat):Int):=by rw[IntWalk.i64_in _ aa];omega
   have w3:IntKind.i64.wrap (((i+1:Nat):Int)*4)=(((i+1)*4:Nat):Int):=by rw[IntWalk.i64_in _ aa];omega
   have B3: ∀W,(Instr.sliceAt 194 (.pointer (some ⟨w.heap.size,0,none⟩)) (some (.int .i64 ((i:Int)*4))) (some (.int .i64 (((i:Int)+1)*4))) none).run Tryz.prog W= .ok (.slice (some ⟨w.heap.size,i*4,none⟩) 4 (16 - i*4)) W:=fun W=>by
    have h4:i=0∨i=1∨i=2∨i=3:=aa
    rcases h4 with rfl | rfl | rfl | rfl<;>rfl
   have HG:=MI hG
   have A2:=((B2.out wr hG.box).drop (j:=i*4) aa).take (n:=4) aa
   rw[add0,Nat.zero_add] at A2
   have A7:=MI A2
   clear hG A2
   go_upto_region 7 with(go_at_call 166;refine(HP.out _ _ _ _ _ A7.out).mono ?_;rintro e w5 ⟨rfl,m5,rfl⟩)
   generalize jf _=p at*
   have A8:=HG.out.drewN m5
   clear HG A7 B3 w1 w2 w3
   generalize wr.drewN m5=W5 at*
   go_loopw [] (fun wx=>∃g,GfS b w wx g) (fun wx=>3 - wM wx ⟨w.heap.size+2,i,none⟩)
   case atStart=>exact⟨g,A8⟩
   case round=>
    clear A8
    obtain⟨g,hG⟩:=hrel
    have hc:=aH (k:=i) hG.gs (by rw[hG.len];exact J)
    have B8:wr.frozen? ⟨w.heap.size+2,i,none⟩=false:=L6 hG.gs
    have B9:=hG.bd (g.getD i 0) (by rw[List.getD,List.getElem?_eq_getElem (by rw[hG.len];exact J)];exact List.getElem_mem _)
    generalize hy:g.getD i 0=y at*
    have B4:Hid (wM wr ⟨w.heap.size+2,i,none⟩=y.toNat):=by unfold Hid wM;rw[hc];rfl
    have HG:=MI hG
    clear hG hy
    by_cases hp:0<p
    ·by_cases C0:y<3
     ·have w1:IntKind.i64.wrap (y+1)=y+1:=IntWalk.i64_in _ aa
      have C1:¬y+1<0:=aa
      go_upto_if 36 with fail
      by_cases ht:wrap64 (p*2^(y+1).toNat)≤top
      ·have A3:=MI (HG.out.set (i:=i) J (v:=y+1) aa aa)
       have B0:Hid (wM (wr.setCell ⟨w.heap.size+2,i,none⟩ (.int .i64 (y+1))) ⟨w.heap.size+2,i,none⟩=(y+1).toNat):=by
        unfold Hid wM
        rw[aH (k:=i) A3.out.gs (by rw[A3.out.len];exact J)]
        simp[List.getD,HG.out.len,J,aC]
       clear HG
       go_wp2_with fail
       have h1:=B4.out
       have h2:=B0.out
       exact⟨⟨_,A3.out⟩,by
        show 3 - wM (wr.setCell ⟨w.heap.size+2,i,none⟩ (.int .i64 (y+1))) ⟨w.heap.size+2,i,none⟩<3 - wM wr ⟨w.heap.size+2,i,none⟩
        rw[h1,h2]
        omega⟩
      ·go_wp2_with fail
       exact⟨⟨i+1,g,aa,aD,HG.out⟩,by simp[aC];omega⟩
     ·go_wp2_with fail
      exact⟨⟨i+1,g,aa,aD,HG.out⟩,by simp[aC];omega⟩
    ·go_wp2_with fail
     exact⟨⟨i+1,g,aa,aD,HG.out⟩,by simp[aC];omega⟩
  ·obtain rfl:i=4:=aa
   have C2:¬((4:Nat):Int)<4:=aa
   have h4:(Tryz.prog.info? 191).map (·.size)=some (iA g).size:=by rw[az,hG.len];kernel_rfl
   have B5:=hG.gs
   have A9:=hG.res
   have HG:=MI hG
   have B6:(iA [0,0,0,0]).size=(iA g).size:=by rw[az,az,hG.len];rfl
   clear hG
   go_wp2_with (first
    | (with_reducible refine MC 191 4 ?_;refine wpList_load_row rfl 191 (.tmp 4) rfl (w.heap.size+2) rfl 191 (iA g) (0,0) _ B5 Tryz.underlying191 rfl h4 ?_)
    | (with_reducible refine MF 191 2 43 ?_;refine wpList_store_row rfl 191 (.tmp 2) (.tmp 43) rfl _ (iA g) rfl rfl 191 (iA [0,0,0,0]) A9 h4 B6 (bV g) ?_))
   exact bodyPost_ret (results_cell_row (fn:=Tryz.f161) rfl _ _ _ _ _ _ _ rfl (setRow_heap _ _ _ _ _ _ A9) Tryz.underlying191 rfl h4) rfl ⟨g,HG.out.len,rfl,below_setRow HG.out.low aa _⟩
end Go.Proofs.YtnicjahcgnhogaaGreatDoor
