/- Part 19 of the walk: contracts of the program's functions, each for every input. No condition. -/
import Derived.Test.YtnicjahcgnhogaaGreatDoorU17
set_option linter.unusedVariables false
set_option linter.unusedSimpArgs false
set_option maxRecDepth 100000
set_option maxHeartbeats 8000000
namespace Go.Proofs.YtnicjahcgnhogaaGreatDoor
open Go Go.RowKit Go.Calli
attribute [local irreducible] wpStill wpAnyH wpAnyS wpList Code.wp
theorem near_wf(v:Int)(p:Nat):(Lit.int .i64 (qI v p)).wf=true:=by
 unfold qI
 split
 ·exact wrap64_wf _
 ·split
  ·exact wrap64_wf _
  ·split<;>exact wrap64_wf _
theorem KG(b s:List Int): ∀z ∈ iF b s,(Lit.int .i64 z).wf=true:=by
 unfold iF
 split
 ·intro z hz
  unfold og at hz
  obtain⟨i,_,rfl⟩:=List.mem_map.1 hz
  exact near_wf _ _
 ·intro z hz
  unfold z16 at hz
  simp at hz
  subst hz;rfl
theorem rO(b s:List Int):(iF b s).length=16:=by
 unfold iF
 split
 ·exact iO _ _
 ·rfl
def wdS(q:List Int):Nat→List Int
 | 0=>[0,0,0,0]
 | k+1=>(wdS q k).set (k/4) (max ((wdS q k).getD (k/4) 0) (kE (q.getD k 0)))
def lX(q:List Int):List Int:=wdS q 16
theorem qy(q:List Int): ∀k,(wdS q k).length=4:=by
 intro k
 induction k with
 | zero=>rfl
 | succ k ih=>simp only[wdS,List.length_set,ih]
theorem Dt(q:List Int)(hq:q.length=16)(A2: ∀z ∈ q,(Lit.int .i64 z).wf=true)(w:World):Calls Tryz.prog 228 #[.agg (iA q)] w (fun e w'=>e= .returned (.agg (iA (lX q)))∧Below w.heap.size w w'):=by
 have U:=ae w (.cells (iA q) 194)
 have I:=L9 w (.cells (iA q) 194)
 have A0:=ae (w.alloc (.cells (iA q) 194)) (.cells #[(),(),(),()] 191)
 have J:=L9 (w.alloc (.cells (iA q) 194)) (.cells #[(),(),(),()] 191)
 have A1:=ae ((w.alloc (.cells (iA q) 194)).alloc (.cells #[(),(),(),()] 191)) (.cells #[(),(),(),()] 191)
 have A3:=L9 ((w.alloc (.cells (iA q) 194)).alloc (.cells #[(),(),(),()] 191)) (.cells #[(),(),(),()] 191)
 have J:=(A1.block _ (L8 J)).trans J
 have I:=((A0.trans (A1.mono A0.size)).block _ (L8 I)).trans I
 have hB:=(U.trans (A0.mono U.size)).trans (A1.mono (U.trans (A0.mono U.size)).size)
 simp only[World.size_alloc] at J A3
 clear U A0 A1
 have A6:(Tryz.prog.info? 194).map (·.size)=some (iA q).size:=by rw[az,hq];kernel_rfl
 have A4:(Tryz.prog.info? 191).map (·.size)=some (iA (lX q)).size:=by rw[az,lX,qy];kernel_rfl
 have HL:=MI (qy q)
 have HS:=MI (fun k=>show wdS q (k+1)=(wdS q k).set (k/4) (max ((wdS q k).getD (k/4) 0) (kE (q.getD k 0))) from rfl)
 have HW:=MI (fun k w=>xH (q.getD k 0) (bounds_i64 (uB A2 aq k)).1 (bounds_i64 (uB A2 aq k)).2 w)
 have H0:Hid (wdS q 0=[0,0,0,0]):=rfl
 have HE:Hid (lX q=wdS q 16):=rfl
 have HQ:=MI hq
 have B1:=MI (fun k (hk:k<16) w=>gZ (P:=Tryz.prog) 194 2 16 Tryz.underlying194 Tryz.underlying2 af q hq k hk w)
 have HB:=MI hB
 have A7:=MI J
 have A8:=MI A3
 clear A2 hq hB
 go_enter Tryz.func228,Tryz.ntmps228
 go_upto_region 2 with fail
 have B8:w.heap.size<(((w.alloc (.cells (iA q) 194)).alloc (.cells #[(),(),(),()] 191)).alloc (.cells #[(),(),(),()] 191)).heap.size:=L8 I
 generalize ((w.alloc (.cells (iA q) 194)).alloc (.cells #[(),(),(),()] 191)).alloc (.cells #[(),(),(),()] 191)=W at*
 clear J A3
 go_upto_region 3 with(with_reducible refine MC 194 1 ?_;refine wpList_load_row rfl 194 (.tmp 1) rfl _ rfl 194 (iA q) (0,0) _ I Tryz.underlying194 rfl A6 ?_)
 clear I A6
 go_loopw [7] (fun v7 wr=>∃j:Nat,j≤16∧v7= .int .i64 (j:Int)∧wr.heap[w.heap.size+1+1]? =some (.cells (iA (wdS q j)) 191 (0,0))∧wr.heap[w.heap.size+1]? =some (.cells #[(),(),(),()] 191 (0,0))∧Below w.heap.size w wr) (fun v7 _=>16 - aC v7)
 case atStart=>exact⟨0,aa,rfl,by rw[H0.out];exact A8.out,A7.out,HB.out⟩
 case round=>
  clear A7 A8 HB
  obtain⟨j,hj,rfl,h2,h1,hb⟩:=hrel
  by_cases A5:j<16
  ·have B9:=B1.out j A5
   have C0:=aH (k:=j/4) h2 (by rw[HL.out];omega)
   have C1:=ay h2 (j/4)
   have R:=bY h2 (j/4) (max ((wdS q j).getD (j/4) 0) (kE (q.getD j 0)))
   rw[←HS.out j] at R
   have A9: ∀a b:Int,max a b=if a<b then b else a:=fun a b=>by rw[Int.max_def];split<;>split<;>omega
   rw[A9] at R
   clear A9
   have B2:=MI (nD j A5)
   have B3:=MI (HW.out j)
   have C2:j/4<4:=aa
   have B7:((j/4:Nat):Int)<4:=aa
   have B0:=MI R
   have H1:=MI h1
   have H2:=MI h2
   have B4:=MI hb
   clear h1 hb R
   generalize (wdS q j).getD (j/4) 0=o at*
   generalize j/4=jb at*
   generalize kE (q.getD j 0)=u at*
   generalize q.getD j 0=qj at*
   go_upto_region 5 with fail
   go_region_law (first | (go_simp;go_at_call 173;refine(B2.out _).mono ?_;rintro e w' ⟨rfl,rfl⟩) | (go_simp;go_at_call 165;refine(B3.out _).mono ?_;rintro e w1 ⟨rfl,m1,rfl⟩))
   all_goals go_wp2_with fail
   all_goals refine⟨⟨j+1,aa,aD,B0.out,(heap_setCell_other _ _ _ _ (by show w.heap.size+1≠w.heap.size+1+1;omega)).trans H1.out,(below_drewN B4.out _).setCell (p:=⟨w.heap.size+1+1,_,none⟩) (by show w.heap.size≤w.heap.size+1+1;omega) _⟩,by simp[aC];omega⟩
  ·obtain rfl:j=16:=aa
   rw[←HE.out] at h2
   generalize hL:lX q=L at*
   have B5:(#[Value.int .i64 0,Value.int .i64 0,Value.int .i64 0,Value.int .i64 0]:Array Value).size=(iA L).size:=by rw[az,←hL];show 4=(wdS q 16).length;rw[HL.out]
   have B6:=MI hL
   clear hL
   go_wp2_with (first | (with_reducible refine MC 191 3 ?_;refine wpList_load_row rfl 191 (.tmp 3) rfl _ rfl 191 (iA L) (0,0) _ h2 Tryz.underlying191 rfl A4 ?_) | (with_reducible refine MF 191 2 22 ?_;refine wpList_store_row rfl 191 (.tmp 2) (.tmp 22) rfl _ (iA L) rfl rfl 191 #[(),(),(),()] h1 A4 B5 (bV _) ?_))
   exact bodyPost_ret (results_cell_row (fn:=Tryz.f228) rfl _ _ _ _ _ _ _ rfl (setRow_heap _ _ _ _ _ _ h1) Tryz.underlying191 rfl A4) rfl ⟨by rw[B6.out],below_setRow hb aa _⟩
def pU(z:List Int):Nat→Int
 | 0=>0
 | k+1=>wrap64 (pU z k+wrap64 (4*z.getD k 0))
theorem Ou(z:List Int)(hz:z.length=4)(w:World):Calls Tryz.prog 229 #[.agg (iA z)] w (fun e w'=>e= .returned (.int .i64 (pU z 4))∧Below w.heap.size w w'):=by
 have I:=ae w (.cells (iA z) 191)
 have J:=L9 w (.cells (iA z) 191)
 have R:(Tryz.prog.info? 191).map (·.size)=some (iA z).size:=by rw[az,hz];kernel_rfl
 have U:=MI (fun k (hk:k<4) w=>gZ (P:=Tryz.prog) 191 3 4 Tryz.underlying191 Tryz.underlying3 af z hz k hk w)
 have HS:=MI (fun k=>show pU z (k+1)=wrap64 (pU z k+wrap64 (4*z.getD k 0)) from rfl)
 have H0:Hid (pU z 0=0):=rfl
 have HB:=MI I
 clear I hz
 go_enter Tryz.func229,Tryz.ntmps229
 go_upto_region 2 with fail
 generalize w.alloc (.cells (iA z) 191)=W at*
 go_upto_region 3 with(with_reducible refine MC 191 1 ?_;refine wpList_load_row rfl 191 (.tmp 1) rfl _ rfl 191 (iA z) (0,0) _ J Tryz.underlying191 rfl R ?_)
 clear J R
 generalize hC:pU z=C at*
 have HC:=MI hC
 clear hC
 go_loop [3,7] (fun v3 v7=>∃j:Nat,j≤4∧v7= .int .i64 (j:Int)∧v3= .int .i64 (C j)) (fun _ v7=>4 - aC v7)
 case atStart=>exact⟨0,aa,rfl,by rw[H0.out]⟩
 case round=>
  obtain⟨j,hj,rfl,rfl⟩:=hrel
  by_cases o:j<4
  ·have A0:=U.out j o
   have hs:=MI (HS.out j)
   generalize z.getD j 0=x at*
   generalize C j=c at*
   go_wp2_with fail
   go_round
   case rel=>exact⟨j+1,aa,aD,by rw[hs.out]⟩
   case measure=>simp[aC];omega
  ·obtain rfl:j=4:=aa
   go_wp2_with fail
   go_ret
   exact⟨by rw[HC.out];rfl,HB.out⟩
def mn2(a b:Int):Int:=if b<a then b else a
def mx2(a b:Int):Int:=if a<b then b else a
theorem Lm{P:Program}(a b c d:Int)(ats:Array TypeId)(ty:TypeId)(w:World):(Builtin.min_ ats ty #[.int .i64 a,.int .i64 b,.int .i64 c,.int .i64 d]).run P w= .ok (.int .i64 (mn2 (mn2 (mn2 a b) c) d)) w:=rfl
theorem Lp{P:Program}(a b c d:Int)(ats:Array TypeId)(ty:TypeId)(w:World):(Builtin.max_ ats ty #[.int .i64 a,.int .i64 b,.int .i64 c,.int .i64 d]).run P w= .ok (.int .i64 (mx2 (mx2 (mx2 a b) c) d)) w:=rfl
theorem gok_any(a b c d:Int)(w:World):Calls Tryz.prog 167 #[.agg #[.int .i64 a,.int .i64 b,.int .i64 c,.int .i64 d]] w (fun e w'=>e= .returned (.bool (inB 3 [a,b,c,d]))∧Below w.heap.size w w'):=by
 have I:=ae w (.cells #[.int .i64 a,.int .i64 b,.int .i64 c,.int .i64 d] 191)
 obtain⟨c0,c1,c2,c3⟩:=bK (L9 w (.cells #[.int .i64 a,.int .i64 b,.int .i64 c,.int .i64 d] 191))
 have h1:=fun ats ty w=>Lm (P:=Tryz.prog) a b c d ats ty w
 have h2:=fun ats ty w=>Lp (P:=Tryz.prog) a b c d ats ty w
 have hE:Hid (inB 3 [a,b,c,d]=(decide (0≤mn2 (mn2 (mn2 a b) c) d)&&decide (mx2 (mx2 (mx2 a b) c) d≤3))):=by
  unfold Hid inB mn2 mx2
  rw[Bool.eq_iff_iff]
  simp only[List.all_cons,List.all_nil,Bool.and_true,Bool.and_eq_true,decide_eq_true_eq]
  constructor
  ·intro h;constructor<;>(repeat' split)<;>omega
  ·intro h
   obtain⟨h1,h2⟩:=h
   (repeat' split at h1)<;>(repeat' split at h2)<;>omega
 generalize mn2 (mn2 (mn2 a b) c) d=m at*
 generalize mx2 (mx2 (mx2 a b) c) d=x at*
 go_enter Tryz.func167,Tryz.ntmps167
 go_upto_region 1 with fail
 generalize w.alloc (.cells #[.int .i64 a,.int .i64 b,.int .i64 c,.int .i64 d] 191)=W at*
 by_cases hm:0≤m
 ·by_cases hx:x≤3
  ·go_wp2_with fail
   go_ret
   exact⟨aP (by rw[hE.out];simp[hm,hx]),I⟩
  ·go_wp2_with fail
   go_ret
   exact⟨aP (by rw[hE.out];simp[hm,hx]),I⟩
 ·go_wp2_with fail
  go_ret
  exact⟨aP (by rw[hE.out,decide_eq_false (Int.not_le.2 hm)];rfl),I⟩
def outT(b:List Int)(t:Int×Int):List Int:=if 0≤t.1∧t.1<16 then b.set t.1.toNat (wrap64 (b.getD t.1.toNat 0 - t.2)) else b
def vI(b:List Int)(ts:List (Int×Int)):Nat→List Int
 | 0=>b
 | k+1=>outT (vI b ts k) (ts.getD k (0,0))
def kV(b:List Int)(ts:List (Int×Int)):List Int:=vI b ts ts.length
theorem MN(b:List Int)(t:Int×Int):(outT b t).length=b.length:=by unfold outT;split<;>simp
theorem Bo(b:List Int)(ts:List (Int×Int)): ∀k,(vI b ts k).length=b.length:=by
 intro k
 induction k with
 | zero=>rfl
 | succ k ih=>simp only[vI,MN,ih]
theorem outT_wf{b:List Int}(h: ∀z ∈ b,(Lit.int .i64 z).wf=true)(t:Int×Int): ∀z ∈ outT b t,(Lit.int .i64 z).wf=true:=by
 unfold outT
 split
 ·intro z hz
  rcases List.mem_or_eq_of_mem_set hz with h1 | h1
  ·exact h z h1
  ·rw[h1];exact wrap64_wf _
 ·exact h
theorem outL_wf{b:List Int}(h: ∀z ∈ b,(Lit.int .i64 z).wf=true)(ts:List (Int×Int)): ∀z ∈ kV b ts,(Lit.int .i64 z).wf=true:=by
 unfold kV
 induction ts.length with
 | zero=>exact h
 | succ k ih=>exact outT_wf ih _
theorem Bq(b:List Int)(ts:List (Int×Int)):(kV b ts).length=b.length:=Bo b ts _
theorem AC(b:List Int)(hb:b.length=16)(ao:Option Addr)(n cap:Nat)(ts:List (Int×Int))(w:World)(h:bP eY 2 (0,0) w ao n ts):Calls Tryz.prog 200 #[.agg (iA b),.slice ao n cap] w (fun e w'=>e= .returned (.agg (iA (kV b ts)))∧Below w.heap.size w w'):=by
 have A1:=ae w (.cells (iA b) 194)
 have R:=L9 w (.cells (iA b) 194)
 have A2:=ae (w.alloc (.cells (iA b) 194)) (.cells #[(),(),(),(),(),(),(),(),(),(),(),(),(),(),(),()] 194)
 have A3:=L9 (w.alloc (.cells (iA b) 194)) (.cells #[(),(),(),(),(),(),(),(),(),(),(),(),(),(),(),()] 194)
 have R:=(A2.block _ (L8 R)).trans R
 have hB:=A1.trans (A2.mono A1.size)
 rw[World.size_alloc] at A3
 clear A1 A2
 have B0:=h.lim
 unfold maxLen at B0
 have HR:=MI h
 have B1:=MI h.hlen
 have HL:=MI (fun k=>(Bo b ts k).trans hb)
 have HS:=MI (fun k=>show vI b ts (k+1)=outT (vI b ts k) (ts.getD k (0,0)) from rfl)
 have H0:Hid (vI b ts 0=b):=rfl
 have HE:Hid (kV b ts=vI b ts ts.length):=rfl
 have HB:=MI hB
 have A6:=MI R
 have A7:=MI A3
 clear h hB R A3 hb
 go_enter Tryz.func200,Tryz.ntmps200
 go_upto_region 2 with fail
 generalize (w.alloc (.cells (iA b) 194)).alloc (.cells #[(),(),(),(),(),(),(),(),(),(),(),(),(),(),(),()] 194)=W at*
 go_loopw [9] (fun v9 wr=>∃j:Nat,j≤n∧v9= .int .i64 (j:Int)∧wr.heap[w.heap.size]? =some (.cells (iA (vI b ts j)) 194 (0,0))∧wr.heap[w.heap.size+1]? =some (.cells #[(),(),(),(),(),(),(),(),(),(),(),(),(),(),(),()] 194 (0,0))∧Below w.heap.size w wr) (fun v9 _=>n - aC v9)
 case atStart=>exact⟨0,aa,rfl,by rw[H0.out];exact A6.out,A7.out,HB.out⟩
 case round=>
  clear A6 A7 HB
  obtain⟨j,hj,rfl,h0,h1,hb⟩:=hrel
  by_cases B2:j<n
  ·have hs:=MI (HS.out j)
   obtain⟨a,rfl,c0,c1⟩:=xO (HR.out.aj hb) B2
   have hl:=HL.out j
   generalize hN:vI b ts (j+1)=nx at*
   have HN:=MI hN
   generalize hC:vI b ts j=cu at*
   clear hN hC
   generalize ts.getD j (0,0)=t at*
   obtain⟨ix,vl⟩:=t
   simp only at c0 c1 hs
   have H1:=MI h1
   have J:=MI h0
   have I:=MI hb
   clear h1 h0 hb
   go_upto_region 4 with fail
   have o:=ae wr (.cells #[.int .i64 ix,.int .i64 vl] 282)
   obtain⟨d0,d1⟩:=bW (L9 wr (.cells #[.int .i64 ix,.int .i64 vl] 282))
   have h0:=(o.block _ (L8 J.out)).trans J.out
   have h1:=(o.block _ (L8 H1.out)).trans H1.out
   have hb:=I.out.trans (o.mono I.out.size)
   clear c0 c1 H1 J I o
   generalize wr.heap.size=xb at*
   generalize wr.alloc (.cells #[.int .i64 ix,.int .i64 vl] 282)=V at*
   by_cases A4:0≤ix∧ix<16
   ·obtain⟨i,rfl⟩: ∃i:Nat,ix=(i:Int):=⟨ix.toNat,aa⟩
    obtain⟨g1,g2⟩:=A4
    have A8:i<16:=aa
    have B5:=aH (k:=i) h0 (by rw[hl];exact A8)
    have B6:=ay h0 i
    have U:=bY h0 i (wrap64 (cu.getD i 0 - vl))
    have A0:Hid (nx=cu.set i (wrap64 (cu.getD i 0 - vl))):=by unfold Hid;rw[hs.out];unfold outT;rw[if_pos ⟨g1,g2⟩,Int.toNat_natCast]
    rw[←A0.out] at U
    have A9:=MI U
    have H1:=MI h1
    have I:=MI hb
    generalize cu.getD i 0=ci at*
    clear h0 h1 hb U hs
    go_upto_region 5 with fail
    go_still_tail 8,af
    repeat still_step
    try refine wpStill_nil ?_
    change wpList _ _ _ _ _ V.drew
    go_wp2_with fail
    refine⟨⟨j+1,aa,aD,by rw[HN.out];exact A9.out,(heap_setCell_other _ _ _ _ (by show w.heap.size+1≠w.heap.size;omega)).trans H1.out,I.out.drew.setCell (p:=⟨w.heap.size,_,none⟩) Me _⟩,by simp[aC];omega⟩
   ·have A0:Hid (nx=cu):=by unfold Hid;rw[hs.out];unfold outT;rw[if_neg A4]
    have H1:=MI h1
    have J:=MI h0
    have I:=MI hb
    clear h0 h1 hb
    by_cases g1:0≤ix
    ·have g2:¬ix<16:=fun e=>A4 ⟨g1,e⟩
     go_wp2_with fail
     exact⟨⟨j+1,aa,aD,by rw[HN.out,A0.out];exact J.out,H1.out,I.out⟩,by simp[aC];omega⟩
    ·go_wp2_with fail
     exact⟨⟨j+1,aa,aD,by rw[HN.out,A0.out];exact J.out,H1.out,I.out⟩,by simp[aC];omega⟩
  ·obtain rfl:j=n:=aa
   have hE:=HE.out
   rw[B1.out] at hE
   rw[←hE] at h0
   have hl:=HL.out j
   rw[←hE] at hl
   have B3:Hid (kV b ts=kV b ts):=rfl
   generalize hX:kV b ts=X at*
   have HX:=MI hX
   have A5:(Tryz.prog.info? 194).map (·.size)=some (iA X).size:=by rw[az,hl];kernel_rfl
   have B4:(#[(),(),(),(),(),(),(),(),(),(),(),(),(),(),(),()]:Array Value).size=(iA X).size:=by rw[az,hl];rfl
   clear hX hE B3 HE
   go_wp2_with (first | (with_reducible refine MC 194 2 ?_;refine wpList_load_row rfl 194 (.tmp 2) rfl _ rfl 194 (iA X) (0,0) _ h0 Tryz.underlying194 rfl A5 ?_) | (with_reducible refine MF 194 4 30 ?_;refine wpList_store_row rfl 194 (.tmp 4) (.tmp 30) rfl _ (iA X) rfl rfl 194 _ h1 A5 B4 (bV _) ?_))
   exact bodyPost_ret (results_cell_row (fn:=Tryz.f200) rfl _ _ _ _ _ _ _ rfl (setRow_heap _ _ _ _ _ _ h1) Tryz.underlying194 rfl A5) rfl ⟨by rw[HX.out],below_setRow hb aa _⟩
theorem kw(z:List Int)(tv:Value)(hz:z.length=28):(Tryz.prog.info? 196).map (·.size)=some (frC z tv).size:=by rw[bM _ _ hz];kernel_rfl
theorem nS{l:List Int}(h:l.length=4): ∃a b c d,l=[a,b,c,d]:=by
 match l,h with
 | [a,b,c,d],_=>exact⟨a,b,c,d,rfl⟩
theorem zO{l:List Int}(h:l.length=16): ∃q0 q1 q2 q3 q4 q5 q6 q7 q8 q9 q10 q11 q12 q13 q14 q15,l=[q0,q1,q2,q3,q4,q5,q6,q7,q8,q9,q10,q11,q12,q13,q14,q15]:=by
 match l,h with
 | [q0,q1,q2,q3,q4,q5,q6,q7,q8,q9,q10,q11,q12,q13,q14,q15],_=>exact⟨q0,q1,q2,q3,q4,q5,q6,q7,q8,q9,q10,q11,q12,q13,q14,q15,rfl⟩
theorem OD(g s wd q:List Int)(hg:g.length=4)(hs:s.length=4)(hw:wd.length=4)(hq:q.length=16)(ao:Option Addr)(n c:Nat):Tryz.prog.built 196 [(0,.agg (iA g)),(1,.slice ao n c),(2,.agg (iA s)),(3,.agg (iA wd)),(4,.agg (iA q))]=some (frC (g++s++wd++q) (.slice ao n c)):=by
 obtain⟨g0,g1,g2,g3,rfl⟩:=nS hg
 obtain⟨s0,s1,s2,s3,rfl⟩:=nS hs
 obtain⟨w0,w1,w2,w3,rfl⟩:=nS hw
 obtain⟨q0,q1,q2,q3,q4,q5,q6,q7,q8,q9,q10,q11,q12,q13,q14,q15,rfl⟩:=zO hq
 kernel_rfl
def dZ(b g s:List Int)(ts:List (Int×Int)):List Int:=g++s++lX (iF (kV b ts) s)++iF (kV b ts) s
theorem rwB{w w':World}{b:Nat}{o:Obj}(h:w.heap[b]? =some o)(hb:Below w.heap.size w w'):w'.heap[b]? =some o:=(hb.block b (L8 h)).trans h
theorem rJ(b g s:List Int)(ts:List (Int×Int))(hg:g.length=4)(hs:s.length=4):(dZ b g s ts).length=28:=by
 unfold dZ lX
 simp only[List.length_append,hg,hs,qy,rO]
structure ToS(w:World)(b g s:List Int)(w':World):Prop where
 z0:w'.heap[w.heap.size]? =some (.cells (iA b) 194 (0,0))
 z1:w'.heap[w.heap.size+1]? =some (.cells (iA g) 191 (0,0))
 z2:w'.heap[w.heap.size+2]? =some (.cells (iA s) 306 (0,0))
 z3:w'.heap[w.heap.size+3]? =some (.cells #[(),(),(),(),.slice none 0 0,(),(),(),(),(),(),(),(),(),(),(),(),(),(),(),(),(),(),(),(),(),(),(),()] 196 (0,0))
 hb:Below w.heap.size w w'
theorem ToS.next{w:World}{b g s:List Int}{w1 w2:World}(h:ToS w b g s w1)(hb:Below w1.heap.size w1 w2):ToS w b g s w2:=
 ⟨rwB h.z0 hb,rwB h.z1 hb,rwB h.z2 hb,rwB h.z3 hb,h.hb.trans (hb.mono h.hb.size)⟩
theorem ToS.set{w:World}{b g s:List Int}{w1:World}(h:ToS w b g s w1){k:Nat}(hk:w.heap.size+4≤k)(cs:Array Value):ToS w b g s (w1.setRow k cs):=
 ⟨(setRow_other _ _ _ _ aa).trans h.z0,(setRow_other _ _ _ _ aa).trans h.z1,(setRow_other _ _ _ _ aa).trans h.z2,(setRow_other _ _ _ _ aa).trans h.z3,below_setRow h.hb aa _⟩
structure ToT(w:World)(g s q:List Int)(qb:Nat)(w':World):Prop where
 z1:w'.heap[w.heap.size+1]? =some (.cells (iA g) 191 (0,0))
 z2:w'.heap[w.heap.size+2]? =some (.cells (iA s) 306 (0,0))
 q:w'.heap[qb]? =some (.cells (iA q) 194 (0,0))
 hb:Below w.heap.size w w'
 ne:qb≠w.heap.size+3
theorem ToT.next{w:World}{g s q:List Int}{qb:Nat}{w1 w2:World}(h:ToT w g s q qb w1)(hb:Below w1.heap.size w1 w2):ToT w g s q qb w2:=
 ⟨rwB h.z1 hb,rwB h.z2 hb,rwB h.q hb,h.hb.trans (hb.mono h.hb.size),h.ne⟩
theorem ToT.set{w:World}{g s q:List Int}{qb:Nat}{w1:World}(h:ToT w g s q qb w1)(cs:Array Value):ToT w g s q qb (w1.setRow (w.heap.size+3) cs):=
 ⟨(setRow_other _ _ _ _ aa).trans h.z1,(setRow_other _ _ _ _ aa).trans h.z2,(setRow_other _ _ _ _ h.ne).trans h.q,below_setRow h.hb aa _,h.ne⟩
def ToC(w:World)(b g s q:List Int)(v9:Value)(wx:World):Prop:=∃qb,v9= .pointer (some ⟨qb,0,none⟩)∧wx.heap[qb]? =some (.cells (iA q) 194 (0,0))∧ToS w b g s wx
theorem Kz(b g s:List Int)(hb:b.length=16)(B5: ∀z ∈ b,(Lit.int .i64 z).wf=true)(hg:g.length=4)(hs:s.length=4)(ao:Option Addr)(n cap:Nat)(ts:List (Int×Int))(w:World)(h:bP eY 2 (0,0) w ao n ts):Calls Tryz.prog 201 #[.agg (iA b),.agg (iA g),.agg (iA s),.slice ao n cap] w (fun e w'=>e= .returned (.agg (frC (dZ b g s ts) (.slice ao n cap)))∧Below w.heap.size w w'):=by
 have o:=ae w (.cells (iA b) 194)
 have A4:=L9 w (.cells (iA b) 194)
 have e0:(w.alloc (.cells (iA b) 194)).heap.size=w.heap.size+1:=World.size_alloc _ _
 generalize B6:w.alloc (.cells (iA b) 194)=W0 at*
 have A0:=ae W0 (.cells (iA g) 191)
 have A1:=L9 W0 (.cells (iA g) 191)
 have e1:(W0.alloc (.cells (iA g) 191)).heap.size=W0.heap.size+1:=World.size_alloc _ _
 generalize B7:W0.alloc (.cells (iA g) 191)=W1 at*
 have R:=ae W1 (.cells (iA s) 306)
 have A2:=L9 W1 (.cells (iA s) 306)
 have e2:(W1.alloc (.cells (iA s) 306)).heap.size=W1.heap.size+1:=World.size_alloc _ _
 generalize B8:W1.alloc (.cells (iA s) 306)=W2 at*
 have J:=ae W2 (.cells #[(),(),(),(),.slice none 0 0,(),(),(),(),(),(),(),(),(),(),(),(),(),(),(),(),(),(),(),(),(),(),(),()] 196)
 have j:=L9 W2 (.cells #[(),(),(),(),.slice none 0 0,(),(),(),(),(),(),(),(),(),(),(),(),(),(),(),(),(),(),(),(),(),(),(),()] 196)
 rw[e0] at A1 e1
 rw[e1] at A2 e2
 rw[e2] at j
 have A2:=rwB A2 J
 have A1:=rwB (rwB A1 R) J
 have A4:=rwB (rwB (rwB A4 A0) R) J
 have hB:=((o.trans (A0.mono o.size)).trans (R.mono (o.trans (A0.mono o.size)).size)).trans (J.mono ((o.trans (A0.mono o.size)).trans (R.mono (o.trans (A0.mono o.size)).size)).size)
 subst B8 B7 B6
 clear o A0 R J e0 e1 e2
 have B9:(Tryz.prog.info? 194).map (·.size)=some (iA b).size:=by rw[az,hb];kernel_rfl
 have C0:(Tryz.prog.info? 191).map (·.size)=some (iA g).size:=by rw[az,hg];kernel_rfl
 have A9:(Tryz.prog.info? 306).map (·.size)=some (iA s).size:=by rw[az,hs];kernel_rfl
 have hT:=MI (fun W (C1:Below w.heap.size w W)=>AC b hb ao n cap ts W (h.aj C1))
 have A3:=MI (fun W=>H7 (kV b ts) s (by rw[Bq];exact hb) hs W)
 have B4:=MI (fun W=>Dt (iF (kV b ts) s) (rO _ _) (KG _ _) W)
 have A6:=rO (kV b ts) s
 have A7:Hid (dZ b g s ts=g++s++lX (iF (kV b ts) s)++iF (kV b ts) s):=rfl
 have C2:Hid ((lX (iF (kV b ts) s)).length=4):=qy _ _
 have B0:=MI (rJ b g s ts hg hs)
 generalize hq:iF (kV b ts) s=q at*
 generalize kV b ts=ob at*
 clear hq
 go_enter Tryz.func201,Tryz.ntmps201
 go_upto_region 1 with fail
 generalize (((w.alloc (.cells (iA b) 194)).alloc (.cells (iA g) 191)).alloc (.cells (iA s) 306)).alloc (.cells #[(),(),(),(),.slice none 0 0,(),(),(),(),(),(),(),(),(),(),(),(),(),(),(),(),(),(),(),(),(),(),(),()] 196)=W at*
 have D0:=MI A4
 have D1:=MI A1
 have D2:=MI A2
 have D3:=MI j
 have HB:=MI hB
 have A5:(Tryz.prog.info? 194).map (·.size)=some (iA q).size:=by rw[az,A6];kernel_rfl
 have A8:(#[(),(),(),(),(),(),(),(),(),(),(),(),(),(),(),()]:Array Value).size=(iA q).size:=by rw[az,A6];rfl
 have C3:=MI (OD g s (lX q) q hg hs C2.out A6 ao n cap)
 have B1:(Tryz.prog.info? 196).map (·.size)=some (frC (g++s++lX q++q) (.slice ao n cap)).size:=kw _ _ (by rw[←A7.out];exact B0.out)
 have C4:(#[(),(),(),(),.slice none 0 0,(),(),(),(),(),(),(),(),(),(),(),(),(),(),(),(),(),(),(),(),(),(),(),()]:Array Value).size=(frC (g++s++lX q++q) (.slice ao n cap)).size:=by rw[bM _ _ (by rw[←A7.out];exact B0.out)];rfl
 have C5:=dH (g++s++lX q++q) ao n cap
 have C6:ToS w b g s W.drew:=⟨A4,A1,A2,j,hB.drew⟩
 have D4:w.heap.size+4≤W.drew.heap.size:=L8 j
 clear A4 A1 A2 j hB hb hg hs B5 h
 go_cut [9] (fun v9 wx=>ToC w b g s q v9 wx)
 case first=>
  refine wp_region_noPanic ?_
  refine wp_region_held_drew (S:=fun w'=>ToS w b g s w') af ?_ (fun I=>?_)
  ·exact C6
  refine ba 1 ?_
  try simp only[Act.put,aS]
  refine wpAnyH_take (i:=0) (v:=.agg (iA b)) rfl af af af (fun _ _ _ h=>h) (aZ af 194 (.tmp 4) rfl w.heap.size rfl 194 (iA b) (0,0) _ (fun w h=>h.z0) Tryz.underlying194 rfl B9) aw ?_
  try simp only[Act.put,aS]
  refine wpAnyH_take (i:=3) (v:=.agg (iA s)) rfl af af af (fun _ _ _ h=>h) (aZ af 306 (.tmp 6) rfl (w.heap.size+2) rfl 306 (iA s) (0,0) _ (fun w h=>h.z2) Tryz.underlying306 rfl A9) aw ?_
  try simp only[Act.put,aS]
  refine wpAnyH_ready (rs:=[2,5]) af ar (AllReadyH.cons rfl (fun K hK=>?_) (AllReadyH.cons rfl (fun K hK=>?_) AllReadyH.nil))
  all_goals
   go_simp
  rotate_right
  focus
   refine hK.out _ _ ?_ (fun I=>?_)
   ·(try dsimp only);exact I.next (ae _ _)
   clear hK K
   try simp only[Act.put,aS]
   have U:=L9 W.drew (.cells #[(),(),(),(),(),(),(),(),(),(),(),(),(),(),(),()] 194)
   refine bj 2 (fun K hK=>?_)
   go_simp
   go_at_call 200;refine(hT.out _ I.hb).mono ?_;rintro e w2 ⟨rfl,R⟩;have C7:=R.size
   refine hK.out _ _ ?_ (fun I=>?_)
   ·(try dsimp only);exact I.next R
   clear hK K
   try simp only[Act.put,aS]
   have U:=rwB U R
   refine bj 4 (fun K hK=>?_)
   go_simp
   go_at_call 227;refine(A3.out _).mono ?_;rintro e w3 ⟨rfl,J⟩;have B2:=J.size
   refine hK.out _ _ ?_ (fun I=>?_)
   ·(try dsimp only);exact I.next J
   clear hK K
   try simp only[Act.put,aS]
   have U:=rwB U J
   refine bj 6 (fun K hK=>?_)
   rw[if_pos af]
   refine wp_store_row 194 (.tmp 9) (.tmp 14) rfl W.drew.heap.size (iA q) rfl rfl 194 #[(),(),(),(),(),(),(),(),(),(),(),(),(),(),(),()] U A5 A8 (bV _) ?_
  rotate_right
  focus
   go_at_call 200;refine(hT.out _ I.hb).mono ?_;rintro e w2 ⟨rfl,R⟩;have C7:=R.size
   refine hK.out _ _ ?_ (fun I=>?_)
   ·(try dsimp only);exact I.next R
   clear hK K
   try simp only[Act.put,aS]
   refine wpAnyH_ready (rs:=[4,5]) af ar (AllReadyH.cons rfl (fun K hK=>?_) (AllReadyH.cons rfl (fun K hK=>?_) AllReadyH.nil))
   all_goals
    go_simp
   rotate_right
   focus
    refine hK.out _ _ ?_ (fun I=>?_)
    ·(try dsimp only);exact I.next (ae _ _)
    clear hK K
    try simp only[Act.put,aS]
    have U:=L9 w2 (.cells #[(),(),(),(),(),(),(),(),(),(),(),(),(),(),(),()] 194)
    refine bj 4 (fun K hK=>?_)
    go_simp
    go_at_call 227;refine(A3.out _).mono ?_;rintro e w3 ⟨rfl,J⟩;have B2:=J.size
    refine hK.out _ _ ?_ (fun I=>?_)
    ·(try dsimp only);exact I.next J
    clear hK K
    try simp only[Act.put,aS]
    have U:=rwB U J
    refine bj 6 (fun K hK=>?_)
    rw[if_pos af]
    refine wp_store_row 194 (.tmp 9) (.tmp 14) rfl w2.heap.size (iA q) rfl rfl 194 #[(),(),(),(),(),(),(),(),(),(),(),(),(),(),(),()] U A5 A8 (bV _) ?_
   rotate_right
   focus
    go_at_call 227;refine(A3.out _).mono ?_;rintro e w3 ⟨rfl,J⟩;have B2:=J.size
    refine hK.out _ _ ?_ (fun I=>?_)
    ·(try dsimp only);exact I.next J
    clear hK K
    try simp only[Act.put,aS]
    refine bj 5 (fun K hK=>?_)
    go_simp
    refine hK.out _ _ ?_ (fun I=>?_)
    ·(try dsimp only);exact I.next (ae _ _)
    clear hK K
    try simp only[Act.put,aS]
    have U:=L9 w3 (.cells #[(),(),(),(),(),(),(),(),(),(),(),(),(),(),(),()] 194)
    refine bj 6 (fun K hK=>?_)
    rw[if_pos af]
    refine wp_store_row 194 (.tmp 9) (.tmp 14) rfl w3.heap.size (iA q) rfl rfl 194 #[(),(),(),(),(),(),(),(),(),(),(),(),(),(),(),()] U A5 A8 (bV _) ?_
  all_goals
   refine hK.out _ _ ?_ (fun I=>?_)
   ·(try dsimp only);exact I.set aa _
   clear hK K
   try simp only[Act.put,aS]
   refine wpAnyH_done af ?_ _
   refine NoPanic.normal ?_
   go_wp2_with fail
   go_meet
   exact⟨_,rfl,setRow_heap _ _ _ _ _ _ U,I⟩
 case rest=>
  obtain⟨wx,rfl⟩: ∃w',w'=wc:=⟨_,rfl⟩
  obtain⟨qb,rfl,hq,hS⟩:=hcut
  have j:wx.drew.heap[w.heap.size+3]? =_:=hS.z3
  have C8:qb≠w.heap.size+3:=fun e=>aI hq hS.z3 aq e
  have C9:ToT w g s q qb wx.drew:=⟨hS.z1,hS.z2,hq,hS.hb.drew,C8⟩
  clear hS hq
  go_upto_region 2 with fail
  refine wp_region_noPanic ?_
  refine wp_region_held_drew (S:=fun w'=>ToT w g s q qb w') af ?_ (fun I=>?_)
  ·exact C9
  refine ba 1 ?_
  try simp only[Act.put,aS]
  refine wpAnyH_take (i:=0) (v:=.agg (iA g)) rfl af af af (fun _ _ _ h=>h) (aZ af 191 (.tmp 5) rfl (w.heap.size+1) rfl 191 (iA g) (0,0) _ (fun w h=>h.z1) Tryz.underlying191 rfl C0) aw ?_
  try simp only[Act.put,aS]
  refine wpAnyH_take (i:=2) (v:=.agg (iA s)) rfl af af af (fun _ _ _ h=>h) (aZ af 306 (.tmp 6) rfl (w.heap.size+2) rfl 306 (iA s) (0,0) _ (fun w h=>h.z2) Tryz.underlying306 rfl A9) aw ?_
  try simp only[Act.put,aS]
  refine wpAnyH_take (i:=3) (v:=.agg (iA q)) rfl af af af (fun _ _ _ h=>h) (aZ af 194 (.tmp 9) rfl qb rfl 194 (iA q) (0,0) _ (fun w h=>h.q) Tryz.underlying194 rfl A5) aw ?_
  try simp only[Act.put,aS]
  refine wpAnyH_take (i:=5) (v:=.agg (iA q)) rfl af af af (fun _ _ _ h=>h) (aZ af 194 (.tmp 9) rfl qb rfl 194 (iA q) (0,0) _ (fun w h=>h.q) Tryz.underlying194 rfl A5) aw ?_
  try simp only[Act.put,aS]
  refine bj 4 (fun K hK=>?_)
  go_simp
  go_at_call 228;refine(B4.out _).mono ?_;rintro e w4 ⟨rfl,B3⟩;have j:=rwB j B3
  refine hK.out _ _ ?_ (fun I=>?_)
  ·(try dsimp only);exact I.next B3
  clear hK K
  try simp only[Act.put,aS]
  refine wpAnyH_take (i:=6) (v:=.agg (frC (g++s++lX q++q) (.slice ao n cap))) rfl af af af (fun _ _ _ h=>h) (kY af 196 _ rfl (frC (g++s++lX q++q) (.slice ao n cap)) (Eq.trans (b:=Tryz.prog.built 196 [(0,.agg (iA g)),(1,.slice ao n cap),(2,.agg (iA s)),(3,.agg (iA (lX q))),(4,.agg (iA q))]) af C3.out)) aw ?_
  try simp only[Act.put,aS]
  refine bj 7 (fun K hK=>?_)
  rw[if_pos af]
  refine wp_store_row 196 (.tmp 8) (.tmp 21) rfl (w.heap.size+3) (frC (g++s++lX q++q) (.slice ao n cap)) rfl rfl 196 #[(),(),(),(),.slice none 0 0,(),(),(),(),(),(),(),(),(),(),(),(),(),(),(),(),(),(),(),(),(),(),(),()] j B1 C4 C5 ?_
  refine hK.out _ _ ?_ (fun I=>?_)
  ·(try dsimp only);exact I.set _
  clear hK K
  try simp only[Act.put,aS]
  refine wpAnyH_done af ?_ _
  refine NoPanic.normal ?_
  go_wp2_with fail
  exact bodyPost_ret (results_cell_row (fn:=Tryz.f201) rfl _ _ _ _ _ _ _ rfl (setRow_heap _ _ _ _ _ _ j) Tryz.underlying196 rfl B1) rfl ⟨by rw[A7.out],I.hb⟩
def rgB(l:List Int):Bool:=l.all (fun v=>decide (-32768≤v∧v<32768))
theorem zF(ao:Option Addr)(n cap:Nat)(zs:List Int)(w:World)(h:Ints .i64 w ao n zs):Calls Tryz.prog 128 #[.slice ao n cap] w (fun e w'=>e= .returned (.bool (rgB zs))∧w=w'):=by
 have A0:=h.lim
 unfold maxLen at A0
 have J:Hid (∀k,k<n→¬(-32768≤zs.getD k 0∧zs.getD k 0<32768)→rgB zs=false):=fun k hk hn=>by
  unfold rgB
  refine List.all_eq_false.2 ⟨zs.getD k 0,?_,by simpa using hn⟩
  rw[show zs.getD k 0=zs[k]'(by rw[h.hlen];exact hk) by simp[List.getD,show k<zs.length by rw[h.hlen];exact hk]]
  exact List.getElem_mem _
 have o:Hid ((∀k,k<n→-32768≤zs.getD k 0∧zs.getD k 0<32768)→rgB zs=true):=fun hk=>by
  unfold rgB
  rw[List.all_eq_true]
  intro v hv
  obtain⟨i,hi,rfl⟩:=List.getElem_of_mem hv
  have:=hk i (by rw[←h.hlen];exact hi)
  rw[show zs.getD i 0=zs[i] by simp[List.getD,hi]] at this
  exact decide_eq_true this
 have HI:=MI h
 clear h
 generalize rgB zs=R at*
 go_enter Tryz.func128,Tryz.ntmps128
 go_upto_region 2 with fail
 go_loop [7] (fun v7=>∃j:Nat,j≤n∧v7= .int .i64 (j:Int)∧Hid (∀k,k<j→-32768≤zs.getD k 0∧zs.getD k 0<32768)) (fun v7=>n - aC v7)
 case atStart=>exact⟨0,aa,rfl,fun k hk=>aa⟩
 case round=>
  obtain⟨j,hj,rfl,U⟩:=hrel
  by_cases I:j<n
  ·obtain⟨a,c,rfl,hc,A1,-⟩:=HI.out.int I
   by_cases h1:c< -32768
   ·go_wp2_with fail
    go_ret
    exact⟨aP (J.out j I (by rw[hc.out];omega)).symm,rfl⟩
   ·by_cases h2:32768≤c
    ·go_wp2_with fail
     go_ret
     exact⟨aP (J.out j I (by rw[hc.out];omega)).symm,rfl⟩
    ·go_wp2_with fail
     go_round
     case rel=>exact⟨j+1,aa,aD,fun k hk=>by
      by_cases e:k=j
      ·subst e;rw[hc.out];omega
      ·exact U.out k aa⟩
     case measure=>simp[aC];omega
  ·obtain rfl:j=n:=aa
   go_wp2_with fail
   go_ret
   exact⟨aP (o.out U.out).symm,rfl⟩
theorem hu2: ∃i2:TypeInfo,Tryz.prog.info? 2=some i2∧i2.zero=some (.int .i64 0)∧i2.size=1∧i2.bytes=8:=⟨_,rfl,rfl,rfl,rfl⟩
def jM(l z:List Int)(j:Nat):List Int:=l.take j++z.drop j
theorem vV(l z:List Int):jM l z 0=z:=rfl
theorem o6(l z:List Int)(j:Nat)(hj:j≤l.length)(hl:l.length≤z.length):(jM l z j).length=z.length:=by unfold jM;simp;omega
theorem su(l z:List Int)(j:Nat)(hj:j<l.length)(hl:l.length≤z.length):(jM l z j).set j (l.getD j 0)=jM l z (j+1):=by
 unfold jM
 have h1:(l.take j).length=j:=by simp;omega
 rw[List.set_append_right _ _ aa,h1,Nat.sub_self,List.drop_eq_getElem_cons (show j<z.length by omega),List.set_cons_zero,gG l j hj,List.append_assoc]
 rfl
theorem sD(l z:List Int)(hl:l.length≤z.length):jM l z l.length=l++z.drop l.length:=by unfold jM;rw[List.take_length]
def WideP(n:Nat)(l:List Int)(w:World)(e:Ending)(w':World):Prop:=∃g,e= .returned (.slice (some ⟨g,0,none⟩) n n)∧w.heap.size≤g∧Blk .i64 w' g 2 l∧Below w.heap.size w w'
theorem JY(ao:Option Addr)(n cap:Nat)(zs:List Int)(hn:n≤100000)(w:World)(h:Ints .i64 w ao n zs):Calls Tryz.prog 129 #[.slice ao n cap] w (WideP n zs w):=by
 obtain⟨i2,A2,A1,A3,A4⟩:=hu2
 have HI:=MI h
 have HL:=MI h.hlen
 clear h
 go_enter Tryz.func129,Tryz.ntmps129
 go_upto_region 3 with(at_make;refine wpList_make_full _ rfl _ _ 68 rfl w.heap.size 2 _ _ _ Tryz.underlying68 A2 A1 A3 _ _ _ _ n rfl rfl rfl rfl (by rw[A4];omega) aE Me ?_;intro w3 R J)
 have o:Below w.heap.size w w3:=((ag.refl (fun _=>False) w).grown J (fun k hk=>by cases hk)).aW Me (fun _ _ e=>e.elim)
 have A0:=MI (qN R)
 have HB:=MI o
 clear J R o
 go_loopw [11] (fun v11 wr=>∃j:Nat,j≤n∧v11= .int .i64 (j:Int)∧Blk .i64 wr w.heap.size 2 (jM zs (List.replicate n 0) j)∧Below w.heap.size w wr) (fun v11 _=>n - aC v11)
 case atStart=>exact⟨0,aa,rfl,by rw[vV];exact A0.out,HB.out⟩
 case round=>
  clear A0 HB
  obtain⟨j,hj,rfl,hB,hb⟩:=hrel
  by_cases U:j<n
  ·obtain⟨a,c,rfl,hc,A5,-⟩:=(HI.out.aj hb).int U
   have hl:=o6 zs (List.replicate n 0) j (by rw[HL.out];omega) (by rw[HL.out];simp)
   have A6:=hB.cell (i:=j) (by rw[hl];simpa using U)
   have A7:=hB.frozen j
   have I:=hB.set j (zs.getD j 0)
   rw[su zs _ j (by rw[HL.out];exact U) (by rw[HL.out];simp),hc.out] at I
   have HS:=MI I
   have Hb:=MI hb
   clear hB hb I hl hc
   go_wp2_with fail
   exact⟨⟨j+1,aa,aD,HS.out,Hb.out.setCell (p:=⟨w.heap.size,j,none⟩) Me _⟩,by simp[aC];omega⟩
  ·obtain rfl:j=n:=aa
   have hE:Blk .i64 wr w.heap.size 2 zs:=by
    have h1:=sD zs (List.replicate j 0) (by rw[HL.out];simp)
    rw[HL.out,List.drop_of_length_le ar,List.append_nil] at h1
    rw[←h1];exact hB
   have HE:=MI hE
   have Hb:=MI hb
   clear hB hb hE
   go_wp2_with fail
   go_ret
   exact⟨_,rfl,Me,HE.out,Hb.out⟩
end Go.Proofs.YtnicjahcgnhogaaGreatDoor
