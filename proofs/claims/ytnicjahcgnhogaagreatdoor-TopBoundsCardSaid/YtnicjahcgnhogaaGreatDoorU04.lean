/- Part 5 of the walk: contracts of the program's functions, each for every input. No condition. -/
import Derived.Test.YtnicjahcgnhogaaGreatDoorU03
import Derived.RangeFuncNested
import Derived.RangeFuncBound
import Derived.OwnWalkIn
import Derived.LoopNIn
import Derived.LoopIn
import Derived.Shelf.RegionOpen
set_option linter.unusedVariables false
set_option linter.unusedSimpArgs false
set_option maxRecDepth 100000
set_option maxHeartbeats 8000000
namespace Go.Proofs.YtnicjahcgnhogaaGreatDoor
open Go Go.RowKit Go.Calli
attribute [local irreducible] wpStill wpAnyH wpAnyS wpList Code.wp
def qL(z:List Int):List Int:=(List.range 16).map (fun k=>z.getD (12+k) 0)
def sL(z:List Int):List Int:=(List.range 4).map (fun k=>z.getD (4+k) 0)
def gL(z:List Int):List Int:=(List.range 4).map (fun k=>z.getD k 0)
theorem zH(z:List Int):(qL z).length=16:=by simp[qL]
theorem Lj(z:List Int):(sL z).length=4:=by simp[sL]
theorem wB(z:List Int):(gL z).length=4:=by simp[gL]
def Di(v:List Int)(t:Int×Int):List Int:=if 0≤t.1∧t.1<16 then v.set t.1.toNat (wrap64 (v.getD t.1.toNat 0+t.2)) else v
def sW(v:List Int)(ts:List (Int×Int)):List Int:=ts.foldl Di v
theorem OQ(v:List Int)(t:Int×Int):(Di v t).length=v.length:=by unfold Di;split<;>simp
theorem Dj(ts:List (Int×Int)): ∀v:List Int,(sW v ts).length=v.length:=by
 induction ts with
 | nil=>intro v;rfl
 | cons t r ih=>intro v;show(sW (Di v t) r).length=_;rw[ih,OQ]
theorem JM(v:List Int)(ts:List (Int×Int))(j:Nat)(h:j<ts.length):sW v (ts.take (j+1))=Di (sW v (ts.take j)) (ts.getD j (0,0)):=by
 unfold sW
 rw[List.take_succ_eq_append_getElem h,List.foldl_append]
 simp[List.getD,h]
def jU(v:List Int):List Int:=(List.range 16).map (fun i=>mi (v.getD i 0) (-2147483648) 2147483648)
theorem jr(v:List Int):(jU v).length=16:=by simp[jU]
theorem EZ(v:List Int)(i:Nat)(h:i<16):(jU v).getD i 0=mi (v.getD i 0) (-2147483648) 2147483648:=by simp[jU,List.getD,h]
theorem Au(q s:List Int):(valuesL q s).length=16:=by unfold valuesL;split;exact iM _ _;rfl
def uO(z:List Int)(ts:List (Int×Int)):List Int:=jU (sW (valuesL (qL z) (sL z)) ts)
theorem fJ.LK{w:World}{b:Nat}{z:List Int}{tv:Value}(h:fJ w b z tv):w.rangeAt b 13 ((qL z).map (Value.int .i64)):=by
 intro j v hv
 have hj:j<16:=by have:=(List.getElem?_eq_some_iff.1 hv).1;simpa[qL] using this
 rw[h.q hj]
 rw[←hv]
 simp[qL,hj]
theorem fJ.rangeS{w:World}{b:Nat}{z:List Int}{tv:Value}(h:fJ w b z tv):w.rangeAt b 5 ((sL z).map (Value.int .i64)):=by
 intro j v hv
 have hj:j<4:=by have:=(List.getElem?_eq_some_iff.1 hv).1;simpa[sL] using this
 rw[h.hi aa,←hv]
 simp[sL,hj]
theorem D5{α:Type}{f:α→List Value}{size:Nat}{d:α}{w:World}{a:Addr}{n:Nat}{ms:List α}(h:bP f size d w (some a) n ms)(hn:0<n)(hf: ∀x,(f x)[0]? ≠none):a.block<w.heap.size:=by
 obtain⟨a',ha,hc⟩:=h.cell 0 hn
 cases ha
 cases he:(f (ms.getD 0 d))[0]? with
 | none=>exact absurd he (hf _)
 | some v=>
  have:=World.block_lt_of_cell? w _ (hc 0 v he)
  rwa [Addr.add_block,Addr.add_block] at this
theorem KR(z:List Int)(hz:z.length=28)(ao:Option Addr)(n cap:Nat)(ts:List (Int×Int))(w:World)(h:bP eY 2 (0,0) w ao n ts):Calls Tryz.prog 261 #[.agg (frC z (.slice ao n cap))] w (fun e w'=>e= .returned (.agg (iA (uO z ts)))∧Below w.heap.size w w'):=by
 have A6:=ae w (.cells (frC z (.slice ao n cap)) 196)
 have B4:fJ (w.alloc (.cells (frC z (.slice ao n cap)) 196)) w.heap.size z (.slice ao n cap):=⟨L9 w _,hz⟩
 have J:=ae (w.alloc (.cells (frC z (.slice ao n cap)) 196)) (.cells #[(),(),(),(),(),(),(),(),(),(),(),(),(),(),(),()] 194)
 have A4:=L9 (w.alloc (.cells (frC z (.slice ao n cap)) 196)) (.cells #[(),(),(),(),(),(),(),(),(),(),(),(),(),(),(),()] 194)
 have A7:=B4.aj J
 have hB:=A6.trans (J.mono A6.size)
 have hT:=(h.aj A6).aj J
 rw[World.size_alloc] at A4
 have D6:=h.lim
 unfold maxLen at D6
 have HN:=MI h.hlen
 have D7:Hid (∀a,ao=some a→0<n→a.block<w.heap.size):=fun a ha h0=>by subst ha;exact D5 h h0 (fun x=>by simp[eY])
 have HV:=MI (fun w=>Dz (qL z) (sL z) (zH z) (Lj z) w)
 have B5:(Tryz.prog.info? 194).map (·.size)=some ((qL z).map (Value.int .i64)).length:=by rw[List.length_map,zH];kernel_rfl
 have B6:(Tryz.prog.info? 191).map (·.size)=some ((sL z).map (Value.int .i64)).length:=by rw[List.length_map,Lj];kernel_rfl
 have A8:=Au (qL z) (sL z)
 have HS:Hid (uO z ts=jU (sW (valuesL (qL z) (sL z)) ts)):=rfl
 clear A6 J B4 h hz
 go_enter Tryz.func261,Tryz.ntmps261
 go_upto_region 1 with fail
 generalize (w.alloc (.cells (frC z (.slice ao n cap)) 196)).alloc (.cells #[(),(),(),(),(),(),(),(),(),(),(),(),(),(),(),()] 194)=W at*
 have hQ:=A7.LK
 have B7:=A7.rangeS
 generalize valuesL (qL z) (sL z)=V at*
 have B8:(Tryz.prog.info? 194).map (·.size)=some (iA V).size:=by rw[az,A8];kernel_rfl
 have B0:(#[(),(),(),(),(),(),(),(),(),(),(),(),(),(),(),()]:Array Value).size=(iA V).size:=by rw[az,A8];rfl
 go_upto_region 2 with(first
  | (with_reducible refine MC 194 8 ?_;refine wpList_load_mid rfl 194 (.tmp 8) rfl _ 13 rfl _ _ hQ Tryz.underlying194 rfl B5 ?_)
  | (with_reducible refine MC 191 10 ?_;refine wpList_load_mid rfl 191 (.tmp 10) rfl _ 5 rfl _ _ B7 Tryz.underlying191 rfl B6 ?_)
  | (go_at_call 266;refine(HV.out _).mono ?_;rintro e w1 ⟨rfl,J⟩)
  | (with_reducible refine MF 194 3 12 ?_;refine wpList_store_row rfl 194 (.tmp 3) (.tmp 12) rfl _ (iA V) rfl rfl 194 #[(),(),(),(),(),(),(),(),(),(),(),(),(),(),(),()] (L9 _ _) B8 B0 (bV _) ?_))
 have B9:=L9 w1 (.cells #[(),(),(),(),(),(),(),(),(),(),(),(),(),(),(),()] 194)
 have C0:=(ae w1 (.cells #[(),(),(),(),(),(),(),(),(),(),(),(),(),(),(),()] 194)).trans (below_setRow (B:=w1.heap.size) MB Me (iA V))
 have hv:((w1.alloc (.cells #[(),(),(),(),(),(),(),(),(),(),(),(),(),(),(),()] 194)).setRow w1.heap.size (iA V)).heap[w1.heap.size]? =some (.cells (iA V) 194 (0,0)):=setRow_heap _ _ _ _ _ _ B9
 have A5:=J.trans (C0.mono J.size)
 have I:=(A5.block _ (L8 A4)).trans A4
 have C1:=hT.aj A5
 have C2:=hB.trans (A5.mono hB.size)
 have c4:=(A7.aj A5).mid
 have E8:w.heap.size+1<w1.heap.size:=by have:=L8 A4;have:=J.size;omega
 clear B9 C0 A5 A4 A7 hT hB J hQ B7 B8 B0 B5 B6 HV
 simp only[Act.put]
 generalize (w1.alloc (.cells #[(),(),(),(),(),(),(),(),(),(),(),(),(),(),(),()] 194)).setRow w1.heap.size (iA V)=W2 at*
 generalize w1.heap.size=vb at*
 have HT:=MI C1
 go_upto_region 3 with fail
 have U:=MI I
 have C3:=MI hv
 have HB:=MI C2
 have C4:=MI A8
 clear C1 c4 I hv C2 A8
 go_loopw [16] (fun v16 wr=>∃j:Nat,j≤n∧v16= .int .i64 (j:Int)∧wr.heap[vb]? =some (.cells (iA (sW V (ts.take j))) 194 (0,0))∧ag (fun k=>k=vb) W2 wr) (fun v16 _=>n - aC v16)
 case atStart=>exact⟨0,aa,rfl,C3.out,ag.refl _ _⟩
 case round=>
  clear C3
  obtain⟨j,hj,rfl,hv,hk⟩:=hrel
  by_cases C5:j<n
  ·have hR:bP eY 2 (0,0) wr ao n ts:=HT.out.kept hk (fun a ha e=>by have:=D7.out a ha aa;omega)
   obtain⟨a,rfl,c0,c1⟩:=xO hR C5
   have C6:=JM V ts j (by rw[HN.out];exact C5)
   have R:=Dj (ts.take j) V
   generalize ts.getD j (0,0)=tj at*
   obtain⟨ix,x⟩:=tj
   simp only at c0 c1
   generalize sW V (ts.take j)=A at*
   rw[C4.out] at R
   have A9:=MI C6
   have A1:=MI R
   clear C6 hR R
   go_upto_region 5 with fail
   have C7:=L9 wr (.cells #[.int .i64 ix,.int .i64 x] 282)
   have B1:=hk.alloc (.cells #[.int .i64 ix,.int .i64 x] 282)
   have A2:=((ae wr (.cells #[.int .i64 ix,.int .i64 x] 282)).block _ (L8 hv)).trans hv
   clear c0 c1 hk hv
   generalize wr.alloc (.cells #[.int .i64 ix,.int .i64 x] 282)=W3 at*
   generalize wr.heap.size=xb at*
   obtain⟨d0,d1⟩:=bW C7
   clear C7
   by_cases h0:ix<0
   ·have o:Hid (sW V (ts.take (j+1))=A):=by rw[A9.out];unfold Hid Di;rw[if_neg (by simp only;omega)]
    go_wp2_with fail
    refine⟨⟨j+1,aa,aD,by rw[o.out];exact A2,B1⟩,?_⟩
    simp[aC];omega
   ·by_cases D8:16≤ix
    ·have o:Hid (sW V (ts.take (j+1))=A):=by rw[A9.out];unfold Hid Di;rw[if_neg (by simp only;omega)]
     go_wp2_with fail
     refine⟨⟨j+1,aa,aD,by rw[o.out];exact A2,B1⟩,?_⟩
     simp[aC];omega
    ·obtain⟨k,rfl⟩: ∃k:Nat,ix=(k:Int):=⟨ix.toNat,aa⟩
     have D3:k<16:=aa
     have o:Hid (sW V (ts.take (j+1))=A.set k (wrap64 (A.getD k 0+x))):=by
      rw[A9.out];unfold Hid Di;rw[if_pos (by simp only;omega),Int.toNat_natCast]
     have E9:=aH (k:=k) A2 (by rw[A1.out];exact D3)
     have F1:=ay A2 k
     have A0:=MI (bY A2 k (wrap64 (A.getD k 0+x)))
     generalize A.getD k 0=ak at*
     have F2:(k:Int)<16:=aa
     clear A2 A9 h0 D8
     go_upto_region 6 with fail
     go_still_tail 8,af
     try refine wpStill_nil ?_
     change wpList _ _ _ _ _ W3.drew
     go_wp2_with fail
     refine⟨⟨j+1,aa,aD,by rw[o.out];exact A0.out,B1.drew.setCell (p:=⟨vb,k,none⟩) (.inr rfl) _⟩,?_⟩
     simp[aC];omega
  ·obtain rfl:j=n:=aa
   rw[List.take_of_length_le (by rw[HN.out];exact Nat.le_refl _)] at hv
   have R:=Dj ts V
   rw[C4.out] at R
   have C8:=HS.out
   generalize sW V ts=A at*
   have o:=MI C8
   have A1:=MI R
   have I:=hk.heap U.out aa
   have C9:=HB.out.trans (hk.aW HB.out.size (fun i hi e=>aa))
   have D0:(Tryz.prog.info? 194).map (·.size)=some (iA A).size:=by rw[az,R];kernel_rfl
   clear C8 R HS HT U HB hk
   have D1:=MI hv
   have U:=MI I
   have HB:=MI C9
   go_upto_region 9 with(with_reducible refine MC 194 3 ?_;refine wpList_load_row rfl 194 (.tmp 3) rfl _ rfl 194 (iA A) (0,0) _ hv Tryz.underlying194 rfl D0 ?_)
   clear hv I C9 D0
   have D9:=MI (fun k (hk:k<16) w=>gZ (P:=Tryz.prog) 194 2 16 Tryz.underlying194 Tryz.underlying2 af A A1.out k hk w)
   have E0:=MI (fun i (hi:i<16)=>qJ (jU A) A i (by rw[jr,A1.out]) (by rw[jr];exact hi))
   have E1:=MI (fun i=>qK (jU A) A i (by rw[jr,A1.out]))
   have E2:Hid (kL (jU A) A 0=A):=rY _ _
   have E3:Hid (kL (jU A) A 16=jU A):=by have:=qM (jU A) A (by rw[jr,A1.out]);rwa [jr] at this
   have E4:=MI (fun i hi=>EZ A i hi)
   have B2:=MI (jr A)
   have E5:=MI (fun v w=>sK v (-2147483648) 2147483648 w)
   generalize jU A=CA at*
   go_loopw [38] (fun v38 wi=>∃i:Nat,i≤16∧v38= .int .i64 (i:Int)∧wi.heap[vb]? =some (.cells (iA (kL CA A i)) 194 (0,0))∧wi.heap[w.heap.size+1]? =some (.cells #[(),(),(),(),(),(),(),(),(),(),(),(),(),(),(),()] 194 (0,0))∧Below w.heap.size w wi) (fun v38 _=>16 - aC v38)
   case atStart=>exact⟨0,aa,rfl,by rw[E2.out];exact D1.out,U.out,HB.out⟩
   case round=>
    clear D1 U HB
    obtain⟨i,hi,rfl,hv,I,hb⟩:=hrel
    by_cases A3:i<16
    ·have F3:=D9.out i A3
     have D2:=E4.out i A3
     have F4:=aH (k:=i) hv (by rw[E1.out,B2.out];exact A3)
     have F5:=ay hv i
     have A0:=bY hv i (CA.getD i 0)
     rw[E0.out i A3,D2] at A0
     have D4:=MI A0
     have HO:=MI I
     have E6:=MI hb
     generalize A.getD i 0=ai at*
     clear hv I hb A0 D2
     go_wp2_with (go_at_call 141;refine(E5.out _ _).mono ?_;rintro e w5 ⟨rfl,n5,rfl⟩)
     refine⟨⟨i+1,aa,aD,D4.out,(heap_setCell_other _ _ _ _ (by show w.heap.size+1≠vb;omega)).trans HO.out,(below_drewN E6.out n5).setCell (p:=⟨vb,i,none⟩) (by show w.heap.size≤vb;omega) _⟩,?_⟩
     simp[aC];omega
    ·obtain rfl:i=16:=aa
     have E7:wr.heap[vb]? =some (.cells (iA CA) 194 (0,0)):=by rw[←E3.out];exact hv
     have B3:(Tryz.prog.info? 194).map (·.size)=some (iA CA).size:=by rw[az,B2.out];kernel_rfl
     clear hv
     go_wp2_with (first | (with_reducible refine MC 194 3 ?_;refine wpList_load_row rfl 194 (.tmp 3) rfl _ rfl 194 (iA CA) (0,0) _ E7 Tryz.underlying194 rfl B3 ?_) | (with_reducible refine MF 194 2 47 ?_;refine wpList_store_row rfl 194 (.tmp 2) (.tmp 47) rfl _ (iA CA) rfl rfl 194 (#[(),(),(),(),(),(),(),(),(),(),(),(),(),(),(),()]) I B3 (by rw[az CA,B2.out];simp) (bV _) ?_))
     exact bodyPost_ret (results_cell_row (fn:=Tryz.f261) rfl _ _ _ _ _ _ _ rfl (setRow_heap _ _ _ _ _ _ I) Tryz.underlying194 rfl B3) rfl ⟨by rw[o.out],below_setRow hb aa _⟩
end Go.Proofs.YtnicjahcgnhogaaGreatDoor
namespace Go.Proofs.YtnicjahcgnhogaaGreatDoor
open Go Go.RowKit Go.Calli Go.Shelf
attribute [local go_sem] Oper.semAt_some
def Pr(r:Nat):Type:={i:Nat//i<16∧i/2^r%2=0}
def tpZ(r i:Nat):Int:=aJ.getD (2*((3*i+5*r)%8)) 0
def tuZ(r i:Nat):Int:=aJ.getD (2*((3*i+5*r)%8)+1) 0
def Og(r:Nat)(x:Pr r):Array Value:=#[.int .i64 (x.1:Int),.agg #[.int .i64 (tpZ r x.1),.int .i64 (tuZ r x.1)]]
def prs(r m:Nat):List (Pr r):=(List.range m).filterMap (fun i=>if h:i<16∧i/2^r%2=0 then some ⟨i,h⟩ else none)
theorem prs_yes(r m:Nat)(h:m<16∧m/2^r%2=0):prs r (m+1)=prs r m++[⟨m,h⟩]:=by
 unfold prs
 rw[List.range_succ,List.filterMap_append,List.filterMap_cons,List.filterMap_nil,dif_pos h]
theorem prs_no(r m:Nat)(h:¬(m<16∧m/2^r%2=0)):prs r (m+1)=prs r m:=by
 unfold prs
 rw[List.range_succ,List.filterMap_append]
 simp[h]
theorem prs_len(r m:Nat):(prs r m).length≤m:=by
 unfold prs
 have:=List.length_filterMap_le (fun i=>if h:i<16∧i/2^r%2=0 then some (⟨i,h⟩:Pr r) else none) (List.range m)
 rwa [List.length_range] at this
def Kq(a b:Nat)(W W':World):Prop:=∀k,k=a∨k=b→∀o,W.heap[k]? =some o→W'.heap[k]? =some o
theorem Kq.refl(a b:Nat)(W:World):Kq a b W W:=fun _ _ _ h=>h
theorem Kq.trans{a b:Nat}{A B C:World}(h:Kq a b A B)(k:Kq a b B C):Kq a b A C:=fun i hi o ho=>k i hi o (h i hi o ho)
theorem Eo(i r:Nat)(hi:i<16)(hr:r<4)(w:World):Calls Tryz.prog 220 #[.int .i64 (i:Int),.int .i64 (r:Int)] w (fun e w'=>e= .returned (.int .i64 (((3*i+5*r)%8:Nat):Int))∧w'=w):=by
 have h1:IntKind.i64.wrap (3*(i:Int))=3*(i:Int):=IntWalk.i64_in _ aa
 have h2:IntKind.i64.wrap (5*(r:Int))=5*(r:Int):=IntWalk.i64_in _ aa
 have h3:IntKind.i64.wrap (3*(i:Int)+5*(r:Int))=3*(i:Int)+5*(r:Int):=IntWalk.i64_in _ aa
 go_enter Tryz.func220,Tryz.ntmps220
 go_wp2_with fail
 go_ret
 exact⟨bg aa,rfl⟩
theorem and_bit: ∀r,r<4→∀m,m<16→bits .and .i64 ((m:Nat):Int) (2^r)=if m/2^r%2=0 then 0 else 2^r:=aq
theorem IR(n:Nat)(hn:1≤n)(l Rb Nb r:Nat)(hr:r<4)(J Jx:List (Pr r)→World→Prop)
  (hY: ∀pre x W,J pre W→pre.length<16→YieldAt Fence.wide (n - 1) Tryz.prog l (Og r x) W fun e W'=>
   (e= .returned (.bool true)∧J (pre++[x]) W'∧Kq Rb Nb W W')∨(e= .returned (.bool false)∧Jx (pre++[x]) W'))
  (W:World) (A3:W.heap[Rb]? =some (.cells #[.int .i64 (r:Int)] 3 (0,0))) (A4:W.heap[Nb]? =some (.cells (iA aJ) 176 (0,0))) (h0:J [] W):
  CallsIn Fence.wide n Tryz.prog 219 #[.func (.yield l) #[] #[],.pointer (some ⟨Rb,0,none⟩),.pointer (some ⟨Nb,0,none⟩)] W fun e W'=>(∃v,e= .returned v)∧
   ((∃ys,ys=prs r 16∧J ys W')∨(∃pre,True∧Jx pre W')):=by
 refine callsIn_of_wp Tryz.func219 rfl trivial ?_ rfl
 simp only[Tryz.ntmps219,List.size_toArray,List.length_cons,List.length_nil,Nat.reduceAdd,Nat.reduceSub,Array.replicate_succ,Array.replicate_zero,List.push_toArray,List.append_toArray,List.nil_append,List.cons_append]
 gi_wp2
 gi_loopw [5] (fun i wr=>∃k:Nat,k≤16∧i= .int .i64 (k:Int)∧J (prs r k) wr∧Kq Rb Nb W wr) (fun i _=>16 - aC i)
 case atStart=>exact⟨0,Nat.zero_le _,rfl,h0,Kq.refl _ _ _⟩
 case round=>
  obtain⟨k,hk,rfl,j,U⟩:=hrel
  have B0:wr.cell? ⟨Rb,0,none⟩=some (.int .i64 (r:Int)):=(LZ (U Rb (.inl rfl) _ A3)).trans rfl
  have o:=U Nb (.inr rfl) _ A4
  have hm:min r 64=r:=aa
  obtain⟨a1,a2⟩:=vC r aa
  have hw:IntKind.i64.wrap (2^r)=2^r:=IntWalk.i64_in _ aa
  by_cases R:k<16
  ·have hand:=and_bit r hr k R
   have B1:=prs_len r k
   by_cases I:k/2^r%2=0
   ·rw[if_pos I] at hand
    have A0:=prs_yes r k ⟨R,I⟩
    obtain⟨fn,tmps,assign,body,hy,hR⟩:=hY _ ⟨k,R,I⟩ wr j aa
    have B2:(3*k+5*r)%8<8:=Nat.mod_lt _ aq
    have d0:=aH (k:=2*((3*k+5*r)%8)) o (by show _<16;omega)
    have d1:=aH (k:=2*((3*k+5*r)%8)+1) o (by show _<16;omega)
    have A5:=Eo k r R hr wr
    have e0:tpZ r k=aJ.getD (2*((3*k+5*r)%8)) 0:=rfl
    have e1:tuZ r k=aJ.getD (2*((3*k+5*r)%8)+1) 0:=rfl
    rw[←e0] at d0
    rw[←e1] at d1
    simp only[Og] at hy
    clear e0 e1
    generalize tpZ r k=tp at*
    generalize tuZ r k=tu at*
    generalize (3*k+5*r)%8=q at*
    rw[show 2*q+1=q*2+1 by omega] at d1
    rw[show 2*q=q*2 by omega] at d0
    have B3:(q:Int)<8:=aa
    have A6:=MI A0
    clear o A0
    gi_wp2_with (refine⟨trivial,?_⟩;gi_at_call 220;refine(callsIn_wide.2 A5).mono ?_;rintro e w2 ⟨rfl,rfl⟩)
    refine hR.mono ?_
    rintro e W3 (⟨rfl,A7,A8⟩ | ⟨rfl,A2⟩)
    ·gi_wp2
     go_roundw
     case rel=>exact⟨k+1,aa,aD,by rw[A6.out];exact A7,U.trans A8⟩
     case measure=>simp[aC];omega
    ·gi_wp2
     refine bodyPost_ret (results_none rfl _ _ _) rfl ?_
     exact⟨⟨_,rfl⟩,.inr ⟨_,trivial,A2⟩⟩
   ·rw[if_neg I] at hand
    have A1:=prs_no r k (fun h=>I h.2)
    have A9:=MI A1
    have h2:¬((2:Int)^r=0):=aa
    have h3:((2:Int)^r==0)=false:=by simpa using h2
    clear A1
    gi_wp2
    repeat (first | (refine⟨trivial,?_⟩;gi_wp2) | (refine⟨fun _ h=>(by cases h),?_⟩;gi_wp2))
    go_roundw
    case rel=>exact⟨k+1,aa,aD,by rw[A9.out];exact j,U⟩
    case measure=>simp[aC];omega
  ·obtain rfl:k=16:=aa
   gi_wp2
   go_end0
   exact⟨⟨_,rfl⟩,.inl ⟨_,rfl,j⟩⟩
theorem pairs_stops(n:Nat)(hn:1≤n)(Rb Nb r:Nat)(hr:r<4)(w:World)(I:w.heap[Rb]? =some (.cells #[.int .i64 (r:Int)] 3 (0,0)))(R:w.heap[Nb]? =some (.cells (iA aJ) 176 (0,0))):
  SeqStopsK Fence.wide n Tryz.prog 219 #[.pointer (some ⟨Rb,0,none⟩),.pointer (some ⟨Nb,0,none⟩)] (Og r) (Kq Rb Nb) (fun ys=>ys=prs r 16) (fun _=>True) 16 w:=fun l J Jx W hW _ _ hY h0=>
 IR n hn l Rb Nb r hr J Jx hY W ((hW.block _ (L8 I)).trans I) ((hW.block _ (L8 R)).trans R) h0
theorem yf(r:Nat)(w:World):Calls Tryz.prog 195 #[.agg (iA aJ),.int .i64 (r:Int)] w (fun e w'=>e= .returned (.func (.func 219) #[] #[.pointer (some ⟨w.heap.size+1,0,none⟩),.pointer (some ⟨w.heap.size,0,none⟩)])∧w'=(w.alloc (.cells (iA aJ) 176)).alloc (.cells #[.int .i64 (r:Int)] 3)):=by
 have hs:(iA aJ).size=16:=af
 go_enter Tryz.func195,Tryz.ntmps195
 go_wp2_with fail
 go_ret
 exact⟨rfl,rfl⟩
end Go.Proofs.YtnicjahcgnhogaaGreatDoor
namespace Go.Proofs.YtnicjahcgnhogaaGreatDoor
open Go Go.RowKit Go.Calli Go.Shelf
def qH(o:Oper):Bool:=match o.op with | .defer _=>false | _=>true
theorem uponIn_round{F:Fence}{n:Nat}{P:Program}{o:Oper}{a:Act}{K:Act→World→Prop}{Q:Exit→Act→World→Prop}(l:Nat){r:Result Next}(h:o.uponIn F n P a K Q r):o.uponIn (F.inRound l) n P a K Q r:=by
 cases r with
 | ok x w'=>cases x<;>simp only[Oper.uponIn] at h⊢ <;>exact h
 | halt x w'=>cases x<;>simp only[Oper.uponIn] at h⊢ <;>exact h
theorem zM{F:Fence}{n:Nat}{P:Program}{o:Oper}{a:Act}{w:World}{K:Act→World→Prop}{Q:Exit→Act→World→Prop}(l:Nat)(hd:qH o=true)(h:o.wpIn F n P a w K Q):o.wpIn (F.inRound l) n P a w K Q:=by
 have I: ∀c,o.op≠ .defer c:=fun c e=>by unfold qH at hd;rw[e] at hd;cases hd
 unfold Oper.wpIn at*
 rw[Oper.semAt_eq _ _ _ I] at h⊢
 exact⟨h.1,uponIn_round l h.2⟩
theorem Eh{F:Fence}{n:Nat}{P:Program}{ops:Array Oper}{i:Nat}{a:Act}{w:World}{K:Act→World→Prop}{Q:Exit→Act→World→Prop}(l:Nat)(hd:ops.all qH=true)(h:wpOpIn F n P ops Q i K a w):wpOpIn (F.inRound l) n P ops Q i K a w:=by
 unfold wpOpIn at*
 cases ho:ops[i]? with
 | none=>simp only[ho] at h⊢;exact h
 | some o=>
  simp only[ho] at h⊢
  split at h
  ·rename_i hw
   rw[if_pos hw]
   refine zM l ?_ h
   obtain⟨hi,he⟩:=Array.getElem?_eq_some_iff.1 ho
   have:=Array.all_eq_true.1 hd i hi
   rwa [he] at this
  ·rename_i hw
   rw[if_neg hw]
   exact h
theorem tK{F:Fence}{n:Nat}{P:Program}{ops:Array Oper}{md:Region.Mode}{Q:Exit→Act→World→Prop}(l:Nat)(hd:ops.all qH=true): ∀(fuel:Nat)(listed:Array Bool)(a:Act)(w:World),wpAnyIn F n P md ops Q fuel listed a w→wpAnyIn (F.inRound l) n P md ops Q fuel listed a w
 | 0,_,_,_,h=>h
 | fuel+1,listed,a,w,h=>⟨h.1,fun i hi=>Eh l hd (wpOpIn_mono (fun a w h=>tK l hd fuel _ a w h) (h.2 i hi))⟩
theorem qB{F:Fence}{n:Nat}{P:Program}{ops:Array Oper}{Q:Exit→Act→World→Prop}{id:Nat}{a:Act}{w:World}(l:Nat)(hm:P.follows .mixedOrders=true)(hd:ops.all qH=true)
  (h:wpAnyIn F n P .any ops Q ops.size (Array.replicate ops.size false) a w.drew):(Code.region id ops true).wpIn (F.inRound l) n P Q a w:=
 wpIn_region_any hm (tK l hd _ _ _ _ h)
end Go.Proofs.YtnicjahcgnhogaaGreatDoor
namespace Go.Proofs.YtnicjahcgnhogaaGreatDoor
open Go Go.RowKit Go.Calli Go.Shelf
attribute [local go_sem] Oper.semAt_some
theorem iJ{F:Fence}{n:Nat}{P:Program}{ops:Array Oper}{rest:List Oper}{o:Oper}{a:Act}{w:World}{Q:Exit→Act→World→Prop}(I:o.guard=none)(ty:TypeId)(x:Operand)(ho:o.op= .load ty x)
  (g:Nat) (hx:a.eval x= .pointer (some ⟨g,0,none⟩)) (t:TypeId) (cs:Array Value) (fr:Nat×Nat) (d:TypeDesc) (hg:w.heap[g]? =some (.cells cs t fr))
  (hu:P.underlying ty=some d) (hd:(match d with | .struct _ | .array _ _=>true | _=>false)=true) (hi:(P.info? ty).map (·.size)=some cs.size)
  (h:wpListIn F n P ops Q rest (a.put o.dst (.agg cs)) w):wpListIn F n P ops Q (o::rest) a w:=by
 refine wpListIn_plain I fun K J=>?_
 unfold Oper.wpIn
 refine⟨?_,?_⟩
 ·simp[Oper.about,ho]
 ·rw[Oper.semAt_plain F _ _ (by rw[ho];intro c R;cases R)]
  simp only[execOp,ho,hx,Instr.loadAt,Instr.sureAddr,Sem.run_bind,Sem.run_pure,Result.andThen_ok,run_loadVar_row w g t ty cs fr d hg hu hd hi]
  exact J _ _ h
theorem kZ{F:Fence}{n:Nat}{P:Program}{ops:Array Oper}{rest:List Oper}{o:Oper}{a:Act}{w:World}{Q:Exit→Act→World→Prop}(I:o.guard=none)(ty:TypeId)(x y:Operand)(ho:o.op= .store ty x y)
  (g:Nat) (cells:Array Value) (hx:a.eval x= .pointer (some ⟨g,0,none⟩)) (hy:a.eval y= .agg cells)
  (t:TypeId) (old:Array Value) (hg:w.heap[g]? =some (.cells old t (0,0))) (hi:(P.info? ty).map (·.size)=some cells.size)
  (hold:old.size=cells.size) (h1:cells.all (·.oneCell')=true)
  (h:wpListIn F n P ops Q rest (a.put o.dst undef) (w.setRow g cells)):wpListIn F n P ops Q (o::rest) a w:=by
 refine wpListIn_plain I fun K J=>?_
 unfold Oper.wpIn
 refine⟨?_,?_⟩
 ·simp[Oper.about,ho]
 ·rw[Oper.semAt_plain F _ _ (by rw[ho];intro c R;cases R)]
  simp only[execOp,ho,hx,hy,Instr.storeAt,Instr.sureAddr,Sem.run_bind,Sem.run_pure,Result.andThen_ok,run_storeVar_row w g t ty old cells hg hi hold h1]
  exact J _ _ h
theorem tq{α:Type}{F:Fence}{n:Nat}{P:Program}{g:Operand}{ps:Array Tmp}{assign body:Code}{Q:Exit→Act→World→Prop}{a:Act}{w:World}
  (A0:F.round=none) (h1:1≤n) {gf:Nat} {lb:Array Value} (hg:a.eval g= .func (.func gf) #[] lb) (A1:F.fn gf) (eg: ∀args w,(callFunc gf args).run P w= .ok (.enter gf args) w)
  {encs:α→Array Value} {Kp:World→World→Prop} {S Sp:List α→Prop} {N:Nat} {w0:World} (j:SeqStopsK F (n - 1) P gf lb encs Kp S Sp N w0)
  (A2: ∀{A B C:World},Kp A B→Kp B C→Kp A C) (A3: ∀(W:World)(l:Nat)(o o':Obj),w.heap.size≤l→W.heap[l]? =some o→o.isCells=false→o.isWalk=false→Kp W (W.putObj l o')) (A4:Below w0.heap.size w0 w) (A5: ∀x,(encs x).size=ps.size)
  (I:List α→World→Prop) (hI:OwnFrom w.heap.size I) (h0:I [] w) (ty:Nat) (vals:α→Array Value) (slots:Array Value→α→Nat→Array Value)
  (J: ∀(l:Nat)(pre:List α)(x:α)(W:World)(K:Act→World→Prop),I pre W→(∀Bx W',KeepsFrom w.heap.size W W'→Kp W W'→I pre W'→W'.heap[Bx]? =some (.cells (vals x) ty (0,0))→K {tmps:=slots a.tmps x Bx,defers:=[]} W')→
   assign.wpIn (F.inRound l) (n - 1 - 1) P (Exit.then K (fun _ _ _=>False)) {tmps:=(ps.zip (encs x)).foldl (fun t (p,v)=>t.setIfInBounds p v) a.tmps,defers:=[]} W)
  (R: ∀(l:Nat)(pre:List α)(x:α)(Bx:Nat)(W:World),I pre W→W.heap[Bx]? =some (.cells (vals x) ty (0,0))→pre.length<N→body.wpIn (F.inRound l) (n - 1 - 1) P (ownPostG w.heap.size Kp I (fun _ _ _=>False) (pre++[x]) W) {tmps:=slots a.tmps x Bx,defers:=[]} W)
  (U: ∀(D:Nat)(xs:List α)(W:World),w.heap.size≤D→S xs→I xs W→W.heap[D]? =some (.deferred (some []))→Q .normal {a with defers:={target:=.collected D,args:=#[]}::a.defers} W):
  (Code.rangeFunc g ps assign body).wpIn F n P Q a w:=
 wpIn_rangeFunc_ownH A0 h1 hg A1 eg j (fun h k=>A2 h k) A3 A4 A5 I (fun _ _ _=>False) hI (fun _ _ _ _ _ h _ _=>h) h0
  (fun x a' W=>∃Bx,W.heap[Bx]? =some (.cells (vals x) ty (0,0))∧a'={tmps:=slots a.tmps x Bx,defers:=[]})
  (fun x a' s W W' row hs hg hr=>by
   obtain⟨Bx,hc,ha⟩:=hs
   refine⟨Bx,?_,ha⟩
   refine(hg.block Bx (L8 hc) ?_).trans hc
   intro e
   obtain⟨_,o,ho,hn⟩:=hr Bx e.symm
   rw[hc] at ho
   cases ho
   cases hn)
  (fun l pre x W K hi hK=>J l pre x W K hi (fun Bx W' h1 h2 h3 h5=>hK _ W' h1 h2 h3 ⟨Bx,h5,rfl⟩))
  (fun l pre x a' W hl hr hi ⟨Bx,h5,ha⟩ hlen=>by rw[ha];exact R l pre x Bx W hi h5 hlen)
  U (fun D c pre W _ _ h _=>h.elim)
theorem uy{β:Type}(B b T:Nat)(f:β→Array Value):OwnFrom B (fun(s:β) W=>W.heap[b]? =some (.cells (f s) T (0,0))):=fun s W W' row hs hg hr=>by
 refine(hg.block b (L8 hs) ?_).trans hs
 intro e
 obtain⟨_,o,ho,hn⟩:=hr b e.symm
 rw[hs] at ho
 cases ho
 cases hn
def lu(r:Nat)(b:List Int)(x:Pr r):List Int:=
 (b.set x.1 (lW (tpZ r x.1) (tuZ r x.1) (b.getD x.1 0) (b.getD (x.1+2^r) 0)).1).set (x.1+2^r) (lW (tpZ r x.1) (tuZ r x.1) (b.getD x.1 0) (b.getD (x.1+2^r) 0)).2
def dI(r:Nat)(b:List Int)(xs:List (Pr r)):List Int:=xs.foldl (lu r) b
theorem iy(r:Nat)(xs:List (Pr r)): ∀b:List Int,(dI r b xs).length=b.length:=by
 induction xs with
 | nil=>intro b;rfl
 | cons x l ih=>intro b;show(dI r (lu r b x) l).length=_;rw[ih];simp[lu]
theorem uV(r:Nat)(b:List Int)(xs:List (Pr r))(x:Pr r):dI r b (xs++[x])=lu r (dI r b xs) x:=by simp[dI]
theorem or_bit: ∀r,r<4→∀m,m<16→m/2^r%2=0→bits .or .i64 ((m:Nat):Int) (2^r)=((m+2^r:Nat):Int)∧m+2^r<16:=aq
def oH(b:List Int):List Int:=dI 0 (dI 1 (dI 2 (dI 3 b (prs 3 16)) (prs 2 16)) (prs 1 16)) (prs 0 16)
structure Iv(w0 W:World)(bk:List Int)(Rc:Nat)(r:Int):Prop where
 net:W.heap[w0.heap.size]? =some (.cells (iA aJ) 176 (0,0))
 blk:W.heap[w0.heap.size+1]? =some (.cells (iA bk) 194 (0,0))
 out:W.heap[w0.heap.size+2]? =some (.cells #[(),(),(),(),(),(),(),(),(),(),(),(),(),(),(),()] 194 (0,0))
 rnd:W.heap[Rc]? =some (.cells #[.int .i64 r] 3 (0,0))
 low:Below w0.heap.size w0 W
 hrc:w0.heap.size+2<Rc
theorem Iv.below{w0 W W':World}{bk:List Int}{Rc:Nat}{r:Int}(h:Iv w0 W bk Rc r)(hb:Below W.heap.size W W'):Iv w0 W' bk Rc r:=
 ⟨(hb.block _ (L8 h.net)).trans h.net,(hb.block _ (L8 h.blk)).trans h.blk,(hb.block _ (L8 h.out)).trans h.out,(hb.block _ (L8 h.rnd)).trans h.rnd,h.low.trans (hb.mono h.low.size),h.hrc⟩
theorem Nr{α:Type}(w0:World)(B Rc:Nat)(r:Int)(f:α→List Int)(hB:w0.heap.size≤B):OwnFrom B (fun(s:α) W=>Iv w0 W (f s) Rc r):=fun s W W' row hs hg hr=>
 ⟨uy B _ _ (fun _:Unit=>iA aJ) () W W' row hs.net hg hr,uy B _ _ (fun _:Unit=>iA (f s)) () W W' row hs.blk hg hr,uy B _ _ (fun _:Unit=>#[(),(),(),(),(),(),(),(),(),(),(),(),(),(),(),()]) () W W' row hs.out hg hr,uy B _ _ (fun _:Unit=>#[Value.int .i64 r]) () W W' row hs.rnd hg hr,(ownFrom_below (β:=Unit) (n₀:=w0.heap.size) (w₀:=w0) Me hB) () W W' row hs.low hg hr,hs.hrc⟩
theorem BN(a b:Nat)(W:World)(o:Obj):Kq a b W (W.alloc o):=fun k _ u hu=>(Below.heap_alloc W o k (Array.getElem?_eq_some_iff.1 hu).1).trans hu
theorem Nl{a b:Nat}(W:World)(p:Addr)(v:Value)(h1:p.block≠a)(h2:p.block≠b):Kq a b W (W.setCell p v):=fun k hk u hu=>by
 refine(heap_setCell_other W p k v ?_).trans hu
 rcases hk with rfl | rfl
 ·exact fun e=>h1 e.symm
 ·exact fun e=>h2 e.symm
theorem Np{Rb Nb B:Nat}(hR:Rb<B)(hN:Nb<B)(W:World)(l:Nat)(o o':Obj)(hl:B≤l)(h:W.heap[l]? =some o)(_:o.isCells=false)(_:o.isWalk=false):Kq Rb Nb W (W.putObj l o'):=fun k hk u hu=>by
 refine((grownBy_putObj' W l o').block k (Array.getElem?_eq_some_iff.1 hu).1 ?_).trans hu
 intro e
 cases e
 rcases hk with rfl | rfl<;>omega
def jF(r:Nat)(b:List Int)(x:Pr r):List Int:=
 (b.set x.1 (nZ (tpZ r x.1) (tuZ r x.1) (b.getD x.1 0) (b.getD (x.1+2^r) 0)).1).set (x.1+2^r) (nZ (tpZ r x.1) (tuZ r x.1) (b.getD x.1 0) (b.getD (x.1+2^r) 0)).2
def BD(P:World→Prop):Exit→Act→World→Prop
 | .normal,_,W'=>P W'
 | _,_,_=>False
def jd:Code→Option (Code×Code)
 | .rangeFunc _ _ a b=>some (a,b)
 | .loop c=>jd c
 | .seq a b=>match jd a with
  | some c=>some c
  | none=>jd b
 | .block _ c=>jd c
 | .scope c=>jd c
 | .cond _ a b=>match jd a with
  | some c=>some c
  | none=>jd b
 | _=>none
noncomputable def invBody:Code:=((Tryz.f240.body.bind jd).getD (.skip,.skip)).2
noncomputable def fwdBody:Code:=((Tryz.f164.body.bind jd).getD (.skip,.skip)).2
theorem qO{A B:World}(h:Below A.heap.size A B):KeepsOthers A B:=⟨h.size,fun k o hk _=>(h.block k (L8 hk)).trans hk⟩
theorem Gt(w W3 w5:World)(A:List Int)(Rc:Nat)(r:Int)(i k:Nat)(y0 y1:Int)(hi:Iv w W3 A Rc r)(I:Below W3.heap.size W3 w5)(Rb Nb:Nat)(J:w.heap.size+1≠Rb)(R:w.heap.size+1≠Nb):
  KeepsOthers W3 ((w5.setCell ⟨w.heap.size+1,i,none⟩ (.int .i64 y0)).setCell ⟨w.heap.size+1,k,none⟩ (.int .i64 y1))∧Kq Rb Nb W3 ((w5.setCell ⟨w.heap.size+1,i,none⟩ (.int .i64 y0)).setCell ⟨w.heap.size+1,k,none⟩ (.int .i64 y1))∧
  Iv w ((w5.setCell ⟨w.heap.size+1,i,none⟩ (.int .i64 y0)).setCell ⟨w.heap.size+1,k,none⟩ (.int .i64 y1)) ((A.set i y0).set k y1) Rc r:=by
 have h5:=hi.below I
 refine⟨((qO I).trans (.setCell _ _ _)).trans (.setCell _ _ _),Kq.trans (fun k hk o ho=>(I.block k (L8 ho)).trans ho) (Kq.trans (Nl _ _ _ J R) (Nl _ _ _ J R)),?_⟩
 have hs:w.heap.size≤w.heap.size+1:=aa
 have ot: ∀j,j≠w.heap.size+1→((w5.setCell ⟨w.heap.size+1,i,none⟩ (.int .i64 y0)).setCell ⟨w.heap.size+1,k,none⟩ (.int .i64 y1)).heap[j]? =w5.heap[j]? :=fun j hj=>by
  rw[heap_setCell_other _ _ _ _ hj,heap_setCell_other _ _ _ _ hj]
 have hrc:=hi.hrc
 exact⟨(ot _ aa).trans h5.net,bY (bY h5.blk i y0) k y1,(ot _ aa).trans h5.out,(ot _ aa).trans h5.rnd,(h5.low.setCell (p:=⟨w.heap.size+1,i,none⟩) hs _).setCell (p:=⟨w.heap.size+1,k,none⟩) hs _,h5.hrc⟩
theorem Pj(r:Nat)(hr:r<4)(l Rc Rb Nb Bx i n:Nat)(J:i<16)(R:i/2^r%2=0)(w W3:World)(A:List Int)(hA:A.length=16)(hi:Iv w W3 A Rc r)(hc:W3.heap[Bx]? =some (.cells #[.int .i64 (tpZ r i),.int .i64 (tuZ r i)] 171 (0,0)))
  (A7:w.heap.size+1≠Rb) (A8:w.heap.size+1≠Nb) (x0 x1 x2 x4 x8 x9 x10 x11 x12 x13 x14 x15 x16 x17 x18 x19 x20 x21 x22 x23 x24 x25 x26 x27 x28 x29 x30 x31 x32 x33 x34 x35 x36 x37 x38:Value) (P:World→Prop):
  ((∀W',KeepsOthers W3 W'→Kq Rb Nb W3 W'→Iv w W' (lu r A ⟨i,J,R⟩) Rc r→P W')→
  Code.wpIn (Fence.wide.inRound l) n Tryz.prog invBody (BD P) ⟨#[x0,x1,x2,.pointer (some ⟨w.heap.size+1,0,none⟩),x4,.pointer (some ⟨Rc,0,none⟩),.int .i64 (i:Int),.pointer (some ⟨Bx,0,none⟩),x8,x9,x10,x11,x12,x13,x14,x15,x16,x17,x18,x19,x20,x21,x22,x23,x24,x25,x26,x27,x28,x29,x30,x31,x32,x33,x34,x35,x36,x37,x38],[]⟩ W3)∧((∀W',KeepsOthers W3 W'→Kq Rb Nb W3 W'→Iv w W' (jF r A ⟨i,J,R⟩) Rc r→P W')→
  Code.wpIn (Fence.wide.inRound l) n Tryz.prog fwdBody (BD P) ⟨#[x0,x1,x2,.pointer (some ⟨w.heap.size+1,0,none⟩),x4,.pointer (some ⟨Rc,0,none⟩),.int .i64 (i:Int),.pointer (some ⟨Bx,0,none⟩),x8,x9,x10,x11,x12,x13,x14,x15,x16,x17,x18,x19,x20,x21,x22,x23,x24,x25,x26,x27,x28,x29,x30,x31,x32,x33,x34,x35,x36,x37],[]⟩ W3):=by
 obtain⟨B3,B2⟩:=or_bit r hr i J R
 have B4:W3.cell? ⟨Rc,0,none⟩=some (.int .i64 (r:Int)):=(LZ hi.rnd).trans rfl
 have B5:(i:Int)<16:=aa
 have B6:((i+2^r:Nat):Int)<16:=aa
 have hm:min r 64=r:=aa
 obtain⟨a1,a2⟩:=vC r aa
 have hw:IntKind.i64.wrap (2^r)=2^r:=IntWalk.i64_in _ aa
 have U:=hi.blk
 have ci:=aH (k:=i) U aa
 have ck:=aH (k:=i+2^r) U aa
 obtain⟨t0,t1⟩:=bW hc
 refine⟨fun hQ=>?_,fun hQ=>?_⟩
 rotate_right
 focus
  rw[show jF r A ⟨i,J,R⟩=(A.set i (nZ (tpZ r i) (tuZ r i) (A.getD i 0) (A.getD (i+2^r) 0)).1).set (i+2^r) (nZ (tpZ r i) (tuZ r i) (A.getD i 0) (A.getD (i+2^r) 0)).2 from rfl] at hQ
  have A1:=Az
  generalize nZ=Z at*
 rotate_right
 focus
  rw[show lu r A ⟨i,J,R⟩=(A.set i (lW (tpZ r i) (tuZ r i) (A.getD i 0) (A.getD (i+2^r) 0)).1).set (i+2^r) (lW (tpZ r i) (tuZ r i) (A.getD i 0) (A.getD (i+2^r) 0)).2 from rfl] at hQ
  have A1:=wS
  generalize lW=Z at*
 all_goals
  have A4:=MI (fun(y0 y1:Int)(w5:World)(A0:Below W3.heap.size W3 w5)=>Gt w W3 w5 A Rc r i (i+2^r) y0 y1 hi A0 Rb Nb A7 A8)
  generalize tpZ r i=tp at*
  generalize tuZ r i=tu at*
  generalize A9:i+2^r=k at*
  generalize A.getD i 0=ai at*
  generalize A.getD k 0=ak at*
  have HI:=MI hi
  have A5:=MI U
  have A2:=MI (fun w=>A1 tp tu ai ak w)
  unfold Ap at A2
  generalize Z tp tu ai ak=Y at*
  obtain⟨yi,yk⟩:=Y
  simp only at A4 A2 hQ
  have HQ:=MI hQ
  have B0:Tryz.prog.follows .mixedOrders=true:=af
  have A6: ∀j,W3.cell? ⟨j,0,none⟩=some (.int .i64 (r:Int))→j<W3.heap.size:=fun j h=>by
   unfold World.cell? at h
   cases h':W3.heap[j]? with
   | none=>rw[h'] at h;cases h
   | some o=>exact L8 h'
  have A6:=MI A6
  clear A9 hi U hc hQ A1
  conv=>arg 4;whnf
  gi_wp2
  refine qB l B0 af ?_
  refine bh 0 ?_
  refine bh 1 ?_
  refine bh 2 ?_
  refine bh 5 ?_
  refine bh 3 ?_
  refine bh 6 ?_
  refine wpAnyIn_ready (rs:=[4,7,8]) af ar (AllReadyIn.cons rfl (fun K hK=>?_) (AllReadyIn.cons rfl (fun K hK=>?_) (AllReadyIn.cons rfl (fun K hK=>?_) AllReadyIn.nil)))
  all_goals
   go_simp
   refine hK _ _ ?_
   clear hK K
  rotate_right
  focus
   refine wpAnyIn_ready (rs:=[4,7]) af ar (AllReadyIn.cons rfl (fun K hK=>?_) (AllReadyIn.cons rfl (fun K hK=>?_) AllReadyIn.nil))
   all_goals
    go_simp
    refine hK _ _ ?_
    clear hK K
   rotate_right
   focus
    refine bl 4 (fun K hK=>?_)
   rotate_right
   focus
    refine bl 7 (fun K hK=>?_)
  rotate_right
  focus
   refine wpAnyIn_ready (rs:=[4,8]) af ar (AllReadyIn.cons rfl (fun K hK=>?_) (AllReadyIn.cons rfl (fun K hK=>?_) AllReadyIn.nil))
   all_goals
    go_simp
    refine hK _ _ ?_
    clear hK K
   rotate_right
   focus
    refine bl 4 (fun K hK=>?_)
   rotate_right
   focus
    refine bl 8 (fun K hK=>?_)
  rotate_right
  focus
   refine wpAnyIn_ready (rs:=[7,8]) af ar (AllReadyIn.cons rfl (fun K hK=>?_) (AllReadyIn.cons rfl (fun K hK=>?_) AllReadyIn.nil))
   all_goals
    go_simp
    refine hK _ _ ?_
    clear hK K
   rotate_right
   focus
    refine bl 7 (fun K hK=>?_)
   rotate_right
   focus
    refine bl 8 (fun K hK=>?_)
  all_goals
   go_simp
   refine hK _ _ ?_
   clear hK K
   refine bl 9 (fun K hK=>?_)
   go_simp
   refine⟨trivial,fun h=>(by cases h),?_⟩
   refine(callsIn_wide.2 (A2.out _)).mono ?_
   rintro e w5 ⟨rfl,A0⟩
   have A3:Below W3.heap.size W3 w5:=((Below.refl _ W3).drew).trans A0
   clear A0
   have I:=(A3.block (w.heap.size+1) (L8 (w:=W3) A5.out)).trans A5.out
   have fi5:=ay I i
   have fk5:=ay I k
   have ci5:=aH (k:=i) I aa
   have ck5:=aH (k:=k) I aa
   have ck6:=aH (k:=k) (bY I i yi) (by simp;omega)
   have fk6:=ay (bY I i yi) k
   have B1:=MI A3
   clear I A3
   go_simp
   refine hK _ _ ?_
   clear hK K
   refine bh 10 ?_
   refine bh 11 ?_
   refine bh 12 ?_
   refine bh 13 ?_
   refine bl 14 (fun K hK=>?_)
   go_simp
   refine hK _ _ ?_
   clear hK K
   refine bh 15 ?_
   refine bl 16 (fun K hK=>?_)
   go_simp
   refine hK _ _ ?_
   clear hK K
   refine wpAnyIn_done af ?_ _
   obtain⟨k1,k2,k3⟩:=A4.out yi yk w5 B1.out
   exact HQ.out _ k1 k2 k3
end Go.Proofs.YtnicjahcgnhogaaGreatDoor
