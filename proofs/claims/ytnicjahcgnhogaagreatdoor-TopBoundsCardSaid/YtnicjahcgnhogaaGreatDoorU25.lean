/- Part 26 of the walk: contracts of the program's functions, each for every input. No condition. -/
import Derived.Test.YtnicjahcgnhogaaGreatDoorU24
set_option linter.unusedVariables false
set_option linter.unusedSimpArgs false
set_option maxRecDepth 100000
set_option maxHeartbeats 8000000
namespace Go.Proofs.YtnicjahcgnhogaaGreatDoor
open Go Go.RowKit Go.Calli
attribute [local irreducible] wpStill wpAnyH wpAnyS wpList Code.wp
def nOf(bs:List Int):Nat:=bH bs 8 2
def jD(bs:List Int):Nat:=(bs.getD 10 0).toNat
def rowB(bs:List Int)(i:Nat):List Int:=bs.drop (16+64*i)
def fH(bs:List Int)(k:Nat):List Mt:=(List.range k).map (fun i=>fZ (rowB bs i))
def nN(bs:List Int):Bool:=(!((strOfNums (bs.take 4)).data.toList==([67,65,76,49]:List UInt8)))||((!(decide (bH bs 11 4=0)))||(!(decide (bs.getD 15 0=0))))
def jK(bs:List Int):Bool:=decide (jD bs<24)||(decide (96<jD bs)||(decide (64<nOf bs)|| !(decide (bH bs 4 4=bs.length))))
def iG(bs:List Int)(i:Nat):Bool:=(!(okM (rowB bs i)))||(decide (0<i)&& !(Op.bytesLess (fZ (rowB bs (i - 1))).nm.data.toList (fZ (rowB bs i)).nm.data.toList))
def mD(bs:List Int):Bool:=!(decide (gm (bs.take (16+64*nOf bs))=((bH bs (16+64*nOf bs) 4:Nat):Int)))
def fD(bs:List Int):Bool:=(!(decide (upZ (plA (jD bs) (fH bs (nOf bs)) (nOf bs)) 64=bs.length)))|| !(eqL (plL (jD bs) (fH bs (nOf bs)) (nOf bs)) (fH bs (nOf bs)) (nOf bs))
def fF(bs:List Int):Int:=if bs.length<20 then 2 else if nN bs=true then 4 else if jK bs=true then 12 else if bs.length<20+64*nOf bs then 2 else if mD bs=true then 9 else if(List.range (nOf bs)).any (iG bs)=true then 4 else if fD bs=true then 12 else 0
def fK(bs:List Int):Bk:=⟨bs,jD bs,fH bs (nOf bs)⟩
theorem iW(bs:List Int)(k:Nat):(fH bs k).length=k:=by simp[fH]
theorem Jw(bs:List Int)(k:Nat):fH bs (k+1)=fH bs k++[fZ (rowB bs k)]:=by
 unfold fH
 rw[List.range_succ,List.map_append]
 rfl
theorem nz(bs:List Int){i k:Nat}(h:i<k):(fH bs k).getD i m0=fZ (rowB bs i):=by
 unfold fH
 rw[List.getD,List.getElem?_map,List.getElem?_range h]
 rfl
theorem JK{f:Nat→Bool}{n:Nat}(h: ∀i,i<n→f i=false):(List.range n).any f=false:=by
 rw[←Bool.not_eq_true,List.any_eq_true]
 rintro⟨i,hi,hf⟩
 rw[h i (List.mem_range.1 hi)] at hf
 cases hf
theorem OM{f:Nat→Bool}{n i:Nat}(hi:i<n)(h:f i=true):(List.range n).any f=true:=by
 rw[List.any_eq_true]
 exact⟨i,List.mem_range.2 hi,h⟩
theorem yS{bs:List Int}{i:Nat}(h:iG bs i=false):okM (rowB bs i)=true:=by
 unfold iG at h
 simp only[Bool.or_eq_false_iff,Bool.not_eq_false'] at h
 exact h.1
theorem MO{bs:List Int}(h:okM bs=true):(fZ bs).Ok:=by
 unfold okM at h
 simp only[Bool.and_eq_true] at h
 exact Ir h.2.2
theorem LW(size:Nat)(ms:List Mt)(i:Nat):plA size ms i≤plA size ms (i+1):=by
 have h:=(nH (plA size ms i+4*frm (ms.getD i m0)) 16 aq).1
 simp only[plA]
 have:=Nat.zero_le (size*frm (ms.getD i m0))
 omega
theorem IJ(size:Nat)(ms:List Mt){i j:Nat}(h:i≤j):plA size ms i≤plA size ms j:=by
  induction j with
  | zero => obtain rfl : i = 0 := aa
            exact Me
  | succ j ih=>
    rcases Nat.lt_or_ge i (j+1) with h1 | h1
    · exact Nat.le_trans (ih aa) (LW size ms j)
    · obtain rfl:i=j+1:=aa
      exact Me
theorem bank_ok{bs:List Int}(hl:bs.length≤60000)(h1:jK bs=false)(h2: ∀i,i<nOf bs→iG bs i=false)(h3:fD bs=false):(fK bs).Ok:=by
 unfold jK at h1
 simp only[Bool.or_eq_false_iff,decide_eq_false_iff_not,Bool.not_eq_false',decide_eq_true_eq] at h1
 obtain⟨a1,a2,a3,a4⟩:=h1
 unfold fD at h3
 simp only[Bool.or_eq_false_iff,Bool.not_eq_false',decide_eq_true_eq] at h3
 obtain⟨c1,c2⟩:=h3
 have hg: ∀i,i<nOf bs→((fK bs).dir.getD i m0)=fZ (rowB bs i):=fun i hi=>nz bs hi
 have I:(fK bs).dir.length=nOf bs:=iW bs _
 have hp: ∀i,i<nOf bs→(fZ (rowB bs i)).sums=plA (jD bs) (fH bs (nOf bs)) i∧(fZ (rowB bs i)).first=upZ (plA (jD bs) (fH bs (nOf bs)) i+4*frm (fZ (rowB bs i))) 16:=fun i hi=>by
  have h5:=eqM_pos (Oc c2 hi)
  rw[nz bs hi] at h5
  have h6:=F9 (jD bs) (fH bs (nOf bs)) i (by rw[iW];exact hi)
  rw[iW] at h6
  rw[h6] at h5
  have h7:(plM (jD bs) (fH bs (nOf bs)) i).sums=plA (jD bs) (fH bs (nOf bs)) i:=rfl
  have h8:(plM (jD bs) (fH bs (nOf bs)) i).first=upZ (plA (jD bs) (fH bs (nOf bs)) i+4*frm (fZ (rowB bs i))) 16:=by
   show upZ (plA (jD bs) (fH bs (nOf bs)) i+4*frm ((fH bs (nOf bs)).getD i m0)) 16=_
   rw[nz bs hi]
  exact⟨h5.1.symm.trans h7,h5.2.symm.trans h8⟩
 have J: ∀i,i<nOf bs→upZ (plA (jD bs) (fH bs (nOf bs)) i+4*frm (fZ (rowB bs i))) 16+jD bs*frm (fZ (rowB bs i))≤bs.length:=fun i hi=>by
  have h5:plA (jD bs) (fH bs (nOf bs)) (i+1)=upZ (plA (jD bs) (fH bs (nOf bs)) i+4*frm (fZ (rowB bs i))) 16+jD bs*frm (fZ (rowB bs i)):=by
   simp only[plA]
   rw[nz bs hi]
  have h6:=IJ (jD bs) (fH bs (nOf bs)) (show i+1≤nOf bs from hi)
  have h7:=(nH (plA (jD bs) (fH bs (nOf bs)) (nOf bs)) 64 aq).1
  omega
 refine⟨by show 24≤jD bs;omega,by show jD bs≤96;omega,hl,by rw[I];omega,fun i hi=>?_,fun i hi=>?_,fun i hi=>?_⟩
 ·rw[I] at hi
  rw[hg i hi]
  exact MO (yS (h2 i hi))
 ·rw[I] at hi
  rw[hg i hi]
  have h5:=J i hi
  rw[←(hp i hi).2] at h5
  exact h5
 ·rw[I] at hi
  rw[hg i hi]
  have h5:=J i hi
  have h6:=(nH (plA (jD bs) (fH bs (nOf bs)) i+4*frm (fZ (rowB bs i))) 16 aq).1
  rw[(hp i hi).1]
  show _+4*frm (fZ (rowB bs i))≤bs.length
  have:=Nat.zero_le (jD bs*frm (fZ (rowB bs i)))
  omega
theorem wJ(l:List Int)(h: ∀c ∈ l,(Lit.int .u8 c).wf=true):0≤gm l∧gm l<4294967296:=by
 have h1:=LD l h
 unfold gm
 omega
theorem I4{w:World}{B e size n:Nat}{v:Value}{xs:List Value}(h:w.ownsRow B e size v n xs):w.ownsRow 0 e size v n xs:=by
 refine⟨h.1,?_⟩
 rcases h.2 with h1 | ⟨g,cap,cur,h1,h2,h3⟩
 ·exact .inl h1
 ·exact .inr ⟨g,cap,cur,h1,Nat.zero_le _,h3⟩
theorem vF{w:World}{B n:Nat}{v:Value}{ms:List Mt}(h:w.ownsRow B 54 9 v n (ms.flatMap aV))(h0:n≠0): ∃b cap,v= .slice (some ⟨b,0,none⟩) n cap∧B≤b∧PlS w b n ms:=by
 obtain⟨ao,cap,hv,J,I,R⟩:=jG m0 jR aq h
 rcases h.2 with⟨h1,h2⟩ | ⟨g,cap2,cur,h1,hb,hg,_⟩
 ·exact absurd h2 h0
 ·rw[hv] at h1
  cases h1
  refine⟨g,cap,hv,hb,I.hlen,cur,hg,fun j hj k u hu=>?_⟩
  obtain⟨a,ha,hc⟩:=I.cell j hj
  cases ha
  have h5:=hc k u hu
  rw[add0,add0,Nat.zero_add,LZ hg] at h5
  exact h5
theorem wQ(ao:Option Addr)(size cap:Nat)(w:World):Calls Tryz.prog 50 #[.slice ao 0 cap,.int .i64 size] w (fun e w'=>e= .returned (.int .i64 64)∧w=w'):=by
 have HD:=MI (fun w=>nC 0 aq w)
 have hu:upZ 20 64=64:=aq
 have HU:=MI (fun w=>J7 20 64 aq aq aq w)
 rw[hu] at HU
 go_enter Tryz.func50,Tryz.ntmps50
 go_wp2_with (go_at_call 44;refine(HD.out _).mono ?_;rintro e w' ⟨rfl,rfl⟩)
 go_loopw [12,5] (fun v12 v5 wr=>v12= .int .i64 0∧v5= .int .i64 20∧w=wr) (fun _ _ _=>0)
 case atStart=>exact⟨rfl,rfl,rfl⟩
 case round=>
  obtain⟨rfl,rfl,rfl⟩:=hrel
  go_wp2_with (go_at_call 83;refine(HU.out _).mono ?_;rintro e w' ⟨rfl,rfl⟩)
  go_ret
  exact⟨rfl,rfl⟩
def PlcU(size:Nat)(ms:List Mt)(ao:Option Addr)(n B:Nat)(w:World)(e:Ending)(w':World):Prop:=e= .returned (.int .i64 ((upZ (plA size ms n) 64:Nat):Int))∧bP aV 9 m0 w' ao n (plL size ms n)∧ag (fun k=>B≤k) w w'
theorem II(size:Nat)(hs:size≤96)(ms:List Mt)(n:Nat)(hn:n≤64)(I:ms.length=n)(hm: ∀i,i<n→(ms.getD i m0).len≤1048576∧(ms.getD i m0).ch≤2){B:Nat}{v:Value}{w:World}(h:w.ownsRow B 54 9 v n (ms.flatMap aV)): ∃ao cap,v= .slice ao n cap∧(∀a,ao=some a→a.off=0∧a.spot=none)∧Calls Tryz.prog 50 #[.slice ao n cap,.int .i64 size] w (PlcU size ms ao n B w):=by
 by_cases h0:n=0
 ·subst h0
  have R:ms=[]:=List.eq_nil_of_length_eq_zero I
  subst R
  obtain⟨ao,cap,hv,j,U,J⟩:=jG m0 jR aq h
  refine⟨ao,cap,hv,fun a ha=>⟨(J a ha).2.1,(J a ha).2.2.1⟩,(wQ ao size cap w).mono ?_⟩
  rintro e w' ⟨rfl,rfl⟩
  exact⟨by rw[show upZ (plA size [] 0) 64=64 by show upZ 20 64=64;decide];rfl,bP.nil _ _ _ _ _,ag.refl _ _⟩
 ·obtain⟨b,cap,hv,hb,hp⟩:=vF h h0
  refine⟨some ⟨b,0,none⟩,cap,hv,fun a ha=>(by cases ha;exact⟨rfl,rfl⟩),(wR size hs ms n hn I hm b cap w hp).mono ?_⟩
  rintro e w' ⟨rfl,h1,h2⟩
  exact⟨rfl,h1.recs aE,h2.mono fun k _ e=>by rw[e];exact hb⟩
def ParP(bs:List Int)(w:World)(e:Ending)(w':World):Prop:=Below w.heap.size w w'∧((fF bs≠0∧e= .returned (.tuple #[.pointer none,.int .i64 (fF bs)]))∨(fF bs=0∧∃D,e= .returned (.tuple #[.pointer (some ⟨D.bb,0,none⟩),()])∧lJ D w' (fK bs)∧∀k,D.T k→w.heap.size≤k∧k<w'.heap.size))
theorem jX{bs:List Int}{w w':World}{c:Int}(hb:Below w.heap.size w w')(h:fF bs=c)(hc:c≠0){v:Value}(hv:v= .tuple #[.pointer none,.int .i64 c]):ParP bs w (.returned v) w':=⟨hb,.inl ⟨by rw[h];exact hc,by rw[hv,h]⟩⟩
theorem parse_any(ad:Addr)(n cap:Nat)(bs:List Int)(hn:n≤60000)(N6:n≤cap)(w:World)(h:Ints .u8 w (some ad) n bs):Calls Tryz.prog 17 #[.slice (some ad) n cap] w (ParP bs w):=by
 have hlen:=h.hlen
 have G9:=MI (fun w=>nC 0 aq w)
 have HD:=MI (fun k hk w=>nC k hk w)
 have HH:=MI h
 have HL:=MI hlen
 have O0:Hid (Byt bs):=fun z hz=>by have:=bounds_u8 (h.wf z hz);omega
 by_cases O1:n<20
 ·have hE:=MI (fun w' hb v hv=>jX (bs:=bs) (w:=w) (w':=w') (c:=2) hb (by unfold fF;rw[if_pos aa]) aq (v:=v) hv)
  have K0:(n:Int)<20:=aa
  clear h hlen
  go_enter Tryz.func17,Tryz.ntmps17
  go_wp2_with (go_at_call 44;refine(G9.out _).mono ?_;rintro e w' ⟨rfl,rfl⟩)
  go_ret2
  exact hE.out _ MB _ rfl
 have K0:(20:Int)≤(n:Int):=aa
 have C0:=MI (show fF bs=(if nN bs=true then 4 else if jK bs=true then 12 else if bs.length<20+64*nOf bs then 2 else if mD bs=true then 9 else if(List.range (nOf bs)).any (iG bs)=true then 4 else if fD bs=true then 12 else 0) by unfold fF;rw[if_neg aa])
 have C1:=MI (fun at_ k hk K8 w h=>sO (some ad) n cap bs at_ k hk K8 hn w h)
 obtain⟨a10,c10,K1,e10,d10,x10⟩:=h.byte (i:=10) aa
 cases K1
 have K2:IntKind.i64.wrap (c10:Int)=(c10:Int):=IntWalk.i64_in _ aa
 have C2:Hid (jD bs=c10):=by show jD bs=c10;unfold jD;rw[e10.out];rfl
 have HN:Hid (bH bs 8 2=nOf bs):=rfl
 have H0:nOf bs<65536:=by
  have h1:=vg bs h.wf 8 2
  exact h1
 have d10':w.cell? ⟨ad.block,ad.off+10,none⟩=some (.int .u8 c10):=d10
 clear h hlen d10
 go_enter Tryz.func17,Tryz.ntmps17
 go_upto_region 3 with(go_at_call 44;refine(G9.out _).mono ?_;rintro e w' ⟨rfl,rfl⟩)
 have i10:(10:Int)<(n:Int):=aa
 have H2:=MI (fun m=>yH (C1.out 8 2 aq aa (w.drewN m) (HH.out.aj (below_drewN MB m))))
 go_quiet (first | (go_at_call 45;exact Calls.quiet_of_same (H2.out _)))
 go_upto_region 4 with fail
 have HW:=MI (below_drewN (Below.refl w.heap.size w) nq)
 have H3:=HH.out.aj HW.out
 clear H2 d10'
 generalize w.drewN nq=W at*
 rw[HN.out]
 have HI:=MI H3
 obtain⟨N,hN⟩: ∃N,N=nOf bs:=⟨_,rfl⟩
 rw[←hN] at H0⊢
 have J:=MI hN
 clear hN H3 HN
 go_cut [21] (fun v21 wx=>v21= .bool (nN bs)∧W=wx)
 case first=>
  have O2:=yM (P:=Tryz.prog) (HI.out.take (show 4≤n by omega)) 63 5 9 cap rfl rfl rfl
  have hB:nN bs=((!((strOfNums (bs.take 4)).toList==([67,65,76,49]:List UInt8)))||((!(decide (bH bs 11 4=0)))||(!(decide (bs.getD 15 0=0))))):=by rw[ByteArray.toList_eq];rfl
  have A7:=MI (C1.out 11 4 aq aa W HI.out)
  obtain⟨a15,c15,K3,e15,d15,x15⟩:=HI.out.byte (i:=15) aa
  cases K3
  have d15':W.cell? ⟨ad.block,ad.off+15,none⟩=some (.int .u8 c15):=d15
  rw[e15.out] at hB
  have HB:=MI hB
  have i15:(15:Int)<(n:Int):=aa
  clear d15 hB e15
  generalize strOfNums (bs.take 4)=s4 at*
  generalize bH bs 11 4=r11 at*
  generalize nN bs=BH at*
  cases hq:(s4.toList==([67,65,76,49]:List UInt8)) with
  | false=>
   have hR:=MI (show BH=true by rw[HB.out,hq];rfl)
   clear HB
   go_wp2_with (go_at_call 45;refine A7.out.mono ?_;rintro e w' ⟨rfl,rfl⟩)
   go_meet
   exact⟨by rw[hR.out],rfl⟩
  | true=>
   by_cases H4:r11=0
   ·subst H4
    by_cases K9:c15=0
    ·subst K9
     have hR:=MI (show BH=false by rw[HB.out,hq];rfl)
     clear HB
     go_wp2_with (go_at_call 45;refine A7.out.mono ?_;rintro e w' ⟨rfl,rfl⟩)
     go_meet
     exact⟨by rw[hR.out],rfl⟩
    ·have hR:=MI (show BH=true by rw[HB.out,hq,decide_eq_false (show ¬((c15:Nat):Int)=0 by omega)];rfl)
     have E0:((c15:Int) !=0)=true:=by simp;omega
     clear HB
     go_wp2_with (go_at_call 45;refine A7.out.mono ?_;rintro e w' ⟨rfl,rfl⟩)
     go_meet
     exact⟨by rw[hR.out],rfl⟩
   ·have hR:=MI (show BH=true by rw[HB.out,hq,decide_eq_false H4];rfl)
    have E0:((r11:Int) !=0)=true:=by simp;omega
    clear HB
    go_wp2_with (go_at_call 45;refine A7.out.mono ?_;rintro e w' ⟨rfl,rfl⟩)
    go_meet
    exact⟨by rw[hR.out],rfl⟩
 case rest=>
  obtain⟨rfl,rfl⟩:=hcut
  cases C3:nN bs with
  | true=>
   have hE:=MI (fun w' hb v hv=>jX (bs:=bs) (w:=w) (w':=w') (c:=4) hb (by rw[C0.out,if_pos C3]) aq (v:=v) hv)
   clear C3 C0
   go_wp2_with fail
   go_ret2
   exact hE.out _ HW.out _ rfl
  | false=>
   have B1:=MI (show fF bs=(if jK bs=true then 12 else if bs.length<20+64*nOf bs then 2 else if mD bs=true then 9 else if(List.range (nOf bs)).any (iG bs)=true then 4 else if fD bs=true then 12 else 0) by rw[C0.out,if_neg (by rw[C3];decide)])
   clear C3 C0
   go_upto_region 6 with fail
   have O3:Hid (IntKind.i64.wrap (c10:Int)=(c10:Int)):=K2
   go_cut [37] (fun v37 wx=>v37= .bool (jK bs)∧W=wx)
   case first=>
    have B2:=MI (C1.out 4 4 aq aa W HI.out)
    have hB:jK bs=(decide (jD bs<24)||(decide (96<jD bs)||(decide (64<nOf bs)|| !(decide (bH bs 4 4=bs.length))))):=rfl
    rw[C2.out,←J.out,HL.out] at hB
    have HB:=MI hB
    clear hB B1
    generalize bH bs 4 4=r4 at*
    generalize jK bs=BS at*
    by_cases h1:c10<24
    ·have hR:=MI (show BS=true by rw[HB.out,decide_eq_true h1];rfl)
     have O4:(c10:Int)<24:=aa
     clear HB
     go_wp2_with (go_at_call 45;refine B2.out.mono ?_;rintro e w' ⟨rfl,rfl⟩)
     go_meet
     exact⟨by rw[hR.out],rfl⟩
    have g1:(24:Int)≤(c10:Int):=aa
    by_cases h2:96<c10
    ·have hR:=MI (show BS=true by rw[HB.out,decide_eq_false h1,decide_eq_true h2];rfl)
     have O5:(96:Int)<(c10:Int):=aa
     clear HB
     go_wp2_with (go_at_call 45;refine B2.out.mono ?_;rintro e w' ⟨rfl,rfl⟩)
     go_meet
     exact⟨by rw[hR.out],rfl⟩
    have g2:(c10:Int)≤96:=aa
    by_cases h3:64<N
    ·have hR:=MI (show BS=true by rw[HB.out,decide_eq_false h1,decide_eq_false h2,decide_eq_true h3];rfl)
     have O6:(64:Int)<(N:Int):=aa
     clear HB
     go_wp2_with (go_at_call 45;refine B2.out.mono ?_;rintro e w' ⟨rfl,rfl⟩)
     go_meet
     exact⟨by rw[hR.out],rfl⟩
    have g3:(N:Int)≤64:=aa
    by_cases h4:r4=n
    ·subst h4
     have hR:=MI (show BS=false by rw[HB.out,decide_eq_false h1,decide_eq_false h2,decide_eq_false h3,decide_eq_true rfl];rfl)
     clear HB
     go_wp2_with (go_at_call 45;refine B2.out.mono ?_;rintro e w' ⟨rfl,rfl⟩)
     go_meet
     exact⟨by rw[hR.out,decide_eq_false (show ¬(c10:Int)<24 by omega),decide_eq_false (show ¬(96:Int)<(c10:Int) by omega),decide_eq_false (show ¬(64:Int)<(N:Int) by omega)];rfl,rfl⟩
    ·have hR:=MI (show BS=true by rw[HB.out,decide_eq_false h1,decide_eq_false h2,decide_eq_false h3,decide_eq_false h4];rfl)
     have E0:((r4:Int) !=(n:Int))=true:=by simp;omega
     clear HB
     go_wp2_with (go_at_call 45;refine B2.out.mono ?_;rintro e w' ⟨rfl,rfl⟩)
     go_meet
     exact⟨by rw[hR.out],rfl⟩
   case rest=>
    obtain⟨rfl,rfl⟩:=hcut
    cases A3:jK bs with
    | true=>
     have hE:=MI (fun w' hb v hv=>jX (bs:=bs) (w:=w) (w':=w') (c:=12) hb (by rw[B1.out,if_pos A3]) aq (v:=v) hv)
     clear A3 B1
     go_wp2_with fail
     go_ret2
     exact hE.out _ HW.out _ rfl
    | false=>
     have C4:=MI (show fF bs=(if bs.length<20+64*nOf bs then 2 else if mD bs=true then 9 else if(List.range (nOf bs)).any (iG bs)=true then 4 else if fD bs=true then 12 else 0) by rw[B1.out,if_neg (by rw[A3];decide)])
     have L0:=MI A3
     have C5:=A3
     unfold jK at C5
     simp only[Bool.or_eq_false_iff,decide_eq_false_iff_not,Bool.not_eq_false',decide_eq_true_eq] at C5
     rw[C2.out,←J.out] at C5
     have O7:24≤c10:=aa
     have L1:c10≤96:=aa
     have K4:N≤64:=aa
     clear A3 B1 C5 H0
     obtain⟨M4,E1⟩: ∃M4,M4=16+64*N:=⟨_,rfl⟩
     have B3:Hid (∀w,Calls Tryz.prog 44 #[.int .i64 N] w (fun e w'=>e= .returned (.int .i64 ((M4:Int)+4))∧w=w')):=fun w=>by
      have h1:=HD.out N aa w
      rw[show((20+64*N:Nat):Int)=(M4:Int)+4 by omega] at h1
      exact h1
     have E2:Hid (16+64*nOf bs=M4):=by show _=_;rw[←J.out];exact E1.symm
     have N7:M4≤5000:=aa
     have E3:=MI E1
     clear E1
     by_cases O8:n<M4+4
     ·have hE:=MI (fun w' hb v hv=>jX (bs:=bs) (w:=w) (w':=w') (c:=2) hb (by rw[C4.out,HL.out,if_pos (by have:=E2.out;omega)]) aq (v:=v) hv)
      have K5:(n:Int)<(M4:Int)+4:=aa
      clear C4
      go_wp2_with (go_at_call 44;refine(B3.out _).mono ?_;rintro e w' ⟨rfl,rfl⟩)
      go_ret2
      exact hE.out _ HW.out _ rfl
     have K5:(M4:Int)+4≤(n:Int):=aa
     have C6:=MI (show fF bs=(if mD bs=true then 9 else if(List.range (nOf bs)).any (iG bs)=true then 4 else if fD bs=true then 12 else 0) by rw[C4.out,HL.out,if_neg (by have:=E2.out;omega)])
     clear C4
     go_upto_region 10 with(go_at_call 44;refine(B3.out _).mono ?_;rintro e w' ⟨rfl,rfl⟩)
     have C7:=MI (sum_any (some ad) M4 cap (bs.take M4) W (HI.out.take aa))
     have E4:=MI (C1.out M4 4 aq aa W HI.out)
     have A0:mD bs= !(decide (gm (bs.take M4)=((bH bs M4 4:Nat):Int))):=by unfold mD;rw[E2.out]
     obtain⟨cr,E5⟩: ∃cr,cr=gm (bs.take M4):=⟨_,rfl⟩
     have L2:0≤cr∧cr<4294967296:=by
      have h1:=wJ (bs.take M4) (fun c hc=>HI.out.wf c (List.mem_of_mem_take hc))
      rw[E5];exact h1
     rw[←E5] at A0 C7
     clear E5
     have L3:(M4:Int)≤(cap:Int):=aa
     have L4:IntKind.i64.wrap cr=cr:=IntWalk.i64_in _ aa
     generalize bH bs M4 4=rs at*
     cases A4:mD bs with
     | true=>
      have hE:=MI (fun w' hb v hv=>jX (bs:=bs) (w:=w) (w':=w') (c:=9) hb (by rw[C6.out,if_pos A4]) aq (v:=v) hv)
      rw[A4] at A0
      have E0:(cr !=(rs:Int))=true:=by simpa using A0
      clear C6 A0 A4
      go_wp2_with (first
       | (go_at_call 44;refine(B3.out _).mono ?_;rintro e w' ⟨rfl,rfl⟩)
       | (go_at_call 46;refine C7.out.mono ?_;rintro e w' ⟨rfl,rfl⟩)
       | (go_at_call 45;refine E4.out.mono ?_;rintro e w' ⟨rfl,rfl⟩))
      go_ret2
      exact hE.out _ HW.out _ rfl
     | false=>
      have E6:=MI (show fF bs=(if(List.range (nOf bs)).any (iG bs)=true then 4 else if fD bs=true then 12 else 0) by rw[C6.out,if_neg (by rw[A4];decide)])
      rw[A4] at A0
      have heq:cr=(rs:Int):=by simpa using A0
      have E7:(cr !=(rs:Int))=false:=by rw[heq];simp
      clear C6 A0 A4 heq
      go_upto_region 12 with(first
       | (go_at_call 44;refine(B3.out _).mono ?_;rintro e w' ⟨rfl,rfl⟩)
       | (go_at_call 46;refine C7.out.mono ?_;rintro e w' ⟨rfl,rfl⟩)
       | (go_at_call 45;refine E4.out.mono ?_;rintro e w' ⟨rfl,rfl⟩))
      clear C7 E4 B3 L4 E7 L2 L3
      have E8:=MI (clone_any ad n cap bs aa W HI.out)
      unfold ClnP at E8
      go_upto_region 13 with(go_at_call 47;refine E8.out.mono ?_;rintro e w2 ⟨ro,rc,rfl,hrc,C8,H5,E9⟩)
      obtain⟨ra,H6,-⟩:=C8.some aa
      obtain⟨F1,H7,H8⟩:=H5 ra H6
      obtain⟨ib,io,isp⟩:=ra
      simp only at F1 H7 H8
      subst H6
      subst H7
      subst H8
      have F2:=ae w2 (.cells #[.slice (some ⟨ib,0,none⟩) n rc,.int .i64 (c10:Int),.slice none 0 0] 89)
      have H9:=L9 w2 (.cells #[.slice (some ⟨ib,0,none⟩) n rc,.int .i64 (c10:Int),.slice none 0 0] 89)
      have F3:=MI (bD (bD HW.out E9) F2)
      have L5:=MI (C8.aj F2)
      have L6:=MI H9
      have O9:ib<w2.heap.size:=by
       have h1:=C8.under aa ⟨ib,0,none⟩ rfl
       exact h1
      have I0:w.heap.size≤w2.heap.size:=Nat.le_trans HW.out.size E9.size
      have L7:w.heap.size≤ib:=Nat.le_trans HW.out.size F1
      have N8:(w2.alloc (.cells #[.slice (some ⟨ib,0,none⟩) n rc,.int .i64 (c10:Int),.slice none 0 0] 89)).heap.size=w2.heap.size+1:=ar
      clear E9 F2 H9 C8 H5 F1 E8
      go_wp2_with fail
      generalize w2.alloc (.cells #[.slice (some ⟨ib,0,none⟩) n rc,.int .i64 (c10:Int),.slice none 0 0] 89)=W3 at*
      generalize w2.heap.size=xb at*
      go_loopw [81] (fun v81 wr=>∃(j:Nat)(v:Value),j≤N∧v81= .int .i64 (j:Int)∧wr.heap[xb]? =some (.cells #[.slice (some ⟨ib,0,none⟩) n rc,.int .i64 (c10:Int),v] 89 (0,0))∧wr.ownsRow W3.heap.size 54 9 v j ((fH bs j).flatMap aV)∧Hid (ag (fun k=>k=xb) W3 wr)∧Hid (Below w.heap.size w wr)∧Hid (∀i,i<j→iG bs i=false)) (fun v81 _=>N - aC v81)
      case atStart=>exact⟨0,_,aa,rfl,L6.out,World.ownsRow_nil _ _ _ _,ag.refl _ _,F3.out,(fun i hi=>aa)⟩
      case round=>
       obtain⟨j,v,hj,rfl,hx,hO,hK,hB,hP⟩:=hrel
       by_cases M0:j<N
       ·have N9:(j:Int)<(N:Int):=aa
        have P0:(16:Int)+(j:Int)*64≤(n:Int):=by have:=E3.out;omega
        have P1:16+j*64<cap:=by have:=E3.out;omega
        have K6:64≤n - (16+j*64):=by have:=E3.out;omega
        have F4:ad.add (16+j*64)=⟨ad.block,ad.off+(16+j*64),none⟩:=by unfold Addr.add;rw[if_neg aa]
        have I1:Calls Tryz.prog 48 #[.slice (some (ad.add (16+j*64))) (n - (16+j*64)) (cap - (16+j*64))] wr (OZ (rowB bs j) wr):=by
         have h1:=(HH.out.aj hB.out).drop (j:=16+j*64) aa
         rw[F4] at h1⊢
         have h2:=JE ad.block (ad.off+(16+j*64)) (n - (16+j*64)) (cap - (16+j*64)) (bs.drop (16+j*64)) K6 aa aa wr h1
         rw[show bs.drop (16+j*64)=rowB bs j by unfold rowB;congr 1;omega] at h2
         exact h2
        have F5:=MI I1
        unfold OZ at F5
        have HO:=MI hO
        have HX:=MI hx
        have N5:=nM m0
        have P2:W3.heap.size≤wr.heap.size:=hK.out.size
        clear I1 F4 hO hx
        go_upto_region 17 with(first
         | (go_at_call 48;refine F5.out.mono ?_;rintro e w4 ⟨m,rfl,hm,C9⟩;have I2:=MI hm;clear hm;have F6:=L9 w4 (.cells #[.string ⟨#[]⟩,(),(),(),.bool false,(),(),(),()] 54))
         | (with_reducible refine MF 54 8 91 ?_;refine wpList_store_row rfl 54 (.tmp 8) (.tmp 91) rfl w4.heap.size (aF m) rfl rfl 54 _ F6 (nM m) rfl (ja m) ?_))
        have F7:Below wr.heap.size wr (w4.alloc (.cells #[.string ⟨#[]⟩,(),(),(),.bool false,(),(),(),()] 54)):=ji C9 _
        have D0:=Md (aF m) F6
        have B4:Below wr.heap.size wr ((w4.alloc (.cells #[.string ⟨#[]⟩,(),(),(),.bool false,(),(),(),()] 54)).setRow w4.heap.size (aF m)):=below_setRow F7 C9.size _
        have P3:wr.heap.size≤w4.heap.size:=C9.size
        clear F6 F7 C9
        generalize (w4.alloc (.cells #[.string ⟨#[]⟩,(),(),(),.bool false,(),(),(),()] 54)).setRow w4.heap.size (aF m)=W5 at*
        generalize w4.heap.size=mb at*
        have I3:=cZ HX.out B4 (L8 HX.out)
        have F8:=MI I3
        have F9:=MI (aQ HO.out B4)
        have I5:=MI (hK.out.below B4 hK.out.size)
        have D1:=MI (bD hB.out B4)
        have G0:=MI D0
        have B5:=MI (show iG bs j=((!(okM (rowB bs j)))||(decide (0<j)&& !(Op.bytesLess (fZ (rowB bs (j - 1))).nm.toList (fZ (rowB bs j)).nm.toList))) by rw[ByteArray.toList_eq,ByteArray.toList_eq];rfl)
        rw[←I2.out] at B5
        have B7:=MI (fun h=>OM (f:=iG bs) M0 h)
        clear I3 D0 B4 HX HO F5
        cases D2:okM (rowB bs j) with
        | false=>
         have hE:=MI (fun w' hb v hv=>jX (bs:=bs) (w:=w) (w':=w') (c:=4) hb (by rw[E6.out,←J.out,if_pos (B7.out (by rw[B5.out,D2];rfl))]) aq (v:=v) hv)
         clear B5 D2
         go_quiet (fail)
         go_wp2_with fail
         go_ret2
         exact hE.out _ (below_drewN D1.out _) _ rfl
        | true=>
         have U:=MI (show iG bs j=(decide (0<j)&& !(Op.bytesLess (fZ (rowB bs (j - 1))).nm.toList m.nm.toList)) by rw[B5.out,D2];rfl)
         clear B5 D2
         have A8:=dR (ni G0.out)
         go_cut [112] (fun v112 wx=>v112= .bool (iG bs j)∧∃k,wx=W5.drewN k)
         case first=>
          generalize iG bs j=BR at*
          obtain⟨m0',-⟩:=A8
          cases j with
          | zero=>
           have hR:=MI (show BR=false by rw[U.out];rfl)
           clear U
           go_quiet (fail)
           go_wp2_with fail
           go_meet
           exact⟨by rw[hR.out],_,rfl⟩
          | succ j=>
           obtain⟨ao,cap2,hv,P4,G1,G2⟩:=jG m0 jR aq F9.out
           obtain⟨g,hg,G3⟩:=uZ G1 (fun a ha=>⟨(G2 a ha).2.1,(G2 a ha).2.2.1⟩) (i:=j) aa
           rw[nz bs aa] at G3
           obtain⟨n0,-⟩:=dR G3
           obtain⟨-,-,x2⟩:=dG F8.out
           subst hg
           subst hv
           have hR:=MI (show BR= !(Op.bytesLess (fZ (rowB bs j)).nm.toList m.nm.toList) by rw[U.out];simp)
           have P5:(0:Int)<(j:Int)+1:=aa
           have P6:(fH bs (j+1)).length=j+1:=iW bs _
           clear U G3 G1 G2
           generalize (fZ (rowB bs j)).nm=nmj at*
           generalize m.nm=nmm at*
           go_quiet (fail)
           go_wp2_with fail
           go_meet
           exact⟨by rw[hR.out],_,rfl⟩
         case rest=>
          obtain⟨rfl,k5,rfl⟩:=hcut
          cases D3:iG bs j with
          | true=>
           have hE:=MI (fun w' hb v hv=>jX (bs:=bs) (w:=w) (w':=w') (c:=4) hb (by rw[E6.out,←J.out,if_pos (B7.out D3)]) aq (v:=v) hv)
           clear D3 U A8
           go_wp2_with fail
           go_ret2
           exact hE.out _ (below_drewN D1.out _) _ rfl
          | false=>
           have M1:=MI D3
           clear D3 U A8 B7
           go_upto_region 19 with fail
           have I6:(W5.drewN k5).ownsRow W3.heap.size 54 9 v j ((fH bs j).flatMap aV):=aQ F9.out (below_drewN MB _)
           have I7:(W5.drewN k5).heap[mb]? =some (.cells (aF m) 54 (0,0)):=G0.out
           have I8:(W5.drewN k5).heap[xb]? =some (.cells #[.slice (some ⟨ib,0,none⟩) n rc,.int .i64 (c10:Int),v] 89 (0,0)):=F8.out
           have I9:=MI (I5.out.drewN k5)
           have M3:=MI (below_drewN D1.out k5)
           clear F9 G0 F8 I5 D1
           generalize W5.drewN k5=V5 at*
           have D4:V5.drew.ownsRow W3.heap.size 54 9 v j ((fH bs j).flatMap aV):=I6
           have J0:V5.drew.heap[mb]? =some (.cells (aF m) 54 (0,0)):=I7
           have D5:V5.drew.heap[xb]? =some (.cells #[.slice (some ⟨ib,0,none⟩) n rc,.int .i64 (c10:Int),v] 89 (0,0)):=I8
           obtain⟨v',w7,G4,G5,G6,P7⟩:=fV (P:=Tryz.prog) V5.drew 87 87 54 9 Tryz.underlying87 Nz rfl aq W3.heap.size v j _ D4 (aV m) rfl (yt [m] |> fun h u hu=>h u (by simpa using hu)) aa aE (Nat.le_trans I9.out.size Me)
           obtain⟨so,sc,rfl⟩:=dh G5
           obtain⟨a0,a1,a2,a3,a4,a5,a6,a7,a8⟩:=dR (ni J0)
           obtain⟨-,-,x2⟩:=dG D5
           have x2':=cO (o:=.cells #[.string m.nm,.int .i64 m.len,.int .i64 m.rate,.int .i64 m.ch,.bool m.loop,.int .i64 m.ls,.int .i64 m.le,.int .i64 m.sums,.int .i64 m.first] 54) x2
           have x2'':(V5.alloc (.cells #[.string m.nm,.int .i64 m.len,.int .i64 m.rate,.int .i64 m.ch,.bool m.loop,.int .i64 m.ls,.int .i64 m.le,.int .i64 m.sums,.int .i64 m.first] 54)).drew.cell? ⟨xb,2,none⟩=some v:=cO (w:=V5) x2
           have B6:w7.heap[xb]? =some (.cells #[.slice (some ⟨ib,0,none⟩) n rc,.int .i64 (c10:Int),v] 89 (0,0)):=G6.heap D5 (fun e=>by
            obtain⟨cs,G7⟩:=ah D4 e
            exact aI D5 G7 aq rfl)
           obtain⟨-,-,y2⟩:=dG B6
           have z2:=frozen_of_row _ _ 2 _ _ B6
           have M5:Hid (∀u,ag (fun k=>k=xb) W3 (w7.setCell ⟨xb,2,none⟩ u)):=fun u=>(I9.out.drew.andThen G6 (fun i hi e=>by have:=(D4.lt i e).1;omega)).setCell (p:=⟨xb,2,none⟩) (.inr rfl) u
           have M6:Hid (∀u,Below w.heap.size w (w7.setCell ⟨xb,2,none⟩ u)):=fun u=>(((ag.au (S:=fun _=>False) M3.out.drew Me).andThen G6 (fun i hi e=>by have:=(D4.lt i e).1;have:=F3.out.size;omega)).aW Me (fun _ _ e=>e)).setCell (p:=⟨xb,2,none⟩) I0 u
           have M7:Hid (∀u,(w7.setCell ⟨xb,2,none⟩ u).heap[xb]? =some (.cells #[.slice (some ⟨ib,0,none⟩) n rc,.int .i64 (c10:Int),u] 89 (0,0))):=fun u=>(Mc B6).trans rfl
           have M8:Hid (∀u,(w7.setCell ⟨xb,2,none⟩ u).ownsRow W3.heap.size 54 9 (.slice so (j+1) sc) (j+1) ((fH bs (j+1)).flatMap aV)):=fun u=>by
            rw[Jw,←I2.out,List.flatMap_append]
            have h1:=aB G5 (aA w7 xb 2 u) (fun k e hs=>by
             obtain⟨cs,G7⟩:=ah G5 e
             subst hs
             exact aI B6 G7 aq rfl)
            simpa using h1
           have M9:Hid (∀i,i<j+1→iG bs i=false):=fun i hi=>by
            rcases Nat.lt_or_ge i j with h1 | h1
            ·exact hP.out i h1
            ·obtain rfl:i=j:=aa
             exact M1.out
           simp only[aV] at G4
           clear J0 D5 I7 I8 I6 B6
           go_region_law (refine iQ rfl (.tmp 117) (.tmp 119) 87 87 rfl rfl rfl G4 ?_)
           all_goals go_wp2_with fail
           all_goals refine⟨⟨j+1,_,aa,aD,M7.out _,M8.out _,M5.out _,M6.out _,M9.out⟩,?_⟩
           all_goals (simp[aC];omega)
       ·obtain rfl:j=N:=aa
        have P8:¬(j:Int)<(j:Int):=aa
        have J1:wr.ownsRow 0 54 9 v (fH bs j).length ((fH bs j).flatMap aV):=by rw[iW];exact I4 hO
        have J2:=MI (EY v (fH bs j) (by rw[iW];omega) wr J1)
        unfold ClmP at J2
        obtain⟨-,-,x2⟩:=dG hx
        have HO:=MI hO
        have HX:=MI hx
        have B8:=JK hP.out
        rw[J.out] at B8
        have A5:=MI (show fF bs=(if fD bs=true then 12 else 0) by rw[E6.out,if_neg (by rw[B8];decide)])
        clear hO hx J1 B8
        go_upto_region 22 with(go_at_call 49;refine J2.out.mono ?_;rintro e w8 ⟨v2,rfl,G8,J3⟩)
        rw[iW] at G8
        have D6: ∀i,i<j→((fH bs j).getD i m0).len≤1048576∧((fH bs j).getD i m0).ch≤2:=fun i hi=>by
         rw[nz bs hi]
         have h1:=MO (yS (hP.out i hi))
         exact⟨h1.l1,h1.c1⟩
        obtain⟨ao2,cap2,rfl,N0,J4⟩:=II c10 L1 (fH bs j) j K4 (iW _ _) D6 G8
        obtain⟨ao1,cap1,N1,K7,A9,A1⟩:=jG m0 jR aq HO.out
        subst N1
        have D7:Hid (∀w9,ag (fun k=>wr.heap.size≤k) w8 w9→ag (fun _=>False) wr w9):=fun w9 h9=>(ag.au J3 Me).andThen h9 (fun i hi e=>aa)
        have J5:Hid (∀w9,ag (fun k=>wr.heap.size≤k) w8 w9→bP aV 9 m0 w9 ao2 j (plL c10 (fH bs j) j)→Calls Tryz.prog 51 #[.slice ao2 j cap2,.slice ao1 j cap1] w9 (fun e w'=>e= .returned (.bool (eqL (plL c10 (fH bs j) j) (fH bs j) j))∧Below w9.heap.size w9 w')):=fun w9 h9 hr=>Jt ao2 ao1 j cap2 cap1 aa _ _ w9 hr (A9.kept (D7.out w9 h9) (fun _ _ e=>e)) N0 (fun a ha=>⟨(A1 a ha).2.1,(A1 a ha).2.2.1⟩)
        have J6:Hid (∀w9,ag (fun k=>wr.heap.size≤k) w8 w9→w9.cell? ⟨xb,2,none⟩=some (.slice ao1 j cap1)):=fun w9 h9=>(D7.out w9 h9).cell x2 (fun e=>e)
        have B0:Hid (∀w9,ag (fun k=>wr.heap.size≤k) w8 w9→Below w.heap.size w w9∧(fF bs=0→fD bs=false→lJ ⟨xb,ib,rc,ao1,cap1⟩ w9 (fK bs))):=fun w9 h9=>by
         have h1:=D7.out w9 h9
         have N2:Below w.heap.size w w9:=((ag.au (S:=fun _=>False) hB.out Me).andThen h1 (fun _ _ e=>e)).aW Me (fun _ _ e=>e)
         refine⟨N2,fun _ R=>⟨?_,?_,?_,?_,?_,fun a ha=>⟨(A1 a ha).2.1,(A1 a ha).2.2.1⟩,?_⟩⟩
         ·rw[show(fK bs).img.length=n from HL.out,show(fK bs).size=c10 from C2.out,show(fK bs).dir.length=j by rw[J.out];exact iW bs _]
          exact h1.heap HX.out (fun e=>e)
         ·show Ints .u8 w9 (some ⟨ib,0,none⟩) bs.length bs
          rw[HL.out]
          exact(L5.out.kept hK.out (fun a ha e=>by cases ha;exact absurd (show ib=xb from e) aa)).kept h1 (fun _ _ e=>e)
         ·show bs.length≤rc
          rw[HL.out]
          exact hrc
         ·show bP aV 9 m0 w9 ao1 (fH bs (nOf bs)).length (fH bs (nOf bs))
          rw[iW,←J.out]
          exact A9.kept h1 (fun _ _ e=>e)
         ·show(fH bs (nOf bs)).length≤cap1
          rw[iW,←J.out]
          exact K7
         ·exact bank_ok (by rw[HL.out];exact hn) L0.out (fun i hi=>hP.out i (by rw[J.out];exact hi)) R
        have J7:Hid (∀k,Bd.T ⟨xb,ib,rc,ao1,cap1⟩ k→w.heap.size≤k∧k<wr.heap.size):=fun k hk=>by
         rcases hk with h | h | ⟨a,ha,h⟩
         ·rw[h];exact⟨I0,L8 HX.out⟩
         ·rw[h];exact⟨L7,by have:=L8 HX.out;show ib<_;omega⟩
         ·have h1:=A1 a ha
          have h2:=F3.out.size
          have h3:=(HO.out.lt a.block h1.2.2.2).2
          rw[h]
          exact⟨Nat.le_trans h2 h1.1,h3⟩
        have D8:=MI J4
        unfold PlcU at D8
        have J8:fD bs=((!(decide (upZ (plA c10 (fH bs j) j) 64=n)))|| !(eqL (plL c10 (fH bs j) j) (fH bs j) j)):=by
         unfold fD
         rw[C2.out,←J.out,HL.out]
        have A6:=MI J8
        clear J4 J8 D6 G8 HO HX J3 A9 x2 hP hK
        generalize upZ (plA c10 (fH bs j) j) 64=TOT at*
        generalize eqL (plL c10 (fH bs j) j) (fH bs j) j=EQ at*
        by_cases hT:TOT=n
        ·subst hT
         have E7:((TOT:Int) !=(TOT:Int))=false:=ar
         have P9:¬(4194304:Int)<(TOT:Int):=aa
         cases EQ with
         | true=>
          have R:fD bs=false:=by rw[A6.out,decide_eq_true rfl];rfl
          have J9:Hid (fF bs=0):=by show _=_;rw[A5.out,if_neg (by rw[R];decide)]
          have N3:=MI R
          clear R A6 A5
          go_wp2_with (first
           | (go_at_call 50;refine D8.out.mono ?_;rintro e w9 ⟨rfl,D9,I⟩;have N4:=J6.out w9 I)
           | (go_at_call 51;refine(J5.out w9 I D9).mono ?_;rintro e w10 ⟨rfl,B9⟩))
          go_ret2
          have A2:=I.andThen (ag.au B9 Me) (S':=fun _=>False) (fun _ _ e=>e.elim)
          exact⟨(B0.out _ A2).1,.inr ⟨J9.out,⟨xb,ib,rc,ao1,cap1⟩,rfl,(B0.out _ A2).2 J9.out N3.out,fun k hk=>⟨(J7.out k hk).1,Nat.lt_of_lt_of_le (J7.out k hk).2 (D7.out _ A2).size⟩⟩⟩
         | false=>
          have R:fD bs=true:=by rw[A6.out,decide_eq_true rfl];rfl
          have hE:=MI (fun w' hb v hv=>jX (bs:=bs) (w:=w) (w':=w') (c:=12) hb (by rw[A5.out,if_pos R]) aq (v:=v) hv)
          clear R A6 A5
          go_wp2_with (first
           | (go_at_call 50;refine D8.out.mono ?_;rintro e w9 ⟨rfl,D9,I⟩;have N4:=J6.out w9 I)
           | (go_at_call 51;refine(J5.out w9 I D9).mono ?_;rintro e w10 ⟨rfl,B9⟩))
          go_ret2
          have A2:=I.andThen (ag.au B9 Me) (S':=fun _=>False) (fun _ _ e=>e.elim)
          exact hE.out _ (B0.out _ A2).1 _ rfl
        ·have E7:((TOT:Int) !=(n:Int))=true:=by simp;omega
         have R:fD bs=true:=by rw[A6.out,decide_eq_false hT];rfl
         have hE:=MI (fun w' hb v hv=>jX (bs:=bs) (w:=w) (w':=w') (c:=12) hb (by rw[A5.out,if_pos R]) aq (v:=v) hv)
         clear R A6 A5
         go_wp2_with (go_at_call 50;refine D8.out.mono ?_;rintro e w9 ⟨rfl,D9,I⟩)
         go_ret2
         exact hE.out _ (B0.out _ I).1 _ rfl
end Go.Proofs.YtnicjahcgnhogaaGreatDoor
