/- Part 28 of the walk: contracts of the program's functions, each for every input. No condition. -/
import Derived.Test.YtnicjahcgnhogaaGreatDoorQ26
set_option linter.unusedVariables false
set_option linter.unusedSimpArgs false
set_option maxRecDepth 100000
set_option maxHeartbeats 8000000
namespace Go.Proofs.YtnicjahcgnhogaaGreatDoor
open Go Go.RowKit Go.Calli
attribute [local irreducible] wpStill wpAnyH wpAnyS wpList Code.wp
def nOf(bs:List Int):Nat:=aZ bs 8 2
def jk(bs:List Int):Nat:=(bs.getD 10 0).toNat
def rowB(bs:List Int)(i:Nat):List Int:=bs.drop (16+64*i)
def eY(bs:List Int)(k:Nat):List Mt:=(List.range k).map (fun i=>fF (rowB bs i))
def mG(bs:List Int):Bool:=(!((strOfNums (bs.take 4)).data.toList==([67,65,76,49]:List UInt8)))||((!(decide (aZ bs 11 4=0)))||(!(decide (bs.getD 15 0=0))))
def jv(bs:List Int):Bool:=decide (jk bs<24)||(decide (96<jk bs)||(decide (64<nOf bs)|| !(decide (aZ bs 4 4=bs.length))))
def gY(bs:List Int)(i:Nat):Bool:=(!(okM (rowB bs i)))||(decide (0<i)&& !(Op.bytesLess (fF (rowB bs (i - 1))).nm.data.toList (fF (rowB bs i)).nm.data.toList))
def lC(bs:List Int):Bool:=!(decide (fH (bs.take (16+64*nOf bs))=((aZ bs (16+64*nOf bs) 4:Nat):Int)))
def eU(bs:List Int):Bool:=(!(decide (upZ (plA (jk bs) (eY bs (nOf bs)) (nOf bs)) 64=bs.length)))|| !(eqL (plL (jk bs) (eY bs (nOf bs)) (nOf bs)) (eY bs (nOf bs)) (nOf bs))
def dO(bs:List Int):Int:=if bs.length<20 then 2 else if mG bs=true then 4 else if jv bs=true then 12 else if bs.length<20+64*nOf bs then 2 else if lC bs=true then 9 else if(List.range (nOf bs)).any (gY bs)=true then 4 else if eU bs=true then 12 else 0
def iK(bs:List Int):Bk:=⟨bs,jk bs,eY bs (nOf bs)⟩
theorem iJ(bs:List Int)(k:Nat):(eY bs k).length=k:=by simp[eY]
theorem G6(bs:List Int)(k:Nat):eY bs (k+1)=eY bs k++[fF (rowB bs k)]:=by
 unfold eY
 rw[List.range_succ,List.map_append]
 rfl
theorem lV(bs:List Int){i k:Nat}(h:i<k):(eY bs k).getD i m0=fF (rowB bs i):=by
 unfold eY
 rw[List.getD,List.getElem?_map,List.getElem?_range h]
 rfl
theorem Hr{f:Nat→Bool}{n:Nat}(h: ∀i,i<n→f i=false):(List.range n).any f=false:=by
 rw[←Bool.not_eq_true,List.any_eq_true]
 rintro⟨i,hi,hf⟩
 rw[h i (List.mem_range.1 hi)] at hf
 cases hf
theorem Le{f:Nat→Bool}{n i:Nat}(hi:i<n)(h:f i=true):(List.range n).any f=true:=by
 rw[List.any_eq_true]
 exact⟨i,List.mem_range.2 hi,h⟩
theorem xJ{bs:List Int}{i:Nat}(h:gY bs i=false):okM (rowB bs i)=true:=by
 unfold gY at h
 simp only[Bool.or_eq_false_iff,Bool.not_eq_false'] at h
 exact h.1
theorem Jv{bs:List Int}(h:okM bs=true):(fF bs).Ok:=by
 unfold okM at h
 simp only[Bool.and_eq_true] at h
 exact FM h.2.2
theorem Jo(size:Nat)(ms:List Mt)(i:Nat):plA size ms i≤plA size ms (i+1):=by
 have h:=(sV (plA size ms i+4*frm (ms.getD i m0)) 16 (by decide)).1
 simp only[plA]
 have:=Nat.zero_le (size*frm (ms.getD i m0))
 omega
theorem F9(size:Nat)(ms:List Mt){i j:Nat}(h:i≤j):plA size ms i≤plA size ms j:=by
  induction j with
  | zero => obtain rfl : i = 0 := by omega
            exact Me
  | succ j ih=>
    rcases Nat.lt_or_ge i (j+1) with h1 | h1
    · exact Nat.le_trans (ih (by omega)) (Jo size ms j)
    · obtain rfl:i=j+1:=by omega
      exact Me
theorem bank_ok{bs:List Int}(hl:bs.length≤60000)(h1:jv bs=false)(h2: ∀i,i<nOf bs→gY bs i=false)(h3:eU bs=false):(iK bs).Ok:=by
 unfold jv at h1
 simp only[Bool.or_eq_false_iff,decide_eq_false_iff_not,Bool.not_eq_false',decide_eq_true_eq] at h1
 obtain⟨a1,a2,a3,a4⟩:=h1
 unfold eU at h3
 simp only[Bool.or_eq_false_iff,Bool.not_eq_false',decide_eq_true_eq] at h3
 obtain⟨c1,c2⟩:=h3
 have hg: ∀i,i<nOf bs→((iK bs).dir.getD i m0)=fF (rowB bs i):=fun i hi=>lV bs hi
 have hdl:(iK bs).dir.length=nOf bs:=iJ bs _
 have hp: ∀i,i<nOf bs→(fF (rowB bs i)).sums=plA (jk bs) (eY bs (nOf bs)) i∧(fF (rowB bs i)).first=upZ (plA (jk bs) (eY bs (nOf bs)) i+4*frm (fF (rowB bs i))) 16:=fun i hi=>by
  have h5:=eqM_pos (KA c2 hi)
  rw[lV bs hi] at h5
  have h6:=plL_get (jk bs) (eY bs (nOf bs)) i (by rw[iJ];exact hi)
  rw[iJ] at h6
  rw[h6] at h5
  have h7:(plM (jk bs) (eY bs (nOf bs)) i).sums=plA (jk bs) (eY bs (nOf bs)) i:=rfl
  have h8:(plM (jk bs) (eY bs (nOf bs)) i).first=upZ (plA (jk bs) (eY bs (nOf bs)) i+4*frm (fF (rowB bs i))) 16:=by
   show upZ (plA (jk bs) (eY bs (nOf bs)) i+4*frm ((eY bs (nOf bs)).getD i m0)) 16=_
   rw[lV bs hi]
  exact⟨h5.1.symm.trans h7,h5.2.symm.trans h8⟩
 have hend: ∀i,i<nOf bs→upZ (plA (jk bs) (eY bs (nOf bs)) i+4*frm (fF (rowB bs i))) 16+jk bs*frm (fF (rowB bs i))≤bs.length:=fun i hi=>by
  have h5:plA (jk bs) (eY bs (nOf bs)) (i+1)=upZ (plA (jk bs) (eY bs (nOf bs)) i+4*frm (fF (rowB bs i))) 16+jk bs*frm (fF (rowB bs i)):=by
   simp only[plA]
   rw[lV bs hi]
  have h6:=F9 (jk bs) (eY bs (nOf bs)) (show i+1≤nOf bs from hi)
  have h7:=(sV (plA (jk bs) (eY bs (nOf bs)) (nOf bs)) 64 (by decide)).1
  omega
 refine⟨by show 24≤jk bs;omega,by show jk bs≤96;omega,hl,by rw[hdl];omega,fun i hi=>?_,fun i hi=>?_,fun i hi=>?_⟩
 ·rw[hdl] at hi
  rw[hg i hi]
  exact Jv (xJ (h2 i hi))
 ·rw[hdl] at hi
  rw[hg i hi]
  have h5:=hend i hi
  rw[←(hp i hi).2] at h5
  exact h5
 ·rw[hdl] at hi
  rw[hg i hi]
  have h5:=hend i hi
  have h6:=(sV (plA (jk bs) (eY bs (nOf bs)) i+4*frm (fF (rowB bs i))) 16 (by decide)).1
  rw[(hp i hi).1]
  show _+4*frm (fF (rowB bs i))≤bs.length
  have:=Nat.zero_le (jk bs*frm (fF (rowB bs i)))
  omega
theorem uY(l:List Int)(h: ∀c ∈ l,(Lit.int .u8 c).wf=true):0≤fH l∧fH l<4294967296:=by
 have h1:=Jf l h
 unfold fH
 omega
theorem Gp{w:World}{B e size n:Nat}{v:Value}{xs:List Value}(h:w.ownsRow B e size v n xs):w.ownsRow 0 e size v n xs:=by
 refine⟨h.1,?_⟩
 rcases h.2 with h1 | ⟨g,cap,cur,h1,h2,h3⟩
 ·exact .inl h1
 ·exact .inr ⟨g,cap,cur,h1,Nat.zero_le _,h3⟩
theorem ul{w:World}{B n:Nat}{v:Value}{ms:List Mt}(h:w.ownsRow B 54 9 v n (ms.flatMap aP))(h0:n≠0): ∃b cap,v= .slice (some ⟨b,0,none⟩) n cap∧B≤b∧PlS w b n ms:=by
 obtain⟨ao,cap,hv,hnc,hrec,hao⟩:=jO m0 jB (by decide) h
 rcases h.2 with⟨h1,h2⟩ | ⟨g,cap2,cur,h1,hb,hg,_⟩
 ·exact absurd h2 h0
 ·rw[hv] at h1
  cases h1
  refine⟨g,cap,hv,hb,hrec.hlen,cur,hg,fun j hj k u hu=>?_⟩
  obtain⟨a,ha,hc⟩:=hrec.cell j hj
  cases ha
  have h5:=hc k u hu
  rw[add0,add0,Nat.zero_add,LZ hg] at h5
  exact h5
theorem DR(ao:Option Addr)(size cap:Nat)(w:World):Calls Tryz.prog 50 #[.slice ao 0 cap,.int .i64 size] w (fun e w'=>e= .returned (.int .i64 64)∧w=w'):=by
 have HD:=MI (fun w=>lW 0 (by decide) w)
 have hu:upZ 20 64=64:=by decide
 have HU:=MI (fun w=>Ii 20 64 (by decide) (by decide) (by decide) w)
 rw[hu] at HU
 go_enter Tryz.func50,Tryz.ntmps50
 go_wp2_with (go_at_call 44;refine(HD.out _).mono ?_;rintro e w' ⟨rfl,rfl⟩)
 go_loopw [12,5] (fun v12 v5 wr=>v12= .int .i64 0∧v5= .int .i64 20∧w=wr) (fun _ _ _=>0)
 case atStart=>exact⟨rfl,rfl,rfl⟩
 case round=>
  obtain⟨rfl,rfl,rfl⟩:=hrel
  go_wp2_with (go_at_call 83;refine(HU.out _).mono ?_;rintro e w' ⟨rfl,rfl⟩)
  go_ret
  exact⟨rfl,rfl⟩
def PlcU(size:Nat)(ms:List Mt)(ao:Option Addr)(n B:Nat)(w:World)(e:Ending)(w':World):Prop:=e= .returned (.int .i64 ((upZ (plA size ms n) 64:Nat):Int))∧bH aP 9 m0 w' ao n (plL size ms n)∧af (fun k=>B≤k) w w'
theorem F7(size:Nat)(hs:size≤96)(ms:List Mt)(n:Nat)(hn:n≤64)(hln:ms.length=n)(hm: ∀i,i<n→(ms.getD i m0).len≤1048576∧(ms.getD i m0).ch≤2){B:Nat}{v:Value}{w:World}(h:w.ownsRow B 54 9 v n (ms.flatMap aP)): ∃ao cap,v= .slice ao n cap∧(∀a,ao=some a→a.off=0∧a.spot=none)∧Calls Tryz.prog 50 #[.slice ao n cap,.int .i64 size] w (PlcU size ms ao n B w):=by
 by_cases h0:n=0
 ·subst h0
  have hms:ms=[]:=List.eq_nil_of_length_eq_zero hln
  subst hms
  obtain⟨ao,cap,hv,hnc,hrec,hao⟩:=jO m0 jB (by decide) h
  refine⟨ao,cap,hv,fun a ha=>⟨(hao a ha).2.1,(hao a ha).2.2.1⟩,(DR ao size cap w).mono ?_⟩
  rintro e w' ⟨rfl,rfl⟩
  exact⟨by rw[show upZ (plA size [] 0) 64=64 by show upZ 20 64=64;decide];rfl,bH.nil _ _ _ _ _,af.refl _ _⟩
 ·obtain⟨b,cap,hv,hb,hp⟩:=ul h h0
  refine⟨some ⟨b,0,none⟩,cap,hv,fun a ha=>(by cases ha;exact⟨rfl,rfl⟩),(vg size hs ms n hn hln hm b cap w hp).mono ?_⟩
  rintro e w' ⟨rfl,h1,h2⟩
  exact⟨rfl,h1.recs (by unfold maxLen;omega),h2.mono fun k _ e=>by rw[e];exact hb⟩
def ParP(bs:List Int)(w:World)(e:Ending)(w':World):Prop:=Below w.heap.size w w'∧((dO bs≠0∧e= .returned (.tuple #[.pointer none,.int .i64 (dO bs)]))∨(dO bs=0∧∃D,e= .returned (.tuple #[.pointer (some ⟨D.bb,0,none⟩),()])∧jX D w' (iK bs)∧∀k,D.T k→w.heap.size≤k∧k<w'.heap.size))
theorem jE{bs:List Int}{w w':World}{c:Int}(hb:Below w.heap.size w w')(h:dO bs=c)(hc:c≠0){v:Value}(hv:v= .tuple #[.pointer none,.int .i64 c]):ParP bs w (.returned v) w':=⟨hb,.inl ⟨by rw[h];exact hc,by rw[hv,h]⟩⟩
theorem parse_any(ad:Addr)(n cap:Nat)(bs:List Int)(hn:n≤60000)(hcap:n≤cap)(w:World)(h:Ints .u8 w (some ad) n bs):Calls Tryz.prog 17 #[.slice (some ad) n cap] w (ParP bs w):=by
 have hlen:=h.hlen
 have HD0:=MI (fun w=>lW 0 (by decide) w)
 have HD:=MI (fun k hk w=>lW k hk w)
 have HH:=MI h
 have HL:=MI hlen
 have HBy:Hid (Byt bs):=fun z hz=>by have:=bounds_u8 (h.wf z hz);omega
 by_cases h20:n<20
 ·have hE:=MI (fun w' hb v hv=>jE (bs:=bs) (w:=w) (w':=w') (c:=2) hb (by unfold dO;rw[if_pos (by omega)]) (by decide) (v:=v) hv)
  have h20':(n:Int)<20:=by omega
  clear h hlen
  go_enter Tryz.func17,Tryz.ntmps17
  go_wp2_with (go_at_call 44;refine(HD0.out _).mono ?_;rintro e w' ⟨rfl,rfl⟩)
  go_ret2
  exact hE.out _ MB _ rfl
 have h20':(20:Int)≤(n:Int):=by omega
 have HP1:=MI (show dO bs=(if mG bs=true then 4 else if jv bs=true then 12 else if bs.length<20+64*nOf bs then 2 else if lC bs=true then 9 else if(List.range (nOf bs)).any (gY bs)=true then 4 else if eU bs=true then 12 else 0) by unfold dO;rw[if_neg (by omega)])
 have HRd:=MI (fun at_ k hk hat w h=>ru (some ad) n cap bs at_ k hk hat hn w h)
 obtain⟨a10,c10,hu10,e10,d10,x10⟩:=h.byte (i:=10) (by omega)
 cases hu10
 have hw10:IntKind.i64.wrap (c10:Int)=(c10:Int):=IntWalk.i64_in _ (by omega)
 have HSz:Hid (jk bs=c10):=by show jk bs=c10;unfold jk;rw[e10.out];rfl
 have HN:Hid (aZ bs 8 2=nOf bs):=rfl
 have hNb:nOf bs<65536:=by
  have h1:=ug bs h.wf 8 2
  exact h1
 have d10':w.cell? ⟨ad.block,ad.off+10,none⟩=some (.int .u8 c10):=d10
 clear h hlen d10
 go_enter Tryz.func17,Tryz.ntmps17
 go_upto_region 3 with(go_at_call 44;refine(HD0.out _).mono ?_;rintro e w' ⟨rfl,rfl⟩)
 have i10:(10:Int)<(n:Int):=by omega
 have HRq:=MI (fun m=>xq (HRd.out 8 2 (by decide) (by omega) (w.drewN m) (HH.out.ah (below_drewN MB m))))
 go_quiet (first | (go_at_call 45;exact Calls.quiet_of_same (HRq.out _)))
 go_upto_region 4 with fail
 have HW:=MI (below_drewN (Below.refl w.heap.size w) nq)
 have HI0:=HH.out.ah HW.out
 clear HRq d10'
 generalize w.drewN nq=W at*
 rw[HN.out]
 have HI:=MI HI0
 obtain⟨N,hN⟩: ∃N,N=nOf bs:=⟨_,rfl⟩
 rw[←hN] at hNb⊢
 have HNn:=MI hN
 clear hN HI0 HN
 go_cut [21] (fun v21 wx=>v21= .bool (mG bs)∧W=wx)
 case first=>
  have hcv:=xA (P:=Tryz.prog) (HI.out.take (show 4≤n by omega)) 63 5 9 cap rfl rfl rfl
  have hB:mG bs=((!((strOfNums (bs.take 4)).toList==([67,65,76,49]:List UInt8)))||((!(decide (aZ bs 11 4=0)))||(!(decide (bs.getD 15 0=0))))):=by rw[ByteArray.toList_eq];rfl
  have HR11:=MI (HRd.out 11 4 (by decide) (by omega) W HI.out)
  obtain⟨a15,c15,hu15,e15,d15,x15⟩:=HI.out.byte (i:=15) (by omega)
  cases hu15
  have d15':W.cell? ⟨ad.block,ad.off+15,none⟩=some (.int .u8 c15):=d15
  rw[e15.out] at hB
  have HB:=MI hB
  have i15:(15:Int)<(n:Int):=by omega
  clear d15 hB e15
  generalize strOfNums (bs.take 4)=s4 at*
  generalize aZ bs 11 4=r11 at*
  generalize mG bs=BH at*
  cases hq:(s4.toList==([67,65,76,49]:List UInt8)) with
  | false=>
   have hR:=MI (show BH=true by rw[HB.out,hq];rfl)
   clear HB
   go_wp2_with (go_at_call 45;refine HR11.out.mono ?_;rintro e w' ⟨rfl,rfl⟩)
   go_meet
   exact⟨by rw[hR.out],rfl⟩
  | true=>
   by_cases h11:r11=0
   ·subst h11
    by_cases h15:c15=0
    ·subst h15
     have hR:=MI (show BH=false by rw[HB.out,hq];rfl)
     clear HB
     go_wp2_with (go_at_call 45;refine HR11.out.mono ?_;rintro e w' ⟨rfl,rfl⟩)
     go_meet
     exact⟨by rw[hR.out],rfl⟩
    ·have hR:=MI (show BH=true by rw[HB.out,hq,decide_eq_false (show ¬((c15:Nat):Int)=0 by omega)];rfl)
     have hne:((c15:Int) !=0)=true:=by simp;omega
     clear HB
     go_wp2_with (go_at_call 45;refine HR11.out.mono ?_;rintro e w' ⟨rfl,rfl⟩)
     go_meet
     exact⟨by rw[hR.out],rfl⟩
   ·have hR:=MI (show BH=true by rw[HB.out,hq,decide_eq_false h11];rfl)
    have hne:((r11:Int) !=0)=true:=by simp;omega
    clear HB
    go_wp2_with (go_at_call 45;refine HR11.out.mono ?_;rintro e w' ⟨rfl,rfl⟩)
    go_meet
    exact⟨by rw[hR.out],rfl⟩
 case rest=>
  obtain⟨rfl,rfl⟩:=hcut
  cases hBH:mG bs with
  | true=>
   have hE:=MI (fun w' hb v hv=>jE (bs:=bs) (w:=w) (w':=w') (c:=4) hb (by rw[HP1.out,if_pos hBH]) (by decide) (v:=v) hv)
   clear hBH HP1
   go_wp2_with fail
   go_ret2
   exact hE.out _ HW.out _ rfl
  | false=>
   have HP2:=MI (show dO bs=(if jv bs=true then 12 else if bs.length<20+64*nOf bs then 2 else if lC bs=true then 9 else if(List.range (nOf bs)).any (gY bs)=true then 4 else if eU bs=true then 12 else 0) by rw[HP1.out,if_neg (by rw[hBH];decide)])
   clear hBH HP1
   go_upto_region 6 with fail
   have hCN:Hid (IntKind.i64.wrap (c10:Int)=(c10:Int)):=hw10
   go_cut [37] (fun v37 wx=>v37= .bool (jv bs)∧W=wx)
   case first=>
    have HR4:=MI (HRd.out 4 4 (by decide) (by omega) W HI.out)
    have hB:jv bs=(decide (jk bs<24)||(decide (96<jk bs)||(decide (64<nOf bs)|| !(decide (aZ bs 4 4=bs.length))))):=rfl
    rw[HSz.out,←HNn.out,HL.out] at hB
    have HB:=MI hB
    clear hB HP2
    generalize aZ bs 4 4=r4 at*
    generalize jv bs=BS at*
    by_cases h1:c10<24
    ·have hR:=MI (show BS=true by rw[HB.out,decide_eq_true h1];rfl)
     have h1':(c10:Int)<24:=by omega
     clear HB
     go_wp2_with (go_at_call 45;refine HR4.out.mono ?_;rintro e w' ⟨rfl,rfl⟩)
     go_meet
     exact⟨by rw[hR.out],rfl⟩
    have g1:(24:Int)≤(c10:Int):=by omega
    by_cases h2:96<c10
    ·have hR:=MI (show BS=true by rw[HB.out,decide_eq_false h1,decide_eq_true h2];rfl)
     have h2':(96:Int)<(c10:Int):=by omega
     clear HB
     go_wp2_with (go_at_call 45;refine HR4.out.mono ?_;rintro e w' ⟨rfl,rfl⟩)
     go_meet
     exact⟨by rw[hR.out],rfl⟩
    have g2:(c10:Int)≤96:=by omega
    by_cases h3:64<N
    ·have hR:=MI (show BS=true by rw[HB.out,decide_eq_false h1,decide_eq_false h2,decide_eq_true h3];rfl)
     have h3':(64:Int)<(N:Int):=by omega
     clear HB
     go_wp2_with (go_at_call 45;refine HR4.out.mono ?_;rintro e w' ⟨rfl,rfl⟩)
     go_meet
     exact⟨by rw[hR.out],rfl⟩
    have g3:(N:Int)≤64:=by omega
    by_cases h4:r4=n
    ·subst h4
     have hR:=MI (show BS=false by rw[HB.out,decide_eq_false h1,decide_eq_false h2,decide_eq_false h3,decide_eq_true rfl];rfl)
     clear HB
     go_wp2_with (go_at_call 45;refine HR4.out.mono ?_;rintro e w' ⟨rfl,rfl⟩)
     go_meet
     exact⟨by rw[hR.out,decide_eq_false (show ¬(c10:Int)<24 by omega),decide_eq_false (show ¬(96:Int)<(c10:Int) by omega),decide_eq_false (show ¬(64:Int)<(N:Int) by omega)];rfl,rfl⟩
    ·have hR:=MI (show BS=true by rw[HB.out,decide_eq_false h1,decide_eq_false h2,decide_eq_false h3,decide_eq_false h4];rfl)
     have hne:((r4:Int) !=(n:Int))=true:=by simp;omega
     clear HB
     go_wp2_with (go_at_call 45;refine HR4.out.mono ?_;rintro e w' ⟨rfl,rfl⟩)
     go_meet
     exact⟨by rw[hR.out],rfl⟩
   case rest=>
    obtain⟨rfl,rfl⟩:=hcut
    cases hBS:jv bs with
    | true=>
     have hE:=MI (fun w' hb v hv=>jE (bs:=bs) (w:=w) (w':=w') (c:=12) hb (by rw[HP2.out,if_pos hBS]) (by decide) (v:=v) hv)
     clear hBS HP2
     go_wp2_with fail
     go_ret2
     exact hE.out _ HW.out _ rfl
    | false=>
     have HP3:=MI (show dO bs=(if bs.length<20+64*nOf bs then 2 else if lC bs=true then 9 else if(List.range (nOf bs)).any (gY bs)=true then 4 else if eU bs=true then 12 else 0) by rw[HP2.out,if_neg (by rw[hBS];decide)])
     have HBS:=MI hBS
     have hsz:=hBS
     unfold jv at hsz
     simp only[Bool.or_eq_false_iff,decide_eq_false_iff_not,Bool.not_eq_false',decide_eq_true_eq] at hsz
     rw[HSz.out,←HNn.out] at hsz
     have hc1:24≤c10:=by omega
     have hc2:c10≤96:=by omega
     have hN64:N≤64:=by omega
     clear hBS HP2 hsz hNb
     obtain⟨M4,hM4⟩: ∃M4,M4=16+64*N:=⟨_,rfl⟩
     have HDn:Hid (∀w,Calls Tryz.prog 44 #[.int .i64 N] w (fun e w'=>e= .returned (.int .i64 ((M4:Int)+4))∧w=w')):=fun w=>by
      have h1:=HD.out N (by omega) w
      rw[show((20+64*N:Nat):Int)=(M4:Int)+4 by omega] at h1
      exact h1
     have HM4:Hid (16+64*nOf bs=M4):=by show _=_;rw[←HNn.out];exact hM4.symm
     have hM4b:M4≤5000:=by omega
     have HMN:=MI hM4
     clear hM4
     by_cases hsh:n<M4+4
     ·have hE:=MI (fun w' hb v hv=>jE (bs:=bs) (w:=w) (w':=w') (c:=2) hb (by rw[HP3.out,HL.out,if_pos (by have:=HM4.out;omega)]) (by decide) (v:=v) hv)
      have hsh':(n:Int)<(M4:Int)+4:=by omega
      clear HP3
      go_wp2_with (go_at_call 44;refine(HDn.out _).mono ?_;rintro e w' ⟨rfl,rfl⟩)
      go_ret2
      exact hE.out _ HW.out _ rfl
     have hsh':(M4:Int)+4≤(n:Int):=by omega
     have HP4:=MI (show dO bs=(if lC bs=true then 9 else if(List.range (nOf bs)).any (gY bs)=true then 4 else if eU bs=true then 12 else 0) by rw[HP3.out,HL.out,if_neg (by have:=HM4.out;omega)])
     clear HP3
     go_upto_region 10 with(go_at_call 44;refine(HDn.out _).mono ?_;rintro e w' ⟨rfl,rfl⟩)
     have HSm:=MI (sum_any (some ad) M4 cap (bs.take M4) W (HI.out.take (by omega)))
     have HRs:=MI (HRd.out M4 4 (by decide) (by omega) W HI.out)
     have hBs:lC bs= !(decide (fH (bs.take M4)=((aZ bs M4 4:Nat):Int))):=by unfold lC;rw[HM4.out]
     obtain⟨cr,hcr⟩: ∃cr,cr=fH (bs.take M4):=⟨_,rfl⟩
     have hcb:0≤cr∧cr<4294967296:=by
      have h1:=uY (bs.take M4) (fun c hc=>HI.out.wf c (List.mem_of_mem_take hc))
      rw[hcr];exact h1
     rw[←hcr] at hBs HSm
     clear hcr
     have hcm:(M4:Int)≤(cap:Int):=by omega
     have hwc:IntKind.i64.wrap cr=cr:=IntWalk.i64_in _ (by omega)
     generalize aZ bs M4 4=rs at*
     cases hbs:lC bs with
     | true=>
      have hE:=MI (fun w' hb v hv=>jE (bs:=bs) (w:=w) (w':=w') (c:=9) hb (by rw[HP4.out,if_pos hbs]) (by decide) (v:=v) hv)
      rw[hbs] at hBs
      have hne:(cr !=(rs:Int))=true:=by simpa using hBs
      clear HP4 hBs hbs
      go_wp2_with (first
       | (go_at_call 44;refine(HDn.out _).mono ?_;rintro e w' ⟨rfl,rfl⟩)
       | (go_at_call 46;refine HSm.out.mono ?_;rintro e w' ⟨rfl,rfl⟩)
       | (go_at_call 45;refine HRs.out.mono ?_;rintro e w' ⟨rfl,rfl⟩))
      go_ret2
      exact hE.out _ HW.out _ rfl
     | false=>
      have HP5:=MI (show dO bs=(if(List.range (nOf bs)).any (gY bs)=true then 4 else if eU bs=true then 12 else 0) by rw[HP4.out,if_neg (by rw[hbs];decide)])
      rw[hbs] at hBs
      have heq:cr=(rs:Int):=by simpa using hBs
      have hbq:(cr !=(rs:Int))=false:=by rw[heq];simp
      clear HP4 hBs hbs heq
      go_upto_region 12 with(first
       | (go_at_call 44;refine(HDn.out _).mono ?_;rintro e w' ⟨rfl,rfl⟩)
       | (go_at_call 46;refine HSm.out.mono ?_;rintro e w' ⟨rfl,rfl⟩)
       | (go_at_call 45;refine HRs.out.mono ?_;rintro e w' ⟨rfl,rfl⟩))
      clear HSm HRs HDn hwc hbq hcb hcm
      have HCl:=MI (clone_any ad n cap bs (by omega) W HI.out)
      unfold ClnP at HCl
      go_upto_region 13 with(go_at_call 47;refine HCl.out.mono ?_;rintro e w2 ⟨ro,rc,rfl,hrc,hI2,hfr,hb2⟩)
      obtain⟨ra,hra,-⟩:=hI2.some (by omega)
      obtain⟨hrb,hro,hrs⟩:=hfr ra hra
      obtain⟨ib,io,isp⟩:=ra
      simp only at hrb hro hrs
      subst hra
      subst hro
      subst hrs
      have hb3:=ae w2 (.cells #[.slice (some ⟨ib,0,none⟩) n rc,.int .i64 (c10:Int),.slice none 0 0] 89)
      have hx3:=L9 w2 (.cells #[.slice (some ⟨ib,0,none⟩) n rc,.int .i64 (c10:Int),.slice none 0 0] 89)
      have HB3:=MI (bW (bW HW.out hb2) hb3)
      have HI3:=MI (hI2.ah hb3)
      have HX3:=MI hx3
      have hib:ib<w2.heap.size:=by
       have h1:=hI2.under (by omega) ⟨ib,0,none⟩ rfl
       exact h1
      have hws:w.heap.size≤w2.heap.size:=Nat.le_trans HW.out.size hb2.size
      have hwi:w.heap.size≤ib:=Nat.le_trans HW.out.size hrb
      have hsz3:(w2.alloc (.cells #[.slice (some ⟨ib,0,none⟩) n rc,.int .i64 (c10:Int),.slice none 0 0] 89)).heap.size=w2.heap.size+1:=by simp
      clear hb2 hb3 hx3 hI2 hfr hrb HCl
      go_wp2_with fail
      generalize w2.alloc (.cells #[.slice (some ⟨ib,0,none⟩) n rc,.int .i64 (c10:Int),.slice none 0 0] 89)=W3 at*
      generalize w2.heap.size=xb at*
      go_loopw [81] (fun v81 wr=>∃(j:Nat)(v:Value),j≤N∧v81= .int .i64 (j:Int)∧wr.heap[xb]? =some (.cells #[.slice (some ⟨ib,0,none⟩) n rc,.int .i64 (c10:Int),v] 89 (0,0))∧wr.ownsRow W3.heap.size 54 9 v j ((eY bs j).flatMap aP)∧Hid (af (fun k=>k=xb) W3 wr)∧Hid (Below w.heap.size w wr)∧Hid (∀i,i<j→gY bs i=false)) (fun v81 _=>N - aG v81)
      case atStart=>exact⟨0,_,by omega,rfl,HX3.out,World.ownsRow_nil _ _ _ _,af.refl _ _,HB3.out,(fun i hi=>by omega)⟩
      case round=>
       obtain⟨j,v,hj,rfl,hx,hO,hK,hB,hP⟩:=hrel
       by_cases hlt:j<N
       ·have hlt2:(j:Int)<(N:Int):=by omega
        have hlo:(16:Int)+(j:Int)*64≤(n:Int):=by have:=HMN.out;omega
        have hlc:16+j*64<cap:=by have:=HMN.out;omega
        have hn64:64≤n - (16+j*64):=by have:=HMN.out;omega
        have hadd:ad.add (16+j*64)=⟨ad.block,ad.off+(16+j*64),none⟩:=by unfold Addr.add;rw[if_neg (by omega)]
        have hOp:Calls Tryz.prog 48 #[.slice (some (ad.add (16+j*64))) (n - (16+j*64)) (cap - (16+j*64))] wr (LC (rowB bs j) wr):=by
         have h1:=(HH.out.ah hB.out).drop (j:=16+j*64) (by omega)
         rw[hadd] at h1⊢
         have h2:=Hg ad.block (ad.off+(16+j*64)) (n - (16+j*64)) (cap - (16+j*64)) (bs.drop (16+j*64)) hn64 (by omega) (by omega) wr h1
         rw[show bs.drop (16+j*64)=rowB bs j by unfold rowB;congr 1;omega] at h2
         exact h2
        have HOp:=MI hOp
        unfold LC at HOp
        have HO:=MI hO
        have HX:=MI hx
        have hsz54:=mF m0
        have hw3:W3.heap.size≤wr.heap.size:=hK.out.size
        clear hOp hadd hO hx
        go_upto_region 17 with(first
         | (go_at_call 48;refine HOp.out.mono ?_;rintro e w4 ⟨m,rfl,hm,hb4⟩;have HMm:=MI hm;clear hm;have hz4:=L9 w4 (.cells #[.string ⟨#[]⟩,(),(),(),.bool false,(),(),(),()] 54))
         | (with_reducible refine MF 54 8 91 ?_;refine wpList_store_row rfl 54 (.tmp 8) (.tmp 91) rfl w4.heap.size (aB m) rfl rfl 54 _ hz4 (mF m) rfl (jc m) ?_))
        have hb4':Below wr.heap.size wr (w4.alloc (.cells #[.string ⟨#[]⟩,(),(),(),.bool false,(),(),(),()] 54)):=iR hb4 _
        have hrow5:=Md (aB m) hz4
        have hb5:Below wr.heap.size wr ((w4.alloc (.cells #[.string ⟨#[]⟩,(),(),(),.bool false,(),(),(),()] 54)).setRow w4.heap.size (aB m)):=below_setRow hb4' hb4.size _
        have hmb:wr.heap.size≤w4.heap.size:=hb4.size
        clear hz4 hb4' hb4
        generalize (w4.alloc (.cells #[.string ⟨#[]⟩,(),(),(),.bool false,(),(),(),()] 54)).setRow w4.heap.size (aB m)=W5 at*
        generalize w4.heap.size=mb at*
        have hx5:=bT HX.out hb5 (L8 HX.out)
        have HX5:=MI hx5
        have HO5:=MI (dF HO.out hb5)
        have HK5:=MI (hK.out.below hb5 hK.out.size)
        have HB5:=MI (bW hB.out hb5)
        have HR5:=MI hrow5
        have HBd:=MI (show gY bs j=((!(okM (rowB bs j)))||(decide (0<j)&& !(Op.bytesLess (fF (rowB bs (j - 1))).nm.toList (fF (rowB bs j)).nm.toList))) by rw[ByteArray.toList_eq,ByteArray.toList_eq];rfl)
        rw[←HMm.out] at HBd
        have HAny:=MI (fun h=>Le (f:=gY bs) hlt h)
        clear hx5 hrow5 hb5 HX HO HOp
        cases hok:okM (rowB bs j) with
        | false=>
         have hE:=MI (fun w' hb v hv=>jE (bs:=bs) (w:=w) (w':=w') (c:=4) hb (by rw[HP5.out,←HNn.out,if_pos (HAny.out (by rw[HBd.out,hok];rfl))]) (by decide) (v:=v) hv)
         clear HBd hok
         go_quiet (fail)
         go_wp2_with fail
         go_ret2
         exact hE.out _ (below_drewN HB5.out _) _ rfl
        | true=>
         have HBd2:=MI (show gY bs j=(decide (0<j)&& !(Op.bytesLess (fF (rowB bs (j - 1))).nm.toList m.nm.toList)) by rw[HBd.out,hok];rfl)
         clear HBd hok
         have hmrow:=dL (lQ HR5.out)
         go_cut [112] (fun v112 wx=>v112= .bool (gY bs j)∧∃k,wx=W5.drewN k)
         case first=>
          generalize gY bs j=BR at*
          obtain⟨m0',-⟩:=hmrow
          cases j with
          | zero=>
           have hR:=MI (show BR=false by rw[HBd2.out];rfl)
           clear HBd2
           go_quiet (fail)
           go_wp2_with fail
           go_meet
           exact⟨by rw[hR.out],_,rfl⟩
          | succ j=>
           obtain⟨ao,cap2,hv,hnc,hrec,hao⟩:=jO m0 jB (by decide) HO5.out
           obtain⟨g,hg,hrg⟩:=tZ hrec (fun a ha=>⟨(hao a ha).2.1,(hao a ha).2.2.1⟩) (i:=j) (by omega)
           rw[lV bs (by omega)] at hrg
           obtain⟨n0,-⟩:=dL hrg
           obtain⟨-,-,x2⟩:=dB HX5.out
           subst hg
           subst hv
           have hR:=MI (show BR= !(Op.bytesLess (fF (rowB bs j)).nm.toList m.nm.toList) by rw[HBd2.out];simp)
           have hj0:(0:Int)<(j:Int)+1:=by omega
           have hdl:(eY bs (j+1)).length=j+1:=iJ bs _
           clear HBd2 hrg hrec hao
           generalize (fF (rowB bs j)).nm=nmj at*
           generalize m.nm=nmm at*
           go_quiet (fail)
           go_wp2_with fail
           go_meet
           exact⟨by rw[hR.out],_,rfl⟩
         case rest=>
          obtain⟨rfl,k5,rfl⟩:=hcut
          cases hBR:gY bs j with
          | true=>
           have hE:=MI (fun w' hb v hv=>jE (bs:=bs) (w:=w) (w':=w') (c:=4) hb (by rw[HP5.out,←HNn.out,if_pos (HAny.out hBR)]) (by decide) (v:=v) hv)
           clear hBR HBd2 hmrow
           go_wp2_with fail
           go_ret2
           exact hE.out _ (below_drewN HB5.out _) _ rfl
          | false=>
           have HBR:=MI hBR
           clear hBR HBd2 hmrow HAny
           go_upto_region 19 with fail
           have HO6:(W5.drewN k5).ownsRow W3.heap.size 54 9 v j ((eY bs j).flatMap aP):=dF HO5.out (below_drewN MB _)
           have hR6:(W5.drewN k5).heap[mb]? =some (.cells (aB m) 54 (0,0)):=HR5.out
           have hx6:(W5.drewN k5).heap[xb]? =some (.cells #[.slice (some ⟨ib,0,none⟩) n rc,.int .i64 (c10:Int),v] 89 (0,0)):=HX5.out
           have hK6:=MI (HK5.out.drewN k5)
           have hB6:=MI (below_drewN HB5.out k5)
           clear HO5 HR5 HX5 HK5 HB5
           generalize W5.drewN k5=V5 at*
           have HO7:V5.drew.ownsRow W3.heap.size 54 9 v j ((eY bs j).flatMap aP):=HO6
           have hR7:V5.drew.heap[mb]? =some (.cells (aB m) 54 (0,0)):=hR6
           have hx7:V5.drew.heap[xb]? =some (.cells #[.slice (some ⟨ib,0,none⟩) n rc,.int .i64 (c10:Int),v] 89 (0,0)):=hx6
           obtain⟨v',w7,hrun,hO8,hk8,hp8⟩:=fE (P:=Tryz.prog) V5.drew 87 87 54 9 Tryz.underlying87 JV rfl (by decide) W3.heap.size v j _ HO7 (aP m) rfl (wS [m] |> fun h u hu=>h u (by simpa using hu)) (by omega) (by unfold maxLen;omega) (Nat.le_trans hK6.out.size Me)
           obtain⟨so,sc,rfl⟩:=bV hO8
           obtain⟨a0,a1,a2,a3,a4,a5,a6,a7,a8⟩:=dL (lQ hR7)
           obtain⟨-,-,x2⟩:=dB hx7
           have x2':=bM (o:=.cells #[.string m.nm,.int .i64 m.len,.int .i64 m.rate,.int .i64 m.ch,.bool m.loop,.int .i64 m.ls,.int .i64 m.le,.int .i64 m.sums,.int .i64 m.first] 54) x2
           have x2'':(V5.alloc (.cells #[.string m.nm,.int .i64 m.len,.int .i64 m.rate,.int .i64 m.ch,.bool m.loop,.int .i64 m.ls,.int .i64 m.le,.int .i64 m.sums,.int .i64 m.first] 54)).drew.cell? ⟨xb,2,none⟩=some v:=bM (w:=V5) x2
           have hx8:w7.heap[xb]? =some (.cells #[.slice (some ⟨ib,0,none⟩) n rc,.int .i64 (c10:Int),v] 89 (0,0)):=hk8.heap hx7 (fun e=>by
            obtain⟨cs,hcs⟩:=ag HO7 e
            exact aF hx7 hcs (by decide) rfl)
           obtain⟨-,-,y2⟩:=dB hx8
           have z2:=frozen_of_row _ _ 2 _ _ hx8
           have hK8:Hid (∀u,af (fun k=>k=xb) W3 (w7.setCell ⟨xb,2,none⟩ u)):=fun u=>(hK6.out.drew.andThen hk8 (fun i hi e=>by have:=(HO7.lt i e).1;omega)).setCell (p:=⟨xb,2,none⟩) (.inr rfl) u
           have hB8:Hid (∀u,Below w.heap.size w (w7.setCell ⟨xb,2,none⟩ u)):=fun u=>(((af.au (S:=fun _=>False) hB6.out.drew Me).andThen hk8 (fun i hi e=>by have:=(HO7.lt i e).1;have:=HB3.out.size;omega)).bg Me (fun _ _ e=>e)).setCell (p:=⟨xb,2,none⟩) hws u
           have hX8:Hid (∀u,(w7.setCell ⟨xb,2,none⟩ u).heap[xb]? =some (.cells #[.slice (some ⟨ib,0,none⟩) n rc,.int .i64 (c10:Int),u] 89 (0,0))):=fun u=>(Mc hx8).trans rfl
           have hO9:Hid (∀u,(w7.setCell ⟨xb,2,none⟩ u).ownsRow W3.heap.size 54 9 (.slice so (j+1) sc) (j+1) ((eY bs (j+1)).flatMap aP)):=fun u=>by
            rw[G6,←HMm.out,List.flatMap_append]
            have h1:=ay hO8 (aC w7 xb 2 u) (fun k e hs=>by
             obtain⟨cs,hcs⟩:=ag hO8 e
             subst hs
             exact aF hx8 hcs (by decide) rfl)
            simpa using h1
           have hP9:Hid (∀i,i<j+1→gY bs i=false):=fun i hi=>by
            rcases Nat.lt_or_ge i j with h1 | h1
            ·exact hP.out i h1
            ·obtain rfl:i=j:=by omega
             exact HBR.out
           simp only[aP] at hrun
           clear hR7 hx7 hR6 hx6 HO6 hx8
           go_region_law (refine iD rfl (.tmp 117) (.tmp 119) 87 87 rfl rfl rfl hrun ?_)
           all_goals go_wp2_with fail
           all_goals refine⟨⟨j+1,_,by omega,by go_num,hX8.out _,hO9.out _,hK8.out _,hB8.out _,hP9.out⟩,?_⟩
           all_goals (simp[aG];omega)
       ·obtain rfl:j=N:=by omega
        have hnl:¬(j:Int)<(j:Int):=by omega
        have hO':wr.ownsRow 0 54 9 v (eY bs j).length ((eY bs j).flatMap aP):=by rw[iJ];exact Gp hO
        have HCm:=MI (DI v (eY bs j) (by rw[iJ];omega) wr hO')
        unfold ClmP at HCm
        obtain⟨-,-,x2⟩:=dB hx
        have HO:=MI hO
        have HX:=MI hx
        have hAny:=Hr hP.out
        rw[HNn.out] at hAny
        have HP6:=MI (show dO bs=(if eU bs=true then 12 else 0) by rw[HP5.out,if_neg (by rw[hAny];decide)])
        clear hO hx hO' hAny
        go_upto_region 22 with(go_at_call 49;refine HCm.out.mono ?_;rintro e w8 ⟨v2,rfl,hO2,hb8⟩)
        rw[iJ] at hO2
        have hrows: ∀i,i<j→((eY bs j).getD i m0).len≤1048576∧((eY bs j).getD i m0).ch≤2:=fun i hi=>by
         rw[lV bs hi]
         have h1:=Jv (xJ (hP.out i hi))
         exact⟨h1.l1,h1.c1⟩
        obtain⟨ao2,cap2,rfl,ha2,hPl⟩:=F7 c10 hc2 (eY bs j) j hN64 (iJ _ _) hrows hO2
        obtain⟨ao1,cap1,hv1,hnc1,hrec1,hao1⟩:=jO m0 jB (by decide) HO.out
        subst hv1
        have hk9:Hid (∀w9,af (fun k=>wr.heap.size≤k) w8 w9→af (fun _=>False) wr w9):=fun w9 h9=>(af.au hb8 Me).andThen h9 (fun i hi e=>by omega)
        have hEq:Hid (∀w9,af (fun k=>wr.heap.size≤k) w8 w9→bH aP 9 m0 w9 ao2 j (plL c10 (eY bs j) j)→Calls Tryz.prog 51 #[.slice ao2 j cap2,.slice ao1 j cap1] w9 (fun e w'=>e= .returned (.bool (eqL (plL c10 (eY bs j) j) (eY bs j) j))∧Below w9.heap.size w9 w')):=fun w9 h9 hr=>GY ao2 ao1 j cap2 cap1 (by omega) _ _ w9 hr (hrec1.kept (hk9.out w9 h9) (fun _ _ e=>e)) ha2 (fun a ha=>⟨(hao1 a ha).2.1,(hao1 a ha).2.2.1⟩)
        have hX9:Hid (∀w9,af (fun k=>wr.heap.size≤k) w8 w9→w9.cell? ⟨xb,2,none⟩=some (.slice ao1 j cap1)):=fun w9 h9=>(hk9.out w9 h9).cell x2 (fun e=>e)
        have hfin:Hid (∀w9,af (fun k=>wr.heap.size≤k) w8 w9→Below w.heap.size w w9∧(dO bs=0→eU bs=false→jX ⟨xb,ib,rc,ao1,cap1⟩ w9 (iK bs))):=fun w9 h9=>by
         have h1:=hk9.out w9 h9
         have hbw:Below w.heap.size w w9:=((af.au (S:=fun _=>False) hB.out Me).andThen h1 (fun _ _ e=>e)).bg Me (fun _ _ e=>e)
         refine⟨hbw,fun _ hbp=>⟨?_,?_,?_,?_,?_,fun a ha=>⟨(hao1 a ha).2.1,(hao1 a ha).2.2.1⟩,?_⟩⟩
         ·rw[show(iK bs).img.length=n from HL.out,show(iK bs).size=c10 from HSz.out,show(iK bs).dir.length=j by rw[HNn.out];exact iJ bs _]
          exact h1.heap HX.out (fun e=>e)
         ·show Ints .u8 w9 (some ⟨ib,0,none⟩) bs.length bs
          rw[HL.out]
          exact(HI3.out.kept hK.out (fun a ha e=>by cases ha;exact absurd (show ib=xb from e) (by omega))).kept h1 (fun _ _ e=>e)
         ·show bs.length≤rc
          rw[HL.out]
          exact hrc
         ·show bH aP 9 m0 w9 ao1 (eY bs (nOf bs)).length (eY bs (nOf bs))
          rw[iJ,←HNn.out]
          exact hrec1.kept h1 (fun _ _ e=>e)
         ·show(eY bs (nOf bs)).length≤cap1
          rw[iJ,←HNn.out]
          exact hnc1
         ·exact bank_ok (by rw[HL.out];exact hn) HBS.out (fun i hi=>hP.out i (by rw[HNn.out];exact hi)) hbp
        have hT9:Hid (∀k,Bd.T ⟨xb,ib,rc,ao1,cap1⟩ k→w.heap.size≤k∧k<wr.heap.size):=fun k hk=>by
         rcases hk with h | h | ⟨a,ha,h⟩
         ·rw[h];exact⟨hws,L8 HX.out⟩
         ·rw[h];exact⟨hwi,by have:=L8 HX.out;show ib<_;omega⟩
         ·have h1:=hao1 a ha
          have h2:=HB3.out.size
          have h3:=(HO.out.lt a.block h1.2.2.2).2
          rw[h]
          exact⟨Nat.le_trans h2 h1.1,h3⟩
        have HPl:=MI hPl
        unfold PlcU at HPl
        have hBP:eU bs=((!(decide (upZ (plA c10 (eY bs j) j) 64=n)))|| !(eqL (plL c10 (eY bs j) j) (eY bs j) j)):=by
         unfold eU
         rw[HSz.out,←HNn.out,HL.out]
        have HBP:=MI hBP
        clear hPl hBP hrows hO2 HO HX hb8 hrec1 x2 hP hK
        generalize upZ (plA c10 (eY bs j) j) 64=TOT at*
        generalize eqL (plL c10 (eY bs j) j) (eY bs j) j=EQ at*
        by_cases hT:TOT=n
        ·subst hT
         have hbq:((TOT:Int) !=(TOT:Int))=false:=by simp
         have hl4:¬(4194304:Int)<(TOT:Int):=by omega
         cases EQ with
         | true=>
          have hbp:eU bs=false:=by rw[HBP.out,decide_eq_true rfl];rfl
          have hp0:Hid (dO bs=0):=by show _=_;rw[HP6.out,if_neg (by rw[hbp];decide)]
          have HBp:=MI hbp
          clear hbp HBP HP6
          go_wp2_with (first
           | (go_at_call 50;refine HPl.out.mono ?_;rintro e w9 ⟨rfl,hr9,hk9'⟩;have hx9:=hX9.out w9 hk9')
           | (go_at_call 51;refine(hEq.out w9 hk9' hr9).mono ?_;rintro e w10 ⟨rfl,hb10⟩))
          go_ret2
          have hk10:=hk9'.andThen (af.au hb10 Me) (S':=fun _=>False) (fun _ _ e=>e.elim)
          exact⟨(hfin.out _ hk10).1,.inr ⟨hp0.out,⟨xb,ib,rc,ao1,cap1⟩,rfl,(hfin.out _ hk10).2 hp0.out HBp.out,fun k hk=>⟨(hT9.out k hk).1,Nat.lt_of_lt_of_le (hT9.out k hk).2 (hk9.out _ hk10).size⟩⟩⟩
         | false=>
          have hbp:eU bs=true:=by rw[HBP.out,decide_eq_true rfl];rfl
          have hE:=MI (fun w' hb v hv=>jE (bs:=bs) (w:=w) (w':=w') (c:=12) hb (by rw[HP6.out,if_pos hbp]) (by decide) (v:=v) hv)
          clear hbp HBP HP6
          go_wp2_with (first
           | (go_at_call 50;refine HPl.out.mono ?_;rintro e w9 ⟨rfl,hr9,hk9'⟩;have hx9:=hX9.out w9 hk9')
           | (go_at_call 51;refine(hEq.out w9 hk9' hr9).mono ?_;rintro e w10 ⟨rfl,hb10⟩))
          go_ret2
          have hk10:=hk9'.andThen (af.au hb10 Me) (S':=fun _=>False) (fun _ _ e=>e.elim)
          exact hE.out _ (hfin.out _ hk10).1 _ rfl
        ·have hbq:((TOT:Int) !=(n:Int))=true:=by simp;omega
         have hbp:eU bs=true:=by rw[HBP.out,decide_eq_false hT];rfl
         have hE:=MI (fun w' hb v hv=>jE (bs:=bs) (w:=w) (w':=w') (c:=12) hb (by rw[HP6.out,if_pos hbp]) (by decide) (v:=v) hv)
         clear hbp HBP HP6
         go_wp2_with (go_at_call 50;refine HPl.out.mono ?_;rintro e w9 ⟨rfl,hr9,hk9'⟩)
         go_ret2
         exact hE.out _ (hfin.out _ hk9').1 _ rfl
end Go.Proofs.YtnicjahcgnhogaaGreatDoor
