/- Part 26 of the walk: contracts of the program's functions, each for every input. No condition. -/
import Derived.Test.YtnicjahcgnhogaaGreatDoorQ19
import Derived.Test.YtnicjahcgnhogaaGreatDoorQ07
import Derived.Test.YtnicjahcgnhogaaGreatDoorQ04
import Derived.Test.YtnicjahcgnhogaaGreatDoorQ03
import Derived.Test.YtnicjahcgnhogaaGreatDoorQ24
import Derived.Test.YtnicjahcgnhogaaGreatDoorQ21
import Derived.Test.YtnicjahcgnhogaaGreatDoorQ22
set_option linter.unusedVariables false
set_option linter.unusedSimpArgs false
set_option maxRecDepth 100000
set_option maxHeartbeats 8000000
namespace Go.Proofs.YtnicjahcgnhogaaGreatDoor
open Go Go.RowKit Go.Calli
attribute [local irreducible] wpStill wpAnyH wpAnyS wpList Code.wp
theorem gL_get(z:List Int)(k:Nat)(hk:k<4):(gL z).getD k 0=z.getD k 0:=by simp[gL,List.getD,hk]
theorem qL_get(z:List Int)(k:Nat)(hk:k<16):(qL z).getD k 0=z.getD (12+k) 0:=by simp[qL,List.getD,hk]
def wr0:Wr:=iV ⟨[],0,0⟩ 1 2
def gS(z:List Int):Nat→Wr
 | 0=>wr0
 | j+1=>iV (gS z j) (z.getD j 0).toNat 2
def tS(z:List Int)(ts:List (Int×Int)):Nat→Wr
 | 0=>iV (gS z 4) ts.length 2
 | j+1=>iV (iV (tS z ts j) (ts.getD j (0,0)).1.toNat 4) (rQ (ts.getD j (0,0)).2 24) 24
def sS(z:List Int)(ts:List (Int×Int)):Nat→Wr
 | 0=>tS z ts ts.length
 | j+1=>iV (iV (sS z ts j) (z.getD (4+j) 0).toNat 5) (z.getD (8+j) 0).toNat 5
def qS(z:List Int)(ts:List (Int×Int)):Nat→Wr
 | 0=>sS z ts 4
 | j+1=>iV (qS z ts j) (rQ (z.getD (12+j) 0) (z.getD (8+j/4) 0).toNat) (z.getD (8+j/4) 0).toNat
def frW(z:List Int)(ts:List (Int×Int)):Wr:=qS z ts 16
theorem GG(z:List Int): ∀j,(gS z j).n=2+2*j∧(gS z j).e=0:=by
 intro j
 induction j with
 | zero=>exact⟨lg _ _ _,lh _ _ _⟩
 | succ j ih=>exact⟨by rw[gS,lg,ih.1];omega,by rw[gS,lh,ih.2]⟩
theorem E8(z:List Int)(ts:List (Int×Int)): ∀j,(tS z ts j).n=12+28*j∧(tS z ts j).e=0:=by
 intro j
 induction j with
 | zero=>exact⟨by rw[tS,lg,(GG z 4).1],by rw[tS,lh,(GG z 4).2]⟩
 | succ j ih=>exact⟨by rw[tS,lg,lg,ih.1];omega,by rw[tS,lh,lh,ih.2]⟩
theorem FH(z:List Int)(ts:List (Int×Int)): ∀j,(sS z ts j).n=12+28*ts.length+10*j∧(sS z ts j).e=0:=by
 intro j
 induction j with
 | zero=>exact⟨by rw[sS,(E8 z ts _).1];omega,by rw[sS,(E8 z ts _).2]⟩
 | succ j ih=>exact⟨by rw[sS,lg,lg,ih.1];omega,by rw[sS,lh,lh,ih.2]⟩
structure RtF(z:List Int)(ts:List (Int×Int)):Prop where
 g: ∀k,k<4→0≤z.getD k 0∧z.getD k 0≤3
 t:ts.length≤2
 tt: ∀k,k<ts.length→0≤(ts.getD k (0,0)).1∧(ts.getD k (0,0)).1<16∧dQ (ts.getD k (0,0)).2 24=true
 s: ∀k,k<4→0≤z.getD (4+k) 0∧z.getD (4+k) 0≤23
 w: ∀k,k<4→0≤z.getD (8+k) 0∧z.getD (8+k) 0≤24
 q: ∀j,j<16→dQ (z.getD (12+j) 0) (z.getD (8+j/4) 0).toNat=true
theorem rtF_of{z:List Int}{ts:List (Int×Int)}(h:fC z ts=true):RtF z ts:=by
 unfold fC at h
 simp only[Bool.and_eq_true] at h
 obtain⟨⟨⟨hg,ht⟩,hs⟩,hb⟩:=h
 unfold rtB at ht
 simp only[Bool.and_eq_true,decide_eq_true_eq,List.all_eq_true,List.mem_range] at ht
 rw[List.all_eq_true] at hb
 have hb2: ∀k,k<4→0≤z.getD (8+k) 0∧z.getD (8+k) 0≤24∧∀m,m<4→dQ (z.getD (12+4*k+m) 0) (z.getD (8+k) 0).toNat=true:=fun k hk=>by
  have h1:=hb k (List.mem_range.2 hk)
  unfold jV at h1
  simp only[Bool.and_eq_true,decide_eq_true_eq,List.all_eq_true,List.mem_range] at h1
  exact⟨h1.1.1,h1.1.2,h1.2⟩
 refine⟨fun k hk=>?_,ht.2,fun k hk=>?_,fun k hk=>?_,fun k hk=>⟨(hb2 k hk).1,(hb2 k hk).2.1⟩,fun j hj=>?_⟩
 ·have:=uJ hg k (by simp[gn];omega)
  rcases k with _ | _ | _ | _ | k
  ·exact this
  ·exact this
  ·exact this
  ·exact this
  ·omega
 ·have:=ht.1 k hk
  unfold okT at this
  simp only[Bool.and_eq_true,decide_eq_true_eq] at this
  exact⟨this.1.1.1,this.1.1.2,this.2⟩
 ·have:=uJ hs k (by simp[sc];omega)
  rcases k with _ | _ | _ | _ | k
  ·exact this
  ·exact this
  ·exact this
  ·exact this
  ·omega
 ·have:=(hb2 (j/4) (by omega)).2.2 (j%4) (Nat.mod_lt _ (by decide))
  rwa [show 12+4*(j/4)+j%4=12+j by omega] at this
theorem qS_n{z:List Int}{ts:List (Int×Int)}(h:RtF z ts): ∀j,j≤16→(qS z ts j).n≤120+24*j∧(qS z ts j).e=0:=by
 intro j
 induction j with
 | zero=>intro _;exact⟨by rw[qS,(FH z ts _).1];have:=h.t;omega,by rw[qS,(FH z ts _).2]⟩
 | succ j ih=>
  intro hj
  have h1:=ih (by omega)
  have h2:=h.w (j/4) (by omega)
  exact⟨by rw[qS,lg];omega,by rw[qS,lh,h1.2]⟩
structure FbS(w:World)(z:List Int)(tv:Value)(wb:Nat)(x:Wr)(bv:Value)(wr:World):Prop where
 fr:fA wr w.heap.size z tv
 wi:qA wr wb bv x
 hb:Below w.heap.size w wr
 hw:w.heap.size<wb
 ho: ∀k,bv.ownBlock=some k→w.heap.size<k
theorem FbS.put{w:World}{z:List Int}{tv:Value}{wb:Nat}{x y:Wr}{bv bv':Value}{wr w':World}(h:FbS w z tv wb x bv wr)(hI:qA w' wb bv' y)(hk:af (fun k=>k=wb∨bv.ownBlock=some k) wr w')(ho: ∀k,bv'.ownBlock=some k→bv.ownBlock=some k∨wr.heap.size≤k):FbS w z tv wb y bv' w':=by
 have h1:=L8 h.fr.row
 refine⟨h.fr.kept hk (fun e=>?_),hI,h.hb.trans (hk.bg h.hb.size (fun k hk e=>?_)),h.hw,fun k e=>?_⟩
 ·rcases e with e | e
  ·have:=h.hw;omega
  ·have:=h.ho _ e;omega
 ·rcases e with e | e
  ·have:=h.hw;omega
  ·have:=h.ho _ e;omega
 ·rcases ho k e with e | e
  ·exact h.ho k e
  ·omega
theorem FbS.below{w:World}{z:List Int}{tv:Value}{wb:Nat}{x:Wr}{bv:Value}{wr w':World}(h:FbS w z tv wb x bv wr)(hb:Below wr.heap.size wr w'):FbS w z tv wb x bv w':=
 ⟨h.fr.ah hb,⟨(hb.block _ (L8 h.wi.row)).trans h.wi.row,dF h.wi.own hb,h.wi.len,h.wi.wf⟩,h.hb.trans (hb.mono h.hb.size),h.hw,h.ho⟩
def FbP(z:List Int)(ts:List (Int×Int))(size:Nat)(w:World)(e:Ending)(w':World):Prop:=Below w.heap.size w w'∧((fC z ts=false∧e= .returned (.tuple #[.slice none 0 0,.int .i64 4]))∨(fC z ts=true∧((size<(frW z ts).bs.length∧e= .returned (.tuple #[.slice none 0 0,.int .i64 3]))∨((frW z ts).bs.length≤size∧∃g,e= .returned (.tuple #[.slice (some ⟨g,0,none⟩) size size,()])∧w.heap.size≤g∧Blk .u8 w' g 5 ((frW z ts).bs++List.replicate (size - (frW z ts).bs.length) 0)))))
theorem uz{x:Int}(h:0≤x): ∃c:Nat,x=(c:Int):=⟨x.toNat,by omega⟩
theorem Dp(z:List Int)(hz:z.length=28)(ao:Option Addr)(n cap:Nat)(ts:List (Int×Int))(size:Nat)(hs:size≤96)(w:World)(h:bH ed 2 (0,0) w ao n ts):Calls Tryz.prog 133 #[.agg (frC z (.slice ao n cap)),.int .i64 (size:Int)] w (FbP z ts size w):=by
 have hba:=ae w (.cells (frC z (.slice ao n cap)) 196)
 have hz0:=L9 w (.cells (frC z (.slice ao n cap)) 196)
 have hi0:(Tryz.prog.info? 196).map (·.size)=some (frC z (.slice ao n cap)).size:=by rw[bC _ _ hz];kernel_rfl
 have hR:=MI (fun W (h:bH ed 2 (0,0) W ao n ts)=>uQ z hz ao n cap ts W h)
 have HT:=MI h
 by_cases hr:fC z ts=true
 case neg=>
  have hr2:fC z ts=false:=by simpa using hr
  have hR1:=MI (hR.out _ (h.ah hba))
  rw[hr2] at hR1
  go_enter Tryz.func133,Tryz.ntmps133
  go_wp2_with (first
   | ((with_reducible refine MC 196 2 ?_);refine wpList_load_row rfl 196 (.tmp 2) rfl _ rfl 196 (frC z (.slice ao n cap)) (0,0) _ hz0 Tryz.underlying196 rfl hi0 ?_)
   | (go_at_call 170;refine hR1.out.mono ?_;rintro e w1 ⟨rfl,hb1⟩))
  go_ret2
  exact⟨hba.trans (hb1.mono hba.size),.inl ⟨hr2,rfl⟩⟩
 case pos=>
  have HF:=rtF_of hr
  have hR1:=MI (hR.out _ (h.ah hba))
  rw[hr] at hR1
  have hn:=h.hlen
  have hn2:=HF.t
  rw[hn] at hn2
  have hbu:Tryz.prog.built 279 []=some #[.slice none 0 0,.int .i64 0,.int .i64 0]:=by kernel_rfl
  have hP1:=MI (fun wb W (hI:qA W wb (.slice none 0 0) ⟨[],0,0⟩)=>put_any wb (.slice none 0 0) ⟨[],0,0⟩ 1 2 rfl (by decide) (by decide) (by decide) W hI)
  have HRr:=MI hr
  have HFF:=MI HF
  clear hr HF h hR
  go_enter Tryz.func133,Tryz.ntmps133
  go_upto_region 3 with(first
   | ((with_reducible refine MC 196 2 ?_);refine wpList_load_row rfl 196 (.tmp 2) rfl _ rfl 196 (frC z (.slice ao n cap)) (0,0) _ hz0 Tryz.underlying196 rfl hi0 ?_)
   | (go_at_call 170;refine hR1.out.mono ?_;rintro e w1 ⟨rfl,hb1⟩))
  have hB1:=hba.trans (hb1.mono hba.size)
  have hfr1:=(hb1.block _ (L8 hz0)).trans hz0
  have hsz1:w.heap.size<w1.heap.size:=Nat.lt_of_lt_of_le (L8 hz0) hb1.size
  clear hz0 hba hb1 hi0
  have hb2:=ae w1 (.cells #[.slice none 0 0,(),()] 279)
  have hz2:=L9 w1 (.cells #[.slice none 0 0,(),()] 279)
  have hS0:FbS w z (.slice ao n cap) w1.heap.size ⟨[],0,0⟩ (.slice none 0 0) (w1.alloc (.cells #[.slice none 0 0,(),()] 279)):=
   ⟨⟨(hb2.block _ (L8 hfr1)).trans hfr1,hz⟩,⟨hz2,World.ownsRow_nil _ _ _ _,rfl,fun z hz=>by cases hz⟩,hB1.trans (hb2.mono hB1.size),hsz1,fun k e=>by cases e⟩
  have hPP:=MI (hP1.out _ _ hS0.wi)
  have HS0:=MI hS0
  clear hz2 hb2 hfr1 hP1 hS0 hB1
  go_upto_region 5 with(first
   | ((with_reducible show wpList _ _ _ (Oper.mk _ (Op.build 279 _) _ _ _ _::_) _ _);refine aV rfl 279 _ rfl #[.slice none 0 0,(),()] hbu ?_)
   | (go_at_call 171;refine hPP.out.mono ?_;rintro e w2 ⟨rfl,bv2,hI2,hK2,hO2⟩))
  have hS:=HS0.out.put hI2 hK2 hO2
  clear hPP HS0 hI2 hK2 hO2
  generalize hwb:w1.heap.size=wb at*
  clear hwb
  have hrg:=hS.fr.oZ
  have HS:=MI hS
  clear hS
  go_upto_region 6 with((with_reducible refine MC 191 21 ?_);refine wpList_load_mid rfl 191 (.tmp 21) rfl w.heap.size 0 rfl ((gL z).map (Value.int .i64)) _ hrg Tryz.underlying191 rfl (by rw[List.length_map,uP];kernel_rfl) ?_;rw[show((gL z).map (Value.int .i64)).toArray=iA (gL z) from rfl])
  clear hrg
  have HIX:=MI (fun k (hk:k<4) W=>iG (P:=Tryz.prog) 191 3 4 Tryz.underlying191 Tryz.underlying3 (by kernel_rfl) (gL z) (uP z) k hk W)
  go_loopw [23] (fun v23 wr=>∃(j:Nat)(bv:Value),j≤4∧v23= .int .i64 (j:Int)∧FbS w z (.slice ao n cap) wb (gS z j) bv wr) (fun v23 _=>4 - aG v23)
  case atStart=>exact⟨0,bv2,by omega,rfl,HS.out⟩
  case round=>
   clear HS
   obtain⟨j,bv,hj,rfl,hS⟩:=hrel
   by_cases hj4:j<4
   ·have hix:=HIX.out j hj4
    rw[gL_get z j hj4] at hix
    obtain⟨g1,g2⟩:=HFF.out.g j hj4
    have hPP:=MI (put_any wb bv (gS z j) (z.getD j 0).toNat 2 (GG z j).2 (by rw[(GG z j).1];omega) (by decide) (by omega) wr hS.wi)
    have hnx:Hid (gS z (j+1)=iV (gS z j) (z.getD j 0).toNat 2):=rfl
    obtain⟨c,hc⟩:=uz g1
    rw[hc] at hix hPP hnx g2
    rw[Int.toNat_natCast] at hPP hnx
    have hw:IntKind.u64.wrap (c:Int)=(c:Int):=by rw[IntKind.wrap_u64];omega
    have HS:=MI hS
    clear hS hc g1
    go_wp2_with (go_at_call 171;refine hPP.out.mono ?_;rintro e w3 ⟨rfl,bv3,hI3,hK3,hO3⟩)
    exact⟨⟨j+1,bv3,by omega,by go_num,by rw[hnx.out];exact HS.out.put hI3 hK3 hO3⟩,by simp[aG];omega⟩
   ·obtain rfl:j=4:=by omega
    clear HIX
    have hm0:=hS.fr.mid
    have hPP:=MI (put_any wb bv (gS z 4) n 2 (GG z 4).2 (by rw[(GG z 4).1];omega) (by decide) (by omega) wr hS.wi)
    have hnx:Hid (tS z ts 0=iV (gS z 4) n 2):=by unfold Hid;rw[←hn];rfl
    have hw:IntKind.u64.wrap (n:Int)=(n:Int):=by rw[IntKind.wrap_u64];omega
    have HS:=MI hS
    clear hS
    go_upto_region 12 with(go_at_call 171;refine hPP.out.mono ?_;rintro e w3 ⟨rfl,bv3,hI3,hK3,hO3⟩;have hS3:=HS.out.put hI3 hK3 hO3;have hm3:=hS3.fr.mid)
    rw[←hnx.out] at hS3
    have HS3:=MI hS3
    clear hS3 hI3 hK3 hO3 HS hPP hm0 hm3 hw
    go_loopw [40] (fun v40 wr=>∃(j:Nat)(bv:Value),j≤n∧v40= .int .i64 (j:Int)∧FbS w z (.slice ao n cap) wb (tS z ts j) bv wr) (fun v40 _=>n - aG v40)
    case atStart=>exact⟨0,bv3,by omega,rfl,HS3.out⟩
    case round=>
     clear HS3
     obtain⟨j,bv,hj,rfl,hS⟩:=hrel
     by_cases hjn:j<n
     ·obtain⟨a,rfl,c0,c1⟩:=wz (HT.out.ah hS.hb) hjn
      obtain⟨t1,t2,t3⟩:=HFF.out.tt j (by rw[hn];exact hjn)
      have hnx:Hid (tS z ts (j+1)=iV (iV (tS z ts j) (ts.getD j (0,0)).1.toNat 4) (rQ (ts.getD j (0,0)).2 24) 24):=rfl
      generalize ts.getD j (0,0)=t at*
      obtain⟨ix,vl⟩:=t
      simp only at c0 c1 t1 t2 t3 hnx
      obtain⟨c,rfl⟩:=uz t1
      rw[Int.toNat_natCast] at hnx
      have hw:IntKind.u64.wrap (c:Int)=(c:Int):=by rw[IntKind.wrap_u64];omega
      have HS:=MI hS
      clear hS t1
      go_upto_region 14 with fail
      have hba:=ae wr (.cells #[.int .i64 (c:Int),.int .i64 vl] 282)
      have hz2:=L9 wr (.cells #[.int .i64 (c:Int),.int .i64 vl] 282)
      have hS1:=HS.out.below hba
      have hne:¬(wr.heap.size=wb∨bv.ownBlock=some wr.heap.size):=fun e=>by
       rcases e with e | e
       ·have:=L8 HS.out.wi.row;omega
       ·obtain⟨cs,hcs⟩:=ag HS.out.wi.own e
        have:=L8 hcs
        omega
      clear HS hba c0 c1
      generalize wr.alloc (.cells #[.int .i64 (c:Int),.int .i64 vl] 282)=V at*
      generalize wr.heap.size=xb at*
      obtain⟨d0,d1⟩:=bD hz2
      have hPP:=MI (put_any wb bv (tS z ts j) c 4 (E8 z ts j).2 (by rw[(E8 z ts j).1];omega) (by decide) (by omega) V hS1.wi)
      have HS1:=MI hS1
      have HZ2:=MI hz2
      have hQ:=MI (fun bv W (hI:qA W wb bv (iV (tS z ts j) c 4))=>D7 wb bv (iV (tS z ts j) c 4) vl 24 (by rw[lh];exact(E8 z ts j).2) (by rw[lg,(E8 z ts j).1];omega) (by decide) t3 W hI)
      clear hS1 hz2
      go_upto_region 15 with(go_at_call 171;refine hPP.out.mono ?_;rintro e w3 ⟨rfl,bv3,hI3,hK3,hO3⟩)
      have hS3:=HS1.out.put hI3 hK3 hO3
      have hz3:=hK3.heap HZ2.out hne
      have hQ2:=MI (hQ.out bv3 w3 hI3)
      have HS3:=MI hS3
      clear hS3 hI3 hK3 hO3 HS1 hPP d0 d1 hQ
      obtain⟨d0,d1⟩:=bD hz3
      clear hz3
      go_wp2_with (go_at_call 172;refine hQ2.out.mono ?_;rintro e w4 ⟨rfl,bv4,hI4,hK4,hO4⟩)
      exact⟨⟨j+1,bv4,by omega,by go_num,by rw[hnx.out];exact HS3.out.put hI4 hK4 hO4⟩,by simp[aG];omega⟩
     ·obtain rfl:j=n:=by omega
      have hS0:FbS w z (.slice ao j cap) wb (sS z ts 0) bv wr:=by
       have:sS z ts 0=tS z ts j:=by rw[←hn];rfl
       rw[this];exact hS
      have HS0:=MI hS0
      clear hS hS0
      go_upto_region 18 with fail
      go_loopw [54] (fun v54 wr=>∃(i:Nat)(bv:Value),i≤4∧v54= .int .i64 (i:Int)∧FbS w z (.slice ao j cap) wb (sS z ts i) bv wr) (fun v54 _=>4 - aG v54)
      case atStart=>exact⟨0,bv,by omega,rfl,HS0.out⟩
      case round=>
       clear HS0
       obtain⟨i,bv,hi,rfl,hS⟩:=hrel
       by_cases hi4:i<4
       ·obtain⟨s1,s2⟩:=HFF.out.s i hi4
        obtain⟨u1,u2⟩:=HFF.out.w i hi4
        have hnx:Hid (sS z ts (i+1)=iV (iV (sS z ts i) (z.getD (4+i) 0).toNat 5) (z.getD (8+i) 0).toNat 5):=rfl
        have c0:=hS.fr.hi (k:=i) (by omega)
        have hC:=MI (fun W (hI:fA W w.heap.size z (.slice ao j cap))=>by
         have:=hI.hi (k:=4+i) (by omega)
         rw[show 5+(4+i)=9+i by omega,show 4+(4+i)=8+i by omega] at this
         exact this)
        obtain⟨c,hc⟩:=uz s1
        obtain⟨d,hd⟩:=uz u1
        rw[hc] at c0 s2 hnx
        rw[hd] at hC u2 hnx
        rw[Int.toNat_natCast,Int.toNat_natCast] at hnx
        have hw:IntKind.u64.wrap (c:Int)=(c:Int):=by rw[IntKind.wrap_u64];omega
        have hw2:IntKind.u64.wrap (d:Int)=(d:Int):=by rw[IntKind.wrap_u64];omega
        have hPP:=MI (put_any wb bv (sS z ts i) c 5 (FH z ts i).2 (by rw[(FH z ts i).1];omega) (by decide) (by omega) wr hS.wi)
        have hQ:=MI (fun bv W (hI:qA W wb bv (iV (sS z ts i) c 5))=>put_any wb bv (iV (sS z ts i) c 5) d 5 (by rw[lh];exact(FH z ts i).2) (by rw[lg,(FH z ts i).1];omega) (by decide) (by omega) W hI)
        have HS:=MI hS
        clear hS hc hd s1 u1
        go_upto_region 21 with(go_at_call 171;refine hPP.out.mono ?_;rintro e w3 ⟨rfl,bv3,hI3,hK3,hO3⟩)
        have hS3:=HS.out.put hI3 hK3 hO3
        have c1:=hC.out _ hS3.fr
        have hQ2:=MI (hQ.out bv3 w3 hI3)
        have HS3:=MI hS3
        clear hS3 hI3 hK3 hO3 HS hPP hQ c0
        go_wp2_with (go_at_call 171;refine hQ2.out.mono ?_;rintro e w4 ⟨rfl,bv4,hI4,hK4,hO4⟩)
        exact⟨⟨i+1,bv4,by omega,by go_num,by rw[hnx.out];exact HS3.out.put hI4 hK4 hO4⟩,by simp[aG];omega⟩
       ·obtain rfl:i=4:=by omega
        have hS0:FbS w z (.slice ao j cap) wb (qS z ts 0) bv wr:=hS
        have hrg:=hS.fr.Jj
        have HS0:=MI hS0
        clear hS hS0
        go_upto_region 24 with((with_reducible refine MC 194 72 ?_);refine wpList_load_mid rfl 194 (.tmp 72) rfl w.heap.size 13 rfl ((qL z).map (Value.int .i64)) _ hrg Tryz.underlying194 rfl (by rw[List.length_map,yg];kernel_rfl) ?_;rw[show((qL z).map (Value.int .i64)).toArray=iA (qL z) from rfl])
        clear hrg
        have HIX:=MI (fun k (hk:k<16) W=>iG (P:=Tryz.prog) 194 2 16 Tryz.underlying194 Tryz.underlying2 (by kernel_rfl) (qL z) (yg z) k hk W)
        go_loopw [74] (fun v74 wr=>∃(i:Nat)(bv:Value),i≤16∧v74= .int .i64 (i:Int)∧FbS w z (.slice ao j cap) wb (qS z ts i) bv wr) (fun v74 _=>16 - aG v74)
        case atStart=>exact⟨0,bv,by omega,rfl,HS0.out⟩
        case round=>
         clear HS0
         obtain⟨i,bv,hi,rfl,hS⟩:=hrel
         by_cases hi16:i<16
         ·have hix:=HIX.out i hi16
          rw[qL_get z i hi16] at hix
          obtain⟨u1,u2⟩:=HFF.out.w (i/4) (by omega)
          have hq:=HFF.out.q i hi16
          have hqn:=qS_n HFF.out i (by omega)
          have hnx:Hid (qS z ts (i+1)=iV (qS z ts i) (rQ (z.getD (12+i) 0) (z.getD (8+i/4) 0).toNat) (z.getD (8+i/4) 0).toNat):=rfl
          have c1:=hS.fr.hi (k:=4+i/4) (by omega)
          rw[show 5+(4+i/4)=9+i/4 by omega,show 4+(4+i/4)=8+i/4 by omega] at c1
          obtain⟨d,hd⟩:=uz u1
          rw[hd] at hq hnx c1 u2
          rw[Int.toNat_natCast] at hq hnx
          have hbd:=MI (lX i hi16)
          have hPP:=MI (D7 wb bv (qS z ts i) (z.getD (12+i) 0) d hqn.2 (by omega) (by omega) hq wr hS.wi)
          have hjb:i/4<4:=by omega
          have hjb2:((i/4:Nat):Int)<4:=by omega
          have HS:=MI hS
          clear hS hd u1 hq hqn
          generalize i/4=jb at*
          generalize z.getD (12+i) 0=qi at*
          go_wp2_with (first
           | (go_at_call 173;refine(hbd.out _).mono ?_;rintro e w' ⟨rfl,rfl⟩)
           | (go_at_call 172;refine hPP.out.mono ?_;rintro e w4 ⟨rfl,bv4,hI4,hK4,hO4⟩))
          exact⟨⟨i+1,bv4,by omega,by go_num,by rw[hnx.out];exact HS.out.put hI4 hK4 hO4⟩,by simp[aG];omega⟩
         ·obtain rfl:i=16:=by omega
          have hqn:=qS_n HFF.out 16 (by omega)
          have hW0:=Bj wb bv (qS z ts 16) size hs hqn.2 wr hS.wi
          have hbb:=MI hS.hb
          have hsz:=hS.hb.size
          have hFW:Hid (frW z ts=qS z ts 16):=rfl
          by_cases hl:size<(qS z ts 16).bs.length
          ·have hW:Hid (Calls Tryz.prog 174 #[.pointer (some ⟨wb,0,none⟩),.int .i64 (size:Int)] wr (fun e w'=>e= .returned (.tuple #[.slice none 0 0,.int .i64 3])∧Below wr.heap.size wr w')):=hW0.mono fun e w' h=>by
            obtain⟨h1,h2 | h2⟩:=h
            ·exact⟨h2.2,h1⟩
            ·omega
           clear hS hW0
           go_wp2_with (go_at_call 174;refine hW.out.mono ?_;rintro e w5 ⟨rfl,hb5⟩)
           go_ret2
           exact⟨hbb.out.trans (hb5.mono hsz),.inr ⟨HRr.out,.inl ⟨by rw[hFW.out];exact hl,rfl⟩⟩⟩
          ·have hW:Hid (Calls Tryz.prog 174 #[.pointer (some ⟨wb,0,none⟩),.int .i64 (size:Int)] wr (fun e w'=>∃g,e= .returned (.tuple #[.slice (some ⟨g,0,none⟩) size size,()])∧Below wr.heap.size wr w'∧wr.heap.size≤g∧Blk .u8 w' g 5 ((qS z ts 16).bs++List.replicate (size - (qS z ts 16).bs.length) 0))):=hW0.mono fun e w' h=>by
            obtain⟨h1,h2 | h2⟩:=h
            ·omega
            ·obtain⟨_,g,h3,h4,h5⟩:=h2
             exact⟨g,h3,h1,h4,h5⟩
           clear hS hW0
           go_wp2_with (go_at_call 174;refine hW.out.mono ?_;rintro e w5 ⟨g,rfl,hb5,hg,hB⟩)
           go_ret2
           exact⟨hbb.out.trans (hb5.mono hsz),.inr ⟨HRr.out,.inr ⟨by rw[hFW.out];omega,g,rfl,by omega,by rw[hFW.out];exact hB⟩⟩⟩
def frB(z:List Int)(ts:List (Int×Int))(size:Nat):List Int:=(frW z ts).bs++List.replicate (size - (frW z ts).bs.length) 0
def B9P(z:List Int)(ts:List (Int×Int))(size:Nat)(w:World)(e:Ending)(w':World):Prop:=∃(ao:Option Addr)(m c:Nat)(err:Int),e= .returned (.tuple #[.slice ao m c,.int .i64 err])∧Below w.heap.size w w'∧(err=0→m=size∧(frB z ts size).length=size∧∃g,ao=some ⟨g,0,none⟩∧w.heap.size≤g∧w'.ownsRow w.heap.size 5 1 (.slice (some ⟨g,0,none⟩) size c) size ((frB z ts size).map (.int .u8)))∧(fC z ts=true→(frW z ts).bs.length≤size→err=0)
theorem fb_of{z:List Int}{ts:List (Int×Int)}{size:Nat}(hs:size≤96){w:World}{e:Ending}{w':World}(h:FbP z ts size w e w'):B9P z ts size w e w':=by
 obtain⟨hb,h | ⟨h1,h | ⟨h2,g,h3,h4,h5⟩⟩⟩:=h
 ·exact⟨none,0,0,4,h.2,hb,(fun e=>by cases e),(fun h1=>by rw[h.1] at h1;cases h1)⟩
 ·exact⟨none,0,0,3,h.2,hb,(fun e=>by cases e),(fun _ h2=>by omega)⟩
 ·refine⟨_,size,size,0,h3,hb,fun _=>⟨rfl,?_,g,rfl,h4,?_⟩,fun _ _=>rfl⟩
  ·unfold frB;simp;omega
  ·have hl:(frB z ts size).length=size:=by unfold frB;simp;omega
   have hL:((frB z ts size).map (Value.int .u8)).length=size:=by rw[List.length_map];exact hl
   refine⟨by rw[hL];omega,.inr ⟨g,size,_,rfl,h4,h5,Me,by unfold maxLen;omega,?_,?_⟩⟩
   ·rw[List.size_toArray];exact hL.trans (Nat.mul_one _).symm
   ·exact List.take_of_length_le (Nat.le_of_eq (hL.trans (Nat.mul_one _).symm))
theorem AQ(cb size:Nat)(hs0:0<size)(hs:size≤96)(gb:Nat)(z:List Int)(hz:z.length=28)(ao:Option Addr)(n cap:Nat)(ts:List (Int×Int))(w:World)(hC:mY w cb (size:Int))(hrow:w.heap[gb]? =some (.cells (frC z (.slice ao n cap)) 196 (0,0)))(hT:bH ed 2 (0,0) w ao n ts):Calls Tryz.prog 94 #[.pointer (some ⟨cb,0,none⟩),.slice (some ⟨gb,0,none⟩) 1 1] w (B9P z ts size w):=by
 have HC:=MI hC
 have HR:=MI hrow
 have HT:=MI hT
 have hfi:=jH z (.slice ao n cap) hz
 have hfz:(#[(),(),(),(),.slice none 0 0,(),(),(),(),(),(),(),(),(),(),(),(),(),(),(),(),(),(),(),(),(),(),(),()]:Array Value).size=(frC z (.slice ao n cap)).size:=by rw[bC _ _ hz];rfl
 have hfo:=dC z ao n cap
 have hFB:=MI (fun W h=>(Dp z hz ao n cap ts size hs W h).mono (fun e w' h=>fb_of hs h))
 clear hC hrow hT
 go_enter Tryz.func94,Tryz.ntmps94
 go_upto_region 5 with fail
 go_loopw [6,15] (fun v6 v15 wr=>Below w.heap.size w wr∧((v15= .int .i64 0∧v6= .slice none 0 0)∨(v15= .int .i64 1∧fC z ts=fC z ts∧(frB z ts size).length=size∧∃g c,v6= .slice (some ⟨g,0,none⟩) size c∧w.heap.size≤g∧wr.ownsRow w.heap.size 5 1 v6 size ((frB z ts size).map (.int .u8))))) (fun _ v15 _=>1 - aG v15)
 case atStart=>exact⟨Below.refl _ _,.inl ⟨rfl,rfl⟩⟩
 case round=>
  obtain⟨hb,⟨rfl,rfl⟩ | ⟨rfl,-,hfl,g,c,rfl,hg,hO⟩⟩:=hrel
  ·have hr:=rwB HR.out (show Below w.heap.size w wr from hb)
   have HB:=MI hb
   clear hb
   go_upto_region 7 with(first
    | ((with_reducible refine MC 196 17 ?_);refine wpList_load_row rfl 196 (.tmp 17) rfl gb rfl 196 (frC z (.slice ao n cap)) (0,0) _ hr Tryz.underlying196 rfl hfi ?_)
    | ((with_reducible refine MF 196 8 18 ?_);refine wpList_store_row rfl 196 (.tmp 8) (.tmp 18) rfl _ (frC z (.slice ao n cap)) rfl rfl 196 (#[(),(),(),(),.slice none 0 0,(),(),(),(),(),(),(),(),(),(),(),(),(),(),(),(),(),(),(),(),(),(),(),()]) (L9 _ _) hfi hfz hfo ?_))
   have hbx:Below wr.heap.size wr ((wr.alloc (.cells #[(),(),(),(),.slice none 0 0,(),(),(),(),(),(),(),(),(),(),(),(),(),(),(),(),(),(),(),(),(),(),(),()] 196)).setRow wr.heap.size (frC z (.slice ao n cap))):=below_setRow (ae wr (.cells #[(),(),(),(),.slice none 0 0,(),(),(),(),(),(),(),(),(),(),(),(),(),(),(),(),(),(),(),(),(),(),(),()] 196)) Me _
   have hxb:=Md (frC z (.slice ao n cap)) (L9 wr (.cells #[(),(),(),(),.slice none 0 0,(),(),(),(),(),(),(),(),(),(),(),(),(),(),(),(),(),(),(),(),(),(),(),()] 196))
   have hBX:=HB.out.trans (hbx.mono HB.out.size)
   clear hr hbx
   generalize (wr.alloc (.cells #[(),(),(),(),.slice none 0 0,(),(),(),(),(),(),(),(),(),(),(),(),(),(),(),(),(),(),(),(),(),(),(),()] 196)).setRow wr.heap.size (frC z (.slice ao n cap))=X at*
   generalize wr.heap.size=xb at*
   have hsz:=(HC.out.ah hBX).size
   have hXB:=MI hBX
   have hF1:=MI (hFB.out X.drew (HT.out.ah hBX.drew))
   clear hBX HB
   refine wp_region_noPanic ?_
   refine wp_region_held_drew (S:=fun w'=>w'.heap[xb]? =some (.cells (frC z (.slice ao n cap)) 196 (0,0))∧w'.cell? ⟨cb,32,none⟩=some (.int .i64 (size:Int))) (by kernel_rfl) ?_ (fun hHeld=>?_)
   ·exact⟨hxb,hsz⟩
   refine MG 1 ?_ ?_ (by assumption) ?_
   rotate_left
   ·(intro w hSw;(try dsimp only at hSw);go_simp;try with_reducible rfl)
   try simp only[Act.put,aS]
   refine MG 2 ?_ ?_ (by assumption) ?_
   rotate_left
   ·(intro w hSw;(try dsimp only at hSw);go_simp;try with_reducible rfl)
   try simp only[Act.put,aS]
   refine MG 3 ?_ ?_ (by assumption) ?_
   rotate_left
   ·(intro w hSw;(try dsimp only at hSw);go_simp;try with_reducible rfl)
   try simp only[Act.put,aS]
   refine MG 4 ?_ ?_ (by assumption) ?_
   rotate_left
   ·(intro w hSw;(try dsimp only at hSw);go_simp;try with_reducible rfl)
   try simp only[Act.put,aS]
   refine wpAnyH_take (i:=0) (v:=.agg (frC z (.slice ao n cap))) rfl (by kernel_rfl) (by kernel_rfl) (by kernel_rfl) (fun _ _ _ h=>h) (aU (by kernel_rfl) 196 (.tmp 8) rfl xb rfl 196 (frC z (.slice ao n cap)) (0,0) _ (fun w h=>h.1) Tryz.underlying196 rfl hfi) (by assumption) ?_
   try simp only[Act.put,aS]
   refine wpAnyH_ready (rs:=[5]) (by kernel_rfl) (by simp) ?_
   refine AllReadyH.cons rfl (fun K hK=>?_) AllReadyH.nil
   go_simp
   go_at_call 133;refine hF1.out.mono ?_;rintro e w4 ⟨bo,bm,bc,err,rfl,hb4,hE0,hE1⟩
   refine hK.out _ _ ?_ (fun hHeld=>?_)
   ·(try dsimp only);exact⟨rwB hHeld.1 hb4,(hb4.cell (World.block_lt_of_cell? _ _ hHeld.2)).trans hHeld.2⟩
   clear hK K
   try simp only[Act.put,aS]
   refine MG 6 ?_ ?_ (by assumption) ?_
   rotate_left
   ·(intro w hSw;(try dsimp only at hSw);go_simp;try with_reducible rfl)
   try simp only[Act.put,aS]
   refine MG 7 ?_ ?_ (by assumption) ?_
   rotate_left
   ·(intro w hSw;(try dsimp only at hSw);go_simp;try with_reducible rfl)
   try simp only[Act.put,aS]
   refine MG 8 ?_ ?_ (by assumption) ?_
   rotate_left
   ·(intro w hSw;(try dsimp only at hSw);go_simp;try with_reducible rfl)
   try simp only[Act.put,aS]
   refine MG 9 ?_ ?_ (by assumption) ?_
   rotate_left
   ·(intro w hSw;(try dsimp only at hSw);go_simp;try with_reducible rfl)
   try simp only[Act.put,aS]
   refine MG 10 ?_ ?_ (by assumption) ?_
   rotate_left
   ·(intro w hSw;(try dsimp only at hSw);go_simp;try with_reducible rfl)
   try simp only[Act.put,aS]
   refine wpAnyH_done (by kernel_rfl) ?_ _
   refine NoPanic.normal ?_
   have hXs:=hXB.out.size
   have hBx4:Below w.heap.size w w4:=hXB.out.trans ((((Below.refl _ X).drew).trans hb4).mono hXs)
   have HB4:=MI hBx4
   clear hBx4 hb4 hHeld hxb hsz
   by_cases he:err=0
   case neg=>
    have heb:(err !=0)=true:=by simpa using he
    go_wp2_with fail
    go_ret2
    exact⟨none,0,0,err,rfl,HB4.out,(fun h=>absurd h he),hE1⟩
   subst he
   obtain⟨rfl,hfl,g4,rfl,hg4,hO4⟩:=hE0 rfl
   have hus:((frB z ts bm).map (Value.int .u8)).length=bm*1:=by rw[List.length_map,hfl,Nat.mul_one]
   have hcell: ∀j u,((frB z ts bm).map (Value.int .u8))[j]? =some u→w4.cell? ((⟨g4,0,none⟩:Addr).add j)=some u:=fun j u hu=>hO4.cells (g:=g4) rfl j u hu
   have hnil:w4.ownsRow w.heap.size 5 1 (.slice none 0 0) 0 []:=World.ownsRow_nil _ _ _ _
   have hws:=HB4.out.size
   clear hO4 hE0 hg4
   go_wp2_with (at_builtin;refine bY rfl (.tmp 31) (.tmp 32) 63 5 1 rfl Tryz.underlying63 info5 rfl (by decide) w.heap.size _ 0 [] rfl hnil ⟨g4,0,none⟩ bm bc ((frB z ts bm).map (Value.int .u8)) hus rfl hcell (kL _ _) (by omega) (by unfold maxLen;omega) hws ?_;intro v6 w6 ho6 hk6;rw[List.nil_append,Nat.zero_add] at ho6;obtain⟨g6,c6,rfl⟩:=iF ho6 hs0)
   exact⟨⟨HB4.out.trans (hk6.bg hws (fun k hk e=>by cases e)),.inr ⟨rfl,trivial,hfl,g6,c6,rfl,mr ho6 rfl,ho6⟩⟩,by simp[aG]⟩
  ·have HB:=MI hb
   have HO:=MI hO
   clear hb hO
   go_wp2_with fail
   go_ret2
   exact⟨_,size,c,0,rfl,HB.out,(fun _=>⟨rfl,hfl,g,rfl,hg,HO.out⟩),(fun _ _=>rfl)⟩
def rW(zs:List Int)(m:Mt)(l:List Int)(size:Nat):List Int:=jP (bz zs m.first (frB (exF l).z [] size)) m.sums 4 (fH (frB (exF l).z [] size)).toNat 4
structure LK(m:Mt)(l:List Int)(size:Nat):Prop where
 ch:m.ch=1
 ex:kQ l.length l (size:Int)
 rt:fC (exF l).z []=true
 ln:(frW (exF l).z []).bs.length≤size
 b8:W8 (frB (exF l).z [] size)
structure LyS(w0 w:World)(ib cb size:Nat)(m:Mt)(s:Sr)(L:Nat)(zs:List Int)(wr:World):Prop where
 im:Blk .u8 wr ib 5 zs
 len:zs.length=L
 w8:W8 zs
 mt:wr.heap[w.heap.size]? =some (.cells (aB m) 54 (0,0))
 sr:wr.heap[w.heap.size+1]? =some (.cells (srA s) 76 (0,0))
 cd:mY wr cb (size:Int)
 k:af (fun k=>k=ib) w wr
 b0:Below w0.heap.size w0 wr
theorem LyS.next{w0 w:World}{ib cb size:Nat}{m:Mt}{s:Sr}{L:Nat}{zs:List Int}{w1 w2:World}(h:LyS w0 w ib cb size m s L zs w1)(hb:Below w1.heap.size w1 w2):LyS w0 w ib cb size m s L zs w2:=
 ⟨h.im.ah hb,h.len,h.w8,rwB h.mt hb,rwB h.sr hb,h.cd.ah hb,h.k.below hb h.k.size,h.b0.trans (hb.mono h.b0.size)⟩
theorem LyS.put{w0 w:World}{ib cb size:Nat}{m:Mt}{s:Sr}{L:Nat}{zs zs2:List Int}{w1 w2:World}(h:LyS w0 w ib cb size m s L zs w1)(hB:Blk .u8 w2 ib 5 zs2)(hl:zs2.length=L)(h8:W8 zs2)(hk:af (fun k=>k=ib) w1 w2)(hi:w0.heap.size≤ib):LyS w0 w ib cb size m s L zs2 w2:=
 ⟨hB,hl,h8,hk.heap h.mt (fun e=>aF h.mt h.im (by decide) e),hk.heap h.sr (fun e=>aF h.sr h.im (by decide) e),⟨hk.heap h.cd.row (fun e=>aF h.cd.row h.im (by decide) e)⟩,h.k.trans hk,h.b0.trans (hk.bg h.b0.size (fun k hk2 e=>by have e2:k=ib:=e;omega))⟩
def LayP(w0:World)(ib L:Nat)(zs:List Int)(m:Mt)(l:List Int)(size:Nat)(w:World)(e:Ending)(w':World):Prop:=∃(zs':List Int)(err:Int),e= .returned (.int .i64 err)∧zs'.length=L∧W8 zs'∧Blk .u8 w' ib 5 zs'∧af (fun k=>k=ib) w w'∧(LK m l size→err=0∧zs'=rW zs m l size)
theorem Gw(w:World):Calls Tryz.prog 156 #[.int .u64 1] w (fun e w'=>e= .returned (.int .i64 1)∧w=w'):=by
 go_enter Tryz.func156,Tryz.ntmps156
 go_wp2_with fail
 go_ret
 exact⟨by kernel_rfl,rfl⟩
theorem KZ(w:World):Calls Tryz.prog 126 #[.int .u64 1] w (fun e w'=>e= .returned (.int .i64 1)∧w=w'):=by
 have h:=MI (Gw w)
 go_enter Tryz.func126,Tryz.ntmps126
 go_wp2_with (go_at_call 156;refine h.out.mono ?_;rintro e w2 ⟨rfl,rfl⟩)
 go_ret
 exact⟨rfl,rfl⟩
theorem Dh(v:Value)(w:World):Calls Tryz.prog 146 #[v,(),.int .i64 1] w (fun e w'=>e= .returned (.tuple #[])∧w=w'):=by
 go_enter Tryz.func146,Tryz.ntmps146
 go_upto_region 1 with fail
 go_loop [6] (fun v6=>v6= .int .i64 1) (fun _=>0)
 case atStart=>rfl
 case round=>
  subst hrel
  go_wp2_with fail
  go_end0
  exact⟨rfl,rfl⟩
theorem pdq_one(v:Value)(w:World):Calls Tryz.prog 125 #[v,(),.int .i64 1,.int .i64 1] w (fun e w'=>e= .returned (.tuple #[])∧w=w'):=by
 have h:=MI (Dh v w)
 go_enter Tryz.func125,Tryz.ntmps125
 go_upto_region 2 with fail
 go_loop [1,2] (fun v1 v2=>v1= .int .i64 0∧v2= .int .i64 1) (fun _ _=>0)
 case atStart=>exact⟨rfl,rfl⟩
 case round=>
  obtain⟨rfl,rfl⟩:=hrel
  go_wp2_with (go_at_call 146;refine h.out.mono ?_;rintro e w2 ⟨rfl,rfl⟩)
  exact bodyPost_ret (results_none rfl _ _ _) rfl ⟨rfl,rfl⟩
theorem BJ(ao:Option Addr)(cap:Nat)(w:World):Calls Tryz.prog 88 #[.slice ao 1 cap] w (fun e w'=>e= .returned (.tuple #[])∧w=w'):=by
 have h:=MI (pdq_one (.slice ao 1 cap) w)
 have hb:=MI (KZ w)
 go_enter Tryz.func88,Tryz.ntmps88
 go_wp2_with (first | (go_at_call 126;refine hb.out.mono ?_;rintro e w2 ⟨rfl,rfl⟩) | (go_at_call 125;refine h.out.mono ?_;rintro e w2 ⟨rfl,rfl⟩))
 go_end0
 exact⟨rfl,rfl⟩
theorem Df(v f:Value)(w:World):Calls Tryz.prog 157 #[v,(),.int .i64 1,f] w (fun e w'=>e= .returned (.tuple #[])∧w=w'):=by
 go_enter Tryz.func157,Tryz.ntmps157
 go_upto_region 1 with fail
 go_loop [8] (fun v6=>v6= .int .i64 1) (fun _=>0)
 case atStart=>rfl
 case round=>
  subst hrel
  go_wp2_with fail
  go_end0
  exact⟨rfl,rfl⟩
theorem vI(v f:Value)(w:World):Calls Tryz.prog 127 #[v,.int .i64 1,f] w (fun e w'=>e= .returned (.tuple #[])∧w=w'):=by
 have h:=MI (Df v f w)
 go_enter Tryz.func127,Tryz.ntmps127
 go_upto_region 2 with fail
 go_loop [7,8] (fun v7 v8=>v7= .int .i64 0∧v8= .int .i64 20) (fun _ _=>0)
 case atStart=>exact⟨rfl,rfl⟩
 case round=>
  obtain⟨rfl,rfl⟩:=hrel
  go_upto_region 7 with(go_at_call 157;refine h.out.mono ?_;rintro e w2 ⟨rfl,rfl⟩)
  go_loop [6] (fun v6=>v6= .int .i64 20) (fun _=>0)
  case atStart=>rfl
  case round=>
   subst hrel
   go_wp2_with fail
   go_end0
   exact⟨rfl,rfl⟩
theorem zh(ao:Option Addr)(cap:Nat)(f:Value)(w:World):Calls Tryz.prog 90 #[.slice ao 1 cap,f] w (fun e w'=>e= .returned (.tuple #[])∧w=w'):=by
 have h:=MI (vI (.slice ao 1 cap) f w)
 go_enter Tryz.func90,Tryz.ntmps90
 go_wp2_with (go_at_call 127;refine h.out.mono ?_;rintro e w2 ⟨rfl,rfl⟩)
 go_end0
 exact⟨rfl,rfl⟩
end Go.Proofs.YtnicjahcgnhogaaGreatDoor
