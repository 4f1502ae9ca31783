/- Part 24 of the walk: contracts of the program's functions, each for every input. No condition. -/
import Derived.Test.YtnicjahcgnhogaaGreatDoorQ20
import Derived.Test.YtnicjahcgnhogaaGreatDoorQ19
set_option linter.unusedVariables false
set_option linter.unusedSimpArgs false
set_option maxRecDepth 100000
set_option maxHeartbeats 8000000
namespace Go.Proofs.YtnicjahcgnhogaaGreatDoor
open Go Go.RowKit Go.Calli
attribute [local irreducible] wpStill wpAnyH wpAnyS wpList Code.wp
theorem hu191: ∃i2:TypeInfo,Tryz.prog.info? 191=some i2∧i2.zero=some (.agg #[(),(),(),()])∧i2.size=4∧i2.bytes=32:=⟨_,rfl,rfl,rfl,rfl⟩
def LP(c:Nat)(size:Int)(w:World)(e:Ending)(w':World):Prop:=∃g gs,e= .returned (.slice (some ⟨g,0,none⟩) c c)∧w.heap.size≤g∧gs.length=c*4∧Blk .i64 w' g 191 gs∧Below w.heap.size w w'∧(55≤size→gs=List.replicate (c*4) 0)
theorem Gz(cb:Nat)(size:Int)(ao:Option Addr)(n cap:Nat)(l:List Int)(hn:n≤10000)(hwl: ∀z ∈ l,(Lit.int .i64 z).wf=true)(w:World)(hlow:size<55→Calls Tryz.prog 130 #[.pointer (some ⟨cb,0,none⟩),.slice ao n cap] w (LP (bu n) size w))(hC:mY w cb size)(hI:Ints .i64 w ao n l):Calls Tryz.prog 130 #[.pointer (some ⟨cb,0,none⟩),.slice ao n cap] w (LP (bu n) size w):=by
 by_cases h55:55≤size
 case neg=>exact hlow (by omega)
 obtain⟨i2,hu1,hu2',hu3,hu4⟩:=hu191
 clear hlow
 have hCt:=MI (fun W=>count_any n (by omega) W)
 have hcl:bu n≤10000:=by unfold bu;omega
 have HC:=MI hC
 have HI:=MI hI
 have hEx:=MI (fun W h=>GV cb size W h)
 have hBl:=MI (fun W h=>vk ao n cap l (by omega) W h)
 clear hC hI
 generalize bu n=c at*
 go_enter Tryz.func130,Tryz.ntmps130
 go_upto_region 2 with(first
  | (go_at_call 121;refine(hCt.out _).mono ?_;rintro e w' ⟨rfl,hw⟩;obtain rfl:=hw.symm)
  | (at_make;refine wpList_make_full _ rfl _ _ 235 rfl w.heap.size 191 _ _ _ Tryz.underlying235 hu1 hu2' hu3 _ _ _ _ c rfl rfl rfl rfl (by rw[hu4];omega) (by unfold maxLen;omega) Me ?_;intro w3 hown hgrow))
 have hb3:Below w.heap.size w w3:=((af.refl (fun _=>False) w).grown hgrow (fun k hk=>by cases hk)).bg Me (fun _ _ e=>e.elim)
 have hB3:=MI (zQ rfl (by decide) (fun i hi=>by
  have hi2:i<4:=hi
  rcases i with _ | _ | _ | _ | i<;>first | rfl | omega) hown)
 have HB:=MI hb3
 have hE:=MI (hEx.out w3 (HC.out.ah hb3))
 have hBl3:=MI (hBl.out w3 (HI.out.ah hb3))
 clear hgrow hown hb3
 have hd:decide (55≤size)=true:=decide_eq_true h55
 rw[hd] at hE
 go_wp2_with (go_at_call 159;refine hE.out.mono ?_;rintro e w' ⟨rfl,hw⟩;obtain rfl:=hw.symm)
 go_ret
 exact⟨_,_,rfl,Me,by simp,hB3.out,HB.out,fun _=>rfl⟩
def wL(z:List Int):List Int:=(List.range 4).map (fun k=>z.getD (8+k) 0)
theorem xP(z:List Int):(wL z).length=4:=by simp[wL]
theorem fA.Ji{w:World}{b:Nat}{z:List Int}{tv:Value}(h:fA w b z tv):w.rangeAt b 9 ((wL z).map (Value.int .i64)):=fun j v hv=>by
 have hj:j<4:=by
  have:=(List.getElem?_eq_some_iff.1 hv).1
  simpa[wL] using this
 have h1:=h.hi (k:=4+j) (by omega)
 rw[show 5+(4+j)=9+j by omega,show 4+(4+j)=8+j by omega] at h1
 rw[h1,←hv]
 simp[wL,hj]
def AV(z:List Int)(n:Nat):Int:=wrap64 (52+28*(n:Int)+oP (wL z) 4)
theorem Lc(z:List Int)(hz:z.length=28)(ao:Option Addr)(n cap:Nat)(hn:n≤1000)(w:World):Calls Tryz.prog 202 #[.agg (frC z (.slice ao n cap))] w (fun e w'=>e= .returned (.int .i64 (AV z n))∧Below w.heap.size w w'):=by
 have hba:=ae w (.cells (frC z (.slice ao n cap)) 196)
 have hz0:=L9 w (.cells (frC z (.slice ao n cap)) 196)
 have hF:fA (w.alloc (.cells (frC z (.slice ao n cap)) 196)) w.heap.size z (.slice ao n cap):=⟨hz0,hz⟩
 have hC:=MI (fun W=>KO (wL z) (xP z) W)
 have HB:=MI hba
 have hm:=hF.mid
 have hrg:=hF.Ji
 have hwi:(Tryz.prog.info? 191).map (·.size)=some ((wL z).map (Value.int .i64)).length:=by rw[List.length_map,xP];kernel_rfl
 have hBZ:Hid (AV z n=wrap64 (52+28*(n:Int)+oP (wL z) 4)):=rfl
 have e1:IntKind.i64.wrap (28*(n:Int))=28*(n:Int):=IntWalk.i64_in _ (by omega)
 have e2:IntKind.i64.wrap (52+28*(n:Int))=52+28*(n:Int):=IntWalk.i64_in _ (by omega)
 have hlt:=L8 hz0
 have hB0:=hba.size
 clear hba hF
 generalize oP (wL z) 4=co at*
 generalize hcs:(wL z).map (Value.int .i64)=CS at*
 have hCS:Hid (CS.toArray=iA (wL z)):=by unfold Hid;rw[←hcs];rfl
 clear hcs hz0
 go_enter Tryz.func202,Tryz.ntmps202
 go_upto_region 1 with fail
 generalize w.alloc (.cells (frC z (.slice ao n cap)) 196)=W at*
 refine wp_region_noPanic ?_
 refine wp_region_held_drew (S:=fun w'=>w'.cell? ⟨w.heap.size,4,none⟩=some (.slice ao n cap)∧w'.rangeAt w.heap.size 9 CS) (by kernel_rfl) ?_ (fun hHeld=>?_)
 ·exact⟨hm,hrg⟩
 refine MG 0 ?_ ?_ (by assumption) ?_
 rotate_left
 ·(intro w hSw;(try dsimp only at hSw);go_simp;try with_reducible rfl)
 try simp only[Act.put,aS]
 refine MG 1 ?_ ?_ (by assumption) ?_
 rotate_left
 ·(intro w hSw;(try dsimp only at hSw);go_simp;try with_reducible rfl)
 try simp only[Act.put,aS]
 refine MG 2 ?_ ?_ (by assumption) ?_
 rotate_left
 ·(intro w hSw;(try dsimp only at hSw);go_simp;try with_reducible rfl)
 try simp only[Act.put,aS]
 refine MG 3 ?_ ?_ (by assumption) ?_
 rotate_left
 ·(intro w hSw;(try dsimp only at hSw);go_simp;try with_reducible rfl)
 try simp only[Act.put,aS]
 refine MG 4 ?_ ?_ (by assumption) ?_
 rotate_left
 ·(intro w hSw;(try dsimp only at hSw);go_simp;try with_reducible rfl)
 try simp only[Act.put,aS]
 refine MG 5 ?_ ?_ (by assumption) ?_
 rotate_left
 ·(intro w hSw;(try dsimp only at hSw);go_simp;try with_reducible rfl)
 try simp only[Act.put,aS]
 refine wpAnyH_take (i:=6) (v:=.agg CS.toArray) rfl (by kernel_rfl) (by kernel_rfl) (by kernel_rfl) (fun _ _ _ h=>h) (yieldsIf_load_mid (by kernel_rfl) 191 (.tmp 8) rfl w.heap.size 9 rfl CS _ (fun w h=>h.2) Tryz.underlying191 rfl hwi) (by assumption) ?_
 try simp only[Act.put,aS]
 rw[hCS.out]
 refine wpAnyH_ready (rs:=[7]) (by kernel_rfl) (by simp) ?_
 refine AllReadyH.cons rfl (fun K hK=>?_) AllReadyH.nil
 go_simp
 go_at_call 229;refine(hC.out _).mono ?_;rintro e w4 ⟨rfl,hb4⟩
 refine hK.out _ _ ?_ (fun hHeld=>?_)
 ·(try dsimp only);exact⟨(hb4.cell (by exact hlt)).trans hHeld.1,fun j v hv=>(hb4.cell (by exact hlt)).trans (hHeld.2 j v hv)⟩
 clear hK K
 try simp only[Act.put,aS]
 refine MG 8 ?_ ?_ (by assumption) ?_
 rotate_left
 ·(intro w hSw;(try dsimp only at hSw);go_simp;try with_reducible rfl)
 try simp only[Act.put,aS]
 refine MG 9 ?_ ?_ (by assumption) ?_
 rotate_left
 ·(intro w hSw;(try dsimp only at hSw);go_simp;try with_reducible rfl)
 try simp only[Act.put,aS]
 refine wpAnyH_done (by kernel_rfl) ?_ _
 refine NoPanic.normal ?_
 go_wp2_with fail
 go_ret
 exact⟨aX (by rw[hBZ.out];unfold wrap64;rw[IntKind.wrap_i64]),HB.out.trans ((show Below W.heap.size W w4 from((Below.refl _ W).drew).trans hb4).mono hB0)⟩
theorem wL_get(z:List Int)(k:Nat)(hk:k<4):(wL z).getD k 0=z.getD (8+k) 0:=by simp[wL,List.getD,hk]
def NxP(z:List Int)(w:World)(e:Ending)(w':World):Prop:=∃r:Int,e= .returned (.int .i64 r)∧Below w.heap.size w w'∧(r= -1∨∃k:Nat,r=(k:Int)∧k<4∧z.getD (4+k) 0<23)
theorem Gs(z m:List Int)(hz:z.length=28)(hm:m.length=4)(tv:Value)(w:World):Calls Tryz.prog 203 #[.agg (frC z tv),.agg (iA m)] w (NxP z w):=by
 have hb0:=ae w (.cells (frC z tv) 196)
 have hz0:=L9 w (.cells (frC z tv) 196)
 have hb1:=ae (w.alloc (.cells (frC z tv) 196)) (.cells (iA m) 191)
 have hz1:=L9 (w.alloc (.cells (frC z tv) 196)) (.cells (iA m) 191)
 have hz0:=rwB hz0 hb1
 have hB:=hb0.trans (hb1.mono hb0.size)
 rw[World.size_alloc] at hz1
 have hF:fA ((w.alloc (.cells (frC z tv) 196)).alloc (.cells (iA m) 191)) w.heap.size z tv:=⟨hz0,hz⟩
 have hrg:=hF.Ji
 have hwi:(Tryz.prog.info? 191).map (·.size)=some ((wL z).map (Value.int .i64)).length:=by rw[List.length_map,xP];kernel_rfl
 have HF:=MI hF
 have HZ1:=MI hz1
 have HB:=MI hB
 have HIX:=MI (fun k (hk:k<4) W=>iG (P:=Tryz.prog) 191 3 4 Tryz.underlying191 Tryz.underlying3 (by kernel_rfl) (wL z) (xP z) k hk W)
 clear hb0 hb1 hz0 hz1 hB hF
 go_enter Tryz.func203,Tryz.ntmps203
 go_upto_region 2 with fail
 generalize (w.alloc (.cells (frC z tv) 196)).alloc (.cells (iA m) 191)=W at*
 go_upto_region 3 with((with_reducible refine MC 191 8 ?_);refine wpList_load_mid rfl 191 (.tmp 8) rfl w.heap.size 9 rfl ((wL z).map (Value.int .i64)) _ hrg Tryz.underlying191 rfl hwi ?_;rw[show((wL z).map (Value.int .i64)).toArray=iA (wL z) from rfl])
 clear hrg hwi
 go_loopw [5,10] (fun v5 v10 wr=>∃(j:Nat)(b:Int),j≤4∧v10= .int .i64 (j:Int)∧v5= .int .i64 b∧(b= -1∨∃k:Nat,b=(k:Int)∧k<4∧z.getD (4+k) 0<23)∧fA wr w.heap.size z tv∧wr.heap[w.heap.size+1]? =some (.cells (iA m) 191 (0,0))∧Below w.heap.size w wr) (fun _ v10 _=>4 - aG v10)
 case atStart=>exact⟨0,-1,by omega,rfl,rfl,.inl rfl,HF.out,HZ1.out,HB.out⟩
 case round=>
  clear HF HZ1 HB
  obtain⟨j,b,hj,rfl,rfl,hbb,hF,h1,hB⟩:=hrel
  by_cases hj4:j<4
  ·have hix:=HIX.out j hj4
   rw[wL_get z j hj4] at hix
   have cs:=hF.hi (k:=j) (by omega)
   have cm:=aH (k:=j) h1 (by omega)
   have HF:=MI hF
   have H1:=MI h1
   have HB:=MI hB
   have HBB:=MI hbb
   have hdn: ∀n,fA (wr.drewN n) w.heap.size z tv∧(wr.drewN n).heap[w.heap.size+1]? =some (.cells (iA m) 191 (0,0))∧Below w.heap.size w (wr.drewN n):=fun n=>⟨⟨hF.row,hF.len⟩,h1,below_drewN hB n⟩
   have HDN:=MI hdn
   clear hF h1 hB hbb hdn
   by_cases hw0:z.getD (8+j) 0=0
   ·rw[hw0] at hix
    go_wp2_with fail
    exact⟨⟨j+1,b,by omega,by go_num,rfl,HBB.out,HF.out,H1.out,HB.out⟩,by simp[aG];omega⟩
   ·have hwb:(z.getD (8+j) 0==0)=false:=beq_eq_false_iff_ne.2 hw0
    generalize z.getD (8+j) 0=wj at*
    by_cases hs23:23≤z.getD (4+j) 0
    ·generalize z.getD (4+j) 0=sj at*
     go_wp2_with fail
     exact⟨⟨j+1,b,by omega,by go_num,rfl,HBB.out,HF.out,H1.out,HB.out⟩,by simp[aG];omega⟩
    ·have hok:Hid (z.getD (4+j) 0<23):=by unfold Hid;omega
     rcases HBB.out with rfl | ⟨k,rfl,hk,hks⟩
     ·generalize hsj:z.getD (4+j) 0=sj at*
      have HSJ:=MI hsj
      clear hsj
      go_upto_region 6 with fail
      go_quiet (fail)
      go_wp2_with fail
      refine⟨⟨j+1,(j:Int),by omega,by go_num,rfl,.inr ⟨j,rfl,hj4,by rw[HSJ.out];exact hok.out⟩,HDN.out _⟩,by simp[aG];omega⟩
     ·have cs2:=HF.out.hi (k:=k) (by omega)
      have cm2:=aH (k:=k) H1.out (by omega)
      have hKS:=MI hks
      have gk:decide ((k:Int)<0)=false:=decide_eq_false (by omega)
      clear hks
      generalize hsj:z.getD (4+j) 0=sj at*
      generalize hsk:z.getD (4+k) 0=sk at*
      generalize m.getD j 0=mj at*
      generalize m.getD k 0=mk at*
      have HSJ:=MI hsj
      have HSK:=MI hsk
      clear hsj hsk
      go_upto_region 6 with fail
      go_quiet (fail)
      go_wp2_with fail
      all_goals first
       | exact⟨⟨j+1,(j:Int),by omega,by go_num,rfl,.inr ⟨j,rfl,hj4,by rw[HSJ.out];exact hok.out⟩,HDN.out _⟩,by simp[aG];omega⟩
       | exact⟨⟨j+1,(k:Int),by omega,by go_num,rfl,.inr ⟨k,rfl,hk,by rw[HSK.out];exact hKS.out⟩,HDN.out _⟩,by simp[aG];omega⟩
  ·obtain rfl:j=4:=by omega
   have HBB:=MI hbb
   have HB:=MI hB
   clear hbb hB hF h1
   go_wp2_with fail
   go_ret
   exact⟨b,rfl,HB.out,HBB.out⟩
theorem ED{w:World}{b T:Nat}{zs:List Int}(h:w.heap[b]? =some (.cells (iA zs) T (0,0)))(off k:Nat)(hk:off+k≤zs.length)(hz:zs.length≤1000)(hwf: ∀z ∈ zs,(Lit.int .i64 z).wf=true):Ints .i64 w (some ⟨b,off,none⟩) k ((zs.drop off).take k):=
 ⟨by simp;omega,by unfold maxLen;omega,fun i hi=>⟨_,rfl,by
  rw[add0,aH (k:=off+i) h (by omega)]
  simp[List.getD,hi]⟩,fun z hz=>hwf z (List.mem_of_mem_drop (List.mem_of_mem_take hz))⟩
theorem abs_bd{v:Int}(h1: -9223372036854775808≤v)(h2:v≤9223372036854775807):0≤vS v∧vS v≤9223372036854775807:=by
 unfold vS wrap64
 split
 ·omega
 ·split<;>omega
theorem Ee{l:List Int}(h: ∀z ∈ l,(Lit.int .i64 z).wf=true):0≤ja l∧ja l≤9223372036854775807:=by
 unfold ja
 have key: ∀(l:List Int)(p:Int),(∀z ∈ l,(Lit.int .i64 z).wf=true)→0≤p∧p≤9223372036854775807→0≤l.foldl (fun p v=>max p (vS v)) p∧l.foldl (fun p v=>max p (vS v)) p≤9223372036854775807:=by
  intro l
  induction l with
  | nil=>intro p _ hp;exact hp
  | cons v r ih=>
   intro p hl hp
   have h1:=bounds_i64 (hl v (by simp))
   have h2:=abs_bd h1.1 h1.2
   exact ih _ (fun z hz=>hl z (by simp[hz])) ⟨Int.le_trans hp.1 (Int.le_max_left _ _),Int.max_le.2 ⟨hp.2,h2.2⟩⟩
 exact key l 0 h ⟨by omega,by omega⟩
theorem Jl(zs:List Int)(hwf: ∀z ∈ zs,(Lit.int .i64 z).wf=true)(w:World):Calls Tryz.prog 165 #[.int .i64 (ja zs)] w (Qt (.int .i64 (jL (ja zs))) w):=vX _ (by have:=Ee hwf;omega) (Ee hwf).2 w
theorem JE(b:List Int)(hb:b.length=16)(hwf: ∀z ∈ b,(Lit.int .i64 z).wf=true)(w:World):Calls Tryz.prog 199 #[.agg (iA b)] w (fun e w'=>∃m:List Int,m.length=4∧e= .returned (.agg (iA m))∧Below w.heap.size w w'):=by
 have hb0:=ae w (.cells (iA b) 194)
 have hz0:=L9 w (.cells (iA b) 194)
 have hb1:=ae (w.alloc (.cells (iA b) 194)) (.cells #[(),(),(),()] 191)
 have hz1:=L9 (w.alloc (.cells (iA b) 194)) (.cells #[(),(),(),()] 191)
 have hb2:=ae ((w.alloc (.cells (iA b) 194)).alloc (.cells #[(),(),(),()] 191)) (.cells #[(),(),(),()] 191)
 have hz2:=L9 ((w.alloc (.cells (iA b) 194)).alloc (.cells #[(),(),(),()] 191)) (.cells #[(),(),(),()] 191)
 have hz1:=rwB hz1 hb2
 have hz0:=rwB (rwB hz0 hb1) hb2
 have hB:=(hb0.trans (hb1.mono hb0.size)).trans (hb2.mono (hb0.trans (hb1.mono hb0.size)).size)
 simp only[World.size_alloc] at hz1 hz2
 clear hb0 hb1 hb2
 have HB:=MI hB
 have HZ0:=MI hz0
 have HZ1:=MI hz1
 have HZ2:=MI hz2
 have HP:=MI (fun(wr:World)(h:wr.heap[w.heap.size]? =some (.cells (iA b) 194 (0,0)))(off:Nat)(ho:off+4≤16)(cap:Nat)=>zC (some ⟨w.heap.size,off,none⟩) 4 cap ((b.drop off).take 4) wr (ED h off 4 (by omega) (by omega) hwf))
 have HW:=MI (fun(off:Nat) W=>Jl ((b.drop off).take 4) (fun z hz=>hwf z (List.mem_of_mem_drop (List.mem_of_mem_take hz))) W)
 clear hB hz0 hz1 hz2 hwf
 go_enter Tryz.func199,Tryz.ntmps199
 go_upto_region 3 with fail
 generalize ((w.alloc (.cells (iA b) 194)).alloc (.cells #[(),(),(),()] 191)).alloc (.cells #[(),(),(),()] 191)=W at*
 go_loopw [5] (fun v5 wr=>∃(j:Nat)(m:List Int),j≤4∧v5= .int .i64 (j:Int)∧m.length=4∧wr.heap[w.heap.size]? =some (.cells (iA b) 194 (0,0))∧wr.heap[w.heap.size+1]? =some (.cells #[(),(),(),()] 191 (0,0))∧wr.heap[w.heap.size+1+1]? =some (.cells (iA m) 191 (0,0))∧Below w.heap.size w wr) (fun v5 _=>4 - aG v5)
 case atStart=>exact⟨0,[0,0,0,0],by omega,rfl,rfl,HZ0.out,HZ1.out,HZ2.out,HB.out⟩
 case round=>
  clear HZ0 HZ1 HZ2 HB
  obtain⟨j,m,hj,rfl,hm,h0,h1,h2,hB⟩:=hrel
  by_cases hj4:j<4
  ·have hset:=fun v=>bJ h2 j v
   have hcm:=aH (k:=j) h2 (by omega)
   have hfm:=aj h2 j
   have HSET:=MI hset
   have H0:=MI h0
   have H1:=MI h1
   have HB:=MI hB
   have HPk:=MI (fun off ho cap=>HP.out wr h0 off ho cap)
   clear h0 h1 h2 hB hset
   have HEnd:Hid (∀(n1:Nat)(v:Int),(m.set j v).length=4∧((wr.drewN n1).setCell ⟨w.heap.size+1+1,j,none⟩ (.int .i64 v)).heap[w.heap.size]? =some (.cells (iA b) 194 (0,0))∧((wr.drewN n1).setCell ⟨w.heap.size+1+1,j,none⟩ (.int .i64 v)).heap[w.heap.size+1]? =some (.cells #[(),(),(),()] 191 (0,0))∧((wr.drewN n1).setCell ⟨w.heap.size+1+1,j,none⟩ (.int .i64 v)).heap[w.heap.size+1+1]? =some (.cells (iA (m.set j v)) 191 (0,0))∧Below w.heap.size w ((wr.drewN n1).setCell ⟨w.heap.size+1+1,j,none⟩ (.int .i64 v))):=fun n1 v=>
    ⟨by simpa using hm,(heap_setCell_other _ _ _ _ (by show w.heap.size≠w.heap.size+1+1;omega)).trans H0.out,(heap_setCell_other _ _ _ _ (by show w.heap.size+1≠w.heap.size+1+1;omega)).trans H1.out,HSET.out v,(below_drewN HB.out n1).setCell (p:=⟨w.heap.size+1+1,j,none⟩) (by show w.heap.size≤w.heap.size+1+1;omega) _⟩
   rcases(show j=0∨j=1∨j=2∨j=3 by omega) with rfl | rfl | rfl | rfl
   ·go_wp2_with (first
     | (go_at_call 166;refine(HPk.out 0 (by decide) _).mono ?_;rintro e w1 ⟨rfl,n1,rfl⟩)
     | (go_at_call 165;refine(HW.out 0 _).mono ?_;rintro e w2 ⟨rfl,n2,rfl⟩))
    exact⟨⟨1,_,by omega,rfl,HEnd.out _ _⟩,by simp[aG]⟩
   ·go_wp2_with (first
     | (go_at_call 166;refine(HPk.out 4 (by decide) _).mono ?_;rintro e w1 ⟨rfl,n1,rfl⟩)
     | (go_at_call 165;refine(HW.out 4 _).mono ?_;rintro e w2 ⟨rfl,n2,rfl⟩))
    exact⟨⟨2,_,by omega,rfl,HEnd.out _ _⟩,by simp[aG]⟩
   ·go_wp2_with (first
     | (go_at_call 166;refine(HPk.out 8 (by decide) _).mono ?_;rintro e w1 ⟨rfl,n1,rfl⟩)
     | (go_at_call 165;refine(HW.out 8 _).mono ?_;rintro e w2 ⟨rfl,n2,rfl⟩))
    exact⟨⟨3,_,by omega,rfl,HEnd.out _ _⟩,by simp[aG]⟩
   ·go_wp2_with (first
     | (go_at_call 166;refine(HPk.out 12 (by decide) _).mono ?_;rintro e w1 ⟨rfl,n1,rfl⟩)
     | (go_at_call 165;refine(HW.out 12 _).mono ?_;rintro e w2 ⟨rfl,n2,rfl⟩))
    exact⟨⟨4,_,by omega,rfl,HEnd.out _ _⟩,by simp[aG]⟩
  ·obtain rfl:j=4:=by omega
   have hi1:(Tryz.prog.info? 191).map (·.size)=some (iA m).size:=by rw[az,hm];kernel_rfl
   have hsz:(#[(),(),(),()]:Array Value).size=(iA m).size:=by rw[az,hm];rfl
   clear hm h0
   go_wp2_with (first | ((with_reducible refine MC 191 3 ?_);refine wpList_load_row rfl 191 (.tmp 3) rfl _ rfl 191 (iA m) (0,0) _ h2 Tryz.underlying191 rfl hi1 ?_) | ((with_reducible refine MF 191 2 19 ?_);refine wpList_store_row rfl 191 (.tmp 2) (.tmp 19) rfl _ (iA m) rfl rfl 191 #[(),(),(),()] h1 hi1 hsz (bP _) ?_))
   exact bodyPost_ret (results_cell_row (fn:=Tryz.f199) rfl _ _ _ _ _ _ _ rfl (setRow_heap _ _ _ _ _ _ h1) Tryz.underlying191 rfl hi1) rfl ⟨m,by simpa[az] using hsz.symm,rfl,below_setRow hB (by omega) _⟩
theorem lZ(x:Int)(h1: -1000000000000≤x)(h2:x≤1000000000000):wrap64 x=x:=by unfold wrap64;omega
theorem wid_bd(v:Int):0≤jL v∧jL v≤65:=by
 unfold jL
 split
 ·omega
 ·have:=sN 64 (if v<0 then(-v - 1).toNat else v.toNat)
  omega
theorem wdS_bd(q:List Int): ∀k i,0≤(wdS q k).getD i 0∧(wdS q k).getD i 0≤65:=by
 intro k
 induction k with
 | zero=>
  intro i
  simp only[wdS]
  rcases i with _ | _ | _ | _ | i<;>simp
 | succ k ih=>
  intro i
  simp only[wdS]
  have h1:=ih (k/4)
  have h2:=wid_bd (q.getD k 0)
  by_cases hi:i=k/4
  ·subst hi
   by_cases hl:k/4<(wdS q k).length
   ·rw[show((wdS q k).set (k/4) (max ((wdS q k).getD (k/4) 0) (jL (q.getD k 0)))).getD (k/4) 0=max ((wdS q k).getD (k/4) 0) (jL (q.getD k 0)) by simp[List.getD,hl]]
    omega
   ·rw[List.set_eq_of_length_le (by omega)]
    exact h1
  ·rw[show((wdS q k).set (k/4) (max ((wdS q k).getD (k/4) 0) (jL (q.getD k 0)))).getD i 0=(wdS q k).getD i 0 by simp[List.getD,List.getElem?_set_ne (Ne.symm hi)]]
   exact ih i
theorem BF(b g s:List Int)(ts:List (Int×Int))(hg:g.length=4)(hs:s.length=4)(k:Nat)(hk:k<4):(dS b g s ts).getD (4+k) 0=s.getD k 0:=by
 unfold dS
 obtain⟨g0,g1,g2,g3,rfl⟩:=mV hg
 obtain⟨s0,s1,s2,s3,rfl⟩:=mV hs
 rcases k with _ | _ | _ | _ | k<;>first | rfl | omega
theorem told_wL(b g s:List Int)(ts:List (Int×Int))(hg:g.length=4)(hs:s.length=4):wL (dS b g s ts)=kY (gX (jZ b ts) s):=by
 obtain⟨g0,g1,g2,g3,rfl⟩:=mV hg
 obtain⟨s0,s1,s2,s3,rfl⟩:=mV hs
 unfold dS
 have hl:(kY (gX (jZ b ts) [s0,s1,s2,s3])).length=4:=pz _ _
 generalize kY (gX (jZ b ts) [s0,s1,s2,s3])=wd at*
 obtain⟨w0,w1,w2,w3,rfl⟩:=mV hl
 rfl
theorem EZ(b g s:List Int)(ts:List (Int×Int))(hg:g.length=4)(hs:s.length=4)(n:Nat)(hn:n≤1000):AV (dS b g s ts) n≤1073741824:=by
 unfold AV
 rw[told_wL b g s ts hg hs]
 unfold kY
 have h:=wdS_bd (gX (jZ b ts) s) 16
 generalize wdS (gX (jZ b ts) s) 16=wd at*
 have h0:=h 0;have h1:=h 1;have h2:=h 2;have h3:=h 3
 simp only[oP]
 generalize wd.getD 0 0=w0 at*
 generalize wd.getD 1 0=w1 at*
 generalize wd.getD 2 0=w2 at*
 generalize wd.getD 3 0=w3 at*
 rw[lZ (4*w0) (by omega) (by omega),lZ (0+4*w0) (by omega) (by omega),lZ (4*w1) (by omega) (by omega),lZ (0+4*w0+4*w1) (by omega) (by omega),lZ (4*w2) (by omega) (by omega),lZ (0+4*w0+4*w1+4*w2) (by omega) (by omega),lZ (4*w3) (by omega) (by omega),lZ (0+4*w0+4*w1+4*w2+4*w3) (by omega) (by omega),lZ _ (by omega) (by omega)]
 omega
def LQ(w:World)(e:Ending)(w':World):Prop:=∃ao n cap ts,e= .returned (.slice ao n cap)∧bH ed 2 (0,0) w' ao n ts∧(∀a,ao=some a→w.heap.size≤a.block)∧n≤2∧Below w.heap.size w w'
def SrchP(b g:List Int)(room:Int)(tones:Bool)(w:World)(e:Ending)(w':World):Prop:=∃(z:List Int)(ao:Option Addr)(n cap:Nat)(ts:List (Int×Int))(r:Int),e= .returned (.tuple #[.agg (frC z (.slice ao n cap)),.int .i64 r])∧z.length=28∧bH ed 2 (0,0) w' ao n ts∧(∀a,ao=some a→w.heap.size≤a.block)∧n≤2∧Below w.heap.size w w'∧(tones=false→room=1073741824→z=dS b g [0,0,0,0] []∧ts=[]∧ao=none∧n=0∧cap=0)
def tC(s:List Int):Int:=s.getD 0 0+s.getD 1 0+s.getD 2 0+s.getD 3 0
structure SrS(w:World)(b g m s:List Int)(mb sb:Nat)(wr:World):Prop where
 z0:wr.heap[w.heap.size]? =some (.cells (iA b) 194 (0,0))
 z1:wr.heap[w.heap.size+1]? =some (.cells (iA g) 191 (0,0))
 z2:wr.heap[w.heap.size+2]? =some (.cells #[(),(),(),(),.slice none 0 0,(),(),(),(),(),(),(),(),(),(),(),(),(),(),(),(),(),(),(),(),(),(),(),()] 196 (0,0))
 zm:wr.heap[mb]? =some (.cells (iA m) 191 (0,0))
 zs:wr.heap[sb]? =some (.cells (iA s) 306 (0,0))
 hb:Below w.heap.size w wr
 l:s.length=4
 lo: ∀k,k<4→0≤s.getD k 0∧s.getD k 0≤23
 hsb:w.heap.size+2<sb
theorem SrS.next{w:World}{b g m s:List Int}{mb sb:Nat}{w1 w2:World}(h:SrS w b g m s mb sb w1)(hb:Below w1.heap.size w1 w2):SrS w b g m s mb sb w2:=
 ⟨rwB h.z0 hb,rwB h.z1 hb,rwB h.z2 hb,rwB h.zm hb,rwB h.zs hb,h.hb.trans (hb.mono h.hb.size),h.l,h.lo,h.hsb⟩
end Go.Proofs.YtnicjahcgnhogaaGreatDoor
namespace Go.Calli
open Go Go.RowKit Go.Calli
open Go.Proofs.YtnicjahcgnhogaaGreatDoor
attribute [local irreducible] wpStill wpAnyH wpAnyS wpList Code.wp
theorem bH.wY{α:Type}{f:α→List Value}{size:Nat}{d:α}{S:Nat→Prop}{w w':World}{ao:Option Addr}{n:Nat}{ms:List α}(h:bH f size d w ao n ms)(hk:af S w w')(hS:0<n→∀a,ao=some a→¬S a.block):bH f size d w' ao n ms:=by
 rcases Nat.eq_zero_or_pos n with h0 | h0
 ·subst h0
  have:ms=[]:=List.eq_nil_of_length_eq_zero h.hlen
  subst this
  exact bH.nil _ _ _ _ _
 ·exact h.kept hk (hS h0)
end Go.Calli
namespace Go.Proofs.YtnicjahcgnhogaaGreatDoor
open Go Go.RowKit Go.Calli
attribute [local irreducible] wpStill wpAnyH wpAnyS wpList Code.wp
theorem xU{w:World}{ao:Option Addr}{n:Nat}{ts:List (Int×Int)}(h:bH ed 2 (0,0) w ao n ts)(hn:0<n){a:Addr}(ha:ao=some a):a.block<w.heap.size:=by
 obtain⟨a',h1,h2,_⟩:=wz h hn
 rw[ha] at h1
 cases h1
 have:=World.block_lt_of_cell? w _ h2
 rwa [Addr.add_block] at this
structure SrF(w:World)(b g:List Int)(wr:World):Prop where
 z0:wr.heap[w.heap.size]? =some (.cells (iA b) 194 (0,0))
 z1:wr.heap[w.heap.size+1]? =some (.cells (iA g) 191 (0,0))
 z2:wr.heap[w.heap.size+2]? =some (.cells #[(),(),(),(),.slice none 0 0,(),(),(),(),(),(),(),(),(),(),(),(),(),(),(),(),(),(),(),(),(),(),(),()] 196 (0,0))
 hb:Below w.heap.size w wr
theorem SrF.next{w:World}{b g:List Int}{w1 w2:World}(h:SrF w b g w1)(hb:Below w1.heap.size w1 w2):SrF w b g w2:=
 ⟨rwB h.z0 hb,rwB h.z1 hb,rwB h.z2 hb,h.hb.trans (hb.mono h.hb.size)⟩
theorem set_sum{s:List Int}(hl:s.length=4){k:Nat}(hk:k<4)(v:Int):tC (s.set k v)=tC s - s.getD k 0+v:=by
 obtain⟨a,b,c,d,rfl⟩:=mV hl
 unfold tC
 rcases k with _ | _ | _ | _ | k
 all_goals first | omega | (simp;done) | (simp;omega)
theorem SrF.set{w:World}{b g:List Int}{w1:World}(h:SrF w b g w1){k:Nat}(hk:w.heap.size+3≤k)(cs:Array Value):SrF w b g (w1.setRow k cs):=
 ⟨(setRow_other _ _ _ _ (by omega)).trans h.z0,(setRow_other _ _ _ _ (by omega)).trans h.z1,(setRow_other _ _ _ _ (by omega)).trans h.z2,below_setRow h.hb (by omega) _⟩
theorem mi_len{w:World}{mb:Nat}{m:List Int}(h:w.heap[mb]? =some (.cells (iA m) 191 (0,0)))(hl:m.length=4):(Tryz.prog.info? 191).map (·.size)=some (iA m).size:=by rw[az,hl];kernel_rfl
theorem sum_bd{s:List Int}(h: ∀k,k<4→0≤s.getD k 0∧s.getD k 0≤23):0≤tC s∧tC s≤92:=by
 unfold tC
 have h0:=h 0 (by omega);have h1:=h 1 (by omega);have h2:=h 2 (by omega);have h3:=h 3 (by omega)
 omega
theorem set_lo4{s:List Int}(hl:s.length=4)(hlo: ∀k,k<4→0≤s.getD k 0∧s.getD k 0≤23){k:Nat}(hk:k<4)(v:Int)(h0:0≤v)(h1:v≤23): ∀i,i<4→0≤(s.set k v).getD i 0∧(s.set k v).getD i 0≤23:=fun i hi=>by
 by_cases e:i=k
 ·subst e;simp[List.getD,hl,hi];omega
 ·rw[show(s.set k v).getD i 0=s.getD i 0 by simp[List.getD,List.getElem?_set_ne (Ne.symm e)]]
  exact hlo i hi
theorem tK(b g:List Int)(hb:b.length=16)(hwf: ∀z ∈ b,(Lit.int .i64 z).wf=true)(hg:g.length=4)(room:Int)(tones:Bool)(hfind:tones=true→∀W,Calls Tryz.prog 198 #[.agg (iA b)] W (LQ W))(w:World):Calls Tryz.prog 169 #[.agg (iA b),.agg (iA g),.int .i64 room,.bool tones] w (SrchP b g room tones w):=by
 have hb0:=ae w (.cells (iA b) 194)
 have hz0:=L9 w (.cells (iA b) 194)
 have hb1:=ae (w.alloc (.cells (iA b) 194)) (.cells (iA g) 191)
 have hz1:=L9 (w.alloc (.cells (iA b) 194)) (.cells (iA g) 191)
 have hb2:=ae ((w.alloc (.cells (iA b) 194)).alloc (.cells (iA g) 191)) (.cells #[(),(),(),(),.slice none 0 0,(),(),(),(),(),(),(),(),(),(),(),(),(),(),(),(),(),(),(),(),(),(),(),()] 196)
 have hz2:=L9 ((w.alloc (.cells (iA b) 194)).alloc (.cells (iA g) 191)) (.cells #[(),(),(),(),.slice none 0 0,(),(),(),(),(),(),(),(),(),(),(),(),(),(),(),(),(),(),(),(),(),(),(),()] 196)
 have hz1:=rwB hz1 hb2
 have hz0:=rwB (rwB hz0 hb1) hb2
 have hB:=(hb0.trans (hb1.mono hb0.size)).trans (hb2.mono (hb0.trans (hb1.mono hb0.size)).size)
 simp only[World.size_alloc] at hz1 hz2
 clear hb0 hb1 hb2
 have hi0:(Tryz.prog.info? 194).map (·.size)=some (iA b).size:=by rw[az,hb];kernel_rfl
 have hi1:(Tryz.prog.info? 191).map (·.size)=some (iA g).size:=by rw[az,hg];kernel_rfl
 have hF:SrF w b g (((w.alloc (.cells (iA b) 194)).alloc (.cells (iA g) 191)).alloc (.cells #[(),(),(),(),.slice none 0 0,(),(),(),(),(),(),(),(),(),(),(),(),(),(),(),(),(),(),(),(),(),(),(),()] 196)):=⟨hz0,hz1,hz2,hB⟩
 have HF:=MI hF
 have HWF:=MI hwf
 have HLb:=MI hb
 have HLg:=MI hg
 have HFD:=MI hfind
 clear hz1 hz2 hB hF hwf hfind hb hg
 go_enter Tryz.func169,Tryz.ntmps169
 go_upto_if 16 with fail
 generalize ((w.alloc (.cells (iA b) 194)).alloc (.cells (iA g) 191)).alloc (.cells #[(),(),(),(),.slice none 0 0,(),(),(),(),(),(),(),(),(),(),(),(),(),(),(),(),(),(),(),(),(),(),(),()] 196)=W at*
 go_cut [10] (fun v10 wx=>∃ao n cap ts,v10= .slice ao n cap∧bH ed 2 (0,0) wx ao n ts∧(∀a,ao=some a→w.heap.size+3≤a.block)∧n≤2∧SrF w b g wx∧(tones=false→ts=[]∧ao=none∧n=0∧cap=0))
 case first=>
  cases tones
  ·go_wp2_with fail
   go_meet
   exact⟨none,0,0,[],rfl,bH.nil _ _ _ _ _,(fun a e=>by cases e),by omega,HF.out,fun _=>⟨rfl,rfl,rfl,rfl⟩⟩
  ·have hFd:=MI (HFD.out rfl W)
   go_wp2_with (first
    | ((with_reducible refine MC 194 4 ?_);refine wpList_load_row rfl 194 (.tmp 4) rfl w.heap.size rfl 194 (iA b) (0,0) _ hz0 Tryz.underlying194 rfl hi0 ?_)
    | (go_at_call 198;refine hFd.out.mono ?_;rintro e w1 ⟨ao,n,cap,ts,rfl,hR,hao,hn,hb1⟩))
   go_meet
   exact⟨ao,n,cap,ts,rfl,hR,(fun a e=>Nat.le_trans (L8 HF.out.z2) (hao a e)),hn,HF.out.next hb1,fun e=>by cases e⟩
 case rest=>
  obtain⟨wx,rfl⟩: ∃w',w'=wc:=⟨_,rfl⟩
  obtain⟨ao,n,cap,ts,rfl,hR,hao,hn,hF,hfl⟩:=hcut
  have hz0:=hF.z0
  have hT:=MI (yU b HLb.out ao n cap ts wx hR)
  have hM:=MI (fun W=>JE (jZ b ts) (by rw[zI];exact HLb.out) (outL_wf HWF.out ts) W)
  have HR:=MI hR
  have HFx:=MI hF
  have HFL:=MI hfl
  have HAO:=MI (show ∀a,ao=some a→w.heap.size≤a.block from fun a ha=>by have:=hao a ha;omega)
  have HAN:=MI (show ∀a,ao=some a→a.block≠w.heap.size+2 from fun a ha e=>by have:=hao a ha;omega)
  clear hR hF hfl hao HF HFD
  go_upto_region 5 with(first
   | ((with_reducible refine MC 194 4 ?_);refine wpList_load_row rfl 194 (.tmp 4) rfl w.heap.size rfl 194 (iA b) (0,0) _ hz0 Tryz.underlying194 rfl hi0 ?_)
   | (go_at_call 200;refine hT.out.mono ?_;rintro e w1 ⟨rfl,hb1⟩)
   | (go_at_call 199;refine(hM.out _).mono ?_;rintro e w2 ⟨m,hml,rfl,hb2⟩;have hmi:(Tryz.prog.info? 191).map (·.size)=some (iA m).size:=by{rw[az,hml];kernel_rfl};have hmz:(#[(),(),(),()]:Array Value).size=(iA m).size:=by{rw[az,hml];rfl})
   | ((with_reducible refine MF 191 11 22 ?_);refine wpList_store_row rfl 191 (.tmp 11) (.tmp 22) rfl _ (iA m) rfl rfl 191 (#[(),(),(),()]) (L9 _ _) hmi hmz (bP _) ?_))
  have hF2:=(HFx.out.next hb1).next hb2
  have hR2:=(HR.out.ah hb1).ah hb2
  have hlt:=L8 hF2.z2
  have hzm:=Md (iA m) (L9 w2 (.cells #[(),(),(),()] 191))
  have hF3:=(hF2.next (ae w2 (.cells #[(),(),(),()] 191))).set (k:=w2.heap.size) (by omega) (iA m)
  have hbx:=below_setRow (ae w2 (.cells #[(),(),(),()] 191)) Me (iA m)
  have hR3:=hR2.ah hbx
  have HML:=MI hml
  clear hF2 hR2 hb1 hb2 hT hM hbx HR HFx hmi hmz hml
  change Code.wp _ _ _ _ ((w2.alloc (.cells #[(),(),(),()] 191)).setRow w2.heap.size (iA m))
  generalize (w2.alloc (.cells #[(),(),(),()] 191)).setRow w2.heap.size (iA m)=V at*
  generalize w2.heap.size=mb at*
  have hba:=ae V (.cells #[(),(),(),()] 306)
  have hzs:=L9 V (.cells #[(),(),(),()] 306)
  have hS0:SrS w b g m [0,0,0,0] mb V.heap.size (V.alloc (.cells #[(),(),(),()] 306)):=
   ⟨rwB hF3.z0 hba,rwB hF3.z1 hba,rwB hF3.z2 hba,rwB hzm hba,hzs,hF3.hb.trans (hba.mono hF3.hb.size),rfl,(fun k hk=>by rcases k with _ | _ | _ | _ | k<;>first | (simp;done) | omega),by have:=L8 hzm;omega⟩
  have HS0:=MI hS0
  have hRx:=hR3.ah hba
  have HTL:=MI (show 0<n→∀a,ao=some a→¬(a.block=V.heap.size) from fun h0 a ha e=>by have:=xU hR3 h0 ha;omega)
  have HRx:=MI hRx
  have hVs:V.heap.size≤(V.alloc (.cells #[(),(),(),()] 306)).heap.size:=hba.size
  clear hF3 hzm hba hzs hS0 hR3 hz0 hRx
  go_upto_region 8 with fail
  generalize V.alloc (.cells #[(),(),(),()] 306)=V2 at*
  generalize V.heap.size=sb at*
  go_loopw [13] (fun v13 wr=>∃s,SrS w b g m s mb sb wr∧af (fun i=>i=sb) V2 wr∧v13= .int .i64 (tC s)∧(room=1073741824→s=[0,0,0,0])) (fun v13 _=>(200 - intOf v13).toNat)
  case atStart=>exact⟨[0,0,0,0],HS0.out,af.refl _ _,rfl,fun _=>rfl⟩
  case round=>
   clear HS0
   obtain⟨s,hS,hV,rfl,hrm⟩:=hrel
   have his:(Tryz.prog.info? 306).map (·.size)=some (iA s).size:=by rw[az,hS.l];kernel_rfl
   have hTo:=MI (IA b g s HLb.out HWF.out HLg.out hS.l ao n cap ts wr (HRx.out.wY hV HTL.out))
   have hzl:=qI b g s ts HLg.out hS.l
   have hfi:=jH (dS b g s ts) (.slice ao n cap) hzl
   have hfz:(#[(),(),(),(),.slice none 0 0,(),(),(),(),(),(),(),(),(),(),(),(),(),(),(),(),(),(),(),(),(),(),(),()]:Array Value).size=(frC (dS b g s ts) (.slice ao n cap)).size:=by rw[bC _ _ hzl];rfl
   have hfo:=dC (dS b g s ts) ao n cap
   have hz0:=hS.z0
   have hz1:=hS.z1
   have hzs:=hS.zs
   have HS:=MI hS
   have HV:=MI hV
   have HRM:=MI hrm
   clear hS hV hrm
   go_upto_region 9 with(first
    | ((with_reducible refine MC 194 4 ?_);refine wpList_load_row rfl 194 (.tmp 4) rfl w.heap.size rfl 194 (iA b) (0,0) _ hz0 Tryz.underlying194 rfl hi0 ?_)
    | ((with_reducible refine MC 191 5 ?_);refine wpList_load_row rfl 191 (.tmp 5) rfl (w.heap.size+1) rfl 191 (iA g) (0,0) _ hz1 Tryz.underlying191 rfl hi1 ?_)
    | ((with_reducible refine MC 306 12 ?_);refine wpList_load_row rfl 306 (.tmp 12) rfl sb rfl 306 (iA s) (0,0) _ hzs Tryz.underlying306 rfl his ?_)
    | (go_at_call 201;refine hTo.out.mono ?_;rintro e w4 ⟨rfl,hb4⟩)
    | ((with_reducible refine MF 196 14 29 ?_);refine wpList_store_row rfl 196 (.tmp 14) (.tmp 29) rfl _ (frC (dS b g s ts) (.slice ao n cap)) rfl rfl 196 (#[(),(),(),(),.slice none 0 0,(),(),(),(),(),(),(),(),(),(),(),(),(),(),(),(),(),(),(),(),(),(),(),()]) (L9 _ _) hfi hfz hfo ?_))
   have hsz4:=hb4.size
   have hbX:Below wr.heap.size wr ((w4.alloc (.cells #[(),(),(),(),.slice none 0 0,(),(),(),(),(),(),(),(),(),(),(),(),(),(),(),(),(),(),(),(),(),(),(),()] 196)).setRow w4.heap.size (frC (dS b g s ts) (.slice ao n cap))):=below_setRow (hb4.trans ((ae w4 (.cells #[(),(),(),(),.slice none 0 0,(),(),(),(),(),(),(),(),(),(),(),(),(),(),(),(),(),(),(),(),(),(),(),()] 196)).mono hsz4)) hsz4 _
   have hzf:=Md (frC (dS b g s ts) (.slice ao n cap)) (L9 w4 (.cells #[(),(),(),(),.slice none 0 0,(),(),(),(),(),(),(),(),(),(),(),(),(),(),(),(),(),(),(),(),(),(),(),()] 196))
   have hSX:=HS.out.next hbX
   have hVX:=HV.out.trans (af.au hbX Me)
   clear hb4 hbX hz0 hz1 hzs hsz4
   change Code.wp _ _ _ _ ((w4.alloc (.cells #[(),(),(),(),.slice none 0 0,(),(),(),(),(),(),(),(),(),(),(),(),(),(),(),(),(),(),(),(),(),(),(),()] 196)).setRow w4.heap.size (frC (dS b g s ts) (.slice ao n cap)))
   generalize (w4.alloc (.cells #[(),(),(),(),.slice none 0 0,(),(),(),(),(),(),(),(),(),(),(),(),(),(),(),(),(),(),(),(),(),(),(),()] 196)).setRow w4.heap.size (frC (dS b g s ts) (.slice ao n cap))=X at*
   generalize w4.heap.size=fb at*
   have hBi:=MI (Lc (dS b g s ts) hzl ao n cap (by omega) X)
   have hTB:=MI (EZ b g s ts HLg.out HS.out.l n (by omega))
   have HSX:=MI hSX
   have HVX:=MI hVX
   clear hSX hVX
   have hst:=MI (fun k hk=>BF b g s ts HLg.out HS.out.l k hk)
   by_cases hfit:AV (dS b g s ts) n≤room
   ·go_upto_region 10 with(first
     | ((with_reducible refine MC 196 14 ?_);refine wpList_load_row rfl 196 (.tmp 14) rfl fb rfl 196 (frC (dS b g s ts) (.slice ao n cap)) (0,0) _ hzf Tryz.underlying196 rfl hfi ?_)
     | (go_at_call 202;refine hBi.out.mono ?_;rintro e w5 ⟨rfl,hb5⟩))
    have HSn:=MI (HSX.out.next hb5)
    have hz2:=HSn.out.z2
    have hzf5:=rwB hzf hb5
    have HRn:=MI (HRx.out.wY (HVX.out.trans (af.au hb5 Me)) HTL.out)
    have HAb:=MI (show ∀a,ao=some a→a.block≠w.heap.size+2 from fun a ha e=>HAN.out a ha (by omega))
    have HFin:Hid (tones=false→room=1073741824→dS b g s ts=dS b g [0,0,0,0] []∧ts=[]∧ao=none∧n=0∧cap=0):=fun h1 h2=>by
     obtain⟨t1,t2,t3,t4⟩:=HFL.out h1
     exact⟨by rw[HRM.out h2,t1],t1,t2,t3,t4⟩
    clear hfit hb5 hzf
    go_wp2_with (first
     | ((with_reducible refine MC 196 14 ?_);refine wpList_load_row rfl 196 (.tmp 14) rfl fb rfl 196 (frC (dS b g s ts) (.slice ao n cap)) (0,0) _ hzf5 Tryz.underlying196 rfl hfi ?_)
     | ((with_reducible refine MF 196 8 34 ?_);refine wpList_store_row rfl 196 (.tmp 8) (.tmp 34) rfl _ (frC (dS b g s ts) (.slice ao n cap)) rfl rfl 196 (#[(),(),(),(),.slice none 0 0,(),(),(),(),(),(),(),(),(),(),(),(),(),(),(),(),(),(),(),(),(),(),(),()]) hz2 hfi hfz hfo ?_))
    exact bodyPost_ret (results_cell_tmp (fn:=Tryz.f169) (p:=8) (q:=9) (ty:=196) rfl _ _ _ _ _ _ _ rfl (setRow_heap _ _ _ _ _ _ hz2) Tryz.underlying196 rfl hfi) rfl ⟨dS b g s ts,ao,n,cap,ts,tC s,rfl,hzl,HRn.out.kept (aJ _ _ _) (fun a ha e=>by have:=HAb.out a ha;omega),HAO.out,hn,below_setRow HSn.out.hb (by omega) _,fun h1 h2=>HFin.out h1 h2⟩
   ·have hrne:room≠1073741824:=fun e=>hfit (by rw[e];exact hTB.out)
    go_upto_region 11 with(first
     | ((with_reducible refine MC 196 14 ?_);refine wpList_load_row rfl 196 (.tmp 14) rfl fb rfl 196 (frC (dS b g s ts) (.slice ao n cap)) (0,0) _ hzf Tryz.underlying196 rfl hfi ?_)
     | (go_at_call 202;refine hBi.out.mono ?_;rintro e w5 ⟨rfl,hb5⟩))
    have hSn:=HSX.out.next hb5
    have hz2:=hSn.z2
    have hzf5:=rwB hzf hb5
    have hzm:=hSn.zm
    have hmi:=mi_len hSn.zm HML.out
    have hNx:=MI (Gs (dS b g s ts) m hzl HML.out (.slice ao n cap) w5)
    have HSn:=MI hSn
    have HVn:=MI (HVX.out.trans (af.au hb5 Me))
    clear hSn hb5 hzf hBi
    go_upto_region 12 with(first
     | ((with_reducible refine MC 196 14 ?_);refine wpList_load_row rfl 196 (.tmp 14) rfl fb rfl 196 (frC (dS b g s ts) (.slice ao n cap)) (0,0) _ hzf5 Tryz.underlying196 rfl hfi ?_)
     | ((with_reducible refine MC 191 11 ?_);refine wpList_load_row rfl 191 (.tmp 11) rfl mb rfl 191 (iA m) (0,0) _ hzm Tryz.underlying191 rfl hmi ?_)
     | (go_at_call 203;refine hNx.out.mono ?_;rintro e w6 ⟨r,rfl,hb6,hr⟩))
    have hS6:=HSn.out.next hb6
    have hzf6:=rwB hzf5 hb6
    have hV6:=HVn.out.trans (af.au hb6 Me)
    have HS6:=MI hS6
    have HV6:=MI hV6
    have hz26:=hS6.z2
    have HFr6:=MI hzf6
    clear hb6 hS6 hV6 hz2 hzf5 hzm hzf6 hNx HSn HVn
    rcases hr with rfl | ⟨k,rfl,hk,hks⟩
    ·have HRn:=MI (HRx.out.wY HV6.out HTL.out)
     have HAb:=MI (show ∀a,ao=some a→a.block≠w.heap.size+2 from fun a ha e=>HAN.out a ha (by omega))
     have HFin:Hid (tones=false→room=1073741824→dS b g s ts=dS b g [0,0,0,0] []∧ts=[]∧ao=none∧n=0∧cap=0):=fun h1 h2=>absurd h2 hrne
     have HSn:=HS6
     have hz2:=hz26
     have hzf5:=HFr6.out
     clear hz26 hfit
     go_wp2_with (first
      | ((with_reducible refine MC 196 14 ?_);refine wpList_load_row rfl 196 (.tmp 14) rfl fb rfl 196 (frC (dS b g s ts) (.slice ao n cap)) (0,0) _ hzf5 Tryz.underlying196 rfl hfi ?_)
      | ((with_reducible refine MF 196 8 41 ?_);refine wpList_store_row rfl 196 (.tmp 8) (.tmp 41) rfl _ (frC (dS b g s ts) (.slice ao n cap)) rfl rfl 196 (#[(),(),(),(),.slice none 0 0,(),(),(),(),(),(),(),(),(),(),(),(),(),(),(),(),(),(),(),(),(),(),(),()]) hz2 hfi hfz hfo ?_))
     exact bodyPost_ret (results_cell_tmp (fn:=Tryz.f169) (p:=8) (q:=9) (ty:=196) rfl _ _ _ _ _ _ _ rfl (setRow_heap _ _ _ _ _ _ hz2) Tryz.underlying196 rfl hfi) rfl ⟨dS b g s ts,ao,n,cap,ts,tC s,rfl,hzl,HRn.out.kept (aJ _ _ _) (fun a ha e=>by have:=HAb.out a ha;omega),HAO.out,hn,below_setRow HSn.out.hb (by omega) _,fun h1 h2=>HFin.out h1 h2⟩
    ·rw[hst.out k hk] at hks
     have hlo:=HS6.out.lo k hk
     have hcs:=aH (k:=k) HS6.out.zs (by rw[HS6.out.l];exact hk)
     have hfs:=aj HS6.out.zs k
     have hnk:¬(k:Int)<0:=by omega
     have hw1:IntKind.i64.wrap (s.getD k 0+1)=s.getD k 0+1:=IntWalk.i64_in _ (by omega)
     have hsb4:=sum_bd HS6.out.lo
     have hw2:IntKind.i64.wrap (tC s+1)=tC s+1:=IntWalk.i64_in _ (by omega)
     have hset:=bJ HS6.out.zs k (s.getD k 0+1)
     have hsm:=set_sum HS6.out.l hk (s.getD k 0+1)
     have HSM:=MI hsm
     have HLO:=MI (set_lo4 HS6.out.l HS6.out.lo hk (s.getD k 0+1) (by omega) (by omega))
     have hk1:af (fun i=>i=sb) w6 (w6.setCell ⟨sb,k,none⟩ (.int .i64 (s.getD k 0+1))):=aC _ _ _ _
     have hS7:SrS w b g m (s.set k (s.getD k 0+1)) mb sb (w6.setCell ⟨sb,k,none⟩ (.int .i64 (s.getD k 0+1))):=
      ⟨hk1.heap HS6.out.z0 (by have:=HS6.out.hsb;omega),hk1.heap HS6.out.z1 (by have:=HS6.out.hsb;omega),hk1.heap HS6.out.z2 (by have:=HS6.out.hsb;omega),hk1.heap HS6.out.zm (fun e=>aF HS6.out.zm HS6.out.zs (by decide) e),hset,HS6.out.hb.trans (hk1.bg HS6.out.hb.size (fun i hi e=>by have:=HS6.out.hsb;omega)),by rw[List.length_set];exact HS6.out.l,HLO.out,HS6.out.hsb⟩
     have HS7:=MI hS7
     have HV7:=MI (HV6.out.trans hk1)
     have HSB:=MI hsb4
     clear hsm hset hS7 hk1 hz26 hks hlo hsb4
     generalize s.getD k 0=sk at*
     go_wp2_with fail
     refine⟨⟨_,HS7.out,HV7.out,congrArg (Value.int .i64) (by rw[HSM.out];omega),fun e=>absurd e hrne⟩,?_⟩
     have hq:=HSB.out
     simp[intOf]
     omega
end Go.Proofs.YtnicjahcgnhogaaGreatDoor
