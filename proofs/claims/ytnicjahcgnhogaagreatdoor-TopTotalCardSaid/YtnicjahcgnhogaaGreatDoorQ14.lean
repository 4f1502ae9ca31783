/- Part 15 of the walk: contracts of the program's functions, each for every input. No condition. -/
import Derived.Test.YtnicjahcgnhogaaGreatDoorQ13
import Derived.Test.YtnicjahcgnhogaaGreatDoorQ01
set_option linter.unusedVariables false
set_option linter.unusedSimpArgs false
set_option maxRecDepth 100000
set_option maxHeartbeats 8000000
namespace Go.Proofs.YtnicjahcgnhogaaGreatDoor
open Go Go.RowKit Go.Calli
attribute [local irreducible] wpStill wpAnyH wpAnyS wpList Code.wp
theorem mP.bd{B:Bk}{f f':Fe}{m:Mt}{ch n:Nat}{u u':Ku}(h:mP B f f' m ch n u u'):u.fr≤u'.fr∧u'.fr≤u.fr+1∧u'.lost.length≤u.lost.length+1:=by
 rcases h with⟨i,_,_,_,rfl,_⟩ | ⟨_,u1,b,R,⟨err,z,ts,_,_,_,_,_,hfr,_,h0,h1⟩,_,rfl,_⟩
 ·exact⟨Int.le_refl _,by simp only;omega,by simp⟩
 ·refine⟨by simp only;omega,by simp only;omega,?_⟩
  simp only
  by_cases he:err=0
  ·rw[(h0 he).2.2.1];omega
  ·rw[(h1 he).2.2.1];simp
theorem zM{p k:Nat}(hp:p<16*k):(jQ p k).1<k∧(jQ p k).2<k:=by
 unfold jQ
 split<;>exact⟨by simp only;omega,by simp only;omega⟩
theorem flipV{P:Program}{F:FuncId}{args:Array Value}{w:World}{v:Value}(h:Calls P F args w fun e w'=>e= .returned v∧w'=w):Calls P F args w fun e w'=>e= .returned v∧w=w':=h.mono fun _ _ ⟨a,b⟩=>⟨a,b.symm⟩
def AtR(B:Bk)(f f':Fe)(m:Mt)(ch p:Nat)(u u':Ku)(r:Int):Prop:=∃(u1:Ku)(f1:Fe),mP B f f1 m ch (jQ p (bu m.len)).1 u u1∧mP B f1 f' m ch (jQ p (bu m.len)).2 u1 u'∧(u1.kept.getD 0 kb0).Ok∧(u'.kept.getD 0 kb0).Ok∧
 r=iU (if p/16=(jQ p (bu m.len)).1 then lN (u1.kept.getD 0 kb0).wv (if(jQ p (bu m.len)).1=(jQ p (bu m.len)).2 then none else some (u'.kept.getD 0 kb0).wv) (u1.kept.getD 0 kb0).g (p%16) else lN (u'.kept.getD 0 kb0).wv (if(jQ p (bu m.len)).1=(jQ p (bu m.len)).2 then none else some (u1.kept.getD 0 kb0).wv) (u'.kept.getD 0 kb0).g (p%16))
def AtP(X:Fx)(σ:Own)(B:Bk)(K:Nat)(f:Fe)(C:Kx)(u:Ku)(p:Nat)(w:World)(e:Ending)(w':World):Prop:=∃(r:Int)(kv lv:Value)(u':Ku)(σ':Own)(f':Fe),e= .returned (.int .i64 r)∧AtR B f f' (B.dir.getD C.i m0) C.ch p u u' r∧aK X σ' w' B (K+2) f'∧FeB (K+2) f'∧dH X.fb C σ' w' kv lv u'∧af (FC σ C.t) w w'∧Ext σ σ' w.heap.size
theorem Eo{σ τ:Own}{a w w':World}{t:Nat}(hk:af (FC σ t) a w)(h:af (FC τ t) w w')(he:Ext σ τ a.heap.size):af (FC σ t) a w':=hk.andThen h (fun i hi e=>by unfold FC at e⊢;rwa [he i hi] at e)
theorem AU{w:World}{ab:Nat}{b:Kb}(hb:b.Ok)(h:w.heap[ab]? =some (.cells (iA (kbL b)) 316 (0,0))):vF w ab 1 b.wv:=fun k hk=>by
 have:=aH (k:=1+k) h (by simp only[kbL,List.length_cons,List.length_append,hb.w,hb.g];omega)
 rw[this]
 simp only[kbL]
 congr 2
 rw[show 1+k=k+1 by omega,List.getD_cons_succ,List.getD,List.getElem?_append_left (by rw[hb.w];omega)]
 rfl
theorem Ag{w:World}{ab:Nat}{b:Kb}(hb:b.Ok)(h:w.heap[ab]? =some (.cells (iA (kbL b)) 316 (0,0))):w.rangeAt ab 17 (iL b.g):=by
 have:=gK (w:=w) (b:=ab) (T:=316) (fr:=(0,0)) (Value.int .i64 b.n::iL b.wv) (iL b.g) [] (by rw[h];simp[iA,kbL,iL])
 rwa [List.length_cons,dA,hb.w] at this
theorem at_any(X:Fx)(σ:Own)(B:Bk)(K:Nat)(hK:K≤499000)(f:Fe)(hf:FeB K f)(C:Kx)(hC:KOk B C)(kv lv:Value)(u:Ku)(hu0:0≤u.fr)(hu1:u.fr≤K)(hul:u.lost.length≤K)(p:Nat)(hp:p<C.len)(w:World)(h:aK X σ w B K f)(hcu:dH X.fb C σ w kv lv u):Calls Tryz.prog 178 #[.pointer (some ⟨C.cb,0,none⟩),.int .i64 p] w (AtP X σ B K f C u p w):=by
 obtain⟨c53,c54,c55,c56,c57,c58,c59,f57,f58,f59⟩:=gq hcu.p hcu.row
 have hl1:=(h.bk.ok.m C.i hC.i).l1
 have hlen:=hC.len
 have hN:=MI (rJ X.fb C σ kv lv u w hcu)
 have hCt:=MI (fun w=>flipV (count_any C.len (by omega) w))
 have hpc:p<16*bu C.len:=by unfold bu;omega
 have hcl:bu C.len<2^36:=by unfold bu;omega
 have hNd:=MI (fun w=>flipV (JB p (bu C.len) hcl hpc w))
 obtain⟨hn1,hn2⟩:=zM hpc
 have HLE:=MI hlen
 have hp0:¬(p:Int)<0:=by omega
 have hp1:¬(C.len:Int)≤(p:Int):=by omega
 have e1:(p:Int).tdiv 16=((p/16:Nat):Int):=by rw[Int.tdiv_eq_ediv_of_nonneg (by omega)];omega
 have e2:(p:Int).tmod 16=((p%16:Nat):Int):=by rw[Int.tmod_eq_emod_of_nonneg (by omega)];omega
 have e3:IntKind.i64.wrap ((p/16:Nat):Int)=((p/16:Nat):Int):=IntWalk.i64_in _ (by omega)
 have e4:IntKind.i64.wrap ((p%16:Nat):Int)=((p%16:Nat):Int):=IntWalk.i64_in _ (by omega)
 have hpm:p%16<16:=Nat.mod_lt _ (by omega)
 obtain⟨n,hpn⟩: ∃n,p/16=n:=⟨_,rfl⟩
 obtain⟨i,hpi⟩: ∃i,p%16=i:=⟨_,rfl⟩
 rw[hpn] at e1 e3
 rw[hpi] at e2 e4 hpm
 obtain⟨F,hF⟩: ∃F,(jQ p (bu C.len)).1=F:=⟨_,rfl⟩
 obtain⟨L,hL⟩: ∃L,(jQ p (bu C.len)).2=L:=⟨_,rfl⟩
 rw[hF,hL] at hNd
 rw[hF] at hn1
 rw[hL] at hn2
 have HPN:=MI hpn
 have HPI:=MI hpi
 have HF:=MI hF
 have HL:=MI hL
 have HB1:=MI (xE X σ B K (by omega) f hf C hC kv lv u hu0 hu1 hul F hn1 w h hcu)
 unfold BlkP at HB1
 clear hpn hpi hF hL hlen hpc hcl
 go_enter Tryz.func178,Tryz.ntmps178
 go_upto_region 7 with(first
  | (go_at_call 140;refine hN.out.mono ?_;rintro e w' ⟨rfl,rfl⟩)
  | (go_at_call 121;refine(hCt.out _).mono ?_;rintro e w' ⟨rfl,rfl⟩)
  | (go_at_call 208;refine(hNd.out _).mono ?_;rintro e w' ⟨rfl,rfl⟩)
  | (go_at_call 209;refine HB1.out.mono ?_;rintro e w1 ⟨g1,cap1,u1,lv1,σ1,f1,rfl,hR1,hp1,hn1',hF1,hFB1,hU1,hK1,hE1⟩;obtain⟨b1,hb1⟩: ∃b,u1.kept.getD 0 kb0=b:=⟨_,rfl⟩;have hra1:w1.rangeAt g1 0 (kbV b1):=(by have:=o6 hU1.kept hU1.ok rfl hp1;rwa [hb1,Nat.zero_mul] at this);have hok1:b1.Ok:=(by have:=hU1.ok _ (show u1.kept.getD 0 kb0 ∈ u1.kept by rw[show u1.kept.getD 0 kb0=u1.kept[0] by simp[List.getD,hp1]];exact List.getElem_mem _);rwa [hb1] at this);have hkl1:=jG hok1;have hi1:(Tryz.prog.info? 316).map (·.size)=some (kbV b1).length:=(by rw[hkl1];kernel_rfl);have hj1:(Tryz.prog.info? 316).map (·.size)=some (iA (kbL b1)).size:=hi1.trans (by rw[az];unfold kbV;rw[dA]);have hs1:gu.size=(iA (kbL b1)).size:=(by rw[az,←dA];exact hkl1.symm);have HQ1:=MI hb1;clear hb1 hn1')
  | (with_reducible refine MC 316 46 ?_;refine wpList_load_mid rfl 316 (.tmp 46) rfl g1 0 rfl (kbV b1) _ hra1 Tryz.underlying316 rfl hi1 ?_;rw[show(kbV b1).toArray=iA (kbL b1) from rfl])
  | (with_reducible refine MF 316 10 47 ?_;rw[←nP];refine wpList_store_row rfl 316 (.tmp 10) (.tmp 47) rfl _ (iA (kbL b1)) rfl rfl 316 gu (L9 _ _) hj1 hs1 (bP _) ?_))
 have hbA:=below_setRow (ae w1 (.cells gu 316)) Me (iA (kbL b1))
 have hzA:=Md (iA (kbL b1)) (L9 w1 (.cells gu 316))
 have hxA:=eH σ1 (b:=w1.heap.size) 3 Me
 have HF1:=MI (hF1.fD hbA (b:=w1.heap.size) 3 Me (L8 hzA))
 have HU1:=MI ((hU1.ext hxA).ah hbA)
 have HK1:=MI (hK1.below hbA hK1.size)
 have HE1:=MI (hE1.trans hxA hK1.size)
 have hs3:=MI (dG σ1 w1.heap.size 3)
 have HR1:=MI hR1
 have hbd:=hR1.bd
 have hw1:w.heap.size≤w1.heap.size:=hK1.size
 clear hbA hxA hF1 hU1 hK1 hE1 hR1 hra1 c53 c54 c55 c56 c57 c58 c59 f57 f58 f59 hp0 hp1 e1 e2 e3 e4
 dsimp only[Act.put]
 generalize fD σ1 w1.heap.size 3=τ1 at*
 generalize (w1.alloc (.cells gu 316)).setRow w1.heap.size (iA (kbL b1))=W1 at*
 have hw1':=L8 hzA
 generalize w1.heap.size=ab at*
 have HB2:=MI (xE X τ1 B (K+1) (by omega) f1 hFB1 C hC (.slice (some ⟨g1,0,none⟩) u1.kept.length cap1) lv1 u1 (by omega) (by omega) (by omega) L hn2 W1 HF1.out HU1.out)
 unfold BlkP at HB2
 go_upto_region 8 with(first
  | (go_at_call 209;refine HB2.out.mono ?_;rintro e w2 ⟨g2,cap2,u2,lv2,σ2,f2,rfl,hR2,hp2,hn2',hF2,hFB2,hU2,hK2,hE2⟩;obtain⟨b2,hb2⟩: ∃b,u2.kept.getD 0 kb0=b:=⟨_,rfl⟩;have hra2:w2.rangeAt g2 0 (kbV b2):=(by have:=o6 hU2.kept hU2.ok rfl hp2;rwa [hb2,Nat.zero_mul] at this);have hok2:b2.Ok:=(by have:=hU2.ok _ (show u2.kept.getD 0 kb0 ∈ u2.kept by rw[show u2.kept.getD 0 kb0=u2.kept[0] by simp[List.getD,hp2]];exact List.getElem_mem _);rwa [hb2] at this);have hkl2:=jG hok2;have hi2:(Tryz.prog.info? 316).map (·.size)=some (kbV b2).length:=(by rw[hkl2];kernel_rfl);have hj2:(Tryz.prog.info? 316).map (·.size)=some (iA (kbL b2)).size:=hi2.trans (by rw[az];unfold kbV;rw[dA]);have hs2:gu.size=(iA (kbL b2)).size:=(by rw[az,←dA];exact hkl2.symm);have HQ2:=MI hb2;clear hb2 hn2')
  | (with_reducible refine MC 316 51 ?_;refine wpList_load_mid rfl 316 (.tmp 51) rfl g2 0 rfl (kbV b2) _ hra2 Tryz.underlying316 rfl hi2 ?_;rw[show(kbV b2).toArray=iA (kbL b2) from rfl])
  | (with_reducible refine MF 316 11 52 ?_;rw[←nP];refine wpList_store_row rfl 316 (.tmp 11) (.tmp 52) rfl _ (iA (kbL b2)) rfl rfl 316 gu (L9 _ _) hj2 hs2 (bP _) ?_))
 have hzA2:=hK2.heap hzA (fun e=>by have:=HU1.out.t3;unfold FC at e;rw[hs3.out] at e;omega)
 have hbB:=below_setRow (ae w2 (.cells gu 316)) Me (iA (kbL b2))
 have hzB:=Md (iA (kbL b2)) (L9 w2 (.cells gu 316))
 have hzA3:=(hbB.block _ (L8 hzA2)).trans hzA2
 have HF2:=MI (hF2.ah hbB)
 have HU2:=MI (hU2.ah hbB)
 have HK2:=MI (((Eo HK1.out hK2 HE1.out)).below hbB (by have:=HK1.out.size;have:=hK2.size;omega))
 have HE2:=MI (HE1.out.trans hE2 HK1.out.size)
 have HR2:=MI hR2
 clear hbB hF2 hU2 hK2 hE2 hR2 hra2 hzA hzA2 HF1 HU1 HK1 HE1 HB1 HB2
 dsimp only[Act.put]
 generalize (w2.alloc (.cells gu 316)).setRow w2.heap.size (iA (kbL b2))=W2 at*
 generalize w2.heap.size=bb at*
 have hAw:=L8 hzA3
 have hBw:=L8 hzB
 have hrA:=AU hok1 hzA3
 have hrB:=AU hok2 hzB
 have hgA:=Ag hok1 hzA3
 have hgB:=Ag hok2 hzB
 have hLap:=(Au HU2.out.p HU2.out.row).2
 by_cases hnF:n=F
 ·subst hnF
  by_cases hFL:n=L
  ·subst hFL
   have HO:=MI (zK ab 1 b1.wv b1.g hok1.g i hpm W2.drew hrA hAw)
   go_upto_region 13 with fail
   refine wp_region_still_tail 13 (by kernel_rfl) (by kernel_rfl) ?_
   simp only[List.take_succ_cons,List.take_zero,List.drop_succ_cons,List.drop_zero]
   change wpStill _ _ W2.drew _ _ _
   repeat (first
    | (refine dh rfl 178 (.tmp 63) rfl C.cb 21 rfl (iL cO) _ hLap Tryz.underlying178 rfl (by kernel_rfl) ?_)
    | (refine dh rfl 191 (.tmp 71) rfl ab 17 rfl (iL b1.g) _ hgA Tryz.underlying191 rfl (by rw[dA,hok1.g];kernel_rfl) ?_)
    | still_step)
   try refine wpStill_nil ?_
   change wpList _ _ _ _ _ W2.drew
   rw[show(iL cO).toArray=iA cO from rfl,show(iL b1.g).toArray=iA b1.g from rfl]
   generalize hV:lN b1.wv none b1.g i=V at*
   have HV:=MI hV
   clear hV
   have HSa:=MI (fun w=>nT V w)
   unfold Qt at HSa
   go_wp2_with (first
    | (go_at_call 210;refine HO.out.mono ?_;rintro e w3 ⟨rfl,hb3⟩)
    | (go_at_call 113;refine(HSa.out _).mono ?_;rintro e w4 ⟨rfl,md,rfl⟩))
   go_ret
   have hb4:Below W2.heap.size W2 (w3.drewN md):=below_drewN (((Below.refl _ W2).drew).trans hb3) md
   exact⟨iU V,_,lv2,u2,σ2,f2,rfl,⟨u1,f1,by rw[←HLE.out,HF.out];exact HR1.out,by rw[←HLE.out,HL.out];exact HR2.out,by rw[HQ1.out];exact hok1,by rw[HQ2.out];exact hok2,by rw[←HLE.out,HF.out,HL.out,HPN.out,HPI.out,HQ1.out,HQ2.out,if_pos rfl,if_pos rfl];exact congrArg iU HV.out.symm⟩,HF2.out.ah hb4,hFB2,HU2.out.ah hb4,HK2.out.below hb4 (by have:=HK2.out.size;exact this),HE2.out⟩
  ·have q:=mD hFL
   have HNL:=MI hFL
   clear hFL
   have HO:=MI (zJ ab 1 bb 1 b1.wv b2.wv b1.g hok1.g i hpm W2.drew hrA hAw hrB hBw)
   go_upto_region 13 with fail
   refine wp_region_still_tail 13 (by kernel_rfl) (by kernel_rfl) ?_
   simp only[List.take_succ_cons,List.take_zero,List.drop_succ_cons,List.drop_zero]
   change wpStill _ _ W2.drew _ _ _
   repeat (first
    | (refine dh rfl 178 (.tmp 63) rfl C.cb 21 rfl (iL cO) _ hLap Tryz.underlying178 rfl (by kernel_rfl) ?_)
    | (refine dh rfl 191 (.tmp 71) rfl ab 17 rfl (iL b1.g) _ hgA Tryz.underlying191 rfl (by rw[dA,hok1.g];kernel_rfl) ?_)
    | still_step)
   try refine wpStill_nil ?_
   change wpList _ _ _ _ _ W2.drew
   rw[show(iL cO).toArray=iA cO from rfl,show(iL b1.g).toArray=iA b1.g from rfl]
   generalize hV:lN b1.wv (some b2.wv) b1.g i=V at*
   have HV:=MI hV
   clear hV
   have HSa:=MI (fun w=>nT V w)
   unfold Qt at HSa
   go_wp2_with (first
    | (go_at_call 210;refine HO.out.mono ?_;rintro e w3 ⟨rfl,hb3⟩)
    | (go_at_call 113;refine(HSa.out _).mono ?_;rintro e w4 ⟨rfl,md,rfl⟩))
   go_ret
   have hb4:Below W2.heap.size W2 (w3.drewN md):=below_drewN (((Below.refl _ W2).drew).trans hb3) md
   exact⟨iU V,_,lv2,u2,σ2,f2,rfl,⟨u1,f1,by rw[←HLE.out,HF.out];exact HR1.out,by rw[←HLE.out,HL.out];exact HR2.out,by rw[HQ1.out];exact hok1,by rw[HQ2.out];exact hok2,by rw[←HLE.out,HF.out,HL.out,HPN.out,HPI.out,HQ1.out,HQ2.out,if_pos rfl,if_neg HNL.out];exact congrArg iU HV.out.symm⟩,HF2.out.ah hb4,hFB2,HU2.out.ah hb4,HK2.out.below hb4 (by have:=HK2.out.size;exact this),HE2.out⟩
 ·have q0:=mD hnF
  have HNF:=MI hnF
  clear hnF
  by_cases hFL:F=L
  ·subst hFL
   have HO:=MI (zK bb 1 b2.wv b2.g hok2.g i hpm W2.drew hrB hBw)
   go_upto_region 13 with fail
   refine wp_region_still_tail 13 (by kernel_rfl) (by kernel_rfl) ?_
   simp only[List.take_succ_cons,List.take_zero,List.drop_succ_cons,List.drop_zero]
   change wpStill _ _ W2.drew _ _ _
   repeat (first
    | (refine dh rfl 178 (.tmp 63) rfl C.cb 21 rfl (iL cO) _ hLap Tryz.underlying178 rfl (by kernel_rfl) ?_)
    | (refine dh rfl 191 (.tmp 71) rfl bb 17 rfl (iL b2.g) _ hgB Tryz.underlying191 rfl (by rw[dA,hok2.g];kernel_rfl) ?_)
    | still_step)
   try refine wpStill_nil ?_
   change wpList _ _ _ _ _ W2.drew
   rw[show(iL cO).toArray=iA cO from rfl,show(iL b2.g).toArray=iA b2.g from rfl]
   generalize hV:lN b2.wv none b2.g i=V at*
   have HV:=MI hV
   clear hV
   have HSa:=MI (fun w=>nT V w)
   unfold Qt at HSa
   go_wp2_with (first
    | (go_at_call 210;refine HO.out.mono ?_;rintro e w3 ⟨rfl,hb3⟩)
    | (go_at_call 113;refine(HSa.out _).mono ?_;rintro e w4 ⟨rfl,md,rfl⟩))
   go_ret
   have hb4:Below W2.heap.size W2 (w3.drewN md):=below_drewN (((Below.refl _ W2).drew).trans hb3) md
   exact⟨iU V,_,lv2,u2,σ2,f2,rfl,⟨u1,f1,by rw[←HLE.out,HF.out];exact HR1.out,by rw[←HLE.out,HL.out];exact HR2.out,by rw[HQ1.out];exact hok1,by rw[HQ2.out];exact hok2,by rw[←HLE.out,HF.out,HL.out,HPN.out,HPI.out,HQ1.out,HQ2.out,if_neg HNF.out,if_pos rfl];exact congrArg iU HV.out.symm⟩,HF2.out.ah hb4,hFB2,HU2.out.ah hb4,HK2.out.below hb4 (by have:=HK2.out.size;exact this),HE2.out⟩
  ·have q:=mD hFL
   have HNL:=MI hFL
   clear hFL
   have HO:=MI (zJ bb 1 ab 1 b2.wv b1.wv b2.g hok2.g i hpm W2.drew hrB hBw hrA hAw)
   go_upto_region 13 with fail
   refine wp_region_still_tail 13 (by kernel_rfl) (by kernel_rfl) ?_
   simp only[List.take_succ_cons,List.take_zero,List.drop_succ_cons,List.drop_zero]
   change wpStill _ _ W2.drew _ _ _
   repeat (first
    | (refine dh rfl 178 (.tmp 63) rfl C.cb 21 rfl (iL cO) _ hLap Tryz.underlying178 rfl (by kernel_rfl) ?_)
    | (refine dh rfl 191 (.tmp 71) rfl bb 17 rfl (iL b2.g) _ hgB Tryz.underlying191 rfl (by rw[dA,hok2.g];kernel_rfl) ?_)
    | still_step)
   try refine wpStill_nil ?_
   change wpList _ _ _ _ _ W2.drew
   rw[show(iL cO).toArray=iA cO from rfl,show(iL b2.g).toArray=iA b2.g from rfl]
   generalize hV:lN b2.wv (some b1.wv) b2.g i=V at*
   have HV:=MI hV
   clear hV
   have HSa:=MI (fun w=>nT V w)
   unfold Qt at HSa
   go_wp2_with (first
    | (go_at_call 210;refine HO.out.mono ?_;rintro e w3 ⟨rfl,hb3⟩)
    | (go_at_call 113;refine(HSa.out _).mono ?_;rintro e w4 ⟨rfl,md,rfl⟩))
   go_ret
   have hb4:Below W2.heap.size W2 (w3.drewN md):=below_drewN (((Below.refl _ W2).drew).trans hb3) md
   exact⟨iU V,_,lv2,u2,σ2,f2,rfl,⟨u1,f1,by rw[←HLE.out,HF.out];exact HR1.out,by rw[←HLE.out,HL.out];exact HR2.out,by rw[HQ1.out];exact hok1,by rw[HQ2.out];exact hok2,by rw[←HLE.out,HF.out,HL.out,HPN.out,HPI.out,HQ1.out,HQ2.out,if_neg HNF.out,if_neg HNL.out];exact congrArg iU HV.out.symm⟩,HF2.out.ah hb4,hFB2,HU2.out.ah hb4,HK2.out.below hb4 (by have:=HK2.out.size;exact this),HE2.out⟩
theorem KU(fb i ch len:Nat):Tryz.prog.built 210 [(1,.agg (iA cO)),(2,.pointer (some ⟨fb,0,none⟩)),(3,.int .i64 i),(4,.int .i64 ch),(5,.int .i64 len)]=some (iL (List.replicate 20 0)++ .int .i64 0::dW fb ⟨0,0,i,ch,len⟩ (.slice none 0 0) (.slice none 0 0) 0).toArray:=by kernel_rfl
def u0:Ku:=⟨List.replicate 20 0,0,[],[],0⟩
def CnwP(X:Fx)(i ch len:Nat)(w:World)(e:Ending)(w':World):Prop:=∃cb,e= .returned (.tuple #[.pointer (some ⟨cb,0,none⟩),()])∧w.heap.size≤cb∧w'.heap[cb]? =some (.cells (iL (List.replicate 20 0)++ .int .i64 0::dW X.fb ⟨0,0,i,ch,len⟩ (.slice none 0 0) (.slice none 0 0) 0).toArray 210 (0,0))∧Below w.heap.size w w'
theorem Dx(X:Fx)(σ:Own)(B:Bk)(K:Nat)(f:Fe)(i ch:Nat)(hi:i<B.dir.length)(hc:ch<(B.dir.getD i m0).ch)(w:World)(h:aK X σ w B K f):Calls Tryz.prog 72 #[.pointer (some ⟨X.fb,0,none⟩),.int .i64 i,.int .i64 ch] w (CnwP X i ch (B.dir.getD i m0).len w):=by
 have HFB:=MI (fun w h=>jf X σ B K f w h)
 have HMe:=MI (rC X.D B i hi w h.bk)
 have HH:=MI h
 have hm:=h.bk.ok.m i hi
 have hc1:=hm.c1
 have t1:¬(ch:Int)<0:=by omega
 have t2:¬((B.dir.getD i m0).ch:Int)≤(ch:Int):=by omega
 have hFb:=MI (jf X σ B K f w h)
 generalize B.dir.getD i m0=m at*
 have hsz2:(Tryz.prog.info? 54).map (·.size)=some (aB m).size:=by kernel_rfl
 have hone:=jc m
 have hLp:=MI (fun w=>uD w)
 obtain⟨CU,hCU⟩: ∃CU,(iL (List.replicate 20 0)++ .int .i64 0::dW X.fb ⟨0,0,i,ch,m.len⟩ (.slice none 0 0) (.slice none 0 0) 0).toArray=CU:=⟨_,rfl⟩
 have HBU:=MI (KU X.fb i ch m.len)
 rw[hCU] at HBU
 have HCU:=MI hCU
 clear h hCU hm
 go_enter Tryz.func72,Tryz.ntmps72
 go_upto_region 2 with(first
  | (go_at_call 32;refine hFb.out.mono ?_;rintro e w' ⟨rfl,rfl⟩)
  | (go_at_call 12;refine HMe.out.mono ?_;rintro e w1 ⟨rfl,hb1⟩)
  | (with_reducible refine MF 54 8 15 ?_;refine wpList_store_row rfl 54 (.tmp 8) (.tmp 15) rfl _ (aB m) rfl rfl 54 Z54 (L9 _ _) hsz2 rfl hone ?_))
 have hbA:=below_setRow (ae w1 (.cells Z54 54)) Me (aB m)
 have hr:=Md (aB m) (L9 w1 (.cells Z54 54))
 have HB:=MI (hb1.trans (hbA.mono hb1.size))
 have hsz1:w.heap.size≤w1.heap.size:=hb1.size
 clear hbA hb1
 change Code.wp _ _ _ _ ((w1.alloc (.cells Z54 54)).setRow w1.heap.size (aB m))
 generalize (w1.alloc (.cells Z54 54)).setRow w1.heap.size (aB m)=W at*
 have HF:=MI (HFB.out W (HH.out.ah HB.out))
 have hmb:w1.heap.size<W.drew.heap.size:=L8 hr
 generalize w1.heap.size=mb at*
 obtain⟨d0,d1,d2,d3,d4,d5,d6,d7,d8⟩:=fK hr
 go_upto_region 8 with(go_at_call 32;refine HF.out.mono ?_;rintro e w' ⟨rfl,rfl⟩)
 refine wp_region_noPanic ?_
 refine wp_region_held_drew (S:=fun w'=>w'.cell? ⟨mb,1,none⟩=some (.int .i64 m.len)) (by kernel_rfl) ?_ (fun hHeld=>?_)
 ·exact d1
 refine MG 1 ?_ ?_ (by assumption) ?_
 rotate_left
 ·(intro w hSw;(try dsimp only at hSw);go_simp;try with_reducible rfl)
 try simp only[Act.put,aS]
 refine MG 2 ?_ ?_ (by assumption) ?_
 rotate_left
 ·(intro w hSw;(try dsimp only at hSw);go_simp;try with_reducible rfl)
 try simp only[Act.put,aS]
 refine MG 3 ?_ ?_ (by assumption) ?_
 rotate_left
 ·(intro w hSw;(try dsimp only at hSw);go_simp;try with_reducible rfl)
 try simp only[Act.put,aS]
 refine MG 4 ?_ ?_ (by assumption) ?_
 rotate_left
 ·(intro w hSw;(try dsimp only at hSw);go_simp;try with_reducible rfl)
 try simp only[Act.put,aS]
 refine MG 5 ?_ ?_ (by assumption) ?_
 rotate_left
 ·(intro w hSw;(try dsimp only at hSw);go_simp;try with_reducible rfl)
 try simp only[Act.put,aS]
 refine wpAnyH_ready (rs:=[0]) (by kernel_rfl) (by simp) ?_
 refine AllReadyH.cons rfl (fun K hK=>?_) AllReadyH.nil
 go_simp
 go_at_call 86;refine(hLp.out _).mono ?_;rintro e w3 ⟨rfl,hb3⟩
 refine hK.out _ _ ?_ (fun hHeld=>?_)
 ·(try dsimp only);exact(hb3.cell (by exact hmb)).trans hHeld
 clear hK K
 try simp only[Act.put,aS]
 refine wpAnyH_take (i:=6) (v:=.agg CU) rfl (by kernel_rfl) (by kernel_rfl) (by kernel_rfl) (fun _ _ _ h=>h) (kD (by kernel_rfl) 210 _ rfl CU (Eq.trans (b:=Tryz.prog.built 210 [(1,.agg (iA cO)),(2,.pointer (some ⟨X.fb,0,none⟩)),(3,.int .i64 i),(4,.int .i64 ch),(5,.int .i64 m.len)]) (by kernel_rfl) HBU.out)) (by assumption) ?_
 try simp only[Act.put,aS]
 refine wpAnyH_ready (rs:=[7]) (by kernel_rfl) (by simp) ?_
 refine AllReadyH.cons rfl (fun K hK=>?_) AllReadyH.nil
 go_simp
 refine hK.out _ _ ?_ (fun hHeld=>?_)
 ·(try dsimp only);exact((ae w3 (.cells CU 210)).cell (by exact Nat.lt_of_lt_of_le hmb hb3.size)).trans hHeld
 clear hK K
 try simp only[Act.put,aS]
 refine wpAnyH_ready (rs:=[8]) (by kernel_rfl) (by simp) ?_
 refine AllReadyH.cons rfl (fun K hK=>?_) AllReadyH.nil
 go_simp
 refine hK.out _ _ ?_ (fun hHeld=>?_)
 ·(try dsimp only);exact hHeld
 clear hK K
 try simp only[Act.put,aS]
 refine wpAnyH_ready (rs:=[9]) (by kernel_rfl) (by simp) ?_
 refine AllReadyH.cons rfl (fun K hK=>?_) AllReadyH.nil
 go_simp
 refine hK.out _ _ ?_ (fun hHeld=>?_)
 ·(try dsimp only);exact hHeld
 clear hK K
 try simp only[Act.put,aS]
 refine wpAnyH_done (by kernel_rfl) ?_ _
 refine NoPanic.normal ?_
 go_wp2_with fail
 go_ret2
 have hb4:Below w.heap.size w w3:=HB.out.trans ((((Below.refl _ W).drew).trans hb3).mono HB.out.size)
 exact⟨_,rfl,hb4.size,by rw[HCU.out];exact L9 _ _,hb4.trans ((ae w3 (.cells CU 210)).mono hb4.size)⟩
def voA(m:Mt)(cv:Value):Array Value:=#[.string m.nm,.int .i64 m.len,.int .i64 m.rate,.int .i64 m.ch,.bool m.loop,.int .i64 m.ls,.int .i64 m.le,.int .i64 m.sums,.int .i64 m.first,cv,(),.int .i64 4294967296,.bool false]
theorem KY(m:Mt):Tryz.prog.built 148 [(0,.agg (aB m)),(3,.int .i64 4294967296)]=some (voA m (.slice none 0 0)):=by kernel_rfl
def Cf(b:Nat):Value:=.pointer (some ⟨b,0,none⟩)
theorem info149:(Tryz.prog.info? 149).map (fun i=>(i.zero,i.size,i.bytes))=some (some (.pointer none),1,8):=by kernel_rfl
def yL(X:Fx)(i k len:Nat):Obj:=.cells (iL (List.replicate 20 0)++ .int .i64 0::dW X.fb ⟨0,0,i,k,len⟩ (.slice none 0 0) (.slice none 0 0) 0).toArray 210 (0,0)
structure VnR(X:Fx)(i:Nat)(m:Mt)(vb:Nat)(w:World)(j:Nat)(cs:List Nat)(cv:Value)(wr:World):Prop where
 len:cs.length=j
 row:wr.heap[vb]? =some (.cells (voA m cv) 148 (0,0))
 own:wr.ownsRow w.heap.size 149 1 cv j (cs.map Cf)
 cur: ∀k,k<j→wr.heap[cs.getD k 0]? =some (yL X i k m.len)
 lo: ∀k,k<j→w.heap.size≤cs.getD k 0
 inc: ∀k l,k<l→l<j→cs.getD k 0<cs.getD l 0
 low:Below w.heap.size w wr
theorem VnR.snoc{X:Fx}{i:Nat}{m:Mt}{vb:Nat}{w wr w2 w3:World}{j:Nat}{cs:List Nat}{cv cv3:Value}{cb:Nat}(h:VnR X i m vb w j cs cv wr)(hvb:w.heap.size≤vb)(hcb:wr.heap.size≤cb)(hrow:w2.heap[cb]? =some (yL X i j m.len))(hb2:Below wr.heap.size wr w2)(hown3:w3.ownsRow w.heap.size 149 1 cv3 (j+1) (cs.map Cf++[Cf cb]))(hk3:af (fun k=>cv.ownBlock=some k) w2 w3):
  VnR X i m vb w (j+1) (cs++[cb]) cv3 (w3.setCell ⟨vb,9,none⟩ cv3):=by
 have hown2:=dF h.own hb2
 have hv2:=bT h.row hb2 (L8 h.row)
 have hv3:=hk3.heap hv2 (fun e=>by obtain⟨cs',hcs⟩:=ag hown2 e;exact aF hcs hv2 (by decide) rfl)
 have hks:=aC w3 vb 9 cv3
 have tw: ∀(b:Nat)(k:Nat),w2.heap[b]? =some (yL X i k m.len)→(w3.setCell ⟨vb,9,none⟩ cv3).heap[b]? =some (yL X i k m.len):=fun b k hb=>by
  have h3:=hk3.heap hb (fun e=>by obtain⟨cs',hcs⟩:=ag hown2 e;exact aF hcs hb (by decide) rfl)
  exact hks.heap h3 (fun e=>aF h3 hv3 (by decide) e)
 have hl:=h.len
 have g1: ∀k,k<j→(cs++[cb]).getD k 0=cs.getD k 0:=fun k hk=>by simp[List.getD,List.getElem?_append_left (show k<cs.length by omega)]
 have g2:(cs++[cb]).getD j 0=cb:=by simp[List.getD,←hl]
 have hlow:=h.low.size
 refine⟨by simp[hl],Mc hv3,?_,fun k hk=>?_,fun k hk=>?_,fun k l h1 h2=>?_,?_⟩
 ·rw[List.map_append]
  exact ay hown3 hks (fun k e hs=>by obtain⟨cs',hcs⟩:=ag hown3 e;exact aF hcs hv3 (by decide) hs)
 ·by_cases e:k<j
  ·rw[g1 k e];exact tw _ _ (bT (h.cur k e) hb2 (L8 (h.cur k e)))
  ·obtain rfl:k=j:=by omega
   rw[g2];exact tw _ _ hrow
 ·by_cases e:k<j
  ·rw[g1 k e];exact h.lo k e
  ·obtain rfl:k=j:=by omega
   rw[g2];omega
 ·by_cases e:l<j
  ·rw[g1 k (by omega),g1 l e];exact h.inc k l h1 e
  ·obtain rfl:l=j:=by omega
   rw[g1 k h1,g2];have:=L8 (h.cur k h1);omega
 ·exact((h.low.trans (hb2.mono hlow)).trans (CB hown2 hk3 (Nat.le_trans hlow hb2.size))).setCell (by exact hvb) _
theorem vG(X:Fx)(σ:Own)(B:Bk)(K:Nat)(f:Fe)(i:Nat)(hi:i<B.dir.length)(w:World)(h:aK X σ w B K f):Calls Tryz.prog 34 #[.pointer (some ⟨X.fb,0,none⟩),.int .i64 i] w (fun e w'=>∃vb cs cv,e= .returned (.tuple #[.pointer (some ⟨vb,0,none⟩),()])∧w.heap.size≤vb∧VnR X i (B.dir.getD i m0) vb w (B.dir.getD i m0).ch cs cv w'):=by
 have HMe:=MI (rC X.D B i hi w h.bk)
 have HFB:=MI (fun w h=>jf X σ B K f w h)
 have hFb:=MI (jf X σ B K f w h)
 have HH:=MI h
 have hc1:=(h.bk.ok.m i hi).c1
 have HCn:=MI (fun k (hk:k<(B.dir.getD i m0).ch) w h=>Dx X σ B K f i k hi hk w h)
 unfold CnwP at HCn
 generalize B.dir.getD i m0=m at*
 have hsz2:(Tryz.prog.info? 54).map (·.size)=some (aB m).size:=by kernel_rfl
 have hone:=jc m
 clear h
 go_enter Tryz.func34,Tryz.ntmps34
 go_upto_region 2 with(first
  | (go_at_call 32;refine hFb.out.mono ?_;rintro e w' ⟨rfl,rfl⟩)
  | (go_at_call 12;refine HMe.out.mono ?_;rintro e w1 ⟨rfl,hb1⟩)
  | (with_reducible refine MF 54 6 17 ?_;refine wpList_store_row rfl 54 (.tmp 6) (.tmp 17) rfl _ (aB m) rfl rfl 54 Z54 (L9 _ _) hsz2 rfl hone ?_))
 have hbA:=below_setRow (ae w1 (.cells Z54 54)) Me (aB m)
 have hr:=Md (aB m) (L9 w1 (.cells Z54 54))
 have HB:=MI (hb1.trans (hbA.mono hb1.size))
 have hsz1:w.heap.size≤w1.heap.size:=hb1.size
 clear hbA hb1
 change Code.wp _ _ _ _ ((w1.alloc (.cells Z54 54)).setRow w1.heap.size (aB m))
 generalize (w1.alloc (.cells Z54 54)).setRow w1.heap.size (aB m)=W at*
 have HF:=MI (HFB.out W (HH.out.ah HB.out))
 generalize w1.heap.size=mb at*
 obtain⟨d0,d1,d2,d3,d4,d5,d6,d7,d8⟩:=fK hr
 go_upto_region 7 with(first
  | (go_at_call 32;refine HF.out.mono ?_;rintro e w' ⟨rfl,rfl⟩)
  | (with_reducible refine MC 54 6 ?_;refine wpList_load_row rfl 54 (.tmp 6) rfl _ rfl 54 (aB m) (0,0) _ hr Tryz.underlying54 rfl hsz2 ?_)
  | (with_reducible show wpList _ _ _ (Oper.mk _ (Op.build 148 _) _ _ _ _::_) _ _;refine Go.Proofs.YtnicjahcgnhogaaGreatDoor.aV rfl 148 _ rfl (voA m (.slice none 0 0)) (Eq.trans (b:=Tryz.prog.built 148 [(0,.agg (aB m)),(3,.int .i64 4294967296)]) (by kernel_rfl) (KY m)) ?_))
 have hb1:=ae W (.cells (voA m (.slice none 0 0)) 148)
 have hv1:=L9 W (.cells (voA m (.slice none 0 0)) 148)
 have hr1:=(hb1.block _ (L8 hr)).trans hr
 have HB1:=MI (HB.out.trans (hb1.mono HB.out.size))
 have hvb:w.heap.size≤W.heap.size:=HB.out.size
 clear hb1 hr d0 d1 d2 d3 d4 d5 d6 d7 d8 HB HF
 generalize W.alloc (.cells (voA m (.slice none 0 0)) 148)=W1 at*
 generalize W.heap.size=vb at*
 obtain⟨d0,d1,d2,d3,d4,d5,d6,d7,d8⟩:=fK hr1
 go_upto_region 8 with fail
 go_loopw [32] (fun v32 wr=>∃(j:Nat)(cs:List Nat)(cv:Value),j≤m.ch∧v32= .int .i64 (j:Int)∧VnR X i m vb w j cs cv wr) (fun v32 _=>m.ch - aG v32)
 case atStart=>exact⟨0,[],.slice none 0 0,by omega,rfl,⟨rfl,hv1,World.ownsRow_nil _ _ _ _,fun k hk=>by omega,fun k hk=>by omega,fun k l h1 h2=>by omega,HB1.out⟩⟩
 case round=>
  clear d0 d1 d2 d3 d4 d5 d6 d7 d8 hv1 hr1
  obtain⟨j,cs,cv,hj,rfl,hV⟩:=hrel
  by_cases hlt:j<m.ch
  ·have HV:=MI hV
   have HC:=MI (HCn.out j hlt wr (HH.out.ah hV.low))
   obtain⟨ao,cap,hcv⟩:=bV hV.own
   subst hcv
   go_upto_region 12 with(first
    | (go_at_call 72;refine HC.out.mono ?_;rintro e w2 ⟨cb,rfl,hcb,hrow,hb2⟩;have hv2:=bT HV.out.row hb2 (L8 HV.out.row);have c9:w2.cell? ⟨vb,9,none⟩=some (.slice ao j cap):=LY hv2 rfl;have hown2:=dF HV.out.own hb2;have HRow:=MI hrow;have HB2:=MI hb2;have HV2:=MI hv2;clear hrow hb2 hv2)
    | (at_builtin;refine jh rfl (.tmp 46) (.tmp 48) 146 149 rfl Tryz.underlying146 info149 rfl w.heap.size _ _ _ rfl hown2 (Cf cb) rfl rfl (by omega) (by unfold maxLen;omega) (Nat.le_trans HV.out.low.size HB2.out.size) ?_;intro v3 w3 hown3 hk3;obtain⟨ao3,cap3,rfl⟩:=bV hown3;have hv3:=hk3.heap HV2.out (fun e=>(by obtain⟨cs',hcs⟩:=ag hown2 e;exact aF hcs HV2.out (by decide) rfl));have c93:w3.cell? ⟨vb,9,none⟩=some (.slice ao j cap):=LY hv3 rfl;have f93:=frozen_of_row _ _ 9 _ _ hv3))
   have HS:=MI (HV.out.snoc hvb hcb HRow.out HB2.out hown3 hk3)
   clear hown2 hown3 hk3 hv3 c9 c93 f93
   go_wp2_with fail
   exact⟨⟨j+1,_,_,by omega,by go_num,HS.out⟩,by simp[aG];omega⟩
  ·obtain rfl:j=m.ch:=by omega
   go_wp2_with fail
   go_ret2
   exact⟨vb,cs,cv,rfl,hvb,hV⟩
def TapL(q:Nat)(t:List Int):Prop:=t.length=4∧(q=0→t=[0,65536,0,0])
def lu(t x:List Int):Nat→Int
 | 0=>0
 | k+1=>wrap64 (lu t x k+wrap64 (t.getD k 0*x.getD k 0))
def rD(t x:List Int):Int:=iU (rnd (lu t x 4) 16)
theorem Ea(v:Int): -32768≤iU v∧iU v≤32767:=by
 unfold iU lq
 split
 ·omega
 ·split<;>omega
def LV(q:Nat)(x:List Int)(w:World)(e:Ending)(w':World):Prop:=∃t,TapL q t∧e= .returned (.int .i64 (rD t x))∧Below w.heap.size w w'
theorem Hl(q:Nat)(hq:q<32)(x:List Int)(hx:x.length=4)(w:World):Calls Tryz.prog 179 #[.agg (iA x),.int .i64 q] w (LV q x w):=by
 have hba:=ae w (.cells (iA x) 191)
 have hz:=L9 w (.cells (iA x) 191)
 have HTp:=MI (fun w=>yZ q hq w)
 unfold TapP at HTp
 have HA:=MI hba
 clear hba
 go_enter Tryz.func179,Tryz.ntmps179
 go_upto_region 1 with fail
 generalize w.alloc (.cells (iA x) 191)=W at*
 go_upto_region 3 with(go_at_call 176;refine(HTp.out _).mono ?_;rintro e w1 ⟨⟨t,ht,ht0,rfl⟩,hb1⟩)
 have hz1:=bT hz hb1 (L8 hz)
 have HB:=MI (HA.out.trans (hb1.mono HA.out.size))
 have HIX:=MI (fun k (hk:k<4) w=>iG (P:=Tryz.prog) 285 2 4 Tryz.underlying285 Tryz.underlying2 (by kernel_rfl) t ht k hk w)
 have HTL:Hid (TapL q t):=⟨ht,ht0⟩
 have HZ:=MI hz1
 clear hz hz1 hb1 HA ht ht0 HTp
 go_loop [5,10] (fun v5 v10=>∃j:Nat,j≤4∧v10= .int .i64 (j:Int)∧v5= .int .i64 (lu t x j)) (fun _ v10=>4 - aG v10)
 case atStart=>exact⟨0,by omega,rfl,rfl⟩
 case round=>
  obtain⟨j,hj,rfl,rfl⟩:=hrel
  by_cases hlt:j<4
  ·have hix:=HIX.out j hlt
   have cj:=aH (k:=j) HZ.out (by omega)
   have hs:=MI (show lu t x (j+1)=wrap64 (lu t x j+wrap64 (t.getD j 0*x.getD j 0)) from rfl)
   generalize t.getD j 0=tj at*
   generalize x.getD j 0=xj at*
   generalize lu t x j=sj at*
   go_wp2_with fail
   go_round
   case rel=>exact⟨j+1,by omega,by go_num,by rw[hs.out]⟩
   case measure=>simp[aG];omega
  ·obtain rfl:j=4:=by omega
   have HR:=MI (fun w=>jA (lu t x 4) 16 (by omega) w)
   have HS:=MI (fun v w=>nT v w)
   have HBZ:=MI (show rD t x=iU (rnd (lu t x 4) 16) from rfl)
   unfold Qt at HR HS
   generalize lu t x 4=sj at*
   generalize rnd sj 16=rj at*
   go_wp2_with (first
    | (go_at_call 138;refine(HR.out _).mono ?_;rintro e w2 ⟨rfl,m2,rfl⟩)
    | (go_at_call 113;refine(HS.out _ _).mono ?_;rintro e w3 ⟨rfl,m3,rfl⟩))
   go_ret
   exact⟨t,HTL.out,aX HBZ.out.symm,below_drewN HB.out _⟩
def jq(v vol sh:Int):Int:=rnd (wrap64 (wrap64 (v*vol)*sh)) 16
theorem JG(v vol sh:Int)(w:World):Calls Tryz.prog 108 #[.int .i64 v,.int .i64 vol,.int .i64 sh] w (Qt (.int .i64 (jq v vol sh)) w):=by
 have HR:=MI (fun w=>jA (wrap64 (wrap64 (v*vol)*sh)) 16 (by omega) w)
 have HL:=MI (show jq v vol sh=rnd (wrap64 (wrap64 (v*vol)*sh)) 16 from rfl)
 unfold Qt at HR⊢
 rw[HL.out]
 generalize rnd (wrap64 (wrap64 (v*vol)*sh)) 16=r at*
 go_enter Tryz.func108,Tryz.ntmps108
 go_wp2_with (go_at_call 138;refine(HR.out _).mono ?_;rintro e w2 ⟨rfl,m2,rfl⟩)
 go_ret
 exact⟨rfl,m2,rfl⟩
end Go.Proofs.YtnicjahcgnhogaaGreatDoor
