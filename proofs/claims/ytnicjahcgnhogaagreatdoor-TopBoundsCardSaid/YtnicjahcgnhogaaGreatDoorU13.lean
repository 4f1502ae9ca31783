/- Part 14 of the walk: contracts of the program's functions, each for every input. No condition. -/
import Derived.Test.YtnicjahcgnhogaaGreatDoorU12
set_option linter.unusedVariables false
set_option linter.unusedSimpArgs false
set_option maxRecDepth 100000
set_option maxHeartbeats 8000000
namespace Go.Proofs.YtnicjahcgnhogaaGreatDoor
open Go Go.RowKit Go.Calli
attribute [local irreducible] wpStill wpAnyH wpAnyS wpList Code.wp
theorem lI.bd{B:Bk}{f f':Fe}{m:Mt}{ch n:Nat}{u u':Ku}(h:lI B f f' m ch n u u'):u.fr≤u'.fr∧u'.fr≤u.fr+1∧u'.lost.length≤u.lost.length+1:=by
 rcases h with⟨i,_,_,_,rfl,_⟩ | ⟨_,u1,b,R,⟨err,z,ts,_,_,_,_,_,I,_,h0,h1⟩,_,rfl,_⟩
 ·exact⟨Int.le_refl _,by simp only;omega,ar⟩
 ·refine⟨by simp only;omega,by simp only;omega,?_⟩
  simp only
  by_cases he:err=0
  ·rw[(h0 he).2.2.1];omega
  ·rw[(h1 he).2.2.1];simp
theorem BF{p k:Nat}(hp:p<16*k):(dC p k).1<k∧(dC p k).2<k:=by
 unfold dC
 split<;>exact⟨by simp only;omega,by simp only;omega⟩
theorem NU{P:Program}{F:FuncId}{args:Array Value}{w:World}{v:Value}(h:Calls P F args w fun e w'=>e= .returned v∧w'=w):Calls P F args w fun e w'=>e= .returned v∧w=w':=h.mono fun _ _ ⟨a,b⟩=>⟨a,b.symm⟩
def AtR(B:Bk)(f f':Fe)(m:Mt)(ch p:Nat)(u u':Ku)(r:Int):Prop:=∃(u1:Ku)(f1:Fe),lI B f f1 m ch (dC p (aO m.len)).1 u u1∧lI B f1 f' m ch (dC p (aO m.len)).2 u1 u'∧(u1.kept.getD 0 kb0).Ok∧(u'.kept.getD 0 kb0).Ok∧
 r=jl (if p/16=(dC p (aO m.len)).1 then ng (u1.kept.getD 0 kb0).wv (if(dC p (aO m.len)).1=(dC p (aO m.len)).2 then none else some (u'.kept.getD 0 kb0).wv) (u1.kept.getD 0 kb0).g (p%16) else ng (u'.kept.getD 0 kb0).wv (if(dC p (aO m.len)).1=(dC p (aO m.len)).2 then none else some (u1.kept.getD 0 kb0).wv) (u'.kept.getD 0 kb0).g (p%16))
def AtP(X:Fx)(σ:Own)(B:Bk)(K:Nat)(f:Fe)(C:Kx)(u:Ku)(p:Nat)(w:World)(e:Ending)(w':World):Prop:=∃(r:Int)(kv lv:Value)(u':Ku)(σ':Own)(f':Fe),e= .returned (.int .i64 r)∧AtR B f f' (B.dir.getD C.i m0) C.ch p u u' r∧aN X σ' w' B (K+2) f'∧FeB (K+2) f'∧dO X.fb C σ' w' kv lv u'∧ag (FC σ C.t) w w'∧Ext σ σ' w.heap.size
theorem Gs{σ τ:Own}{a w w':World}{t:Nat}(hk:ag (FC σ t) a w)(h:ag (FC τ t) w w')(he:Ext σ τ a.heap.size):ag (FC σ t) a w':=hk.andThen h (fun i hi e=>by unfold FC at e⊢;rwa [he i hi] at e)
theorem Df{w:World}{ab:Nat}{b:Kb}(hb:b.Ok)(h:w.heap[ab]? =some (.cells (iA (kbL b)) 316 (0,0))):Hf w ab 1 b.wv:=fun k hk=>by
 have:=aH (k:=1+k) h (by simp only[kbL,List.length_cons,List.length_append,hb.w,hb.g];omega)
 rw[this]
 simp only[kbL]
 congr 2
 rw[show 1+k=k+1 by omega,List.getD_cons_succ,List.getD,List.getElem?_append_left (by rw[hb.w];omega)]
 rfl
theorem Cb{w:World}{ab:Nat}{b:Kb}(hb:b.Ok)(h:w.heap[ab]? =some (.cells (iA (kbL b)) 316 (0,0))):w.rangeAt ab 17 (iL b.g):=by
 have:=ik (w:=w) (b:=ab) (T:=316) (fr:=(0,0)) (Value.int .i64 b.n::iL b.wv) (iL b.g) [] (by rw[h];simp[iA,kbL,iL])
 rwa [List.length_cons,bU,hb.w] at this
theorem at_any(X:Fx)(σ:Own)(B:Bk)(K:Nat)(hK:K≤499000)(f:Fe)(hf:FeB K f)(C:Kx)(hC:KOk B C)(kv lv:Value)(u:Ku)(G8:0≤u.fr)(G9:u.fr≤K)(H0:u.lost.length≤K)(p:Nat)(hp:p<C.len)(w:World)(h:aN X σ w B K f)(B4:dO X.fb C σ w kv lv u):Calls Tryz.prog 178 #[.pointer (some ⟨C.cb,0,none⟩),.int .i64 p] w (AtP X σ B K f C u p w):=by
 obtain⟨c53,c54,c55,c56,c57,c58,c59,f57,f58,f59⟩:=gK B4.p B4.row
 have I0:=(h.bk.ok.m C.i hC.i).l1
 have hlen:=hC.len
 have hN:=MI (tH X.fb C σ kv lv u w B4)
 have H2:=MI (fun w=>NU (count_any C.len aa w))
 have C9:p<16*aO C.len:=by unfold aO;omega
 have E8:aO C.len<2^36:=by unfold aO;omega
 have E9:=MI (fun w=>NU (MV p (aO C.len) E8 C9 w))
 obtain⟨F1,F2⟩:=BF C9
 have U:=MI hlen
 have H3:¬(p:Int)<0:=aa
 have B5:¬(C.len:Int)≤(p:Int):=aa
 have e1:(p:Int).tdiv 16=((p/16:Nat):Int):=by rw[Int.tdiv_eq_ediv_of_nonneg aa];omega
 have e2:(p:Int).tmod 16=((p%16:Nat):Int):=by rw[Int.tmod_eq_emod_of_nonneg aa];omega
 have e3:IntKind.i64.wrap ((p/16:Nat):Int)=((p/16:Nat):Int):=IntWalk.i64_in _ aa
 have e4:IntKind.i64.wrap ((p%16:Nat):Int)=((p%16:Nat):Int):=IntWalk.i64_in _ aa
 have A7:p%16<16:=Nat.mod_lt _ aa
 obtain⟨n,D0⟩: ∃n,p/16=n:=⟨_,rfl⟩
 obtain⟨i,D1⟩: ∃i,p%16=i:=⟨_,rfl⟩
 rw[D0] at e1 e3
 rw[D1] at e2 e4 A7
 obtain⟨F,hF⟩: ∃F,(dC p (aO C.len)).1=F:=⟨_,rfl⟩
 obtain⟨L,hL⟩: ∃L,(dC p (aO C.len)).2=L:=⟨_,rfl⟩
 rw[hF,hL] at E9
 rw[hF] at F1
 rw[hL] at F2
 have B6:=MI D0
 have B7:=MI D1
 have HF:=MI hF
 have HL:=MI hL
 have D2:=MI (yP X σ B K aa f hf C hC kv lv u G8 G9 H0 F F1 w h B4)
 unfold BlkP at D2
 clear D0 D1 hF hL hlen C9 E8
 go_enter Tryz.func178,Tryz.ntmps178
 go_upto_region 7 with(first
  | (go_at_call 140;refine hN.out.mono ?_;rintro e w' ⟨rfl,rfl⟩)
  | (go_at_call 121;refine(H2.out _).mono ?_;rintro e w' ⟨rfl,rfl⟩)
  | (go_at_call 208;refine(E9.out _).mono ?_;rintro e w' ⟨rfl,rfl⟩)
  | (go_at_call 209;refine D2.out.mono ?_;rintro e w1 ⟨g1,cap1,u1,lv1,σ1,f1,rfl,D3,B5,G5,F3,G6,A8,A9,F4⟩;obtain⟨b1,B8⟩: ∃b,u1.kept.getD 0 kb0=b:=⟨_,rfl⟩;have D4:w1.rangeAt g1 0 (kbV b1):=(by have:=qg A8.kept A8.ok rfl B5;rwa [B8,Nat.zero_mul] at this);have I:b1.Ok:=(by have:=A8.ok _ (show u1.kept.getD 0 kb0 ∈ u1.kept by rw[show u1.kept.getD 0 kb0=u1.kept[0] by simp[List.getD,B5]];exact List.getElem_mem _);rwa [B8] at this);have D5:=jZ I;have F5:(Tryz.prog.info? 316).map (·.size)=some (kbV b1).length:=(by rw[D5];kernel_rfl);have H4:(Tryz.prog.info? 316).map (·.size)=some (iA (kbL b1)).size:=F5.trans (by rw[az];unfold kbV;rw[bU]);have H5:gU.size=(iA (kbL b1)).size:=(by rw[az,←bU];exact D5.symm);have A0:=MI B8;clear B8 G5)
  | (with_reducible refine MC 316 46 ?_;refine wpList_load_mid rfl 316 (.tmp 46) rfl g1 0 rfl (kbV b1) _ D4 Tryz.underlying316 rfl F5 ?_;rw[show(kbV b1).toArray=iA (kbL b1) from rfl])
  | (with_reducible refine MF 316 10 47 ?_;rw[←oO];refine wpList_store_row rfl 316 (.tmp 10) (.tmp 47) rfl _ (iA (kbL b1)) rfl rfl 316 gU (L9 _ _) H4 H5 (bV _) ?_))
 have B9:=below_setRow (ae w1 (.cells gU 316)) Me (iA (kbL b1))
 have C0:=Md (iA (kbL b1)) (L9 w1 (.cells gU 316))
 have D6:=fA σ1 (b:=w1.heap.size) 3 Me
 have F6:=MI (F3.fU B9 (b:=w1.heap.size) 3 Me (L8 C0))
 have D7:=MI ((A8.ext D6).aj B9)
 have C1:=MI (A9.below B9 A9.size)
 have D8:=MI (F4.trans D6 A9.size)
 have H6:=MI (dN σ1 w1.heap.size 3)
 have C2:=MI D3
 have I1:=D3.bd
 have I2:w.heap.size≤w1.heap.size:=A9.size
 clear B9 D6 F3 A8 A9 F4 D3 D4 c53 c54 c55 c56 c57 c58 c59 f57 f58 f59 H3 B5 e1 e2 e3 e4
 dsimp only[Act.put]
 generalize fU σ1 w1.heap.size 3=τ1 at*
 generalize (w1.alloc (.cells gU 316)).setRow w1.heap.size (iA (kbL b1))=W1 at*
 have H9:=L8 C0
 generalize w1.heap.size=ab at*
 have D9:=MI (yP X τ1 B (K+1) aa f1 G6 C hC (.slice (some ⟨g1,0,none⟩) u1.kept.length cap1) lv1 u1 aa aa aa L F2 W1 F6.out D7.out)
 unfold BlkP at D9
 go_upto_region 8 with(first
  | (go_at_call 209;refine D9.out.mono ?_;rintro e w2 ⟨g2,cap2,u2,lv2,σ2,f2,rfl,F7,F8,G7,F9,A5,B0,C3,G0⟩;obtain⟨b2,C4⟩: ∃b,u2.kept.getD 0 kb0=b:=⟨_,rfl⟩;have E0:w2.rangeAt g2 0 (kbV b2):=(by have:=qg B0.kept B0.ok rfl F8;rwa [C4,Nat.zero_mul] at this);have J:b2.Ok:=(by have:=B0.ok _ (show u2.kept.getD 0 kb0 ∈ u2.kept by rw[show u2.kept.getD 0 kb0=u2.kept[0] by simp[List.getD,F8]];exact List.getElem_mem _);rwa [C4] at this);have E1:=jZ J;have G1:(Tryz.prog.info? 316).map (·.size)=some (kbV b2).length:=(by rw[E1];kernel_rfl);have H7:(Tryz.prog.info? 316).map (·.size)=some (iA (kbL b2)).size:=G1.trans (by rw[az];unfold kbV;rw[bU]);have H8:gU.size=(iA (kbL b2)).size:=(by rw[az,←bU];exact E1.symm);have A1:=MI C4;clear C4 G7)
  | (with_reducible refine MC 316 51 ?_;refine wpList_load_mid rfl 316 (.tmp 51) rfl g2 0 rfl (kbV b2) _ E0 Tryz.underlying316 rfl G1 ?_;rw[show(kbV b2).toArray=iA (kbL b2) from rfl])
  | (with_reducible refine MF 316 11 52 ?_;rw[←oO];refine wpList_store_row rfl 316 (.tmp 11) (.tmp 52) rfl _ (iA (kbL b2)) rfl rfl 316 gU (L9 _ _) H7 H8 (bV _) ?_))
 have B2:=C3.heap C0 (fun e=>by have:=D7.out.t3;unfold FC at e;rw[H6.out] at e;omega)
 have B1:=below_setRow (ae w2 (.cells gU 316)) Me (iA (kbL b2))
 have E2:=Md (iA (kbL b2)) (L9 w2 (.cells gU 316))
 have B3:=(B1.block _ (L8 B2)).trans B2
 have C5:=MI (F9.aj B1)
 have A4:=MI (B0.aj B1)
 have A2:=MI (((Gs C1.out C3 D8.out)).below B1 (by have:=C1.out.size;have:=C3.size;omega))
 have C6:=MI (D8.out.trans G0 C1.out.size)
 have C7:=MI F7
 clear B1 F9 B0 C3 G0 F7 E0 C0 B2 F6 D7 C1 D8 D2 D9
 dsimp only[Act.put]
 generalize (w2.alloc (.cells gU 316)).setRow w2.heap.size (iA (kbL b2))=W2 at*
 generalize w2.heap.size=bb at*
 have E3:=L8 B3
 have E4:=L8 E2
 have E5:=Df I B3
 have E6:=Df J E2
 have G2:=Cb I B3
 have G3:=Cb J E2
 have A6:=(CO A4.out.p A4.out.row).2
 by_cases C8:n=F
 ·subst C8
  by_cases o:n=L
  ·subst o
   have HO:=MI (BC ab 1 b1.wv b1.g I.g i A7 W2.drew E5 E3)
   go_upto_region 13 with fail
   refine wp_region_still_tail 13 af af ?_
   simp only[List.take_succ_cons,List.take_zero,List.drop_succ_cons,List.drop_zero]
   change wpStill _ _ W2.drew _ _ _
   repeat (first
    | (refine dD rfl 178 (.tmp 63) rfl C.cb 21 rfl (iL dm) _ A6 Tryz.underlying178 rfl af ?_)
    | (refine dD rfl 191 (.tmp 71) rfl ab 17 rfl (iL b1.g) _ G2 Tryz.underlying191 rfl (by rw[bU,I.g];kernel_rfl) ?_)
    | still_step)
   try refine wpStill_nil ?_
   change wpList _ _ _ _ _ W2.drew
   rw[show(iL dm).toArray=iA dm from rfl,show(iL b1.g).toArray=iA b1.g from rfl]
   generalize hV:ng b1.wv none b1.g i=V at*
   have HV:=MI hV
   clear hV
   have j:=MI (fun w=>oU V w)
   unfold Qt at j
   go_wp2_with (first
    | (go_at_call 210;refine HO.out.mono ?_;rintro e w3 ⟨rfl,A3⟩)
    | (go_at_call 113;refine(j.out _).mono ?_;rintro e w4 ⟨rfl,md,rfl⟩))
   go_ret
   have R:Below W2.heap.size W2 (w3.drewN md):=below_drewN (((Below.refl _ W2).drew).trans A3) md
   exact⟨jl V,_,lv2,u2,σ2,f2,rfl,⟨u1,f1,by rw[←U.out,HF.out];exact C2.out,by rw[←U.out,HL.out];exact C7.out,by rw[A0.out];exact I,by rw[A1.out];exact J,by rw[←U.out,HF.out,HL.out,B6.out,B7.out,A0.out,A1.out,if_pos rfl,if_pos rfl];exact congrArg jl HV.out.symm⟩,C5.out.aj R,A5,A4.out.aj R,A2.out.below R (by have:=A2.out.size;exact this),C6.out⟩
  ·have q:=nK o
   have E7:=MI o
   clear o
   have HO:=MI (Bz ab 1 bb 1 b1.wv b2.wv b1.g I.g i A7 W2.drew E5 E3 E6 E4)
   go_upto_region 13 with fail
   refine wp_region_still_tail 13 af af ?_
   simp only[List.take_succ_cons,List.take_zero,List.drop_succ_cons,List.drop_zero]
   change wpStill _ _ W2.drew _ _ _
   repeat (first
    | (refine dD rfl 178 (.tmp 63) rfl C.cb 21 rfl (iL dm) _ A6 Tryz.underlying178 rfl af ?_)
    | (refine dD rfl 191 (.tmp 71) rfl ab 17 rfl (iL b1.g) _ G2 Tryz.underlying191 rfl (by rw[bU,I.g];kernel_rfl) ?_)
    | still_step)
   try refine wpStill_nil ?_
   change wpList _ _ _ _ _ W2.drew
   rw[show(iL dm).toArray=iA dm from rfl,show(iL b1.g).toArray=iA b1.g from rfl]
   generalize hV:ng b1.wv (some b2.wv) b1.g i=V at*
   have HV:=MI hV
   clear hV
   have j:=MI (fun w=>oU V w)
   unfold Qt at j
   go_wp2_with (first
    | (go_at_call 210;refine HO.out.mono ?_;rintro e w3 ⟨rfl,A3⟩)
    | (go_at_call 113;refine(j.out _).mono ?_;rintro e w4 ⟨rfl,md,rfl⟩))
   go_ret
   have R:Below W2.heap.size W2 (w3.drewN md):=below_drewN (((Below.refl _ W2).drew).trans A3) md
   exact⟨jl V,_,lv2,u2,σ2,f2,rfl,⟨u1,f1,by rw[←U.out,HF.out];exact C2.out,by rw[←U.out,HL.out];exact C7.out,by rw[A0.out];exact I,by rw[A1.out];exact J,by rw[←U.out,HF.out,HL.out,B6.out,B7.out,A0.out,A1.out,if_pos rfl,if_neg E7.out];exact congrArg jl HV.out.symm⟩,C5.out.aj R,A5,A4.out.aj R,A2.out.below R (by have:=A2.out.size;exact this),C6.out⟩
 ·have q0:=nK C8
  have G4:=MI C8
  clear C8
  by_cases o:F=L
  ·subst o
   have HO:=MI (BC bb 1 b2.wv b2.g J.g i A7 W2.drew E6 E4)
   go_upto_region 13 with fail
   refine wp_region_still_tail 13 af af ?_
   simp only[List.take_succ_cons,List.take_zero,List.drop_succ_cons,List.drop_zero]
   change wpStill _ _ W2.drew _ _ _
   repeat (first
    | (refine dD rfl 178 (.tmp 63) rfl C.cb 21 rfl (iL dm) _ A6 Tryz.underlying178 rfl af ?_)
    | (refine dD rfl 191 (.tmp 71) rfl bb 17 rfl (iL b2.g) _ G3 Tryz.underlying191 rfl (by rw[bU,J.g];kernel_rfl) ?_)
    | still_step)
   try refine wpStill_nil ?_
   change wpList _ _ _ _ _ W2.drew
   rw[show(iL dm).toArray=iA dm from rfl,show(iL b2.g).toArray=iA b2.g from rfl]
   generalize hV:ng b2.wv none b2.g i=V at*
   have HV:=MI hV
   clear hV
   have j:=MI (fun w=>oU V w)
   unfold Qt at j
   go_wp2_with (first
    | (go_at_call 210;refine HO.out.mono ?_;rintro e w3 ⟨rfl,A3⟩)
    | (go_at_call 113;refine(j.out _).mono ?_;rintro e w4 ⟨rfl,md,rfl⟩))
   go_ret
   have R:Below W2.heap.size W2 (w3.drewN md):=below_drewN (((Below.refl _ W2).drew).trans A3) md
   exact⟨jl V,_,lv2,u2,σ2,f2,rfl,⟨u1,f1,by rw[←U.out,HF.out];exact C2.out,by rw[←U.out,HL.out];exact C7.out,by rw[A0.out];exact I,by rw[A1.out];exact J,by rw[←U.out,HF.out,HL.out,B6.out,B7.out,A0.out,A1.out,if_neg G4.out,if_pos rfl];exact congrArg jl HV.out.symm⟩,C5.out.aj R,A5,A4.out.aj R,A2.out.below R (by have:=A2.out.size;exact this),C6.out⟩
  ·have q:=nK o
   have E7:=MI o
   clear o
   have HO:=MI (Bz bb 1 ab 1 b2.wv b1.wv b2.g J.g i A7 W2.drew E6 E4 E5 E3)
   go_upto_region 13 with fail
   refine wp_region_still_tail 13 af af ?_
   simp only[List.take_succ_cons,List.take_zero,List.drop_succ_cons,List.drop_zero]
   change wpStill _ _ W2.drew _ _ _
   repeat (first
    | (refine dD rfl 178 (.tmp 63) rfl C.cb 21 rfl (iL dm) _ A6 Tryz.underlying178 rfl af ?_)
    | (refine dD rfl 191 (.tmp 71) rfl bb 17 rfl (iL b2.g) _ G3 Tryz.underlying191 rfl (by rw[bU,J.g];kernel_rfl) ?_)
    | still_step)
   try refine wpStill_nil ?_
   change wpList _ _ _ _ _ W2.drew
   rw[show(iL dm).toArray=iA dm from rfl,show(iL b2.g).toArray=iA b2.g from rfl]
   generalize hV:ng b2.wv (some b1.wv) b2.g i=V at*
   have HV:=MI hV
   clear hV
   have j:=MI (fun w=>oU V w)
   unfold Qt at j
   go_wp2_with (first
    | (go_at_call 210;refine HO.out.mono ?_;rintro e w3 ⟨rfl,A3⟩)
    | (go_at_call 113;refine(j.out _).mono ?_;rintro e w4 ⟨rfl,md,rfl⟩))
   go_ret
   have R:Below W2.heap.size W2 (w3.drewN md):=below_drewN (((Below.refl _ W2).drew).trans A3) md
   exact⟨jl V,_,lv2,u2,σ2,f2,rfl,⟨u1,f1,by rw[←U.out,HF.out];exact C2.out,by rw[←U.out,HL.out];exact C7.out,by rw[A0.out];exact I,by rw[A1.out];exact J,by rw[←U.out,HF.out,HL.out,B6.out,B7.out,A0.out,A1.out,if_neg G4.out,if_neg E7.out];exact congrArg jl HV.out.symm⟩,C5.out.aj R,A5,A4.out.aj R,A2.out.below R (by have:=A2.out.size;exact this),C6.out⟩
theorem OB(fb i ch len:Nat):Tryz.prog.built 210 [(1,.agg (iA dm)),(2,.pointer (some ⟨fb,0,none⟩)),(3,.int .i64 i),(4,.int .i64 ch),(5,.int .i64 len)]=some (iL (List.replicate 20 0)++ .int .i64 0::eP fb ⟨0,0,i,ch,len⟩ (.slice none 0 0) (.slice none 0 0) 0).toArray:=af
def u0:Ku:=⟨List.replicate 20 0,0,[],[],0⟩
def CnwP(X:Fx)(i ch len:Nat)(w:World)(e:Ending)(w':World):Prop:=∃cb,e= .returned (.tuple #[.pointer (some ⟨cb,0,none⟩),()])∧w.heap.size≤cb∧w'.heap[cb]? =some (.cells (iL (List.replicate 20 0)++ .int .i64 0::eP X.fb ⟨0,0,i,ch,len⟩ (.slice none 0 0) (.slice none 0 0) 0).toArray 210 (0,0))∧Below w.heap.size w w'
theorem ER(X:Fx)(σ:Own)(B:Bk)(K:Nat)(f:Fe)(i ch:Nat)(hi:i<B.dir.length)(hc:ch<(B.dir.getD i m0).ch)(w:World)(h:aN X σ w B K f):Calls Tryz.prog 72 #[.pointer (some ⟨X.fb,0,none⟩),.int .i64 i,.int .i64 ch] w (CnwP X i ch (B.dir.getD i m0).len w):=by
 have A4:=MI (fun w h=>jB X σ B K f w h)
 have A5:=MI (pz X.D B i hi w h.bk)
 have HH:=MI h
 have hm:=h.bk.ok.m i hi
 have B0:=hm.c1
 have t1:¬(ch:Int)<0:=aa
 have t2:¬((B.dir.getD i m0).ch:Int)≤(ch:Int):=aa
 have A6:=MI (jB X σ B K f w h)
 generalize B.dir.getD i m0=m at*
 have A2:(Tryz.prog.info? 54).map (·.size)=some (aF m).size:=af
 have A3:=ja m
 have A7:=MI (fun w=>vS w)
 obtain⟨CU,R⟩: ∃CU,(iL (List.replicate 20 0)++ .int .i64 0::eP X.fb ⟨0,0,i,ch,m.len⟩ (.slice none 0 0) (.slice none 0 0) 0).toArray=CU:=⟨_,rfl⟩
 have o:=MI (OB X.fb i ch m.len)
 rw[R] at o
 have A8:=MI R
 clear h R hm
 go_enter Tryz.func72,Tryz.ntmps72
 go_upto_region 2 with(first
  | (go_at_call 32;refine A6.out.mono ?_;rintro e w' ⟨rfl,rfl⟩)
  | (go_at_call 12;refine A5.out.mono ?_;rintro e w1 ⟨rfl,J⟩)
  | (with_reducible refine MF 54 8 15 ?_;refine wpList_store_row rfl 54 (.tmp 8) (.tmp 15) rfl _ (aF m) rfl rfl 54 Z54 (L9 _ _) A2 rfl A3 ?_))
 have A0:=below_setRow (ae w1 (.cells Z54 54)) Me (aF m)
 have hr:=Md (aF m) (L9 w1 (.cells Z54 54))
 have HB:=MI (J.trans (A0.mono J.size))
 have A9:w.heap.size≤w1.heap.size:=J.size
 clear A0 J
 change Code.wp _ _ _ _ ((w1.alloc (.cells Z54 54)).setRow w1.heap.size (aF m))
 generalize (w1.alloc (.cells Z54 54)).setRow w1.heap.size (aF m)=W at*
 have HF:=MI (A4.out W (HH.out.aj HB.out))
 have A1:w1.heap.size<W.drew.heap.size:=L8 hr
 generalize w1.heap.size=mb at*
 obtain⟨d0,d1,d2,d3,d4,d5,d6,d7,d8⟩:=fP hr
 go_upto_region 8 with(go_at_call 32;refine HF.out.mono ?_;rintro e w' ⟨rfl,rfl⟩)
 refine wp_region_noPanic ?_
 refine wp_region_held_drew (S:=fun w'=>w'.cell? ⟨mb,1,none⟩=some (.int .i64 m.len)) af ?_ (fun I=>?_)
 ·exact d1
 refine ba 1 ?_
 try simp only[Act.put,aS]
 refine ba 2 ?_
 try simp only[Act.put,aS]
 refine ba 3 ?_
 try simp only[Act.put,aS]
 refine ba 4 ?_
 try simp only[Act.put,aS]
 refine ba 5 ?_
 try simp only[Act.put,aS]
 refine bj 0 (fun K hK=>?_)
 go_simp
 go_at_call 86;refine(A7.out _).mono ?_;rintro e w3 ⟨rfl,U⟩
 refine hK.out _ _ ?_ (fun I=>?_)
 ·(try dsimp only);exact(U.cell (by exact A1)).trans I
 clear hK K
 try simp only[Act.put,aS]
 refine wpAnyH_take (i:=6) (v:=.agg CU) rfl af af af (fun _ _ _ h=>h) (kY af 210 _ rfl CU (Eq.trans (b:=Tryz.prog.built 210 [(1,.agg (iA dm)),(2,.pointer (some ⟨X.fb,0,none⟩)),(3,.int .i64 i),(4,.int .i64 ch),(5,.int .i64 m.len)]) af o.out)) aw ?_
 try simp only[Act.put,aS]
 refine bj 7 (fun K hK=>?_)
 go_simp
 refine hK.out _ _ ?_ (fun I=>?_)
 ·(try dsimp only);exact((ae w3 (.cells CU 210)).cell (by exact Nat.lt_of_lt_of_le A1 U.size)).trans I
 clear hK K
 try simp only[Act.put,aS]
 refine bj 8 (fun K hK=>?_)
 go_simp
 refine hK.out _ _ ?_ (fun I=>?_)
 ·(try dsimp only);exact I
 clear hK K
 try simp only[Act.put,aS]
 refine bj 9 (fun K hK=>?_)
 go_simp
 refine hK.out _ _ ?_ (fun I=>?_)
 ·(try dsimp only);exact I
 clear hK K
 try simp only[Act.put,aS]
 refine wpAnyH_done af ?_ _
 refine NoPanic.normal ?_
 go_wp2_with fail
 go_ret2
 have j:Below w.heap.size w w3:=HB.out.trans ((((Below.refl _ W).drew).trans U).mono HB.out.size)
 exact⟨_,rfl,j.size,by rw[A8.out];exact L9 _ _,j.trans ((ae w3 (.cells CU 210)).mono j.size)⟩
def voA(m:Mt)(cv:Value):Array Value:=#[.string m.nm,.int .i64 m.len,.int .i64 m.rate,.int .i64 m.ch,.bool m.loop,.int .i64 m.ls,.int .i64 m.le,.int .i64 m.sums,.int .i64 m.first,cv,(),.int .i64 4294967296,.bool false]
theorem OE(m:Mt):Tryz.prog.built 148 [(0,.agg (aF m)),(3,.int .i64 4294967296)]=some (voA m (.slice none 0 0)):=af
def D9(b:Nat):Value:=.pointer (some ⟨b,0,none⟩)
theorem info149:(Tryz.prog.info? 149).map (fun i=>(i.zero,i.size,i.bytes))=some (some (.pointer none),1,8):=af
def Af(X:Fx)(i k len:Nat):Obj:=.cells (iL (List.replicate 20 0)++ .int .i64 0::eP X.fb ⟨0,0,i,k,len⟩ (.slice none 0 0) (.slice none 0 0) 0).toArray 210 (0,0)
structure VnR(X:Fx)(i:Nat)(m:Mt)(vb:Nat)(w:World)(j:Nat)(cs:List Nat)(cv:Value)(wr:World):Prop where
 len:cs.length=j
 row:wr.heap[vb]? =some (.cells (voA m cv) 148 (0,0))
 own:wr.ownsRow w.heap.size 149 1 cv j (cs.map D9)
 cur: ∀k,k<j→wr.heap[cs.getD k 0]? =some (Af X i k m.len)
 lo: ∀k,k<j→w.heap.size≤cs.getD k 0
 inc: ∀k l,k<l→l<j→cs.getD k 0<cs.getD l 0
 low:Below w.heap.size w wr
theorem VnR.snoc{X:Fx}{i:Nat}{m:Mt}{vb:Nat}{w wr w2 w3:World}{j:Nat}{cs:List Nat}{cv cv3:Value}{cb:Nat}(h:VnR X i m vb w j cs cv wr)(A5:w.heap.size≤vb)(A6:wr.heap.size≤cb)(A4:w2.heap[cb]? =some (Af X i j m.len))(J:Below wr.heap.size wr w2)(U:w3.ownsRow w.heap.size 149 1 cv3 (j+1) (cs.map D9++[D9 cb]))(o:ag (fun k=>cv.ownBlock=some k) w2 w3):
  VnR X i m vb w (j+1) (cs++[cb]) cv3 (w3.setCell ⟨vb,9,none⟩ cv3):=by
 have I:=aQ h.own J
 have A2:=cZ h.row J (L8 h.row)
 have A0:=o.heap A2 (fun e=>by obtain⟨cs',R⟩:=ah I e;exact aI R A2 aq rfl)
 have A3:=aA w3 vb 9 cv3
 have tw: ∀(b:Nat)(k:Nat),w2.heap[b]? =some (Af X i k m.len)→(w3.setCell ⟨vb,9,none⟩ cv3).heap[b]? =some (Af X i k m.len):=fun b k hb=>by
  have h3:=o.heap hb (fun e=>by obtain⟨cs',R⟩:=ah I e;exact aI R hb aq rfl)
  exact A3.heap h3 (fun e=>aI h3 A0 aq e)
 have hl:=h.len
 have g1: ∀k,k<j→(cs++[cb]).getD k 0=cs.getD k 0:=fun k hk=>by simp[List.getD,List.getElem?_append_left (show k<cs.length by omega)]
 have g2:(cs++[cb]).getD j 0=cb:=by simp[List.getD,←hl]
 have A1:=h.low.size
 refine⟨by simp[hl],Mc A0,?_,fun k hk=>?_,fun k hk=>?_,fun k l h1 h2=>?_,?_⟩
 ·rw[List.map_append]
  exact aB U A3 (fun k e hs=>by obtain⟨cs',R⟩:=ah U e;exact aI R A0 aq hs)
 ·by_cases e:k<j
  ·rw[g1 k e];exact tw _ _ (cZ (h.cur k e) J (L8 (h.cur k e)))
  ·obtain rfl:k=j:=aa
   rw[g2];exact tw _ _ A4
 ·by_cases e:k<j
  ·rw[g1 k e];exact h.lo k e
  ·obtain rfl:k=j:=aa
   rw[g2];omega
 ·by_cases e:l<j
  ·rw[g1 k aa,g1 l e];exact h.inc k l h1 e
  ·obtain rfl:l=j:=aa
   rw[g1 k h1,g2];have:=L8 (h.cur k h1);omega
 ·exact((h.low.trans (J.mono A1)).trans (Ef I o (Nat.le_trans A1 J.size))).setCell (by exact A5) _
theorem xe(X:Fx)(σ:Own)(B:Bk)(K:Nat)(f:Fe)(i:Nat)(hi:i<B.dir.length)(w:World)(h:aN X σ w B K f):Calls Tryz.prog 34 #[.pointer (some ⟨X.fb,0,none⟩),.int .i64 i] w (fun e w'=>∃vb cs cv,e= .returned (.tuple #[.pointer (some ⟨vb,0,none⟩),()])∧w.heap.size≤vb∧VnR X i (B.dir.getD i m0) vb w (B.dir.getD i m0).ch cs cv w'):=by
 have B3:=MI (pz X.D B i hi w h.bk)
 have B4:=MI (fun w h=>jB X σ B K f w h)
 have B5:=MI (jB X σ B K f w h)
 have HH:=MI h
 have C2:=(h.bk.ok.m i hi).c1
 have A4:=MI (fun k (hk:k<(B.dir.getD i m0).ch) w h=>ER X σ B K f i k hi hk w h)
 unfold CnwP at A4
 generalize B.dir.getD i m0=m at*
 have o:(Tryz.prog.info? 54).map (·.size)=some (aF m).size:=af
 have B1:=ja m
 clear h
 go_enter Tryz.func34,Tryz.ntmps34
 go_upto_region 2 with(first
  | (go_at_call 32;refine B5.out.mono ?_;rintro e w' ⟨rfl,rfl⟩)
  | (go_at_call 12;refine B3.out.mono ?_;rintro e w1 ⟨rfl,I⟩)
  | (with_reducible refine MF 54 6 17 ?_;refine wpList_store_row rfl 54 (.tmp 6) (.tmp 17) rfl _ (aF m) rfl rfl 54 Z54 (L9 _ _) o rfl B1 ?_))
 have A5:=below_setRow (ae w1 (.cells Z54 54)) Me (aF m)
 have hr:=Md (aF m) (L9 w1 (.cells Z54 54))
 have HB:=MI (I.trans (A5.mono I.size))
 have C1:w.heap.size≤w1.heap.size:=I.size
 clear A5 I
 change Code.wp _ _ _ _ ((w1.alloc (.cells Z54 54)).setRow w1.heap.size (aF m))
 generalize (w1.alloc (.cells Z54 54)).setRow w1.heap.size (aF m)=W at*
 have HF:=MI (B4.out W (HH.out.aj HB.out))
 generalize w1.heap.size=mb at*
 obtain⟨d0,d1,d2,d3,d4,d5,d6,d7,d8⟩:=fP hr
 go_upto_region 7 with(first
  | (go_at_call 32;refine HF.out.mono ?_;rintro e w' ⟨rfl,rfl⟩)
  | (with_reducible refine MC 54 6 ?_;refine wpList_load_row rfl 54 (.tmp 6) rfl _ rfl 54 (aF m) (0,0) _ hr Tryz.underlying54 rfl o ?_)
  | (with_reducible show wpList _ _ _ (Oper.mk _ (Op.build 148 _) _ _ _ _::_) _ _;refine Go.Proofs.YtnicjahcgnhogaaGreatDoor.bf rfl 148 _ rfl (voA m (.slice none 0 0)) (Eq.trans (b:=Tryz.prog.built 148 [(0,.agg (aF m)),(3,.int .i64 4294967296)]) af (OE m)) ?_))
 have I:=ae W (.cells (voA m (.slice none 0 0)) 148)
 have A6:=L9 W (.cells (voA m (.slice none 0 0)) 148)
 have A7:=(I.block _ (L8 hr)).trans hr
 have B6:=MI (HB.out.trans (I.mono HB.out.size))
 have A8:w.heap.size≤W.heap.size:=HB.out.size
 clear I hr d0 d1 d2 d3 d4 d5 d6 d7 d8 HB HF
 generalize W.alloc (.cells (voA m (.slice none 0 0)) 148)=W1 at*
 generalize W.heap.size=vb at*
 obtain⟨d0,d1,d2,d3,d4,d5,d6,d7,d8⟩:=fP A7
 go_upto_region 8 with fail
 go_loopw [32] (fun v32 wr=>∃(j:Nat)(cs:List Nat)(cv:Value),j≤m.ch∧v32= .int .i64 (j:Int)∧VnR X i m vb w j cs cv wr) (fun v32 _=>m.ch - aC v32)
 case atStart=>exact⟨0,[],.slice none 0 0,aa,rfl,⟨rfl,A6,World.ownsRow_nil _ _ _ _,fun k hk=>aa,fun k hk=>aa,fun k l h1 h2=>aa,B6.out⟩⟩
 case round=>
  clear d0 d1 d2 d3 d4 d5 d6 d7 d8 A6 A7
  obtain⟨j,cs,cv,hj,rfl,hV⟩:=hrel
  by_cases B7:j<m.ch
  ·have HV:=MI hV
   have HC:=MI (A4.out j B7 wr (HH.out.aj hV.low))
   obtain⟨ao,cap,B8⟩:=dh hV.own
   subst B8
   go_upto_region 12 with(first
    | (go_at_call 72;refine HC.out.mono ?_;rintro e w2 ⟨cb,rfl,B9,A0,U⟩;have A1:=cZ HV.out.row U (L8 HV.out.row);have c9:w2.cell? ⟨vb,9,none⟩=some (.slice ao j cap):=LY A1 rfl;have J:=aQ HV.out.own U;have B2:=MI A0;have A9:=MI U;have B0:=MI A1;clear A0 U A1)
    | (at_builtin;refine qx rfl (.tmp 46) (.tmp 48) 146 149 rfl Tryz.underlying146 info149 rfl w.heap.size _ _ _ rfl J (D9 cb) rfl rfl aa aE (Nat.le_trans HV.out.low.size A9.out.size) ?_;intro v3 w3 R A2;obtain⟨ao3,cap3,rfl⟩:=dh R;have A3:=A2.heap B0.out (fun e=>(by obtain⟨cs',C0⟩:=ah J e;exact aI C0 B0.out aq rfl));have c93:w3.cell? ⟨vb,9,none⟩=some (.slice ao j cap):=LY A3 rfl;have f93:=frozen_of_row _ _ 9 _ _ A3))
   have HS:=MI (HV.out.snoc A8 B9 B2.out A9.out R A2)
   clear J R A2 A3 c9 c93 f93
   go_wp2_with fail
   exact⟨⟨j+1,_,_,aa,aD,HS.out⟩,by simp[aC];omega⟩
  ·obtain rfl:j=m.ch:=aa
   go_wp2_with fail
   go_ret2
   exact⟨vb,cs,cv,rfl,A8,hV⟩
def TapL(q:Nat)(t:List Int):Prop:=t.length=4∧(q=0→t=[0,65536,0,0])
def mr(t x:List Int):Nat→Int
 | 0=>0
 | k+1=>wrap64 (mr t x k+wrap64 (t.getD k 0*x.getD k 0))
def sU(t x:List Int):Int:=jl (rnd (mr t x 4) 16)
theorem FY(v:Int): -32768≤jl v∧jl v≤32767:=by
 unfold jl mi
 split
 ·omega
 ·split<;>omega
def Ph(q:Nat)(x:List Int)(w:World)(e:Ending)(w':World):Prop:=∃t,TapL q t∧e= .returned (.int .i64 (sU t x))∧Below w.heap.size w w'
theorem JF(q:Nat)(hq:q<32)(x:List Int)(hx:x.length=4)(w:World):Calls Tryz.prog 179 #[.agg (iA x),.int .i64 q] w (Ph q x w):=by
 have R:=ae w (.cells (iA x) 191)
 have hz:=L9 w (.cells (iA x) 191)
 have I:=MI (fun w=>AO q hq w)
 unfold TapP at I
 have HA:=MI R
 clear R
 go_enter Tryz.func179,Tryz.ntmps179
 go_upto_region 1 with fail
 generalize w.alloc (.cells (iA x) 191)=W at*
 go_upto_region 3 with(go_at_call 176;refine(I.out _).mono ?_;rintro e w1 ⟨⟨t,ht,U,rfl⟩,J⟩)
 have o:=cZ hz J (L8 hz)
 have HB:=MI (HA.out.trans (J.mono HA.out.size))
 have A0:=MI (fun k (hk:k<4) w=>gZ (P:=Tryz.prog) 285 2 4 Tryz.underlying285 Tryz.underlying2 af t ht k hk w)
 have A1:Hid (TapL q t):=⟨ht,U⟩
 have HZ:=MI o
 clear hz o J HA ht U I
 go_loop [5,10] (fun v5 v10=>∃j:Nat,j≤4∧v10= .int .i64 (j:Int)∧v5= .int .i64 (mr t x j)) (fun _ v10=>4 - aC v10)
 case atStart=>exact⟨0,aa,rfl,rfl⟩
 case round=>
  obtain⟨j,hj,rfl,rfl⟩:=hrel
  by_cases A2:j<4
  ·have A4:=A0.out j A2
   have cj:=aH (k:=j) HZ.out aa
   have hs:=MI (show mr t x (j+1)=wrap64 (mr t x j+wrap64 (t.getD j 0*x.getD j 0)) from rfl)
   generalize t.getD j 0=tj at*
   generalize x.getD j 0=xj at*
   generalize mr t x j=sj at*
   go_wp2_with fail
   go_round
   case rel=>exact⟨j+1,aa,aD,by rw[hs.out]⟩
   case measure=>simp[aC];omega
  ·obtain rfl:j=4:=aa
   have HR:=MI (fun w=>jO (mr t x 4) 16 aa w)
   have HS:=MI (fun v w=>oU v w)
   have A3:=MI (show sU t x=jl (rnd (mr t x 4) 16) from rfl)
   unfold Qt at HR HS
   generalize mr t x 4=sj at*
   generalize rnd sj 16=rj at*
   go_wp2_with (first
    | (go_at_call 138;refine(HR.out _).mono ?_;rintro e w2 ⟨rfl,m2,rfl⟩)
    | (go_at_call 113;refine(HS.out _ _).mono ?_;rintro e w3 ⟨rfl,m3,rfl⟩))
   go_ret
   exact⟨t,A1.out,bg A3.out.symm,below_drewN HB.out _⟩
def jI(v vol sh:Int):Int:=rnd (wrap64 (wrap64 (v*vol)*sh)) 16
theorem Nc(v vol sh:Int)(w:World):Calls Tryz.prog 108 #[.int .i64 v,.int .i64 vol,.int .i64 sh] w (Qt (.int .i64 (jI v vol sh)) w):=by
 have HR:=MI (fun w=>jO (wrap64 (wrap64 (v*vol)*sh)) 16 aa w)
 have HL:=MI (show jI v vol sh=rnd (wrap64 (wrap64 (v*vol)*sh)) 16 from rfl)
 unfold Qt at HR⊢
 rw[HL.out]
 generalize rnd (wrap64 (wrap64 (v*vol)*sh)) 16=r at*
 go_enter Tryz.func108,Tryz.ntmps108
 go_wp2_with (go_at_call 138;refine(HR.out _).mono ?_;rintro e w2 ⟨rfl,m2,rfl⟩)
 go_ret
 exact⟨rfl,m2,rfl⟩
def Fv(B:Bk)(m:Mt)(ch:Nat):Fe→Ku→List (Nat×Int)→Fe→Ku→Prop
 | f,u,[],f',u'=>f'=f∧u'=u
 | f,u,(p,x)::r,f',u'=>∃f1 u1,AtR B f f1 m ch p u u1 x∧Fv B m ch f1 u1 r f' u'
theorem Fv.snoc{B:Bk}{m:Mt}{ch:Nat}: ∀{l:List (Nat×Int)}{f f1 f2:Fe}{u u1 u2:Ku}{p:Nat}{x:Int},Fv B m ch f u l f1 u1→AtR B f1 f2 m ch p u1 u2 x→Fv B m ch f u (l++[(p,x)]) f2 u2:=by
 intro l
 induction l with
 | nil=>intro f f1 f2 u u1 u2 p x h k;obtain⟨rfl,rfl⟩:=h;exact⟨f2,u2,k,rfl,rfl⟩
 | cons a r ih=>intro f f1 f2 u u1 u2 p x h k;obtain⟨q,y⟩:=a;obtain⟨f3,u3,h1,h2⟩:=h;exact⟨f3,u3,h1,ih h2 k⟩
structure UOk(K:Nat)(u:Ku):Prop where
 f0:0≤u.fr
 f1:u.fr≤K
 l:u.lost.length≤K
 wf: ∀z ∈ u.lost,(Lit.int .i64 z).wf=true
theorem UOk.mono{K L:Nat}{u:Ku}(h:UOk K u)(hl:K≤L):UOk L u:=⟨h.f0,by have:=h.f1;omega,by have:=h.l;omega,h.wf⟩
theorem aN.up{X:Fx}{σ:Own}{w:World}{B:Bk}{K L:Nat}{f:Fe}(h:aN X σ w B K f)(hl:K≤L):aN X σ w B L f:=⟨h.row,h.ca,h.bk,h.tb,h.tf,h.n1,h.cok,h.lim.mono aa,h.img⟩
theorem FeB.up{K L:Nat}{f:Fe}(h:FeB K f)(hl:K≤L):FeB L f:=⟨h.f0,by have:=h.f1;omega,h.l0,by have:=h.l1;omega⟩
theorem lI.ok{B:Bk}{f f':Fe}{m:Mt}{ch n:Nat}{u u':Ku}{K:Nat}(h:lI B f f' m ch n u u')(hu:UOk K u)(hn:n<2^60):UOk (K+1) u':=by
 have hb:=h.bd
 have h0:=hu.f0;have h1:=hu.f1;have h2:=hu.l
 refine⟨aa,aa,aa,?_⟩
 rcases h with⟨i,_,_,_,rfl,_⟩ | ⟨_,u1,b,R,⟨err,z,ts,_,_,_,_,_,I,_,h0,h1⟩,_,rfl,_⟩
 ·exact hu.wf
 ·simp only
  intro z hz
  by_cases he:err=0
  ·rw[(h0 he).2.2.1] at hz;exact hu.wf z hz
  ·rw[(h1 he).2.2.1] at hz
   rcases List.mem_append.1 hz with hz | hz
   ·exact hu.wf z hz
   ·simp only[List.mem_singleton] at hz;subst hz;exact WalkArith.wf_i64 aa
theorem AtR.ok{B:Bk}{f f':Fe}{m:Mt}{ch p:Nat}{u u':Ku}{r:Int}{K:Nat}(h:AtR B f f' m ch p u u' r)(hu:UOk K u)(hp:p<m.len)(hl:m.len≤1048576):UOk (K+2) u':=by
 obtain⟨u1,f1,h1,h2,_⟩:=h
 have I:p<16*aO m.len:=by unfold aO;omega
 have hc:aO m.len<2^60:=by unfold aO;omega
 obtain⟨a,b⟩:=BF I
 exact h2.ok (h1.ok hu aa) aa
def JO(B:Bk)(f f':Fe)(m:Mt)(ch:Nat)(at_:Int)(u u':Ku)(r:Int):Prop:=∃(l:List (Nat×Int))(t x:List Int),Fv B m ch f u l f' u'∧l.length≤4∧(∀a ∈ l,a.1<m.len)∧TapL (jQ at_).toNat t∧r=sU t x∧
 (jQ at_=0→(0≤gV m (at_/4294967296)→∃y,l=[((gV m (at_/4294967296)).toNat,y)]∧x.getD 1 0=y)∧(gV m (at_/4294967296)<0→l=[]∧x.getD 1 0=0))
def OW(X:Fx)(σ:Own)(B:Bk)(K:Nat)(f:Fe)(C:Kx)(u:Ku)(m:Mt)(at_:Int)(w:World)(e:Ending)(w':World):Prop:=∃(r:Int)(kv lv:Value)(u':Ku)(σ':Own)(f':Fe),e= .returned (.int .i64 r)∧JO B f f' m C.ch at_ u u' r∧aN X σ' w' B (K+8) f'∧FeB (K+8) f'∧dO X.fb C σ' w' kv lv u'∧UOk (K+8) u'∧ag (FC σ C.t) w w'∧Ext σ σ' w.heap.size
structure VlS(X:Fx)(σ:Own)(B:Bk)(K:Nat)(f:Fe)(C:Kx)(u:Ku)(v:Vo)(vb:Nat)(co:Option Addr)(cap:Nat)(q:Nat)(xb:Nat)(w:World)(j:Nat)(wr:World)(l:List (Nat×Int))(xs:List Int)(σj:Own)(fj:Fe)(kv lv:Value)(uj:Ku):Prop where
 fe:aN X σj wr B (K+2*j) fj
 feb:FeB (K+2*j) fj
 cu:dO X.fb C σj wr kv lv uj
 uo:UOk (K+2*j) uj
 xc:wr.heap[xb]? =some (.cells (iA xs) 191 (0,0))
 xl:xs.length=4
 xo:σj xb=3
 at_:Fv B v.m C.ch f u l fj uj
 ll:l.length≤j
 lp: ∀a ∈ l,a.1<v.m.len
 keep:ag (FC σ C.t) w wr
 ext:Ext σ σj w.heap.size
 vo:dQ wr vb co cap v
 vt:σj vb≠C.t∧10≤σj vb
 z0:q=0→(j≤1→l=[]∧xs=[0,0,0,0])∧(1<j→(0≤gV v.m (v.at_/4294967296)→∃y,l=[((gV v.m (v.at_/4294967296)).toNat,y)]∧xs.getD 1 0=y)∧(gV v.m (v.at_/4294967296)<0→l=[]∧xs.getD 1 0=0))
theorem VlS.skip{X:Fx}{σ:Own}{B:Bk}{K:Nat}{f:Fe}{C:Kx}{u:Ku}{v:Vo}{vb:Nat}{co:Option Addr}{cap q xb:Nat}{w:World}{j:Nat}{wr wr':World}{l:List (Nat×Int)}{xs:List Int}{σj:Own}{fj:Fe}{kv lv:Value}{uj:Ku}(h:VlS X σ B K f C u v vb co cap q xb w j wr l xs σj fj kv lv uj)(hb:Below wr.heap.size wr wr')(hz:q=0→j≠1∨gV v.m (v.at_/4294967296)<0):VlS X σ B K f C u v vb co cap q xb w (j+1) wr' l xs σj fj kv lv uj:=
 ⟨(h.fe.aj hb).up aa,h.feb.up aa,h.cu.aj hb,h.uo.mono aa,cZ h.xc hb (L8 h.xc),h.xl,h.xo,h.at_,Nat.le_succ_of_le h.ll,h.lp,h.keep.below hb h.keep.size,h.ext,h.vo.keep hb h.vo.lt,h.vt,fun hq=>by
  obtain⟨a,b⟩:=h.z0 hq
  refine⟨fun h1=>a aa,fun h1=>?_⟩
  rcases hz hq with h2 | h2
  ·exact b aa
  ·by_cases hj:1<j
   ·exact b hj
   ·obtain⟨a1,a2⟩:=a aa
    exact⟨fun h3=>aa,fun _=>⟨a1,by rw[a2];rfl⟩⟩⟩
theorem VlS.step{X:Fx}{σ:Own}{B:Bk}{K:Nat}{f:Fe}{C:Kx}{u:Ku}{v:Vo}{vb:Nat}{co:Option Addr}{cap q xb:Nat}{w:World}{j:Nat}{wr w2:World}{l:List (Nat×Int)}{xs:List Int}{σj σ2:Own}{fj f2:Fe}{kv lv kv2 lv2:Value}{uj u2:Ku}(h:VlS X σ B K f C u v vb co cap q xb w j wr l xs σj fj kv lv uj)(hj:j<4)(R:v.m.len≤1048576)(U:w.heap.size≤xb){p:Nat}{r:Int}(hp:p<v.m.len)(hR:AtR B fj f2 v.m C.ch p uj u2 r)(hF:aN X σ2 w2 B (K+2*j+2) f2)(o:FeB (K+2*j+2) f2)(hU:dO X.fb C σ2 w2 kv2 lv2 u2)(hk:ag (FC σj C.t) wr w2)(he:Ext σj σ2 wr.heap.size)
  (hz:q=0→j=1∧0≤gV v.m (v.at_/4294967296)∧p=(gV v.m (v.at_/4294967296)).toNat):VlS X σ B K f C u v vb co cap q xb w (j+1) (w2.setCell ⟨xb,j,none⟩ (.int .i64 r)) (l++[(p,r)]) (xs.set j r) σ2 f2 kv2 lv2 u2:=by
 have ht:=h.cu.t3
 have A0:=L8 h.xc
 have I:σ2 xb=3:=(he _ A0).trans h.xo
 have A1:=hk.heap h.xc (fun e=>by unfold FC at e;rw[h.xo] at e;omega)
 have J:=aA w2 xb j (.int .i64 r)
 have A2:=hk.heap h.vo (fun e=>by unfold FC at e;have:=h.vt;omega)
 have A3:=h.vo.lt
 refine⟨(hF.kept (J.mono fun k _ e=>by rw[e,I];omega)).up aa,o.up aa,hU.keep J (fun k e _=>by rw[e,I];omega),(hR.ok h.uo hp R).mono aa,bY A1 j r,by rw[List.length_set];exact h.xl,I,h.at_.snoc hR,by rw[List.length_append];exact Nat.succ_le_succ h.ll,fun a ha=>?_,(Gs h.keep hk h.ext).setCell (p:=⟨xb,j,none⟩) (.inl U) _,h.ext.trans he h.keep.size,J.heap A2 (fun e=>?_),by rw[he _ A3];exact h.vt,fun hq=>?_⟩
 ·rcases List.mem_append.1 ha with ha | ha
  ·exact h.lp a ha
  ·simp only[List.mem_singleton] at ha;subst ha;exact hp
 ·have:=h.vt;rw[e,h.xo] at this;omega
 ·obtain⟨h1,h2,h3⟩:=hz hq
  subst h1
  obtain⟨a1,a2⟩:=(h.z0 hq).1 aa
  refine⟨fun h4=>aa,fun _=>⟨fun _=>⟨r,by rw[a1,h3];rfl,by rw[a2];rfl⟩,fun h5=>aa⟩⟩
theorem xM(X:Fx)(σ:Own)(B:Bk)(K:Nat)(hK:K≤490000)(f:Fe)(hf:FeB K f)(C:Kx)(hC:KOk B C)(kv lv:Value)(u:Ku)(hu:UOk K u)(vb:Nat)(co:Option Addr)(cap:Nat)(v:Vo)(hv:v.Ok)(B2:v.m=B.dir.getD C.i m0)(w:World)(h:aN X σ w B K f)(B3:dO X.fb C σ w kv lv u)(A2:dQ w vb co cap v)(E1:σ vb≠C.t∧10≤σ vb):Calls Tryz.prog 136 #[.pointer (some ⟨vb,0,none⟩),.pointer (some ⟨C.cb,0,none⟩)] w (OW X σ B K f C u v.m v.at_ w):=by
 obtain⟨c0,c1,c2,c3,c4,c5,c6,c7,c8,c9,c10,c11,c12,f10,f11,f12⟩:=dJ A2
 have F4:=hv.a0;have F5:=hv.a1
 have B4:=MI (fun w=>IL v.at_ w)
 have B5:0≤jQ v.at_:=by unfold jQ;omega
 have E2:jQ v.at_<32:=by unfold jQ;omega
 have F6:=MI B5
 obtain⟨q,hq⟩: ∃q:Nat,jQ v.at_=(q:Int):=⟨(jQ v.at_).toNat,aa⟩
 rw[hq] at B4 E2
 have HQ:=MI hq
 have B6:q<32:=aa
 have A3:=MI (fun w=>AO q B6 w)
 unfold TapP at A3
 have A0:=ae w (.cells #[(),(),(),()] 191)
 have hz:=L9 w (.cells #[(),(),(),()] 191)
 have hx:=fA σ (b:=w.heap.size) 3 Me
 have B7:=A2.lt
 have B8:VlS X σ B K f C u v vb co cap q w.heap.size w 0 (w.alloc (.cells #[(),(),(),()] 191)) [] [0,0,0,0] (fU σ w.heap.size 3) f kv lv u:=
  ⟨h.fU A0 3 Me ar,hf,(B3.ext hx).aj A0,hu,hz,rfl,dN σ _ 3,⟨rfl,rfl⟩,ar,fun a ha=>by simp at ha,ag.au A0 Me,hx,A2.keep A0 B7,by rw[hx vb B7];exact E1,fun _=>⟨fun _=>⟨rfl,rfl⟩,fun h=>aa⟩⟩
 have A4:=MI B8
 have hm:=hv.m
 have E3:=hm.l1
 have B9:=MI B2
 clear B2
 clear h B3 A2 A0 hx hq B5 B8 hz
 go_enter Tryz.func136,Tryz.ntmps136
 go_upto_region 3 with(go_at_call 175;refine(B4.out _).mono ?_;rintro e w' ⟨rfl,rfl⟩)
 generalize w.alloc (.cells #[(),(),(),()] 191)=W at*
 clear c0 c1 c2 c3 c4 c5 c6 c7 c8 c9 c10 c11 c12 f10 f11 f12
 have A5:w.heap.size<W.heap.size:=L8 A4.out.xc
 go_upto_region 4 with(go_at_call 176;refine(A3.out _).mono ?_;rintro e w1 ⟨⟨t,ht,C0,rfl⟩,J⟩)
 have C1:Hid (VlS X σ B K f C u v vb co cap q w.heap.size w 0 w1 [] [0,0,0,0] (fU σ w.heap.size 3) f kv lv u):=by
  have h:=A4.out
  exact⟨h.fe.aj J,h.feb,h.cu.aj J,h.uo,cZ h.xc J A5,h.xl,h.xo,h.at_,h.ll,h.lp,h.keep.below J (Nat.le_of_lt A5),h.ext,h.vo.keep J h.vo.lt,h.vt,h.z0⟩
 have E4:=MI (fun k (hk:k<4) w=>gZ (P:=Tryz.prog) 285 2 4 Tryz.underlying285 Tryz.underlying2 af t ht k hk w)
 have C2:Hid (TapL q t):=⟨ht,C0⟩
 clear A4 J ht C0 A3 A5
 generalize C3:w.heap.size=xb at*
 have E5:=MI (Nat.le_of_eq C3)
 clear C3
 generalize fU σ xb 3=τ at*
 go_loopw [17] (fun v17 wr=>∃(j:Nat)(l:List (Nat×Int))(xs:List Int)(σj:Own)(fj:Fe)(kvj lvj:Value)(uj:Ku),j≤4∧v17= .int .i64 (j:Int)∧VlS X σ B K f C u v vb co cap q xb w j wr l xs σj fj kvj lvj uj) (fun v17 _=>4 - aC v17)
 case atStart=>exact⟨0,[],_,τ,f,kv,lv,u,aa,rfl,C1.out⟩
 case round=>
  clear C1
  obtain⟨j,l,xs,σj,fj,kvj,lvj,uj,hj,rfl,hS⟩:=hrel
  have HS:=MI hS
  by_cases C4:j<4
  ·have E6:=E4.out j C4
   obtain⟨tj,R⟩: ∃tj,t.getD j 0=tj:=⟨_,rfl⟩
   rw[R] at E6
   have C5:q=0→tj≠0→j=1:=fun h0 hn=>by
    have:=C2.out.2 h0
    rw[this] at R
    have:j=0∨j=1∨j=2∨j=3:=aa
    rcases this with rfl | rfl | rfl | rfl<;>first | rfl | (exact absurd R.symm hn)
   have C6:q=0→tj=0→j≠1:=fun h0 hn A1=>by
    have:=C2.out.2 h0
    rw[this,A1,hn] at R
    cases R
   have C7:=MI C5
   have E7:=MI C6
   clear C5 C6 R
   by_cases h0:tj=0
   ·subst h0
    have HN:=MI (hS.skip (wr':=wr) MB (fun h=>.inl (E7.out h rfl)))
    clear hS
    go_wp2_with fail
    exact⟨⟨j+1,l,xs,σj,fj,kvj,lvj,uj,aa,aD,HN.out⟩,by simp[aC];omega⟩
   ·have q0:(tj==0)=false:=by simpa using h0
    have C8:=MI h0
    clear h0
    obtain⟨c0,c1,c2,c3,c4,c5,c6,c7,c8,c9,c10,c11,c12,f10,f11,f12⟩:=dJ hS.vo
    have C9:=hS.vo.mtx
    obtain⟨a,ha⟩: ∃a,v.at_/4294967296 - 1+(j:Int)=a:=⟨_,rfl⟩
    have e1:IntKind.i64.wrap (v.at_/4294967296 - 1)=v.at_/4294967296 - 1:=IntWalk.i64_in _ aa
    have e2:IntKind.i64.wrap (v.at_/4294967296 - 1+(j:Int))=a:=by rw[ha];exact IntWalk.i64_in _ aa
    have D0:=MI (fun w=>DC v.m hm a aa aa w)
    have E8:=Hq hm a
    have A6:=MI (show j=1→a=v.at_/4294967296 from fun h=>aa)
    obtain⟨p,hp⟩: ∃p,gV v.m a=p:=⟨_,rfl⟩
    rw[hp] at D0 E8
    have HP:=MI hp
    clear ha hp hS
    go_upto_region 7 with fail
    refine wp_region_still_tail 12 af af ?_
    simp only[List.take_succ_cons,List.take_zero,List.drop_succ_cons,List.drop_zero]
    change wpStill _ _ wr.drew _ _ _
    repeat (first
     | (refine dD rfl 54 (.tmp 25) rfl vb 0 rfl (aV v.m) _ C9 Tryz.underlying54 rfl af ?_)
     | still_step)
    try refine wpStill_nil ?_
    change wpList _ _ _ _ _ wr.drew
    rw[show(aV v.m).toArray=aF v.m from rfl]
    go_upto_region 8 with(go_at_call 177;refine(D0.out _).mono ?_;rintro e w2 ⟨rfl,U⟩)
    have o:Below wr.heap.size wr w2:=((Below.refl _ wr).drew).trans U
    clear c0 c1 c2 c3 c4 c5 c6 c7 c8 c9 c10 c11 c12 f10 f11 f12 C9 e1 e2 U
    by_cases D1:p<0
    ·have HN:=MI (HS.out.skip o (fun h=>.inr (by rw[←A6.out (C7.out h C8.out),HP.out];exact D1)))
     have F7:¬0≤p:=aa
     clear o
     go_wp2_with fail
     exact⟨⟨j+1,l,xs,σj,fj,kvj,lvj,uj,aa,aD,HN.out⟩,by simp[aC];omega⟩
    ·obtain⟨n,rfl⟩: ∃n:Nat,p=(n:Int):=⟨p.toNat,aa⟩
     have I:=HS.out
     have D2:n<v.m.len:=aa
     have D3:=I.fe.aj o
     have D4:=I.cu.aj o
     have A7:=MI (at_any X σj B (K+2*j) aa fj I.feb C hC kvj lvj uj I.uo.f0 I.uo.f1 I.uo.l n (by rw[hC.len,←B9.out];exact D2) w2 D3 D4)
     unfold AtP at A7
     rw[←B9.out] at A7
     clear I D3 D4 D1
     have A8:=MI o
     clear o
     have D5:=cZ HS.out.xc A8.out (L8 HS.out.xc)
     have E9:=MI D5
     clear D5
     go_upto_region 10 with(go_at_call 178;refine A7.out.mono ?_;rintro e w3 ⟨r,kv3,lv3,u3,σ3,f3,rfl,D6,D7,A9,D8,B0,D9⟩;have B1:=B0.heap E9.out (fun e=>(by have:=HS.out.cu.t3;unfold FC at e;rw[HS.out.xo] at e;omega));have cj:=aH (k:=j) B1 (by have:=HS.out.xl;omega);have fj3:=ay B1 j)
     have HN:=MI (HS.out.step C4 E3 E5.out D2 D6 D7 A9 D8 ((ag.au A8.out Me).trans B0) (fun k hk=>D9 k (Nat.lt_of_lt_of_le hk A8.out.size)) (fun h=>by
      have A1:=C7.out h C8.out
      refine⟨A1,?_,?_⟩
      ·rw[←A6.out A1,HP.out];omega
      ·rw[←A6.out A1,HP.out];simp))
     clear D6 D7 A9 D8 B0 D9 B1 cj fj3
     go_wp2_with fail
     exact⟨⟨j+1,_,_,σ3,f3,kv3,lv3,u3,aa,aD,HN.out⟩,by simp[aC];omega⟩
  ·obtain rfl:j=4:=aa
   have F1:=hS.xc
   have F2:(Tryz.prog.info? 191).map (·.size)=some (iA xs).size:=by rw[az,hS.xl];kernel_rfl
   have E0:=MI (JF q B6 xs hS.xl wr)
   unfold Ph at E0
   clear hS
   go_wp2_with (first
    | (with_reducible refine MC 191 6 ?_;refine wpList_load_row rfl 191 (.tmp 6) rfl _ rfl 191 (iA xs) (0,0) _ F1 Tryz.underlying191 rfl F2 ?_)
    | (go_at_call 179;refine E0.out.mono ?_;rintro e w2 ⟨t2,F3,rfl,U⟩))
   go_ret
   have hS:=HS.out
   refine⟨sU t2 xs,kvj,lvj,uj,σj,fj,rfl,⟨l,t2,xs,hS.at_,hS.ll,hS.lp,by rw[HQ.out];simpa using F3,rfl,fun h0=>?_⟩,hS.fe.aj U,hS.feb,hS.cu.aj U,hS.uo,hS.keep.below U hS.keep.size,hS.ext⟩
   exact(hS.z0 (by rw[HQ.out] at h0;omega)).2 aa
end Go.Proofs.YtnicjahcgnhogaaGreatDoor
