/- Part 29 of the walk: contracts of the program's functions, each for every input. No condition. -/
import Derived.Test.YtnicjahcgnhogaaGreatDoorQ25
import Derived.Test.YtnicjahcgnhogaaGreatDoorQ26
import Derived.Test.YtnicjahcgnhogaaGreatDoorQ27
import Derived.Test.YtnicjahcgnhogaaGreatDoorQ22
set_option linter.unusedVariables false
set_option linter.unusedSimpArgs false
set_option maxRecDepth 100000
set_option maxHeartbeats 8000000
namespace Go.Proofs.YtnicjahcgnhogaaGreatDoor
open Go Go.RowKit Go.Calli
attribute [local irreducible] wpStill wpAnyH wpAnyS wpList Code.wp
def F93X(l:List Int)(w:World)(e:Ending)(w':World):Prop:=∃g c,e= .returned (.tuple #[.slice (some ⟨g,0,none⟩) 1 c,()])∧Below w.heap.size w w'∧yP w.heap.size w' (.slice (some ⟨g,0,none⟩) 1 c) [exF l]
theorem yG(cb size:Nat)(ao:Option Addr)(cap:Nat)(l:List Int)(hn0:0<l.length)(hn:l.length≤10000)(hX:kQ l.length l (size:Int))(w:World)(hC:mY w cb (size:Int))(hI:Ints .i64 w ao l.length l):Calls Tryz.prog 93 #[.pointer (some ⟨cb,0,none⟩),.slice ao l.length cap] w (F93X l w):=by
 have h1:=hX.1
 have h2:=hX.2.1
 refine(yH cb size ao l.length cap l hn0 hn w hC hI (fun h=>by omega) (fun h=>by omega) (fun h=>by omega)).mono (fun e w' h=>?_)
 obtain⟨hb,⟨err,he,rfl,hx⟩ | ⟨v,fs,rfl,hfl,hF,hE⟩⟩:=h
 ·exact absurd hX hx
 ·obtain rfl:=hE hX
  obtain⟨g,c,rfl⟩:=iF (show w'.ownsRow w.heap.size 196 29 v 1 ([exF l].flatMap fmV) from hF.own) (by decide)
  exact⟨g,c,rfl,hb,hF⟩
def B94X(l:List Int)(size:Nat)(w:World)(e:Ending)(w':World):Prop:=∃g c,e= .returned (.tuple #[.slice (some ⟨g,0,none⟩) size c,()])∧Below w.heap.size w w'∧w.heap.size≤g∧(frB (exF l).z [] size).length=size∧w'.ownsRow w.heap.size 5 1 (.slice (some ⟨g,0,none⟩) size c) size ((frB (exF l).z [] size).map (.int .u8))
theorem AP(cb size:Nat)(hs:size≤96)(gb:Nat)(m:Mt)(l:List Int)(hX:LK m l size)(w:World)(hC:mY w cb (size:Int))(hrow:w.heap[gb]? =some (.cells (fmA (exF l)) 196 (0,0)))(hz:(exF l).z.length=28)(hT:bH ed 2 (0,0) w none 0 []):Calls Tryz.prog 94 #[.pointer (some ⟨cb,0,none⟩),.slice (some ⟨gb,0,none⟩) 1 1] w (B94X l size w):=by
 have h2:=hX.ex.2.1
 refine(AQ cb size (by omega) hs gb (exF l).z hz none 0 0 [] w hC hrow hT).mono (fun e w' h=>?_)
 obtain⟨ao,m',c,err,rfl,hb,h0,h1⟩:=h
 obtain rfl:=h1 hX.rt hX.ln
 obtain⟨rfl,hfl,g,rfl,hg,ho⟩:=h0 rfl
 exact⟨g,c,rfl,hb,hg,hfl,ho⟩
theorem Gx(w0:World)(ib L cap cb size:Nat)(m:Mt)(s:Sr)(l:List Int)(hcs:s.cs=[l])(hn0:0<l.length)(hn:l.length≤10000)(zs:List Int)(hX:LK m l size)(hLc:L≤cap)(hcap:cap≤60000)(hf:m.first+size≤L)(hm4:m.sums+4≤L)(w:World)(hb0:Below w0.heap.size w0 w)(hi0:w0.heap.size≤ib)(hS: ∀W,af (fun k=>k=ib) w W→lY W s)(hB:Blk .u8 w ib 5 zs)(hL:zs.length=L)(h8:W8 zs)(hC:mY w cb (size:Int)):Calls Tryz.prog 58 #[.slice (some ⟨ib,0,none⟩) L cap,.agg (aB m),.agg (srA s),.pointer (some ⟨cb,0,none⟩)] w (LayP w0 ib L zs m l size w):=by
 have h55:=hX.ex.2.1
 have h96:=hX.ex.2.2.1
 obtain⟨nl,rate,loop,ls,le,d,dc,cs⟩:=s
 obtain rfl:cs=[l]:=hcs
 have hba:=ae w (.cells (aB m) 54)
 have hz0:=L9 w (.cells (aB m) 54)
 have hb1:=ae (w.alloc (.cells (aB m) 54)) (.cells (srA ⟨nl,rate,loop,ls,le,d,dc,[l]⟩) 76)
 have hz1:=L9 (w.alloc (.cells (aB m) 54)) (.cells (srA ⟨nl,rate,loop,ls,le,d,dc,[l]⟩) 76)
 have hz0:=rwB hz0 hb1
 have hBB:=hba.trans (hb1.mono hba.size)
 rw[World.size_alloc] at hz1
 have hLy:LyS w0 w ib cb size m ⟨nl,rate,loop,ls,le,d,dc,[l]⟩ L zs ((w.alloc (.cells (aB m) 54)).alloc (.cells (srA ⟨nl,rate,loop,ls,le,d,dc,[l]⟩) 76)):=
  ⟨hB.ah hBB,hL,h8,hz0,hz1,hC.ah hBB,(af.refl _ w).below hBB Me,hb0.trans (hBB.mono hb0.size)⟩
 have HLy:=MI hLy
 have HS:=MI hS
 have HX:=MI hX
 have HF:=MI (fun ao cp W hC hI=>yG cb size ao cp l hn0 hn hX.ex W hC hI)
 have HY:=MI (fun gb W hC hr hz hT=>AP cb size (by omega) gb m l hX W hC hr hz hT)
 clear hba hb1 hz0 hBB hB hC hLy hb0 hS
 obtain⟨a0,a1,a2,a3,a4,a5⟩:=dM hz1
 clear hz1
 go_enter Tryz.func58,Tryz.ntmps58
 go_upto_region 2 with fail
 change Code.wp _ _ _ _ ((w.alloc (.cells (aB m) 54)).alloc (.cells (srA ⟨nl,rate,loop,ls,le,d,dc,[l]⟩) 76))
 generalize (w.alloc (.cells (aB m) 54)).alloc (.cells (srA ⟨nl,rate,loop,ls,le,d,dc,[l]⟩) 76)=W at*
 clear a0 a1 a2 a3 a4 a5
 go_loopw [21] (fun v21 wr=>(v21= .int .i64 0∧LyS w0 w ib cb size m ⟨nl,rate,loop,ls,le,d,dc,[l]⟩ L zs wr)∨(v21= .int .i64 1∧LyS w0 w ib cb size m ⟨nl,rate,loop,ls,le,d,dc,[l]⟩ L (rW zs m l size) wr)) (fun v21 _=>1 - aG v21)
 case atStart=>exact .inl ⟨rfl,HLy.out⟩
 case round=>
  clear HLy
  rcases hrel with⟨rfl,hR⟩ | ⟨rfl,hR⟩
  ·obtain⟨a,ao,cp,hd,hc,hI⟩:=(HS.out wr hR.k).c 0 (by show 0<1;omega)
   obtain rfl:d=some a:=hd
   have hc:wr.cell? a=some (.slice ao l.length cp):=by rw[←oq a];exact hc
   have hI:Ints .i64 wr ao l.length l:=hI
   have hP:=MI (HF.out ao cp wr hR.cd hI)
   have HR:=MI hR
   clear hR hI
   go_upto_region 8 with(go_at_call 93;refine hP.out.mono ?_;rintro e w2 ⟨g,c,rfl,hb2,hFs⟩)
   have hR2:=HR.out.next hb2
   have HR2:=MI hR2
   have HFs:=MI hFs
   clear hb2 hR2 hFs HR hc
   go_loopw [37] (fun v37 wq=>(v37= .int .i64 0∧w2=wq)∨(v37= .int .i64 1∧LyS w0 w ib cb size m ⟨nl,rate,loop,ls,le,some a,dc,[l]⟩ L (rW zs m l size) wq)) (fun v37 _=>1 - aG v37)
   case atStart=>exact .inl ⟨rfl,rfl⟩
   case round=>
    rcases hrel with⟨rfl,rfl⟩ | ⟨rfl,hR3⟩
    ·have hzl:=(HFs.out.ok _ (List.mem_singleton.2 rfl)).z
     have hT:bH ed 2 (0,0) w2 none 0 []:=(HFs.out.ok _ (List.mem_singleton.2 rfl)).t
     have hvl:=EG hzl
     have hr:=nV HFs.out.own 0 29
     rw[show((([exF l].flatMap fmV).drop 0).take 29)=fmV (exF l) by
      rw[List.drop_zero,List.flatMap_cons,List.flatMap_nil,List.append_nil,List.take_of_length_le (by omega)]] at hr
     have hszV:(Tryz.prog.info? 196).map (·.size)=some (fmV (exF l)).length:=by rw[hvl];kernel_rfl
     have hfi:(Tryz.prog.info? 196).map (·.size)=some (fmA (exF l)).size:=jH _ _ hzl
     have hfz:(#[(),(),(),(),.slice none 0 0,(),(),(),(),(),(),(),(),(),(),(),(),(),(),(),(),(),(),(),(),(),(),(),()]:Array Value).size=(fmA (exF l)).size:=(bC _ _ hzl).symm
     have hfo:(fmA (exF l)).all (·.oneCell')=true:=dC _ _ _ _
     have hfill:=EJ (exF l).z hzl none 0 0
     obtain⟨ie,hie,hiz,hiS0,-⟩:=info_parts yC
     rw[←hiS0] at hfill
     have hiS:¬1*ie.size>2^24:=by rw[hiS0];decide
     have hiP:¬1*ie.size=0:=by rw[hiS0];decide
     have htoA:(fmV (exF l)).toArray=fmA (exF l):=rfl
     go_upto_region 10 with(first
      | ((with_reducible refine MC 196 40 ?_);refine wpList_load_mid rfl 196 (.tmp 40) rfl g 0 rfl (fmV (exF l)) _ hr Tryz.underlying196 rfl hszV ?_;rw[htoA])
      | ((with_reducible refine MF 196 14 41 ?_);refine wpList_store_row rfl 196 (.tmp 14) (.tmp 41) rfl _ (fmA (exF l)) rfl rfl 196 (#[(),(),(),(),.slice none 0 0,(),(),(),(),(),(),(),(),(),(),(),(),(),(),(),(),(),(),(),(),(),(),(),()]) (L9 _ _) hfi hfz hfo ?_))
     have hbx:Below w2.heap.size w2 ((w2.alloc (.cells #[(),(),(),(),.slice none 0 0,(),(),(),(),(),(),(),(),(),(),(),(),(),(),(),(),(),(),(),(),(),(),(),()] 196)).setRow w2.heap.size (fmA (exF l))):=below_setRow (ae w2 (.cells #[(),(),(),(),.slice none 0 0,(),(),(),(),(),(),(),(),(),(),(),(),(),(),(),(),(),(),(),(),(),(),(),()] 196)) Me _
     have hxb:=Md (fmA (exF l)) (L9 w2 (.cells #[(),(),(),(),.slice none 0 0,(),(),(),(),(),(),(),(),(),(),(),(),(),(),(),(),(),(),(),(),(),(),(),()] 196))
     have hRX:=HR2.out.next hbx
     have hT:=hT.ah hbx
     change Code.wp _ _ _ _ ((w2.alloc (.cells #[(),(),(),(),.slice none 0 0,(),(),(),(),(),(),(),(),(),(),(),(),(),(),(),(),(),(),(),(),(),(),(),()] 196)).setRow w2.heap.size (fmA (exF l)))
     generalize (w2.alloc (.cells #[(),(),(),(),.slice none 0 0,(),(),(),(),(),(),(),(),(),(),(),(),(),(),(),(),(),(),(),(),(),(),(),()] 196)).setRow w2.heap.size (fmA (exF l))=X at*
     generalize w2.heap.size=fb at*
     have hby:=ae X (.cells (fmA (exF l)) 196)
     have hgb:=L9 X (.cells (fmA (exF l)) 196)
     have hRY:=hRX.next hby
     have HP4:=MI (HY.out X.heap.size _ hRY.cd hgb hzl (hT.ah hby))
     have HRY:=MI hRY
     clear hRX hRY hT hr
     go_upto_region 13 with(first
      | ((with_reducible refine MC 196 14 ?_);refine wpList_load_row rfl 196 (.tmp 14) rfl fb rfl 196 (fmA (exF l)) (0,0) _ hxb Tryz.underlying196 rfl hfi ?_)
      | ((with_reducible show wpList _ _ _ (Oper.mk _ (Op.buildSlice 188 _ _) _ _ _ _::_) _ _);refine wpList_buildSlice rfl 188 196 1 _ rfl (fmA (exF l)) ie (.agg #[(),(),(),(),.slice none 0 0,(),(),(),(),(),(),(),(),(),(),(),(),(),(),(),(),(),(),(),(),(),(),(),()]) Tryz.underlying188 hie hiz hiS hiP (Eq.trans (congrArg (Instr.fill _ _) (show _=[(0,Value.agg (fmA (exF l)))] by kernel_rfl)) hfill) ?_)
      | (go_at_call 94;refine HP4.out.mono ?_;rintro e w4 ⟨g4,c4,rfl,hb4,hg4,hfl4,ho4⟩))
     have hR4:=HRY.out.next hb4
     have hgl:=HRY.out.im.lt
     have hib4:g4≠ib:=by omega
     have hmb4:=hR4.mt
     obtain⟨m0',m1',m2',m3',m4',m5',m6',m7',m8'⟩:=fK hmb4
     rw[HX.out.ch] at m3'
     have hmib:w.heap.size≠ib:=aF hmb4 hR4.im (by decide)
     have HR4:=MI hR4
     have HO4:=MI ho4
     have HL4:=MI hfl4
     have HB8:=MI HX.out.b8
     have HLB:Hid (rW zs m l size=jP (bz zs m.first (frB (exF l).z [] size)) m.sums 4 (fH (frB (exF l).z [] size)).toNat 4):=rfl
     clear hR4 ho4 hfl4 hb4 hxb hgb hby hbx hfill hfo hfz hfi hszV hvl hzl HP4 HRY HR2 HFs
     generalize frB (exF l).z [] size=fb at*
     generalize hzb:rW zs m l size=zB at*
     have hzb:=MI hzb
     go_upto_region 14 with fail
     clear m0' m1' m2' m3' m4' m5' m6' m7' m8'
     have hcs1:=MI (qp cb (size:Int) w4.drew ⟨HR4.out.cd.row⟩)
     have hsl:=fun W=>wE ib 0 L cap m.first (by omega) (by omega) hLc hcap W
     rw[Nat.zero_add] at hsl
     have hmn:Nat.min size (L - m.first)=size:=Nat.min_eq_left (by omega)
     have hcp: ∀ty,(Builtin.copy_ #[63,63] ty #[.slice (some ⟨ib,m.first,none⟩) (L - m.first) (cap - m.first),.slice (some ⟨g4,0,none⟩) size c4]).run Tryz.prog w4.drew= .ok (goInt size) (w4.drew.setCells ib m.first (fb.map (.int .u8))):=fun ty=>oL (P:=Tryz.prog) w4.drew 63 63 ty 5 ib m.first (L - m.first) (cap - m.first) ⟨g4,0,none⟩ size c4 1 size (fb.map (.int .u8)) Tryz.underlying63 (by kernel_rfl) hmn (by rw[List.length_map,HL4.out,Nat.mul_one]) (HO4.out.cells rfl) (fun j hj=>by
       rw[List.length_map,HL4.out] at hj
       have h5:=HR4.out.im.cell (i:=m.first+j) (by rw[HR4.out.len];omega)
       rw[show w4.drew.cell? ⟨ib,m.first+j,none⟩=_ from h5]
       rfl) (fun j hj=>HR4.out.im.frozen _) (kL _ _)
     have hmrow:w4.drew.heap[w.heap.size]? =some (.cells (aB m) 54 (0,0)):=HR4.out.mt
     have hks:af (fun k=>k=ib) w4.drew (w4.drew.setCells ib m.first (fb.map (.int .u8))):=af.setCells (S:=fun k=>k=ib) _ (af.refl (fun k=>k=ib) w4.drew) (.inr rfl) m.first
     have hR5:LyS w0 w ib cb size m ⟨nl,rate,loop,ls,le,some a,dc,[l]⟩ L (bz zs m.first fb) (w4.drew.setCells ib m.first (fb.map (.int .u8))):=(HR4.out.next (Below.refl _ w4).drew).put (Blk.setCells (vs:=fb) (show Blk .u8 w4.drew ib 5 zs from HR4.out.im) m.first (by rw[HL4.out,hL];omega)) (by rw[jy _ _ _ (by rw[HL4.out,hL];omega)];exact hL) (Bl h8 _ HB8.out) hks hi0
     have HR5:=MI hR5
     have HKS:=MI hks
     clear hR5 hks
     refine wp_region_noPanic ?_
     refine wp_region_held_drew (S:=fun w'=>w'.heap[w.heap.size]? =some (.cells (aB m) 54 (0,0))) (by kernel_rfl) ?_ (fun hHeld=>?_)
     ·exact hmrow
     refine MG 0 ?_ ?_ (by assumption) ?_
     rotate_left
     ·(intro w hSw;(try dsimp only at hSw);go_simp;try with_reducible rfl)
     try simp only[Act.put,aS]
     refine MG 1 ?_ ?_ (by assumption) ?_
     rotate_left
     ·(intro w hSw;(try dsimp only at hSw);go_simp;try with_reducible rfl)
     try simp only[Act.put,aS]
     refine MG 2 ?_ ?_ (by assumption) ?_
     rotate_left
     ·(intro w' hSw;obtain⟨a0,a1,a2,a3,a4,a5,a6,a7,a8⟩:=fK hSw;(try dsimp only at*);go_simp;try with_reducible rfl)
     try simp only[Act.put,aS]
     refine MG 3 ?_ ?_ (by assumption) ?_
     rotate_left
     ·(intro w hSw;(try dsimp only at hSw);go_simp;try with_reducible rfl)
     try simp only[Act.put,aS]
     refine MG 4 ?_ ?_ (by assumption) ?_
     rotate_left
     ·(intro w hSw;(try dsimp only at hSw);go_simp;try with_reducible rfl)
     try simp only[Act.put,aS]
     refine MG 9 ?_ ?_ (by assumption) ?_
     rotate_left
     ·(intro w hSw;(try dsimp only at hSw);go_simp;try with_reducible rfl)
     try simp only[Act.put,aS]
     refine wpAnyH_ready (rs:=[5]) (by kernel_rfl) (by simp) ?_
     refine AllReadyH.cons rfl (fun K hK=>?_) AllReadyH.nil
     go_simp
     go_at_call 95;refine hcs1.out.mono ?_;rintro e w5 ⟨rfl,rfl⟩
     refine hK.out _ _ ?_ (fun hHeld=>?_)
     ·(try dsimp only);exact hHeld
     clear hK K
     try simp only[Act.put,aS]
     refine wpAnyH_take (i:=6) (v:=.int .i64 0) rfl (by kernel_rfl) (by kernel_rfl) (by kernel_rfl) (fun _ _ _ h=>h) (Or.inl ⟨by kernel_rfl,?_⟩) (by assumption) ?_
     ·(intro w hSw;(try dsimp only at hSw);go_simp;try (first | rfl | exact IntWalk.i64_in _ (by omega) | (rw[IntWalk.i64_in _ (by omega)];omega)))
     try simp only[Act.put,aS]
     refine wpAnyH_take (i:=7) (v:=.int .i64 (m.first:Int)) rfl (by kernel_rfl) (by kernel_rfl) (by kernel_rfl) (fun _ _ _ h=>h) (Or.inl ⟨by kernel_rfl,?_⟩) (by assumption) ?_
     ·(intro w hSw;(try dsimp only at hSw);go_simp;try (first | rfl | exact IntWalk.i64_in _ (by omega) | (rw[IntWalk.i64_in _ (by omega)];omega)))
     try simp only[Act.put,aS]
     refine wpAnyH_take (i:=8) (v:=.slice (some ⟨ib,m.first,none⟩) (L - m.first) (cap - m.first)) rfl (by kernel_rfl) (by kernel_rfl) (by kernel_rfl) (fun _ _ _ h=>h) (lD (by kernel_rfl) 63 (.tmp 58) (.tmp 65) rfl rfl rfl hsl) (by assumption) ?_
     try simp only[Act.put,aS]
     refine wpAnyH_ready (rs:=[10]) (by kernel_rfl) (by simp) ?_
     refine AllReadyH.cons rfl (fun K hK=>?_) AllReadyH.nil
     go_simp
     refine hK.out _ _ ?_ (fun hHeld=>?_)
     ·(try dsimp only);exact(HKS.out.heap hHeld hmib)
     clear hK K
     try simp only[Act.put,aS]
     refine wpAnyH_done (by kernel_rfl) ?_ _
     refine NoPanic.normal ?_
     go_upto_region 15 with fail
     generalize w4.drew.setCells ib m.first (fb.map (.int .u8))=X5 at*
     have hIB:Ints .u8 X5.drew (some ⟨g4,0,none⟩) size fb:=⟨HL4.out,by unfold maxLen;omega,fun i hi=>⟨_,rfl,by
      have hg:(fb.map (Value.int .u8))[i]? =some (.int .u8 (fb.getD i 0)):=by
       rw[List.getElem?_map,List.getElem?_eq_getElem (by rw[HL4.out];exact hi)]
       simp[List.getD,List.getElem?_eq_getElem (show i<fb.length by rw[HL4.out];exact hi)]
      have h5:=HO4.out.cells (g:=g4) rfl i _ hg
      rw[add0] at h5⊢
      exact HKS.out.cell (show w4.drew.cell? _=_ from h5) (fun e=>hib4 e)⟩,HB8.out⟩
     have hSm:=MI (sum_any (some ⟨g4,0,none⟩) size c4 fb X5.drew hIB)
     have hbd:=uY fb HB8.out
     have hNm:=kM ib 0 L cap (bz zs m.first fb) m.sums 4 (fH fb).toNat (by decide) hm4 (by rw[HR5.out.len];omega) (by rw[HR5.out.len];omega) (by omega) X5.drew (show Blk .u8 X5.drew ib 5 _ from HR5.out.im)
     generalize fH fb=cr at*
     obtain⟨cn,rfl⟩: ∃cn:Nat,cr=(cn:Int):=⟨cr.toNat,by omega⟩
     rw[Int.toNat_natCast] at hNm HLB
     rw[Nat.zero_add,←HLB.out,show((4:Nat):Int)=4 from rfl] at hNm
     have hNm:=MI hNm
     have hm5:X5.drew.heap[w.heap.size]? =some (.cells (aB m) 54 (0,0)):=HR5.out.mt
     have hcw:IntKind.i64.wrap (cn:Int)=(cn:Int):=IntWalk.i64_in _ (by omega)
     have HW8:Hid (W8 zB):=by unfold Hid;rw[HLB.out];exact sJ HR5.out.w8 _ _ _ _
     have HLZ:Hid (zB.length=L):=by unfold Hid;rw[HLB.out,kN];exact HR5.out.len
     clear hIB hmrow hcp hsl hcs1 hHeld
     refine wp_region_noPanic ?_
     refine wp_region_held_drew (S:=fun w'=>w'.heap[w.heap.size]? =some (.cells (aB m) 54 (0,0))) (by kernel_rfl) ?_ (fun hHeld=>?_)
     ·exact hm5
     refine MG 0 ?_ ?_ (by assumption) ?_
     rotate_left
     ·(intro w hSw;(try dsimp only at hSw);go_simp;try with_reducible rfl)
     try simp only[Act.put,aS]
     refine MG 1 ?_ ?_ (by assumption) ?_
     rotate_left
     ·(intro w hSw;(try dsimp only at hSw);go_simp;try with_reducible rfl)
     try simp only[Act.put,aS]
     refine MG 2 ?_ ?_ (by assumption) ?_
     rotate_left
     ·(intro w' hSw;obtain⟨a0,a1,a2,a3,a4,a5,a6,a7,a8⟩:=fK hSw;(try dsimp only at*);go_simp;try with_reducible rfl)
     try simp only[Act.put,aS]
     refine MG 3 ?_ ?_ (by assumption) ?_
     rotate_left
     ·(intro w hSw;(try dsimp only at hSw);go_simp;try with_reducible rfl)
     try simp only[Act.put,aS]
     refine wpAnyH_take (i:=4) (v:=.int .i64 0) rfl (by kernel_rfl) (by kernel_rfl) (by kernel_rfl) (fun _ _ _ h=>h) (Or.inl ⟨by kernel_rfl,?_⟩) (by assumption) ?_
     ·(intro w hSw;(try dsimp only at hSw);go_simp;try (first | rfl | exact IntWalk.i64_in _ (by omega) | (rw[IntWalk.i64_in _ (by omega)];omega)))
     try simp only[Act.put,aS]
     refine wpAnyH_take (i:=5) (v:=.int .i64 (m.sums:Int)) rfl (by kernel_rfl) (by kernel_rfl) (by kernel_rfl) (fun _ _ _ h=>h) (Or.inl ⟨by kernel_rfl,?_⟩) (by assumption) ?_
     ·(intro w hSw;(try dsimp only at hSw);go_simp;try (first | rfl | exact IntWalk.i64_in _ (by omega) | (rw[IntWalk.i64_in _ (by omega)];omega)))
     try simp only[Act.put,aS]
     refine MG 6 ?_ ?_ (by assumption) ?_
     rotate_left
     ·(intro w hSw;(try dsimp only at hSw);go_simp;try with_reducible rfl)
     try simp only[Act.put,aS]
     refine wpAnyH_ready (rs:=[7]) (by kernel_rfl) (by simp) ?_
     refine AllReadyH.cons rfl (fun K hK=>?_) AllReadyH.nil
     go_simp
     go_at_call 46;refine hSm.out.mono ?_;rintro e w5 ⟨rfl,rfl⟩
     refine hK.out _ _ ?_ (fun hHeld=>?_)
     ·(try dsimp only);exact hHeld
     clear hK K
     try simp only[Act.put,aS]
     refine wpAnyH_take (i:=8) (v:=.int .i64 (cn:Int)) rfl (by kernel_rfl) (by kernel_rfl) (by kernel_rfl) (fun _ _ _ h=>h) (Or.inl ⟨by kernel_rfl,?_⟩) (by assumption) ?_
     ·(intro w hSw;(try dsimp only at hSw);go_simp;try (first | rfl | exact IntWalk.i64_in _ (by omega) | (rw[IntWalk.i64_in _ (by omega)];omega)))
     try simp only[Act.put,aS]
     refine wpAnyH_ready (rs:=[9]) (by kernel_rfl) (by simp) ?_
     refine AllReadyH.cons rfl (fun K hK=>?_) AllReadyH.nil
     go_simp
     go_at_call 96;refine hNm.out.mono ?_;rintro e w6 ⟨rfl,hB6,hk6⟩
     refine hK.out _ _ ?_ (fun hHeld=>?_)
     ·(try dsimp only);exact hk6.heap hHeld hmib
     clear hK K
     try simp only[Act.put,aS]
     refine wpAnyH_done (by kernel_rfl) ?_ _
     refine NoPanic.normal ?_
     have hR6:=MI ((HR5.out.next (Below.refl _ X5).drew).put hB6 HLZ.out HW8.out hk6 hi0)
     go_wp2_with fail
     exact⟨.inr ⟨by go_num,by rw[hzb.out];exact hR6.out⟩,by simp[aG]⟩
    ·have HR3:=MI hR3
     clear hR3
     go_wp2_with fail
     exact⟨.inr ⟨by go_num,HR3.out⟩,by simp[aG]⟩
  ·have hR2:=MI hR
   clear hR
   go_wp2_with fail
   go_ret
   exact⟨_,0,rfl,hR2.out.len,hR2.out.w8,hR2.out.im,hR2.out.k,fun _=>⟨rfl,rfl⟩⟩
theorem Dl(ib L cap:Nat)(zs:List Int)(hL:zs.length=L)(hLc:L≤cap)(hz:cap≤60000)(db Dw n:Nat)(ms:List Mt)(hn:n≤64)(hml:ms.length=n)(hm: ∀i,i<n→MtB (ms.getD i m0))(hl:20+64*n≤L)(size:Nat)(hs:size≤96)(hne:ib≠db)(hw8:W8 zs)(w:World)(h:Blk .u8 w ib 5 zs)(hS:PlS w db n ms):Calls Tryz.prog 59 #[.slice (some ⟨ib,0,none⟩) L cap,.slice (some ⟨db,0,none⟩) n Dw,.int .i64 (size:Int)] w (NumP ib (uM zs ms size) w):=by
 have hcp: ∀ty,(Builtin.copy_ #[63,9] ty #[.slice (some ⟨ib,0,none⟩) L cap,.string {data:=#[67,65,76,49]}]).run Tryz.prog w= .ok (goInt 4) (w.setCells ib 0 [.int .u8 67,.int .u8 65,.int .u8 76,.int .u8 49]):=fun ty=>by
  have h5:=run_copy_string (P:=Tryz.prog) w 63 9 ty 5 ib 0 L cap {data:=#[67,65,76,49]} Tryz.underlying63 (fun W=>by kernel_rfl) (by show 4≤L;omega) (fun j hj=>by have hj4:j<4:=hj;rw[h.cell (by omega)];rfl) (fun j hj=>h.frozen _)
  exact h5
 have hB1:Blk .u8 (w.setCells ib 0 [.int .u8 67,.int .u8 65,.int .u8 76,.int .u8 49]) ib 5 (bz zs 0 [67,65,76,49]):=Blk.setCells (vs:=[67,65,76,49]) h 0 (by show 0+4≤zs.length;omega)
 have hK1:af (fun k=>k=ib) w (w.setCells ib 0 [.int .u8 67,.int .u8 65,.int .u8 76,.int .u8 49]):=af.setCells (S:=fun k=>k=ib) _ (af.refl (fun k=>k=ib) w) (.inr rfl) 0
 have hr1:(bz zs 0 [67,65,76,49]).length=L:=by rw[jy _ _ _ (by show 0+4≤zs.length;omega)];exact hL
 have hN1:=MI (fun W (hB:Blk .u8 W ib 5 (bz zs 0 [67,65,76,49]))=>kM ib 0 L cap (bz zs 0 [67,65,76,49]) 4 4 L (by decide) (by omega) (by omega) (by omega) (by omega) W hB)
 have hr2:(jP (bz zs 0 [67,65,76,49]) (0+4) 4 L 4).length=L:=by rw[kN];exact hr1
 have hN2:=MI (fun W (hB:Blk .u8 W ib 5 (jP (bz zs 0 [67,65,76,49]) (0+4) 4 L 4))=>kM ib 0 L cap _ 8 2 n (by decide) (by omega) (by omega) (by omega) (by omega) W hB)
 have HH0:Hid ((jP (jP (bz zs 0 [67,65,76,49]) (0+4) 4 L 4) (0+8) 2 n 2).set 10 ((size:Int)%256)=hdS zs ms size 0):=by unfold Hid hdS hd0;rw[hL,hml]
 have hr3:(jP (jP (bz zs 0 [67,65,76,49]) (0+4) 4 L 4) (0+8) 2 n 2).length=L:=by rw[kN];exact hr2
 have HDL:=MI (fun i hi=>(hdS_len zs ms size (by omega) (by rw[hml];exact hm) i hi).trans hL)
 have HW8:=MI (hdS_w8 hw8 ms size hs (by rw[hml];exact hm))
 rw[hml] at HDL HW8
 have HHZ:Hid (uM zs ms size=jP (hdS zs ms size n) (16+64*n) 4 (fH ((hdS zs ms size n).take (16+64*n))).toNat 4):=by unfold Hid uM;rw[hml]
 have HMX:=MI hm
 have HB1:=MI hB1
 have HK1:=MI hK1
 have HSX:=MI hS
 have hDir:=MI (fun W=>lW n (by omega) W)
 clear hm hB1 hK1 hS h
 go_enter Tryz.func59,Tryz.ntmps59
 go_upto_region 1 with fail
 generalize w.setCells ib 0 [.int .u8 67,.int .u8 65,.int .u8 76,.int .u8 49]=W1 at*
 clear hcp
 generalize bz zs 0 [67,65,76,49]=z1 at*
 have hP1:=hN1.out W1 HB1.out
 rw[show((4:Nat):Int)=4 from rfl] at hP1
 have hP1:=MI hP1
 go_upto_region 3 with(go_at_call 96;first
  | ((with_reducible refine hP1.out.mono ?_);rintro e w2 ⟨rfl,hB2,hk2⟩;have hP2:=hN2.out w2 hB2;rw[show((8:Nat):Int)=8 from rfl,show((2:Nat):Int)=2 from rfl] at hP2;have hP2:=MI hP2)
  | ((with_reducible refine hP2.out.mono ?_);rintro e w3 ⟨rfl,hB3,hk3⟩))
 generalize jP (jP z1 (0+4) 4 L 4) (0+8) 2 n 2=z3 at*
 have hcb:=hB3.cell (i:=10) (by omega)
 have hfb:=hB3.frozen 10
 have hset:=hB3.set 10 ((size:Int)%256)
 rw[HH0.out,show(size:Int)%256=(size:Int) by omega] at hset
 have hK4:af (fun k=>k=ib) w (w3.setCell ⟨ib,10,none⟩ (.int .u8 (size:Int))):=((HK1.out.trans hk2).trans hk3).setCell (p:=⟨ib,10,none⟩) (.inr rfl) _
 have hS4:=HSX.out.keep hK4 (fun e=>hne e.symm)
 have HB4:=MI hset
 have HK4:=MI hK4
 have HS4:=MI hS4
 clear hset hK4 hS4 hB3 hB2 hk2 hk3 hP1
 go_upto_region 5 with fail
 generalize w3.setCell ⟨ib,10,none⟩ (.int .u8 (size:Int))=W4 at*
 clear hcb hfb
 go_loopw [25] (fun v25 wr=>∃i:Nat,i≤n∧v25= .int .i64 (i:Int)∧Blk .u8 wr ib 5 (hdS zs ms size i)∧af (fun k=>k=ib) w wr∧PlS wr db n ms) (fun v25 _=>n - aG v25)
 case atStart=>exact⟨0,by omega,rfl,HB4.out,HK4.out,HS4.out⟩
 case round=>
  clear HB4 HK4 HS4
  obtain⟨i,hi,rfl,hB,hK,hS⟩:=hrel
  by_cases hin:i<n
  ·have hin2:(i:Int)<(n:Int):=by omega
   have hr:=hS.range hin
   have hmx:=HMX.out i hin
   have hdl:=HDL.out i hi
   have hen:=MI (fun W (hB:Blk .u8 W ib 5 (hdS zs ms size i))=>Ap ib (0+(16+64*i)) (L - (16+64*i)) (cap - (16+64*i)) (hdS zs ms size i) (ms.getD i m0) hmx (by omega) (by omega) (by omega) W hB)
   have hnx:Hid (hdS zs ms size (i+1)=Aq (hdS zs ms size i) (0+(16+64*i)) (ms.getD i m0)):=by unfold Hid;rw[Nat.zero_add];rfl
   have hHB:=MI hB
   have hHK:=MI hK
   have hHS:=MI hS
   have hsz:(Tryz.prog.info? 54).map (·.size)=some (aP (ms.getD i m0)).length:=by kernel_rfl
   have hsz2:(Tryz.prog.info? 54).map (·.size)=some (aB (ms.getD i m0)).size:=by kernel_rfl
   have hone:=jc (ms.getD i m0)
   clear hB hK hS
   generalize ms.getD i m0=m at*
   go_upto_region 7 with(first
    | ((with_reducible refine MC 54 28 ?_);refine wpList_load_mid rfl 54 (.tmp 28) rfl db (i*9) rfl (aP m) _ hr Tryz.underlying54 rfl hsz ?_;rw[show(aP m).toArray=aB m from rfl])
    | ((with_reducible refine MF 54 7 29 ?_);refine wpList_store_row rfl 54 (.tmp 7) (.tmp 29) rfl _ (aB m) rfl rfl 54 Z54 (L9 _ _) hsz2 rfl hone ?_))
   have hbx:Below wr.heap.size wr ((wr.alloc (.cells Z54 54)).setRow wr.heap.size (aB m)):=below_setRow (ae wr (.cells Z54 54)) Me _
   have hxb:=Md (aB m) (L9 wr (.cells Z54 54))
   have hwl:=hHK.out.size
   have hBX:=hHB.out.ah hbx
   have hKX:=hHK.out.below hbx hwl
   have hSX:=hHS.out.ah hbx
   have hxib:wr.heap.size≠ib:=fun e=>by have h5:=hHB.out.lt;omega
   clear hr hbx
   change Code.wp _ _ _ _ ((wr.alloc (.cells Z54 54)).setRow wr.heap.size (aB m))
   generalize (wr.alloc (.cells Z54 54)).setRow wr.heap.size (aB m)=X at*
   generalize wr.heap.size=xb at*
   have hP:=MI (hen.out X.drew (show Blk .u8 X.drew ib 5 _ from hBX))
   have HKX:=MI hKX
   have HSX2:=MI hSX
   rw[Nat.zero_add] at hP hnx
   have hsl:=fun W=>wE ib 0 L cap (16+64*i) (by omega) (by omega) hLc hz W
   rw[Nat.zero_add] at hsl
   have e2:IntKind.i64.wrap ((i:Int)*64)=((64*i:Nat):Int):=by rw[show(i:Int)*64=((64*i:Nat):Int) by omega];exact IntWalk.i64_in _ (by omega)
   have e3:IntKind.i64.wrap (16+((64*i:Nat):Int))=((16+64*i:Nat):Int):=by rw[show 16+((64*i:Nat):Int)=((16+64*i:Nat):Int) by omega];exact IntWalk.i64_in _ (by omega)
   clear hKX hSX hBX hHB hHK hHS
   refine wp_region_noPanic ?_
   refine wp_region_held_drew (S:=fun w'=>w'.heap[xb]? =some (.cells (aB m) 54 (0,0))) (by kernel_rfl) ?_ (fun hHeld=>?_)
   ·exact hxb
   refine MG 0 ?_ ?_ (by assumption) ?_
   rotate_left
   ·(intro w hSw;(try dsimp only at hSw);go_simp;try with_reducible rfl)
   try simp only[Act.put,aS]
   refine MG 1 ?_ ?_ (by assumption) ?_
   rotate_left
   ·(intro w hSw;(try dsimp only at hSw);go_simp;try with_reducible rfl)
   try simp only[Act.put,aS]
   refine wpAnyH_take (i:=2) (v:=.int .i64 ((64*i:Nat):Int)) rfl (by kernel_rfl) (by kernel_rfl) (by kernel_rfl) (fun _ _ _ h=>h) (Or.inl ⟨by kernel_rfl,?_⟩) (by assumption) ?_
   ·(intro w hSw;(try dsimp only at hSw);go_simp;try (first | rfl | exact IntWalk.i64_in _ (by omega) | (rw[IntWalk.i64_in _ (by omega)];omega)))
   try simp only[Act.put,aS]
   refine wpAnyH_take (i:=3) (v:=.int .i64 ((16+64*i:Nat):Int)) rfl (by kernel_rfl) (by kernel_rfl) (by kernel_rfl) (fun _ _ _ h=>h) (Or.inl ⟨by kernel_rfl,?_⟩) (by assumption) ?_
   ·(intro w hSw;(try dsimp only at hSw);go_simp;try (first | rfl | exact IntWalk.i64_in _ (by omega) | (rw[IntWalk.i64_in _ (by omega)];omega)))
   try simp only[Act.put,aS]
   refine wpAnyH_take (i:=4) (v:=.slice (some ⟨ib,16+64*i,none⟩) (L - (16+64*i)) (cap - (16+64*i))) rfl (by kernel_rfl) (by kernel_rfl) (by kernel_rfl) (fun _ _ _ h=>h) (lD (by kernel_rfl) 63 (.tmp 30) (.tmp 33) rfl rfl rfl hsl) (by assumption) ?_
   try simp only[Act.put,aS]
   refine wpAnyH_take (i:=5) (v:=.agg (aB m)) rfl (by kernel_rfl) (by kernel_rfl) (by kernel_rfl) (fun _ _ _ h=>h) (aU (by kernel_rfl) 54 (.tmp 7) rfl xb rfl 54 (aB m) (0,0) _ (fun w h=>h) Tryz.underlying54 rfl hsz2) (by assumption) ?_
   try simp only[Act.put,aS]
   refine wpAnyH_ready (rs:=[6]) (by kernel_rfl) (by simp) ?_
   refine AllReadyH.cons rfl (fun K hK=>?_) AllReadyH.nil
   go_simp
   go_at_call 97;refine hP.out.mono ?_;rintro e w4 ⟨rfl,hB4,hk4⟩
   refine hK.out _ _ ?_ (fun hHeld=>?_)
   ·(try dsimp only);exact hk4.heap hHeld hxib
   clear hK K
   try simp only[Act.put,aS]
   refine wpAnyH_done (by kernel_rfl) ?_ _
   refine NoPanic.normal ?_
   go_wp2_with fail
   refine⟨⟨i+1,by omega,by go_num,by rw[hnx.out];exact hB4,HKX.out.drew.trans hk4,HSX2.out.drew.keep hk4 (fun e=>hne e.symm)⟩,by simp[aG];omega⟩
  ·obtain rfl:i=n:=by omega
   have hHB:=MI hB
   have hHK:=MI hK
   have hdl:=HDL.out i Me
   have hsh:=fun W=>FB ib 0 L cap (16+64*i) (by omega) hz W
   have hD:=hDir.out wr
   have hSm:=sum_any (some ⟨ib,0,none⟩) (16+64*i) cap _ wr ((Blk.ints hB L hdl (by unfold maxLen;omega) (HW8.out i Me)).take (by omega))
   have hbd:=uY ((hdS zs ms size i).take (16+64*i)) (fun c hc=>HW8.out i Me c (List.mem_of_mem_take hc))
   have hNm:=kM ib 0 L cap (hdS zs ms size i) (16+64*i) 4 (fH ((hdS zs ms size i).take (16+64*i))).toNat (by decide) (by omega) (by omega) (by omega) (by omega) wr hB
   have hZZ:=HHZ.out
   generalize fH ((hdS zs ms size i).take (16+64*i))=cr at*
   obtain⟨cn,rfl⟩: ∃cn:Nat,cr=(cn:Int):=⟨cr.toNat,by omega⟩
   rw[Int.toNat_natCast] at hNm hZZ
   rw[Nat.zero_add,←hZZ] at hNm
   have hNm:=hNm
   clear hB hK hS hZZ HHZ
   go_upto_region 10 with(go_at_call 44;refine hD.mono ?_;rintro e w4 ⟨rfl,rfl⟩)
   rw[show(20+64*(i:Int) - 4)=((16+64*i:Nat):Int) by omega]
   generalize 16+64*i=nn at*
   rw[show((4:Nat):Int)=4 from rfl] at hNm
   have hNm:=MI hNm
   have hcw:IntKind.i64.wrap (cn:Int)=(cn:Int):=IntWalk.i64_in _ (by omega)
   go_wp2_with (first | (go_at_call 46;refine hSm.mono ?_;rintro e w5 ⟨rfl,rfl⟩) | (go_at_call 96;refine hNm.out.mono ?_;rintro e w6 ⟨rfl,hB6,hk6⟩))
   go_end0
   exact⟨rfl,hB6,hHK.out.trans hk6⟩
def CdOk(size:Int)(w:World)(e:Ending)(w':World):Prop:=∃cb,e= .returned (.tuple #[.pointer (some ⟨cb,0,none⟩),()])∧Below w.heap.size w w'∧w.heap.size≤cb∧mY w' cb size
theorem Dz(size:Int)(h1:24≤size)(h2:size≤96)(w:World):Calls Tryz.prog 54 #[.int .i64 size] w (CdOk size w):=
 (AB size w).mono (fun e w' h=>by
  obtain⟨hb,⟨h3,-⟩ | ⟨-,-,cb,he,hc,hC⟩⟩:=h
  ·omega
  ·exact⟨cb,he,hb,hc,hC⟩)
def ChkZ(w:World)(e:Ending)(w':World):Prop:=e= .returned (.int .i64 0)∧Below w.heap.size w w'
theorem AL(b cap:Nat)(s:Sr)(hk:rO s)(w:World)(hS:lY w s)(h:w.rangeAt b 0 (srV s)):Calls Tryz.prog 55 #[.slice (some ⟨b,0,none⟩) 1 cap] w (ChkZ w):=
 (uZ b cap s w hS h).mono (fun e w' h=>by
  obtain⟨err,he,hb,hi⟩:=h
  obtain rfl:=hi.2 hk
  exact⟨he,hb⟩)
theorem kU{w w':World}{b o:Nat}{vs:List Value}(h:w.rangeAt b o vs)(hb:Below w.heap.size w w'):w'.rangeAt b o vs:=fun j v hv=>(hb.cell (World.block_lt_of_cell? w _ (h j v hv))).trans (h j v hv)
end Go.Proofs.YtnicjahcgnhogaaGreatDoor
