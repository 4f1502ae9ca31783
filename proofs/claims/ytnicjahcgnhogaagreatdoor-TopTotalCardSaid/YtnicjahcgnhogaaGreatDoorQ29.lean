/- Part 30 of the walk: contracts of the program's functions, each for every input. No condition. -/
import Derived.Test.YtnicjahcgnhogaaGreatDoorQ28
import Derived.Test.YtnicjahcgnhogaaGreatDoorQ18
set_option linter.unusedVariables false
set_option linter.unusedSimpArgs false
set_option maxRecDepth 100000
set_option maxHeartbeats 8000000
namespace Go.Proofs.YtnicjahcgnhogaaGreatDoor
open Go Go.RowKit Go.Calli
attribute [local irreducible] wpStill wpAnyH wpAnyS wpList Code.wp
theorem fill54(m:Mt):Instr.fill (fun i=>some (i*9,9)) ((Array.range (1*9)).map ((Value.agg #[.string ⟨#[]⟩,(),(),(),.bool false,(),(),(),()]).cells[· %(Value.agg #[.string ⟨#[]⟩,(),(),(),.bool false,(),(),(),()]).cells.size]!)) [(0,Value.agg (aB m))]=some (aB m):=by
 kernel_rfl
theorem Et:(Tryz.prog.info? 54).map (fun i=>(i.zero,i.size,i.bytes))=some (some (.agg #[.string ⟨#[]⟩,(),(),(),.bool false,(),(),(),()]),9,80):=by kernel_rfl
theorem Gu(m:Mt): ∀v ∈ aP m,v.oneCell'=true:=fun v hv=>by
 unfold aP at hv
 simp only[List.mem_cons,List.not_mem_nil,or_false] at hv
 rcases hv with rfl | rfl | rfl | rfl | rfl | rfl | rfl | rfl | rfl<;>rfl
theorem DL{w:World}{b:Nat}{m:Mt}(h:w.heap[b]? =some (.cells (aB m) 54 (0,0))): ∀j u,(aP m)[j]? =some u→w.cell? ((⟨b,0,none⟩:Addr).add j)=some u:=fun j u hu=>by
 rw[add0,Nat.zero_add,LZ h,show aB m=(aP m).toArray from rfl,List.getElem?_toArray]
 exact hu
def Lu(s:Sr)(l:List Int)(size:Nat)(w:World)(e:Ending)(w':World):Prop:=∃ib LL ms,plL size [fG s] 1=ms∧upZ (plA size [fG s] 1) 64=LL∧e= .returned (.tuple #[.slice (some ⟨ib,0,none⟩) LL LL,()])∧Below w.heap.size w w'∧w.heap.size≤ib∧Blk .u8 w' ib 5 (uM (rW (List.replicate LL 0) (ms.getD 0 m0) l size) ms size)
theorem Cm(size:Nat)(h24:24≤size)(h96:size≤96)(b0 c0:Nat)(s:Sr)(l:List Int)(hcs:s.cs=[l])(hk:rO s)(hr0:0≤s.rate)(hls:0≤s.ls)(hle:0≤s.le)(hn0:0<l.length)(hn:l.length≤10000)(hXL: ∀ms LL,plL size [fG s] 1=ms→upZ (plA size [fG s] 1) 64=LL→LK (ms.getD 0 m0) l size)(hfit: ∀ms LL,plL size [fG s] 1=ms→upZ (plA size [fG s] 1) 64=LL→(ms.getD 0 m0).first+size≤LL∧(ms.getD 0 m0).sums+4≤LL)(hMB: ∀ms,plL size [fG s] 1=ms→MtB (ms.getD 0 m0))(h84:20+64*1≤upZ (plA size [fG s] 1) 64)(hmt:(fG s).len≤1048576∧(fG s).ch≤2)(hLm:upZ (plA size [fG s] 1) 64≤60000)(w:World)(hS:lY w s)(h:w.rangeAt b0 0 (srV s)):Calls Tryz.prog 19 #[.int .i64 (size:Int),.slice (some ⟨b0,0,none⟩) 1 c0] w (Lu s l size w):=by
 have H:=MI h
 have HS:=MI hS
 have HK:=MI hk
 have hC1:=MI (Dz (size:Int) (by omega) (by omega) w)
 clear h hS hk
 go_enter Tryz.func19,Tryz.ntmps19
 go_upto_region 4 with(go_at_call 54;refine hC1.out.mono ?_;rintro e w1 ⟨cb,rfl,hb1,hcb,hC⟩)
 have hr1:=kU H.out hb1
 have hCk:=MI (AL b0 c0 s HK.out w1 (HS.out.ah hb1) hr1)
 have HB1:=MI hb1
 have HC:=MI hC
 clear hb1 hC
 go_upto_region 7 with(go_at_call 55;refine hCk.out.mono ?_;rintro e w2 ⟨rfl,hb2⟩)
 have hr2:=kU hr1 hb2
 have hSo:=MI (BK b0 c0 s w2 (fun j u hu=>by rw[add0];exact hr2 j u hu))
 have HB2:=MI (HB1.out.trans (hb2.mono HB1.out.size))
 have HC2:=MI (HC.out.ah hb2)
 clear hb2 hr1 hr2
 go_upto_region 10 with(go_at_call 56;refine hSo.out.mono ?_;rintro e w3 ⟨g3,c3,rfl,ho3,hb3⟩)
 have HB3:=MI (HB2.out.trans (hb3.mono HB2.out.size))
 have HC3:=MI (HC2.out.ah hb3)
 have hr3:=nV ho3 0 6
 rw[show((srV s).drop 0).take 6=srV s from rfl] at hr3
 have hS3:=HS.out.ah HB3.out
 have HO3:=MI ho3
 have HS3:=MI hS3
 have HR3:=MI hr3
 have hsz:(Tryz.prog.info? 76).map (·.size)=some (srV s).length:=by kernel_rfl
 have hsz2:(Tryz.prog.info? 76).map (·.size)=some (srA s).size:=by kernel_rfl
 have hone:(srA s).all (·.oneCell')=true:=by kernel_rfl
 obtain⟨ie,hie,hiz,hiS0,-⟩:=info_parts Et
 have hiS:¬1*ie.size>2^24:=by rw[hiS0];decide
 have hiP:¬1*ie.size=0:=by rw[hiS0];decide
 have hfill:=fill54 (fG s)
 rw[←hiS0] at hfill
 clear ho3 hb3 hr3 hS3 HB1 HB2 HC HC2 hC1 hCk hSo
 go_loopw [9,34] (fun v9 v34 wr=>(v34= .int .i64 0∧v9= .slice none 0 0∧w3=wr)∨(∃g c,v34= .int .i64 1∧v9= .slice (some ⟨g,0,none⟩) 1 c∧wr.ownsRow w3.heap.size 54 9 (.slice (some ⟨g,0,none⟩) 1 c) 1 (aP (fG s))∧Below w3.heap.size w3 wr)) (fun _ v34 _=>1 - aG v34)
 case atStart=>exact .inl ⟨rfl,rfl,rfl⟩
 case round=>
  rcases hrel with⟨rfl,rfl,rfl⟩ | ⟨g,c,rfl,rfl,hO,hB⟩
  ·have hr:=HR3.out
   go_upto_region 12 with(first
    | ((with_reducible refine MC 76 36 ?_);refine wpList_load_mid rfl 76 (.tmp 36) rfl g3 0 rfl (srV s) _ hr Tryz.underlying76 rfl hsz ?_;rw[show(srV s).toArray=srA s from rfl])
    | ((with_reducible refine MF 76 11 37 ?_);refine wpList_store_row rfl 76 (.tmp 11) (.tmp 37) rfl _ (srA s) rfl rfl 76 (Z76) (L9 _ _) hsz2 rfl hone ?_))
   have hbx:Below w3.heap.size w3 ((w3.alloc (.cells Z76 76)).setRow w3.heap.size (srA s)):=below_setRow (ae w3 (.cells Z76 76)) Me _
   have hxb:=Md (srA s) (L9 w3 (.cells Z76 76))
   have hSX:=HS3.out.ah hbx
   change Code.wp _ _ _ _ ((w3.alloc (.cells Z76 76)).setRow w3.heap.size (srA s))
   generalize (w3.alloc (.cells Z76 76)).setRow w3.heap.size (srA s)=X at*
   have hP:=MI (CX s hr0 hls hle X hSX)
   have HBX:=MI hbx
   clear hSX hr hbx
   go_wp2_with (first
    | ((with_reducible refine MC 76 11 ?_);refine wpList_load_row rfl 76 (.tmp 11) rfl w3.heap.size rfl 76 (srA s) (0,0) _ hxb Tryz.underlying76 rfl hsz2 ?_)
    | (go_at_call 57;refine hP.out.mono ?_;rintro e w2 ⟨rfl,hb2⟩;have hbs:=ae w2 (.cells (aB (fG s)) 54);have hz3:=L9 w2 (.cells (aB (fG s)) 54);have hnil:(w2.alloc (.cells (aB (fG s)) 54)).ownsRow w3.heap.size 54 9 (.slice none 0 0) 0 []:=World.ownsRow_nil _ _ _ _;have hB3:=(HBX.out.trans (hb2.mono HBX.out.size)).trans (hbs.mono (HBX.out.trans (hb2.mono HBX.out.size)).size);have hsz3:=hB3.size;have hcell:=DL hz3;clear hbs hb2)
    | ((with_reducible show wpList _ _ _ (Oper.mk _ (Op.buildSlice 87 _ _) _ _ _ _::_) _ _);refine wpList_buildSlice rfl 87 54 1 _ rfl (aB (fG s)) ie (.agg #[.string ⟨#[]⟩,(),(),(),.bool false,(),(),(),()]) Tryz.underlying87 hie hiz hiS hiP (Eq.trans (congrArg (Instr.fill _ _) (show _=[(0,Value.agg (aB (fG s)))] by kernel_rfl)) hfill) ?_)
    | (at_builtin;refine bY rfl (.tmp 38) (.tmp 41) 87 54 9 rfl Tryz.underlying87 Et rfl (by decide) w3.heap.size _ 0 [] rfl hnil ⟨w2.heap.size,0,none⟩ 1 1 (aP (fG s)) rfl rfl hcell (Gu (fG s)) (by omega) (by unfold maxLen;omega) hsz3 ?_;intro v26 w5 ho5 hk5;rw[List.nil_append,Nat.zero_add] at ho5;obtain⟨g5,c5,rfl⟩:=iF ho5 (by decide)))
   have hb5:Below (w2.alloc (.cells (aB (fG s)) 54)).heap.size (w2.alloc (.cells (aB (fG s)) 54)) w5:=hk5.bg Me (fun k hk e=>by cases e)
   exact⟨.inr ⟨g5,c5,by go_num,rfl,ho5,hB3.trans (hb5.mono hsz3)⟩,by simp[aG]⟩
  ·have HO:=MI hO
   have HB:=MI hB
   clear hO hB
   obtain⟨g',c',hv,hgb,hPl⟩:=ul (ms:=[fG s]) (show wr.ownsRow w3.heap.size 54 9 (.slice (some ⟨g,0,none⟩) 1 c) 1 ([fG s].flatMap aP) by simpa using HO.out) (by decide)
   cases hv
   have hPc:=MI (vg size h96 [fG s] 1 (by decide) rfl (fun i hi=>by
    have hi0:i=0:=by omega
    subst hi0
    exact hmt) g c wr hPl)
   clear hPl
   go_upto_region 15 with(go_at_call 50;refine hPc.out.mono ?_;rintro e w4 ⟨rfl,hPl4,hk4⟩)
   have HPl:=MI hPl4
   have HB4:=MI (HB.out.trans (hk4.bg HB.out.size (fun k hk e=>by have e2:k=g:=e;omega)))
   clear hPl4 hk4 HO HB
   generalize hLL:upZ (plA size [fG s] 1) 64=LL at*
   have HLL:=MI hLL
   clear hLL
   go_upto_region 17 with fail
   obtain⟨i5,hu51,hu52,hu53,hu54⟩:=(show ∃i5:TypeInfo,Tryz.prog.info? 5=some i5∧i5.zero=some (.int .u8 0)∧i5.size=1∧i5.bytes=1 from⟨_,rfl,rfl,rfl,rfl⟩)
   go_upto_region 19 with(at_make;refine wpList_make_full _ rfl _ _ 63 rfl w4.heap.size 5 _ _ _ Tryz.underlying63 hu51 hu52 hu53 _ _ _ _ LL rfl rfl rfl rfl (by rw[hu54];omega) (by unfold maxLen;omega) Me ?_;intro w5 hown hgrow)
   have hb5:Below w4.heap.size w4 w5:=((af.refl (fun _=>False) w4).grown hgrow (fun k hk=>by cases hk)).bg Me (fun _ _ e=>e.elim)
   have HI5:=MI (uA hown)
   have HPl5:=MI (HPl.out.ah hb5)
   have HB5:=MI (HB4.out.trans (hb5.mono HB4.out.size))
   have HS4:=MI (HS3.out.ah HB4.out)
   have HW4:=MI (HB3.out.trans (HB4.out.mono HB3.out.size))
   have HC5:=MI ((HC3.out.ah HB4.out).ah hb5)
   have HR5:=MI (kU HR3.out HB5.out)
   have HB45:=MI hb5
   generalize hmm:(plL size [fG s] 1)=ms at*
   have HMM:=MI hmm
   clear hown hgrow hb5 HPl HB4 hmm
   go_loopw [53] (fun v53 wr=>(v53= .int .i64 0∧w5=wr)∨(v53= .int .i64 1∧∃zs',zs'=rW (List.replicate LL 0) (ms.getD 0 m0) l size∧zs'.length=LL∧W8 zs'∧Blk .u8 wr w4.heap.size 5 zs'∧PlS wr g 1 ms∧Below w4.heap.size w4 wr)) (fun v53 _=>1 - aG v53)
   case atStart=>exact .inl ⟨rfl,rfl⟩
   case round=>
    rcases hrel with⟨rfl,rfl⟩ | ⟨rfl,zs',hz1,hz2,hz3,hB6,hPl6,hb6⟩
    ·have hr:=HR5.out
     go_upto_region 21 with(first
      | ((with_reducible refine MC 76 56 ?_);refine wpList_load_mid rfl 76 (.tmp 56) rfl g3 0 rfl (srV s) _ hr Tryz.underlying76 rfl hsz ?_;rw[show(srV s).toArray=srA s from rfl])
      | ((with_reducible refine MF 76 15 57 ?_);refine wpList_store_row rfl 76 (.tmp 15) (.tmp 57) rfl _ (srA s) rfl rfl 76 (Z76) (L9 _ _) hsz2 rfl hone ?_))
     have hbx:Below w5.heap.size w5 ((w5.alloc (.cells Z76 76)).setRow w5.heap.size (srA s)):=below_setRow (ae w5 (.cells Z76 76)) Me _
     have hxb:=Md (srA s) (L9 w5 (.cells Z76 76))
     change Code.wp _ _ _ _ ((w5.alloc (.cells Z76 76)).setRow w5.heap.size (srA s))
     generalize (w5.alloc (.cells Z76 76)).setRow w5.heap.size (srA s)=X at*
     have hBX:=HI5.out.ah hbx
     have hPX:=HPl5.out.ah hbx
     have hCX:=HC5.out.ah hbx
     have hwX:Below w4.heap.size w4 X:=HB45.out.trans (hbx.mono HB45.out.size)
     have hdm:(srA s).size=6:=rfl
     have hLay:=MI (Gx w4 w4.heap.size LL LL cb size (ms.getD 0 m0) s l hcs hn0 hn (List.replicate LL 0) (hXL ms LL rfl rfl) Me hLm (hfit ms LL rfl rfl).1 (hfit ms LL rfl rfl).2 X.drew hwX.drew Me (fun W hk=>HS4.out.ah (hwX.drew.trans (hk.bg hwX.drew.size (fun k hk e=>by have e2:k=w4.heap.size:=e;omega)))) hBX List.length_replicate (fun z hz=>by rw[(List.mem_replicate.1 hz).2];rfl) ⟨hCX.row⟩)
     have hrg:=hPX.range (i:=0) (by decide)
     rw[Nat.zero_mul] at hrg
     have hszM:(Tryz.prog.info? 54).map (·.size)=some (aP (ms.getD 0 m0)).length:=by kernel_rfl
     have HBX:=MI hBX
     have HPX:=MI hPX
     have HWX:=MI hwX
     have hxi:w5.heap.size≠w4.heap.size:=fun e=>by have:=HI5.out.lt;omega
     have hgi:g≠w4.heap.size:=fun e=>aF HPl5.out.2.choose_spec.1 HI5.out (by decide) e
     clear hBX hPX hCX hwX hbx hr
     refine wp_region_noPanic ?_
     refine wp_region_held_drew (S:=fun w'=>w'.heap[w5.heap.size]? =some (.cells (srA s) 76 (0,0))∧w'.rangeAt g 0 (aP (ms.getD 0 m0))) (by kernel_rfl) ?_ (fun hHeld=>?_)
     ·exact⟨hxb,hrg⟩
     refine MG 0 ?_ ?_ (by assumption) ?_
     rotate_left
     ·(intro w hSw;(try dsimp only at hSw);go_simp;try with_reducible rfl)
     try simp only[Act.put,aS]
     refine MG 1 ?_ ?_ (by assumption) ?_
     rotate_left
     ·(intro w hSw;(try dsimp only at hSw);go_simp;try with_reducible rfl)
     try simp only[Act.put,aS]
     refine MG 2 ?_ ?_ (by assumption) ?_
     rotate_left
     ·(intro w hSw;(try dsimp only at hSw);go_simp;try with_reducible rfl)
     try simp only[Act.put,aS]
     refine MG 3 ?_ ?_ (by assumption) ?_
     rotate_left
     ·(intro w hSw;(try dsimp only at hSw);go_simp;try with_reducible rfl)
     try simp only[Act.put,aS]
     refine MG 6 ?_ ?_ (by assumption) ?_
     rotate_left
     ·(intro w hSw;(try dsimp only at hSw);go_simp;try with_reducible rfl)
     try simp only[Act.put,aS]
     refine wpAnyH_take (i:=4) (v:=.agg (aB (ms.getD 0 m0))) rfl (by kernel_rfl) (by kernel_rfl) (by kernel_rfl) (fun _ _ _ h=>h) (yieldsIf_load_mid (by kernel_rfl) 54 (.tmp 61) rfl g 0 rfl (aP (ms.getD 0 m0)) _ (fun w h=>h.2) Tryz.underlying54 rfl hszM) (by assumption) ?_
     try simp only[Act.put,aS]
     refine wpAnyH_take (i:=5) (v:=.agg (srA s)) rfl (by kernel_rfl) (by kernel_rfl) (by kernel_rfl) (fun _ _ _ h=>h) (aU (by kernel_rfl) 76 (.tmp 15) rfl w5.heap.size rfl 76 (srA s) (0,0) _ (fun w h=>h.1) Tryz.underlying76 rfl hsz2) (by assumption) ?_
     try simp only[Act.put,aS]
     refine wpAnyH_ready (rs:=[7]) (by kernel_rfl) (by simp) ?_
     refine AllReadyH.cons rfl (fun K hK=>?_) AllReadyH.nil
     go_simp
     go_at_call 58;refine hLay.out.mono ?_;rintro e w6 ⟨zs',err,rfl,hl6,h86,hB6,hk6,hx6⟩
     refine hK.out _ _ ?_ (fun hHeld=>?_)
     ·(try dsimp only);exact⟨hk6.heap hHeld.1 hxi,fun j v hv=>hk6.cell (hHeld.2 j v hv) hgi⟩
     clear hK K
     try simp only[Act.put,aS]
     refine MG 8 ?_ ?_ (by assumption) ?_
     rotate_left
     ·(intro w hSw;(try dsimp only at hSw);go_simp;try with_reducible rfl)
     try simp only[Act.put,aS]
     refine wpAnyH_done (by kernel_rfl) ?_ _
     refine NoPanic.normal ?_
     obtain⟨rfl,hz6⟩:=hx6 (hXL ms LL rfl rfl)
     have HR6:=MI (show zs'=rW (List.replicate LL 0) (ms.getD 0 m0) l size∧zs'.length=LL∧W8 zs'∧Blk .u8 w6 w4.heap.size 5 zs'∧PlS w6 g 1 ms∧Below w4.heap.size w4 w6 from⟨hz6,hl6,h86,hB6,HPX.out.drew.keep hk6 hgi,HWX.out.drew.trans (hk6.bg HWX.out.drew.size (fun k hk e=>by have e2:k=w4.heap.size:=e;omega))⟩)
     clear hz6 hl6 h86 hB6 hk6 hx6 hHeld
     go_wp2_with fail
     exact⟨.inr ⟨by go_num,zs',HR6.out⟩,by simp[aG]⟩
    ·have hne:w4.heap.size≠g:=fun e=>aF hPl6.2.choose_spec.1 hB6 (by decide) e.symm
     have hml:=hPl6.1
     have hHd:=MI (Dl w4.heap.size LL LL zs' hz2 Me hLm g c 1 ms (by decide) hml (fun i hi=>by
      have hi0:i=0:=by omega
      subst hi0
      exact hMB ms rfl) h84 size h96 hne hz3 wr hB6 hPl6)
     have HB6:=MI hb6
     have HZ1:=MI hz1
     clear hB6 hPl6 hb6 hz1 hz2 hz3
     go_wp2_with (go_at_call 59;refine hHd.out.mono ?_;rintro e w7 ⟨rfl,hB7,hk7⟩)
     go_ret2
     rw[HZ1.out] at hB7
     refine⟨w4.heap.size,LL,ms,HMM.out,HLL.out,rfl,?_,HW4.out.size,hB7⟩
     have hb7:Below w4.heap.size w4 w7:=HB6.out.trans (hk7.bg HB6.out.size (fun k hk e=>by have e2:k=w4.heap.size:=e;omega))
     exact HW4.out.trans (hb7.mono HW4.out.size)
theorem info2:(Tryz.prog.info? 2).map (fun i=>(i.zero,i.size,i.bytes))=some (some (.int .i64 0),1,8):=by kernel_rfl
structure LmB(σ:Own)(b0:Nat)(w:World)(lv mv:Value)(L M:List Int):Prop where
 l:w.ownsRow b0 2 1 lv L.length (iL L)
 m:w.ownsRow b0 2 1 mv M.length (iL M)
 lo: ∀b,lv.ownBlock=some b→σ b=3
 mo: ∀b,mv.ownBlock=some b→σ b=3
 sep: ∀b,lv.ownBlock=some b→mv.ownBlock=some b→False
theorem LmB.keep{σ:Own}{b0:Nat}{w w':World}{lv mv:Value}{L M:List Int}(h:LmB σ b0 w lv mv L M){S:Nat→Prop}(hk:af S w w')(hS: ∀k,S k→k<w.heap.size→(∃cs,w.heap[k]? =some (.cells cs 2 (0,0)))→σ k≠3):LmB σ b0 w' lv mv L M:=
 ⟨ay h.l hk (fun k e hs=>by
  obtain⟨cs,hcs⟩:=ag h.l e
  exact hS k hs (L8 hcs) ⟨cs,hcs⟩ (h.lo k e)),ay h.m hk (fun k e hs=>by
  obtain⟨cs,hcs⟩:=ag h.m e
  exact hS k hs (L8 hcs) ⟨cs,hcs⟩ (h.mo k e)),h.lo,h.mo,h.sep⟩
theorem LmB.ext{σ σ':Own}{b0:Nat}{w:World}{lv mv:Value}{L M:List Int}(h:LmB σ b0 w lv mv L M)(he:Ext σ σ' w.heap.size):LmB σ' b0 w lv mv L M:=
 ⟨h.l,h.m,fun b e=>by
  obtain⟨cs,hcs⟩:=ag h.l e
  exact(he _ (L8 hcs)).trans (h.lo b e),fun b e=>by
  obtain⟨cs,hcs⟩:=ag h.m e
  exact(he _ (L8 hcs)).trans (h.mo b e),h.sep⟩
theorem LmB.nil(σ:Own)(b0:Nat)(w:World):LmB σ b0 w (.slice none 0 0) (.slice none 0 0) [] []:=⟨World.ownsRow_nil _ _ _ _,World.ownsRow_nil _ _ _ _,(fun b e=>by cases e),(fun b e=>by cases e),(fun b e=>by cases e)⟩
theorem LmB.grow{σ:Own}{b0:Nat}{w w3 w4:World}{lv mv lv' mv':Value}{L M:List Int}{a b:Int}(h:LmB σ b0 w lv mv L M)(h1:w3.ownsRow b0 2 1 lv' (L.length+1) (iL L++[.int .i64 a]))(k1:af (fun k=>lv.ownBlock=some k) w w3)(o1: ∀k,lv'.ownBlock=some k→lv.ownBlock=some k∨w.heap.size≤k)(h2:w4.ownsRow b0 2 1 mv' (M.length+1) (iL M++[.int .i64 b]))(k2:af (fun k=>mv.ownBlock=some k) w3 w4)(o2: ∀k,mv'.ownBlock=some k→mv.ownBlock=some k∨w3.heap.size≤k):LmB (aA σ w.heap.size w4.heap.size 3) b0 w4 lv' mv' (L++[a]) (M++[b]):=by
 have hs1:=k1.size
 have hs2:=k2.size
 have hl3: ∀k,lv'.ownBlock=some k→k<w3.heap.size:=fun k e=>by
  obtain⟨cs,hcs⟩:=ag h1 e
  exact L8 hcs
 have hm4: ∀k,mv'.ownBlock=some k→k<w4.heap.size:=fun k e=>by
  obtain⟨cs,hcs⟩:=ag h2 e
  exact L8 hcs
 have hm0: ∀k,mv.ownBlock=some k→k<w.heap.size:=fun k e=>by
  obtain⟨cs,hcs⟩:=ag h.m e
  exact L8 hcs
 refine⟨?_,?_,fun k e=>?_,fun k e=>?_,fun k e e2=>?_⟩
 ·have h3:=ay h1 k2 (fun k e hs=>by
   rcases o1 k e with h4 | h4
   ·exact h.sep k h4 hs
   ·have:=hm0 k hs;omega)
  simpa[iL] using h3
 ·simpa[iL] using h2
 ·rcases Nat.lt_or_ge k w.heap.size with hl | hl
  ·rw[dP σ 3 hl]
   rcases o1 k e with h4 | h4
   ·exact h.lo k h4
   ·omega
  ·have:=hl3 k e
   exact aT σ 3 hl (by omega)
 ·rcases Nat.lt_or_ge k w.heap.size with hl | hl
  ·rw[dP σ 3 hl]
   rcases o2 k e with h4 | h4
   ·exact h.mo k h4
   ·omega
  ·exact aT σ 3 hl (hm4 k e)
 ·have h5:=hl3 k e
  rcases o2 k e2 with h4 | h4
  ·rcases o1 k e with h6 | h6
   ·exact h.sep k h6 h4
   ·have:=hm0 k h4;omega
  ·omega
structure OnS(X:Fx)(Y:Yx)(B:Bk)(K:Nat)(σ:Own)(rb:Nat)(ov lv0 ev0:Value)(w:World)(lv mv:Value)(wr:World)(σ':Own)(f':Fe)(y':Ye)(r':Rp)(L M:List Int)(lv1 ev1:Value):Prop where
 ext:Ext σ σ' w.heap.size
 fe:aK X σ' wr B K f'
 fb:FeB K f'
 ys:YIs X Y B K σ' wr y'
 rp:oI σ' wr rb ov lv1 ev1 0 0 r'
 lm:LmB σ' w.heap.size wr lv mv L M
 out:wr.heap[w.heap.size]? =some (.cells #[(),()] 81 (0,0))
 oo:σ' w.heap.size=3
 k:af (FG σ rb lv0 ev0) w wr
 l1: ∀k,lv1.ownBlock=some k→lv0.ownBlock=some k∨w.heap.size≤k
 e1: ∀k,ev1.ownBlock=some k→ev0.ownBlock=some k∨w.heap.size≤k
theorem OnS.drew{X:Fx}{Y:Yx}{B:Bk}{K:Nat}{σ:Own}{rb:Nat}{ov lv0 ev0:Value}{w:World}{lv mv:Value}{wr:World}{σ':Own}{f':Fe}{y':Ye}{r':Rp}{L M:List Int}{lv1 ev1:Value}(h:OnS X Y B K σ rb ov lv0 ev0 w lv mv wr σ' f' y' r' L M lv1 ev1):OnS X Y B K σ rb ov lv0 ev0 w lv mv wr.drew σ' f' y' r' L M lv1 ev1:=
 have hb:=(Below.refl wr.heap.size wr).drew
 ⟨h.ext,h.fe.ah hb,h.fb,h.ys.ah hb,h.rp.ah hb,h.lm.keep (S:=fun _=>False) (af.au hb Me) (fun _ e=>e.elim),h.out,h.oo,h.k.drew,h.l1,h.e1⟩
theorem OnS.snd{X:Fx}{Y:Yx}{B:Bk}{K:Nat}{σ:Own}{rb:Nat}{ov lv0 ev0:Value}{w:World}{lv mv:Value}{wr:World}{σ':Own}{f':Fe}{y':Ye}{r':Rp}{L M:List Int}{lv1 ev1:Value}(h:OnS X Y B K σ rb ov lv0 ev0 w lv mv wr σ' f' y' r' L M lv1 ev1){i:Nat}{P:Px}{p p2:Pt}(hq:y'.ps.getD i none=some (P,p)){w2:World}{σ2:Own}{f2:Fe}(hF:aK X σ2 w2 B (K+16) f2)(hB:FeB (K+16) f2)(hP:iO X P B (K+16) σ2 w2 p2)(hK:af (FP σ' P.V.T) wr w2)(hE:Ext σ' σ2 wr.heap.size):OnS X Y B (K+16) σ rb ov lv0 ev0 w lv mv w2 σ2 f2 {y' with ps:=y'.ps.set i (some (P,p2))} r' L M lv1 ev1:=by
 have hT:=(h.ys.pt i P p hq).1
 have hs:=h.k.size
 have hol:=L8 h.out
 have n3: ∀k,FP σ' P.V.T k→k<wr.heap.size→σ2 k≠3:=fun k e hl=>by
  rw[hE k hl];unfold FP FV at e;omega
 have n3': ∀k,FP σ' P.V.T k→k<wr.heap.size→σ' k≠3:=fun k e hl=>by
  unfold FP FV at e;omega
 exact⟨h.ext.trans hE hs,hF,hB,h.ys.did (by omega) hq hK hE hP,(h.rp.ext hE).keep hK n3,(h.lm.ext hE).keep hK (fun k e hl _=>n3 k e hl),hK.heap h.out (fun e=>n3' _ e hol h.oo),(hE _ hol).trans h.oo,h.k.andThen hK (fun i hi e=>by
  have e1:=h.ext i hi
  unfold FP FV at e
  unfold FG FR
  omega),h.l1,h.e1⟩
theorem OnS.grow{X:Fx}{Y:Yx}{B:Bk}{K:Nat}{σ:Own}{rb:Nat}{ov lv0 ev0:Value}{w:World}{lv mv:Value}{wr:World}{σ':Own}{f':Fe}{y':Ye}{r':Rp}{L M:List Int}{lv1 ev1:Value}(h:OnS X Y B K σ rb ov lv0 ev0 w lv mv wr σ' f' y' r' L M lv1 ev1){w3 w4:World}{lv' mv':Value}{a b:Int}(h1:w3.ownsRow w.heap.size 2 1 lv' (L.length+1) (iL L++[.int .i64 a]))(k1:af (fun k=>lv.ownBlock=some k) wr w3)(o1: ∀k,lv'.ownBlock=some k→lv.ownBlock=some k∨wr.heap.size≤k)(h2:w4.ownsRow w.heap.size 2 1 mv' (M.length+1) (iL M++[.int .i64 b]))(k2:af (fun k=>mv.ownBlock=some k) w3 w4)(o2: ∀k,mv'.ownBlock=some k→mv.ownBlock=some k∨w3.heap.size≤k):OnS X Y B K σ rb ov lv0 ev0 w lv' mv' w4 (aA σ' wr.heap.size w4.heap.size 3) f' y' r' (L++[a]) (M++[b]) lv1 ev1:=by
 have hs:=h.k.size
 have hol:=L8 h.out
 have hk:af (fun k=>lv.ownBlock=some k∨mv.ownBlock=some k) wr w4:=(k1.mono fun k _ e=>.inl e).andThen k2 (fun i hi e=>.inr e)
 have h3: ∀k,(lv.ownBlock=some k∨mv.ownBlock=some k)→σ' k=3:=fun k e=>e.elim (h.lm.lo k) (h.lm.mo k)
 have ht: ∀k,(lv.ownBlock=some k∨mv.ownBlock=some k)→∃cs,wr.heap[k]? =some (.cells cs 2 (0,0)):=fun k e=>e.elim (ag h.lm.l) (ag h.lm.m)
 have hb: ∀k,(lv.ownBlock=some k∨mv.ownBlock=some k)→w.heap.size≤k:=fun k e=>e.elim (fun e=>(h.lm.l.lt k e).1) (fun e=>(h.lm.m.lt k e).1)
 have hx:=bZ σ' wr.heap.size w4.heap.size 3
 have hrp:oI σ' w4 rb ov lv1 ev1 0 0 r':=by
  refine⟨hk.heap h.rp.row (fun e=>?_),h.rp.own,ay h.rp.lost hk (fun k e hs=>?_),ay h.rp.ended hk (fun k e hs=>?_),h.rp.lo,h.rp.eo⟩
  ·obtain⟨cs,hcs⟩:=ht _ e
   exact aF h.rp.row hcs (by decide) rfl
  ·obtain⟨cs,hcs⟩:=ht _ hs
   obtain⟨ds,hds⟩:=ag h.rp.lost e
   exact aF hcs hds (by decide) rfl
  ·obtain⟨cs,hcs⟩:=ht _ hs
   obtain⟨ds,hds⟩:=ag h.rp.ended e
   exact aF hcs hds (by decide) rfl
 have hx4:Ext σ' (aA σ' wr.heap.size w4.heap.size 3) wr.heap.size:=hx
 refine⟨h.ext.trans hx hs,h.fe.aA (hk.mono fun k _ e=>by rw[h3 k e];exact Nat.le_refl 3) 3,h.fb,?_,?_,h.lm.grow h1 k1 o1 h2 k2 o2,?_,(hx _ hol).trans h.oo,h.k.andThen hk (fun i hi e=>by have:=hb i e;omega),h.l1,h.e1⟩
 ·exact(h.ys.ext hx).keep hk (fun k e hl=>by rw[hx k hl,h3 k e];decide)
 ·refine⟨hrp.row,(hx _ (L8 h.rp.row)).trans h.rp.own,hrp.lost,hrp.ended,fun b e=>?_,fun b e=>?_⟩
  ·obtain⟨ds,hds⟩:=ag h.rp.lost e
   exact(hx _ (L8 hds)).trans (h.rp.lo b e)
  ·obtain⟨ds,hds⟩:=ag h.rp.ended e
   exact(hx _ (L8 hds)).trans (h.rp.eo b e)
 ·refine hk.heap h.out (fun e=>?_)
  obtain⟨cs,hcs⟩:=ht _ e
  exact aF h.out hcs (by decide) rfl
theorem OnS.lost{X:Fx}{Y:Yx}{B:Bk}{K:Nat}{σ:Own}{rb:Nat}{ov lv0 ev0:Value}{w:World}{lv mv:Value}{wr:World}{σ':Own}{f':Fe}{y':Ye}{r':Rp}{L M:List Int}{lv1 ev1:Value}(h:OnS X Y B K σ rb ov lv0 ev0 w lv mv wr σ' f' y' r' L M lv1 ev1){i:Nat}{P:Px}{p:Pt}{us:List Ku}(hq:y'.ps.getD i none=some (P,p)){w5:World}(hV:fJ X P.V B K σ' w5 p.v us)(hK:af (FL σ' P.V.T) wr w5):OnS X Y B K σ rb ov lv0 ev0 w lv mv w5 σ' f' {y' with ps:=y'.ps.set i (some (P,{p with us:=us}))} r' L M lv1 ev1:=by
 have hs:=h.k.size
 have hol:=L8 h.out
 have hT:=(h.ys.pt i P p hq).1
 have hp:=(h.ys.pt i P p hq).2
 have hfl: ∀k,FL σ' P.V.T k→11≤σ' k:=fun k e=>by unfold FL at e;omega
 have hy5:=h.ys.did Me hq (hK.mono fun k _ e=>by unfold FL at e;unfold FP FV;omega) (Ext.refl σ' _) (hp.clr hV hK)
 refine⟨h.ext,h.fe.kept (hK.mono fun k _ e=>by have:=hfl k e;omega),h.fb,hy5,h.rp.keep hK (fun k e hl=>by have:=hfl k e;omega),h.lm.keep hK (fun k e hl _=>by have:=hfl k e;omega),hK.heap h.out (fun e=>by have:=hfl _ e;have:=h.oo;omega),h.oo,h.k.andThen hK (fun k hk e=>?_),h.l1,h.e1⟩
 have h1:=hfl k e
 have h2:=h.ext k hk
 unfold FG FR
 omega
theorem OnS.put{X:Fx}{Y:Yx}{B:Bk}{K:Nat}{σ:Own}{rb:Nat}{ov lv0 ev0:Value}{w:World}{lv mv:Value}{wr:World}{σ':Own}{f':Fe}{y':Ye}{r':Rp}{L M:List Int}{lv1 ev1:Value}(h:OnS X Y B K σ rb ov lv0 ev0 w lv mv wr σ' f' y' r' L M lv1 ev1){lv2 ev2:Value}{r2:Rp}{w6:World}{c:Nat}{v':Value}(hrow:(w6.setCell ⟨rb,c,none⟩ v').heap[rb]? =some (.cells #[ov,lv2,ev2,(),()] 35 (0,0)))(hl:w6.ownsRow 0 215 3 lv2 r2.lost.length (r2.lost.flatMap lS))(he:w6.ownsRow 0 3 1 ev2 r2.ended.length (iL r2.ended))(k2:af (fun k=>lv1.ownBlock=some k∨ev1.ownBlock=some k) wr w6)(ol: ∀k,lv2.ownBlock=some k→lv1.ownBlock=some k∨wr.heap.size≤k)(oe: ∀k,ev2.ownBlock=some k→ev1.ownBlock=some k∨wr.heap.size≤k):OnS X Y B K σ rb ov lv0 ev0 w lv mv (w6.setCell ⟨rb,c,none⟩ v') (aA σ' wr.heap.size w6.heap.size 3) f' y' r2 L M lv2 ev2:=by
 have hs:=h.k.size
 have hs2:=k2.size
 have hol:=L8 h.out
 have hrl:=L8 h.rp.row
 have hx:=bZ σ' wr.heap.size w6.heap.size 3
 have hk7:af (fun k=>lv1.ownBlock=some k∨ev1.ownBlock=some k∨k=rb) wr (w6.setCell ⟨rb,c,none⟩ v'):=(k2.mono fun k _ e=>e.elim .inl (fun e=>.inr (.inl e))).setCell (p:=⟨rb,c,none⟩) (.inr (.inr (.inr rfl))) _
 have h3: ∀k,(lv1.ownBlock=some k∨ev1.ownBlock=some k∨k=rb)→σ' k=3:=fun k e=>e.elim (h.rp.lo k) (fun e=>e.elim (h.rp.eo k) (fun e=>e▸h.rp.own))
 have ht: ∀k,(lv1.ownBlock=some k∨ev1.ownBlock=some k∨k=rb)→∃cs t,t≠2∧t≠81∧wr.heap[k]? =some (.cells cs t (0,0)):=fun k e=>by
  rcases e with e | e | e
  ·obtain⟨cs,hcs⟩:=ag h.rp.lost e
   exact⟨cs,215,by decide,by decide,hcs⟩
  ·obtain⟨cs,hcs⟩:=ag h.rp.ended e
   exact⟨cs,3,by decide,by decide,hcs⟩
  ·exact⟨_,35,by decide,by decide,e▸h.rp.row⟩
 have krb:af (fun k=>k=rb) w6 (w6.setCell ⟨rb,c,none⟩ v'):=aC _ _ _ _
 have n3: ∀k,(lv1.ownBlock=some k∨wr.heap.size≤k)→k<w6.heap.size→aA σ' wr.heap.size w6.heap.size 3 k=3:=fun k e hl=>by
  rcases Nat.lt_or_ge k wr.heap.size with h1 | h1
  ·rw[dP σ' 3 h1]
   rcases e with e | e
   ·exact h.rp.lo k e
   ·omega
  ·exact aT σ' 3 h1 hl
 have n4: ∀k,(ev1.ownBlock=some k∨wr.heap.size≤k)→k<w6.heap.size→aA σ' wr.heap.size w6.heap.size 3 k=3:=fun k e hl=>by
  rcases Nat.lt_or_ge k wr.heap.size with h1 | h1
  ·rw[dP σ' 3 h1]
   rcases e with e | e
   ·exact h.rp.eo k e
   ·omega
  ·exact aT σ' 3 h1 hl
 have hrow6: ∃cs t,t=35∧w6.heap[rb]? =some (.cells cs t (0,0)):=by
  refine⟨_,35,rfl,k2.heap h.rp.row (fun e=>?_)⟩
  rcases e with e | e
  ·obtain⟨ds,hds⟩:=ag h.rp.lost e
   exact aF h.rp.row hds (by decide) rfl
  ·obtain⟨ds,hds⟩:=ag h.rp.ended e
   exact aF h.rp.row hds (by decide) rfl
 obtain⟨rs,rt,hrt,hr6⟩:=hrow6
 subst hrt
 refine⟨h.ext.trans hx hs,?_,h.fb,(h.ys.ext hx).keep hk7 (fun k e hl=>by rw[hx k hl,h3 k e];decide),⟨hrow,(hx _ hrl).trans h.rp.own,ay hl krb (fun k e hs=>?_),ay he krb (fun k e hs=>?_),fun b e=>?_,fun b e=>?_⟩,(h.lm.ext hx).keep hk7 (fun k e hl hc=>?_),hk7.heap h.out (fun e=>?_),(hx _ hol).trans h.oo,h.k.andThen hk7 (fun k hk e=>?_),fun k e=>?_,fun k e=>?_⟩
 ·have h7:=h.fe.aA (hk7.mono fun k _ e=>by rw[h3 k e];exact Nat.le_refl 3) 3
  rw[show(w6.setCell ⟨rb,c,none⟩ v').heap.size=w6.heap.size by simp] at h7
  exact h7
 ·obtain⟨ds,hds⟩:=ag hl e
  subst hs
  exact aF hr6 hds (by decide) rfl
 ·obtain⟨ds,hds⟩:=ag he e
  subst hs
  exact aF hr6 hds (by decide) rfl
 ·obtain⟨ds,hds⟩:=ag hl e
  exact n3 b (ol b e) (L8 hds)
 ·obtain⟨ds,hds⟩:=ag he e
  exact n4 b (oe b e) (L8 hds)
 ·obtain⟨cs,t,h1,h2,hcs⟩:=ht k e
  obtain⟨ds,hds⟩:=hc
  exact absurd rfl (aF hcs hds h1)
 ·obtain⟨cs,t,h1,h2,hcs⟩:=ht _ e
  exact aF hcs h.out h2 rfl
 ·rcases e with e | e | e
  ·rcases h.l1 k e with h4 | h4
   ·exact .inr (.inr (.inl h4))
   ·omega
  ·rcases h.e1 k e with h4 | h4
   ·exact .inr (.inr (.inr h4))
   ·omega
  ·exact .inr (.inl e)
 ·rcases ol k e with h4 | h4
  ·exact h.l1 k h4
  ·exact .inr (by omega)
 ·rcases oe k e with h4 | h4
  ·exact h.e1 k h4
  ·exact .inr (by omega)
theorem OnS.gone{X:Fx}{Y:Yx}{B:Bk}{K:Nat}{σ:Own}{rb:Nat}{ov lv0 ev0:Value}{w:World}{lv mv:Value}{wr:World}{σ':Own}{f':Fe}{y':Ye}{r':Rp}{L M:List Int}{lv1 ev1:Value}(h:OnS X Y B K σ rb ov lv0 ev0 w lv mv wr σ' f' y' r' L M lv1 ev1){i:Nat}(hi:i<Y.n):OnS X Y B K σ rb ov lv0 ev0 w lv mv (wr.setCell ⟨Y.sb,i,none⟩ (.pointer none)) σ' f' {y' with ps:=y'.ps.set i none} r' L M lv1 ev1:=by
 have hk:=aC wr Y.sb i (.pointer none)
 have ho:=h.ys.o2
 exact⟨h.ext,h.fe.kept (hk.mono fun k _ e=>by rw[e,ho];omega),h.fb,h.ys.gone i hi,h.rp.keep hk (fun k e _=>by rw[e,ho];decide),h.lm.keep hk (fun k e _ _=>by rw[e,ho];decide),hk.heap h.out (fun e=>by have:=h.oo;rw[e,ho] at this;omega),h.oo,h.k.andThen hk (fun k hl e=>by
  have:=h.ext k hl
  unfold FG FR
  rw[e] at this⊢
  omega),h.l1,h.e1⟩
theorem fJ.lossLe{X:Fx}{V:Vx}{B:Bk}{K:Nat}{σ:Own}{w:World}{v:Vo}{us:List Ku}(h:fJ X V B K σ w v us)(id:Int):(jd id us v.m.ch).length≤2*K:=by
 have h1:=wV id us K (fun k _=>by
  by_cases hk:k<v.m.ch
  ·exact(h.uo k hk).l
  ·have:us.getD k u0=u0:=by simp[List.getD,h.vH,hk]
   rw[this];exact Nat.zero_le _) v.m.ch h.ok.m.c1
 have h2:v.m.ch*K≤2*K:=Nat.mul_le_mul_right _ h.ok.m.c1
 omega
theorem OnS.up{X:Fx}{Y:Yx}{B:Bk}{K K2:Nat}{σ:Own}{rb:Nat}{ov lv0 ev0:Value}{w:World}{lv mv:Value}{wr:World}{σ':Own}{f':Fe}{y':Ye}{r':Rp}{L M:List Int}{lv1 ev1:Value}(h:OnS X Y B K σ rb ov lv0 ev0 w lv mv wr σ' f' y' r' L M lv1 ev1)(hl:K≤K2):OnS X Y B K2 σ rb ov lv0 ev0 w lv mv wr σ' f' y' r' L M lv1 ev1:=⟨h.ext,h.fe.up hl,h.fb.up hl,h.ys.up hl,h.rp,h.lm,h.out,h.oo,h.k,h.l1,h.e1⟩
theorem OnS.fin{X:Fx}{Y:Yx}{B:Bk}{K:Nat}{σ:Own}{rb:Nat}{ov lv0 ev0:Value}{w:World}{lv mv:Value}{wr:World}{σ':Own}{f':Fe}{y':Ye}{r':Rp}{L M:List Int}{lv1 ev1:Value}(h:OnS X Y B K σ rb ov lv0 ev0 w lv mv wr σ' f' y' r' L M lv1 ev1){w':World}(hk:af (fun k=>k=w.heap.size) wr w'):aK X σ' w' B K f'∧YIs X Y B K σ' w' y'∧oI σ' w' rb ov lv1 ev1 0 0 r'∧af (FG σ rb lv0 ev0) w w':=by
 have ho:=h.oo
 refine⟨h.fe.kept (hk.mono fun k _ e=>by rw[e,ho];exact Nat.le_refl 3),h.ys.keep hk (fun k e _=>by rw[e,ho];decide),⟨hk.heap h.rp.row (aF h.rp.row h.out (by decide)),h.rp.own,ay h.rp.lost hk (fun k e hs=>?_),ay h.rp.ended hk (fun k e hs=>?_),h.rp.lo,h.rp.eo⟩,h.k.andThen hk (fun i hi e=>by omega)⟩
 ·obtain⟨ds,hds⟩:=ag h.rp.lost e
  subst hs
  exact aF h.out hds (by decide) rfl
 ·obtain⟨ds,hds⟩:=ag h.rp.ended e
  subst hs
  exact aF h.out hds (by decide) rfl
def OneP(X:Fx)(Y:Yx)(B:Bk)(K:Nat)(σ:Own)(f:Fe)(y:Ye)(r:Rp)(rb:Nat)(ov lv0 ev0:Value)(w:World)(e:Ending)(w':World):Prop:=∃(l m:Int)(f':Fe)(y':Ye)(r':Rp)(lv1 ev1:Value)(σ':Own),e= .returned (.agg #[.int .i64 l,.int .i64 m])∧OneR B Y.n f f' y y' r r' l m∧Ext σ σ' w.heap.size∧aK X σ' w' B (K+16*Y.n) f'∧FeB (K+16*Y.n) f'∧YIs X Y B (K+16*Y.n) σ' w' y'∧oI σ' w' rb ov lv1 ev1 0 0 r'∧af (FG σ rb lv0 ev0) w w'∧(∀k,lv1.ownBlock=some k→lv0.ownBlock=some k∨w.heap.size≤k)∧(∀k,ev1.ownBlock=some k→ev0.ownBlock=some k∨w.heap.size≤k)∧r'.lost.length≤r.lost.length+1000000*Y.n∧r'.ended.length≤r.ended.length+Y.n
def OnL(X:Fx)(Y:Yx)(B:Bk)(K:Nat)(σ:Own)(f:Fe)(y:Ye)(r:Rp)(rb:Nat)(ov lv0 ev0:Value)(w:World)(i:Nat)(lv mv:Value)(wr:World)(σ':Own)(f':Fe)(y':Ye)(r':Rp)(L M:List Int)(lv1 ev1:Value):Prop:=OnS X Y B (K+16*i) σ rb ov lv0 ev0 w lv mv wr σ' f' y' r' L M lv1 ev1∧EP B f y r i f' y' r' L M∧L.length≤i∧M.length≤i∧(∀z ∈ L,(Lit.int .i64 z).wf=true)∧(∀z ∈ M,(Lit.int .i64 z).wf=true)∧r'.lost.length≤r.lost.length+1000000*i∧r'.ended.length≤r.ended.length+i
theorem D6{L:List Int}{a:Int}(h: ∀z ∈ L,(Lit.int .i64 z).wf=true)(ha:(Lit.int .i64 a).wf=true): ∀z ∈ L++[a],(Lit.int .i64 z).wf=true:=fun z hz=>by
 rcases List.mem_append.1 hz with h1 | h1
 ·exact h z h1
 ·rw[List.mem_singleton.1 h1];exact ha
theorem EC{w:World}{b0:Nat}{v:Value}{L:List Int}(h:w.ownsRow b0 2 1 v L.length (iL L))(hw: ∀z ∈ L,(Lit.int .i64 z).wf=true)(hm:L.length≤maxLen): ∃ao cap,v= .slice ao L.length cap∧Ints .i64 w ao L.length L:=by
 obtain⟨ao,cap,hv,-,hr,-⟩:=lM h
 exact⟨ao,cap,hv,hr.ints hm hw⟩
theorem one_any(X:Fx)(Y:Yx)(B:Bk)(K:Nat)(hK:K≤470000)(hn16:Y.n≤16)(σ:Own)(f:Fe)(hf:FeB K f)(y:Ye)(r:Rp)(hr1:r.lost.length≤100000000000)(hr2:r.ended.length≤100000000)(rb:Nat)(ov lv0 ev0:Value)(w:World)(h:aK X σ w B K f)(hy:YIs X Y B K σ w y)(hrp:oI σ w rb ov lv0 ev0 0 0 r):Calls Tryz.prog 39 #[.pointer (some ⟨Y.yb,0,none⟩),.pointer (some ⟨rb,0,none⟩)] w (OneP X Y B K σ f y r rb ov lv0 ev0 w):=by
 have hZ:Hid (Below w.heap.size w (w.alloc (.cells #[(),()] 81))):=ae w _
 have hx:=eH σ (b:=w.heap.size) 3 Me
 have HS0:Hid (OnL X Y B K σ f y r rb ov lv0 ev0 w 0 (.slice none 0 0) (.slice none 0 0) (w.alloc (.cells #[(),()] 81)) (fD σ w.heap.size 3) f y r [] [] lv0 ev0):=
  ⟨⟨hx,h.fD hZ.out (b:=w.heap.size) 3 Me (by simp),hf,(hy.ext hx).ah hZ.out,(hrp.ext hx).ah hZ.out,LmB.nil _ _ _,L9 w _,dG _ _ _,af.au hZ.out Me,fun k e=>.inl e,fun k e=>.inl e⟩,⟨rfl,rfl,rfl,rfl,rfl⟩,Me,Me,(fun z hz=>by cases hz),(fun z hz=>by cases hz),by omega,by omega⟩
 obtain⟨c0,c1,c2⟩:=hy.cells
 have c1':=bM (o:=.cells #[(),()] 81) c1
 have HW0:=MI (show w.heap.size+0=w.heap.size by omega)
 clear c0 c1 c2 h hy hrp hx hZ HW0
 go_enter Tryz.func39,Tryz.ntmps39
 go_wp2_with fail
 go_loopw [16,5,6] (fun v16 v5 v6 wr=>∃(i:Nat)(σ':Own)(f':Fe)(y':Ye)(r':Rp)(L M:List Int)(lv1 ev1:Value),i≤Y.n∧v16= .int .i64 (i:Int)∧OnL X Y B K σ f y r rb ov lv0 ev0 w i v5 v6 wr σ' f' y' r' L M lv1 ev1) (fun v16 _ _ _=>Y.n - aG v16)
 case atStart=>exact⟨0,_,_,_,_,_,_,_,_,by omega,rfl,HS0.out⟩
 case round=>
  clear c1' HS0
  obtain⟨i,σ',f',y',r',L,M,lv1,ev1,hi,rfl,hS,hR,hLn,hMn,hLw,hMw,hll,hel⟩:=hrel
  by_cases hlt:i<Y.n
  ·have hci:=hS.ys.cell hlt
   have hlt2:(i:Int)<(Y.n:Int):=by omega
   cases hq:y'.ps.getD i none with
   | none=>
    rw[hq] at hci
    have di:wr.cell? ⟨Y.sb,i,none⟩=some (.pointer none):=hci
    have hfin:=MI (show OnL X Y B K σ f y r rb ov lv0 ev0 w (i+1) u5 u6 wr σ' f' y' r' L M lv1 ev1 from⟨hS.up (by omega),⟨f',y',r',L,M,hR,.inl ⟨hq,rfl,rfl,rfl,rfl,rfl⟩⟩,by omega,by omega,hLw,hMw,by omega,by omega⟩)
    clear hS hR hci hq
    go_wp2_with fail
    exact⟨⟨i+1,σ',f',y',r',L,M,lv1,ev1,by omega,by go_num,hfin.out⟩,by simp[aG];omega⟩
   | some q=>
    obtain⟨P,p⟩:=q
    rw[hq] at hci
    have di:wr.cell? ⟨Y.sb,i,none⟩=some (.pointer (some ⟨P.pb,0,none⟩)):=hci
    obtain⟨hT,hp⟩:=hS.ys.pt i P p hq
    have HSd:=MI (Fv X P B (K+16*i) (by omega) σ' f' hS.fb p wr hS.fe hp)
    unfold SndP at HSd
    have HS:=MI hS
    have HR:=MI hR
    have HQ:=MI hq
    clear hS hR hci hp hq
    go_upto_region 7 with(go_at_call 74;refine HSd.out.mono ?_;rintro e w2 ⟨l,r2,f2,v2,us2,σ2,rfl,hN,hF2,hB2,hP2,hK2,hE2⟩)
    have hwa:=zT l p.l (Envp.vl p.sh p.sl)
    have hwb:=zT r2 p.r (Envp.vl p.sh p.sl)
    have HN:Hid (∀lo p3,lo=jd i us2 v2.m.ch→p3={p with v:=v2,us:=mX us2 v2.m.ch,sl:=Envp.nx p.sh p.sl}→Lt B f' f2 i P p p3 (jq l p.l (Envp.vl p.sh p.sl)) (jq r2 p.r (Envp.vl p.sh p.sl)) lo):=fun lo p3 h1 h2=>⟨l,r2,v2,us2,hN,rfl,rfl,h1,h2⟩
    have hS2:=HS.out.snd HQ.out hF2 hB2 hP2 hK2 hE2
    generalize jq l p.l (Envp.vl p.sh p.sl)=a at*
    generalize jq r2 p.r (Envp.vl p.sh p.sl)=b at*
    obtain⟨p2,hp2⟩: ∃p2,p2={p with v:=v2,us:=us2,sl:=Envp.nx p.sh p.sl}:=⟨_,rfl⟩
    rw[←hp2] at hS2
    have HP2:=MI hp2
    have hq2:({y' with ps:=y'.ps.set i (some (P,p2))}:Ye).ps.getD i none=some (P,p2):=iW _ (by rw[HS.out.ys.len];exact hlt) _
    have HQ2:=MI hq2
    have HY3:Hid ({y' with ps:=y'.ps.set i (some (P,p2))}=({y' with ps:=y'.ps.set i (some (P,p2))}:Ye)):=rfl
    obtain⟨y2,hy2⟩: ∃y2,y2=({y' with ps:=y'.ps.set i (some (P,p2))}:Ye):=⟨_,rfl⟩
    rw[←hy2] at hS2 HQ2
    have HY2:=MI hy2
    have HSa:=MI hS2
    have hkl:=hS2.k.size
    have hlm:=hS2.lm
    clear hN hF2 hB2 hP2 hK2 hE2 hp2 hq2 hy2 HY3 hS2 HSd di
    go_upto_region 8 with(first
     | (at_builtin;refine dR rfl (.tmp 28) (.tmp 30) 68 2 1 rfl Tryz.underlying68 info2 rfl (by decide) w.heap.size _ _ _ rfl hlm.l [.int .i64 a] rfl rfl (by simp[Value.oneCell']) (by omega) (by unfold maxLen;omega) hkl ?_;intro lv' w3 h1 k1 o1;have hm3:=ay hlm.m k1 (fun k e hs=>hlm.sep k hs e);have hkl3:w.heap.size≤w3.heap.size:=Nat.le_trans hkl k1.size)
     | (at_builtin;refine dR rfl (.tmp 32) (.tmp 34) 68 2 1 rfl Tryz.underlying68 info2 rfl (by decide) w.heap.size _ _ _ rfl hm3 [.int .i64 b] rfl rfl (by simp[Value.oneCell']) (by omega) (by unfold maxLen;omega) hkl3 ?_;intro mv' w4 h2 k2 o2))
    have hS4:=HSa.out.grow h1 k1 o1 h2 k2 o2
    obtain⟨σ3,hσ3⟩: ∃σ3,σ3=aA σ2 w2.heap.size w4.heap.size 3:=⟨_,rfl⟩
    rw[←hσ3] at hS4
    obtain⟨lo,hlo⟩: ∃lo,lo=jd (i:Int) us2 v2.m.ch:=⟨_,rfl⟩
    obtain⟨p3,hp3⟩: ∃p3,p3={p with v:=v2,us:=mX us2 v2.m.ch,sl:=Envp.nx p.sh p.sl}:=⟨_,rfl⟩
    have hPR:=MI (HN.out lo p3 hlo hp3)
    have hp23:{p2 with us:=mX us2 v2.m.ch}=p3:=by rw[HP2.out,hp3]
    obtain⟨y3,hy3⟩: ∃y3,y3=({y2 with ps:=y2.ps.set i (some (P,p3))}:Ye):=⟨_,rfl⟩
    have hq3:y3.ps.getD i none=some (P,p3):=by
     rw[hy3]
     refine iW _ ?_ _
     rw[HY2.out]
     show i<(y'.ps.set i _).length
     rw[List.length_set,HS.out.ys.len]
     exact hlt
    have HY3:=MI hy3
    have HQ3:=MI hq3
    have HSb:=MI hS4.drew
    have HLo:=MI hlo
    have HP3:=MI hp3
    have hv2:p2.v=v2:=by rw[HP2.out]
    have hu2:p2.us=us2:=by rw[HP2.out]
    have HV:=MI (hS4.drew.ys.pt i P p2 HQ2.out).2
    have HL:=MI (JH X P.V B (K+16*i+16) (by omega) σ3 p2.v p2.us i w4.drew hS4.drew.fe.rU HV.out.vo)
    have HLe:=MI (HV.out.vo.lossLe i)
    rw[hv2,hu2] at HL HLe
    rw[←hlo] at HLe
    unfold LostP at HL
    rw[←hlo] at HL
    obtain⟨d0,d1,-⟩:=bf HV.out.row
    obtain⟨e0,e1,e2,e3,e4⟩:=bf HSb.out.rp.row
    have hle:=HLe.out
    have HG:Hid (∀w5,fJ X P.V B (K+16*i+16) σ3 w5 v2 (mX us2 v2.m.ch)→af (FL σ3 P.V.T) w4.drew w5→OnS X Y B (K+16*i+16) σ rb ov lv0 ev0 w lv' mv' w5 σ3 f2 y3 r' (L++[a]) (M++[b]) lv1 ev1):=by
     intro w5 hv hk
     have h9:=HSb.out.lost HQ2.out (us:=mX us2 v2.m.ch) (by rw[hv2];exact hv) hk
     rw[hp23,←hy3] at h9
     exact h9
    clear hlo hp3 hy3 hq3 hp23 h1 k1 o1 h2 k2 o2 hS4 hkl hlm hm3 hkl3 d1 e0 e2 e3 e4 hv2 hu2 hσ3
    go_cut [] (fun wx=>∃(σ7:Own)(lv7:Value),OnS X Y B (K+16*i+16) σ rb ov lv0 ev0 w lv' mv' wx σ7 f2 y3 ⟨r'.lost++lo,r'.ended⟩ (L++[a]) (M++[b]) lv7 ev1)
    case first=>
     go_region_law (first
      | (refine iD rfl (.tmp 40) (.tmp 46) 32 32 rfl rfl rfl hrun ?_)
      | (go_simp;go_at_call 75;refine HL.out.mono ?_;rintro e w5 ⟨ao,n,cap,rfl,hrec,hfr,hV5,hK5⟩;have hS6:=HG.out w5 hV5 hK5;have hnl:lo.length=n:=hrec.hlen;obtain⟨v',w6,hrun,ho6,hk6,hp6⟩:=kG (P:=Tryz.prog) w5 32 32 215 3 Tryz.underlying32 Ew rfl (by decide) 0 lv1 r'.lost.length _ hS6.rp.lost ao n cap (lo.flatMap lS) (by rw[flat_length lS 3 qR,hnl]) (fun a e=>by subst e;exact hrec.flat qR (by decide)) (fun h0=>by obtain⟨a,ha,-⟩:=hrec.cell 0 h0;exact⟨a,ha⟩) (fun u hu=>by obtain⟨x,-,hx⟩:=List.mem_flatMap.1 hu;simp only[lS,List.mem_cons,List.not_mem_nil,or_false] at hx;rcases hx with rfl | rfl | rfl<;>rfl) (by omega) (by unfold maxLen;omega) (Nat.zero_le _);obtain⟨so,sc,rfl⟩:=bV ho6;have e1:=(bf hS6.rp.row).2.1;have hr6:=hk6.heap hS6.rp.row (fun e=>by obtain⟨ds,hds⟩:=ag hS6.rp.lost e;exact aF hS6.rp.row hds (by decide) rfl);have g1:=(bf hr6).2.1;have z1:=frozen_of_row _ _ 1 _ _ hr6))
     all_goals go_wp2_with fail
     all_goals go_meet
     all_goals refine⟨_,_,hS6.put (r2:=⟨r'.lost++lo,r'.ended⟩) (c:=1) ((Mc hr6).trans rfl) ?_ (ay hS6.rp.ended hk6 (fun k e hs=>?_)) (hk6.mono fun k _ e=>.inl e) hp6 (fun k e=>.inl e)⟩
     all_goals first | (rw[List.length_append,List.flatMap_append,hnl];exact ho6) | (obtain⟨cs,hcs⟩:=ag hS6.rp.lost hs;obtain⟨ds,hds⟩:=ag hS6.rp.ended e;exact aF hcs hds (by decide) rfl)
    case rest=>
     obtain⟨σ7,lv7,hS7⟩:=hcut
     obtain⟨W7,rfl⟩: ∃w',w'=wc:=⟨_,rfl⟩
     have hP3:=(hS7.ys.pt i P p3 HQ3.out).2
     have HO:=MI (Jt X P B (K+16*i+16) σ7 p3 W7 hP3)
     have HYS:Hid (∀z,({y3 with ps:=y3.ps.set i z}:Ye)={y' with ps:=y'.ps.set i z}):=fun z=>by rw[HY3.out,HY2.out];simp
     have HY33:Hid (y3={y' with ps:=y'.ps.set i (some (P,p3))}):=by show _=_;rw[HY3.out,HY2.out];simp
     have hKi:Hid (K+16*i+16=K+16*(i+1)):=by show _=_;omega
     have hwa2:=MI (D6 hLw hwa)
     have hwb2:=MI (D6 hMw hwb)
     have hn3:(i:Int)<(Y.n:Int):=hlt2
     have hle2:=HLe.out
     have HS7:=MI hS7
     clear HS HSa HSb HL HLe HG HN HV hP3 hS7 HY2 HY3 HQ2 HP2 hwa hwb e1 d0 hle
     cases hov:p3.over with
     | true=>
      rw[hov] at HO
      have hE:=MI hov
      have HF:Hid (∀σ8 ev8 W8,OnS X Y B (K+16*i+16) σ rb ov lv0 ev0 w lv' mv' W8 σ8 f2 y3 ⟨r'.lost++lo,r'.ended++[(i:Int)]⟩ (L++[a]) (M++[b]) lv7 ev8→OnL X Y B K σ f y r rb ov lv0 ev0 w (i+1) lv' mv' (W8.setCell ⟨Y.sb,i,none⟩ (.pointer none)) σ8 f2 {y' with ps:=y'.ps.set i none} ⟨r'.lost++lo,r'.ended++[(i:Int)]⟩ (L++[a]) (M++[b]) lv7 ev8):=by
       intro σ8 ev8 W8 h8
       have h9:=h8.gone hlt
       rw[HYS.out,hKi.out] at h9
       refine⟨h9,⟨f',y',r',L,M,HR.out,.inr ⟨P,p,p3,a,b,lo,HQ.out,hPR.out,?_,?_,rfl,rfl⟩⟩,by simp;omega,by simp;omega,hwa2.out,hwb2.out,by simp;omega,by simp;omega⟩
       ·unfold putO;rw[if_pos hE.out]
       ·rw[if_pos hE.out]
      have HE1:=MI HS7.out.rp.ended
      obtain⟨-,-,b2,-,-⟩:=bf HS7.out.rp.row
      obtain⟨p0,p1,p2'⟩:=HS7.out.ys.cells
      have pi:=HS7.out.ys.cell hlt
      clear hov
      go_upto_region 11 with(first
       | (go_at_call 76;refine HO.out.mono ?_;rintro e w' ⟨rfl,rfl⟩)
       | (at_builtin;refine dR rfl (.tmp 56) (.tmp 58) 33 3 1 rfl Tryz.underlying33 Es rfl (by decide) 0 _ _ _ rfl HE1.out [.int .i64 i] rfl rfl (by simp[Value.oneCell']) (by omega) (by unfold maxLen;omega) (Nat.zero_le _) ?_;intro ev' w8 h8 k8 o8;obtain⟨so,sc,rfl⟩:=bV h8;have hr8:=k8.heap HS7.out.rp.row (fun e=>by obtain⟨ds,hds⟩:=ag HS7.out.rp.ended e;exact aF HS7.out.rp.row hds (by decide) rfl);have b2:=(bf hr8).2.2.1;have z2:=frozen_of_row _ _ 2 _ _ hr8))
      have hS8:OnS X Y B (K+16*i+16) σ rb ov lv0 ev0 w lv' mv' _ _ f2 y3 ⟨r'.lost++lo,r'.ended++[(i:Int)]⟩ (L++[a]) (M++[b]) lv7 _:=HS7.out.put (r2:=⟨r'.lost++lo,r'.ended++[(i:Int)]⟩) (c:=2) ((Mc hr8).trans rfl) (ay HS7.out.rp.lost k8 (fun k e hs=>by
       obtain⟨cs,hcs⟩:=ag HS7.out.rp.ended hs
       obtain⟨ds,hds⟩:=ag HS7.out.rp.lost e
       exact aF hcs hds (by decide) rfl)) (by rw[List.length_append,show iL (r'.ended++[(i:Int)])=iL r'.ended++[.int .i64 i] by simp[iL]];exact h8) (k8.mono fun k _ e=>.inr e) (fun k e=>.inl e) o8
      have HF8:=MI (HF.out _ _ _ hS8)
      obtain⟨p0,p1,p2'⟩:=hS8.ys.cells
      have pi:=hS8.ys.cell hlt
      have zi:=frozen_of_row _ _ i _ _ hS8.ys.sl
      clear hS8 h8 k8 o8 hr8 HS7 HE1 HF
      go_wp2_with fail
      exact⟨⟨i+1,_,_,_,_,_,_,_,_,by omega,by go_num,HF8.out⟩,by simp[aG];omega⟩
     | false=>
      rw[hov] at HO
      have HF:Hid (OnL X Y B K σ f y r rb ov lv0 ev0 w (i+1) lv' mv' W7 σ7 f2 y3 ⟨r'.lost++lo,r'.ended⟩ (L++[a]) (M++[b]) lv7 ev1):=by
       have h9:=HS7.out
       rw[hKi.out] at h9
       refine⟨h9,⟨f',y',r',L,M,HR.out,.inr ⟨P,p,p3,a,b,lo,HQ.out,hPR.out,?_,?_,rfl,rfl⟩⟩,by simp;omega,by simp;omega,hwa2.out,hwb2.out,by simp;omega,by simp;omega⟩
       ·unfold putO;rw[if_neg (by rw[hov];decide)];exact HY33.out
       ·rw[if_neg (by rw[hov];decide),List.append_nil]
      clear hov HS7
      go_wp2_with (go_at_call 76;refine HO.out.mono ?_;rintro e w' ⟨rfl,rfl⟩)
      exact⟨⟨i+1,_,_,_,_,_,_,_,_,by omega,by go_num,HF.out⟩,by simp[aG];omega⟩
  ·obtain rfl:i=Y.n:=by omega
   have hnl:¬(Y.n:Int)<(Y.n:Int):=by omega
   obtain⟨lo,lc,hu5,hI5⟩:=EC hS.lm.l hLw (by unfold maxLen;omega)
   obtain⟨mo,mc,hu6,hI6⟩:=EC hS.lm.m hMw (by unfold maxLen;omega)
   subst hu5
   subst hu6
   have HM:=MI (Ej lo L.length lc L wr hI5)
   have HM2:=MI (fun m=>Ej mo M.length mc M (wr.drewN m) (hI6.kept ((af.refl (fun _=>False) wr).drewN m) (fun _ _ e=>e)))
   have HS:=MI hS
   have HR:=MI hR
   clear hS hR hI5 hI6 hLw hMw
   unfold Qt at HM HM2
   obtain⟨q0,q1⟩:=bD HS.out.out
   have HO:=MI HS.out.out
   have z0:=frozen_of_row _ _ 0 _ _ HO.out
   have z1:=frozen_of_row _ _ 1 _ _ HO.out
   have hi81:(Tryz.prog.info? 81).map (·.size)=some 2:=by kernel_rfl
   go_wp2_with (first
    | (go_at_call 77;first | ((with_reducible refine HM.out.mono ?_);rintro e w1 ⟨rfl,m1,rfl⟩) | ((with_reducible refine(HM2.out m1).mono ?_);rintro e w2 ⟨rfl,m2,rfl⟩)))
   have hk9:af (fun k=>k=w.heap.size) wr (((wr.drewN (m1+m2)).setCell ⟨w.heap.size,0,none⟩ (.int .i64 (iU (oH L)))).setCell ⟨w.heap.size,1,none⟩ (.int .i64 (iU (oH M)))):=(((af.refl (fun k=>k=w.heap.size) wr).drewN (m1+m2)).setCell (p:=⟨w.heap.size,0,none⟩) (.inr rfl) _).setCell (p:=⟨w.heap.size,1,none⟩) (.inr rfl) _
   obtain⟨k1,k2,k3,k4⟩:=HS.out.fin hk9
   exact bodyPost_ret (results_cell_row rfl _ _ w.heap.size 81 _ (0,0) _ rfl (Mc (Mc HO.out)) Tryz.underlying81 rfl hi81) rfl ⟨_,_,f',y',r',lv1,ev1,σ',rfl,⟨L,M,HR.out,rfl,rfl⟩,HS.out.ext,k1,HS.out.fb,k2,k3,k4,HS.out.l1,HS.out.e1,hll,hel⟩
end Go.Proofs.YtnicjahcgnhogaaGreatDoor
