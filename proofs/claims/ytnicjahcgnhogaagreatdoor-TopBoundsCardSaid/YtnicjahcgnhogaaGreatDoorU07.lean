/- Part 8 of the walk: contracts of the program's functions, each for every input. No condition. -/
import Derived.Test.YtnicjahcgnhogaaGreatDoorU06
set_option linter.unusedVariables false
set_option linter.unusedSimpArgs false
set_option maxRecDepth 100000
set_option maxHeartbeats 8000000
namespace Go.Proofs.YtnicjahcgnhogaaGreatDoor
open Go Go.RowKit Go.Calli
attribute [local irreducible] wpStill wpAnyH wpAnyS wpList Code.wp
def m0:Mt:=⟨ByteArray.empty,0,0,0,false,0,0,0,0⟩
structure Bk where
 img:List Int
 size:Nat
 dir:List Mt
structure Bk.Ok(B:Bk):Prop where
 s0:24≤B.size
 s1:B.size≤96
 i1:B.img.length≤60000
 d1:B.dir.length≤64
 m: ∀i,i<B.dir.length→(B.dir.getD i m0).Ok
 f: ∀i,i<B.dir.length→(B.dir.getD i m0).first+B.size*(aO (B.dir.getD i m0).len*(B.dir.getD i m0).ch)≤B.img.length
 z: ∀i,i<B.dir.length→(B.dir.getD i m0).sums+4*(aO (B.dir.getD i m0).len*(B.dir.getD i m0).ch)≤B.img.length
structure Bd where
 bb:Nat
 ib:Nat
 icap:Nat
 dv:Option Addr
 EP:Nat
def Bd.T(D:Bd)(k:Nat):Prop:=k=D.bb∨k=D.ib∨∃a,D.dv=some a∧k=a.block
structure lJ(D:Bd)(w:World)(B:Bk):Prop where
 row:w.heap[D.bb]? =some (.cells #[.slice (some ⟨D.ib,0,none⟩) B.img.length D.icap,.int .i64 B.size,.slice D.dv B.dir.length D.EP] 89 (0,0))
 img:Ints .u8 w (some ⟨D.ib,0,none⟩) B.img.length B.img
 icap:B.img.length≤D.icap
 dir:bP aV 9 m0 w D.dv B.dir.length B.dir
 EP:B.dir.length≤D.EP
 dv0: ∀a,D.dv=some a→a.off=0∧a.spot=none
 ok:B.Ok
theorem lJ.kept{D:Bd}{w w':World}{B:Bk}{S:Nat→Prop}(h:lJ D w B)(hk:ag S w w')(hS: ∀k,D.T k→¬S k):lJ D w' B:=
 ⟨hk.heap h.row (hS _ (.inl rfl)),h.img.kept hk (fun a ha=>by cases ha;exact hS _ (.inr (.inl rfl))),h.icap,h.dir.kept hk (fun a ha=>hS _ (.inr (.inr ⟨a,ha,rfl⟩))),h.EP,h.dv0,h.ok⟩
theorem lJ.aj{D:Bd}{w w':World}{B:Bk}(h:lJ D w B)(hb:Below w.heap.size w w'):lJ D w' B:=h.kept (S:=fun _=>False) (ag.au hb Me) (fun _ _ e=>e)
theorem lJ.at_{D:Bd}{w:World}{B:Bk}(h:lJ D w B){i:Nat}(hi:i<B.dir.length): ∃db,D.dv=some ⟨db,0,none⟩∧w.rangeAt db (i*9) (aV (B.dir.getD i m0)):=by
 obtain⟨a,ha,hc⟩:=h.dir.cell i hi
 obtain⟨h0,h1⟩:=h.dv0 a ha
 obtain⟨b,o,sp⟩:=a
 simp only at h0 h1
 subst h0 h1
 refine⟨b,ha,fun j v hv=>?_⟩
 have:=hc j v hv
 rwa [add0,add0,Nat.zero_add] at this
theorem dG{w:World}{b T:Nat}{u0 u1 u2:Value}(h:w.heap[b]? =some (.cells #[u0,u1,u2] T (0,0))):w.cell? ⟨b,0,none⟩=some u0∧w.cell? ⟨b,1,none⟩=some u1∧w.cell? ⟨b,2,none⟩=some u2:=
 ⟨LY h rfl,LY h rfl,LY h rfl⟩
theorem sQ(D:Bd)(B:Bk)(w:World)(h:lJ D w B):Calls Tryz.prog 28 #[.pointer (some ⟨D.bb,0,none⟩)] w (fun e w'=>e= .returned (.bool false)∧w=w'):=by
 have h0:=h.ok.s0
 have I:((B.size:Int)==0)=false:=by simp;omega
 obtain⟨c0,c1,c2⟩:=dG h.row
 clear h
 go_enter Tryz.func28,Tryz.ntmps28
 go_wp2_with fail
 go_ret
 exact⟨rfl,rfl⟩
theorem yO(D:Bd)(B:Bk)(w:World)(h:lJ D w B):Calls Tryz.prog 78 #[.pointer (some ⟨D.bb,0,none⟩)] w (fun e w'=>e= .returned (.int .i64 B.size)∧w=w'):=by
 have hN:=sQ D B w h
 obtain⟨c0,c1,c2⟩:=dG h.row
 clear h
 go_enter Tryz.func78,Tryz.ntmps78
 go_wp2_with (go_at_call 28;refine hN.mono ?_;rintro e w' ⟨rfl,rfl⟩)
 go_ret
 exact⟨rfl,rfl⟩
theorem ja(m:Mt):(aF m).all (·.oneCell')=true:=all_oneCell_toArray (cs:=aV m) (fun v hv=>by simp[aV] at hv;rcases hv with rfl | rfl | rfl | rfl | rfl | rfl | rfl | rfl | rfl<;>rfl)
theorem pz(D:Bd)(B:Bk)(i:Nat)(hi:i<B.dir.length)(w:World)(h:lJ D w B):Calls Tryz.prog 12 #[.pointer (some ⟨D.bb,0,none⟩),.int .i64 i] w (fun e w'=>e= .returned (.tuple #[.agg (aF (B.dir.getD i m0)),()])∧Below w.heap.size w w'):=by
 have I:=ae w (.cells #[.string ⟨#[]⟩,(),(),(),.bool false,(),(),(),()] 54)
 have hz:=L9 w (.cells #[.string ⟨#[]⟩,(),(),(),.bool false,(),(),(),()] 54)
 obtain⟨db,R,hr⟩:=(h.aj I).at_ hi
 have hN:=sQ D B _ (h.aj I)
 obtain⟨c0,c1,c2⟩:=dG (h.aj I).row
 rw[R] at c2
 have o:i<B.dir.length:=hi
 have A0:=h.ok.d1
 have U:(Tryz.prog.info? 54).map (·.size)=some (aV (B.dir.getD i m0)).length:=af
 have J:(Tryz.prog.info? 54).map (·.size)=some (aF (B.dir.getD i m0)).size:=af
 have j:=MI I
 have hold:(#[.string ⟨#[]⟩,(),(),(),.bool false,(),(),(),()]:Array Value).size=(aF (B.dir.getD i m0)).size:=rfl
 clear h hi I R
 generalize B.dir.getD i m0=m at*
 go_enter Tryz.func12,Tryz.ntmps12
 go_upto_region 1 with fail
 generalize w.alloc (.cells #[.string ⟨#[]⟩,(),(),(),.bool false,(),(),(),()] 54)=W at*
 go_wp2_with (first
  | (go_at_call 28;refine hN.mono ?_;rintro e w' ⟨rfl,rfl⟩)
  | (with_reducible refine MC 54 28 ?_;refine wpList_load_mid rfl 54 (.tmp 28) rfl db (i*9) rfl (aV m) _ hr Tryz.underlying54 rfl U ?_;rw[show(aV m).toArray=aF m from rfl])
  | (with_reducible refine MF 54 4 29 ?_;refine wpList_store_row rfl 54 (.tmp 4) (.tmp 29) rfl _ (aF m) rfl rfl 54 _ hz J hold (ja m) ?_))
 exact bodyPost_ret (results_cell_tmp (fn:=Tryz.f12) (p:=4) (q:=5) (ty:=54) rfl _ _ _ _ _ _ _ rfl (setRow_heap _ _ _ _ _ _ hz) Tryz.underlying54 rfl J) rfl ⟨rfl,below_setRow j.out aa _⟩
def Mt.num(m:Mt)(ch blk:Nat):Nat:=blk*m.ch+ch
theorem MP{m:Mt}{ch blk:Nat}(hc:ch<m.ch)(hb:blk<aO m.len):m.num ch blk<aO m.len*m.ch:=by
 unfold Mt.num
 have:(blk+1)*m.ch≤aO m.len*m.ch:=Nat.mul_le_mul_right _ hb
 rw[Nat.succ_mul] at this
 omega
theorem fP{w:World}{b:Nat}{m:Mt}(h:w.heap[b]? =some (.cells (aF m) 54 (0,0))):w.cell? ⟨b,0,none⟩=some (.string m.nm)∧w.cell? ⟨b,1,none⟩=some (.int .i64 m.len)∧w.cell? ⟨b,2,none⟩=some (.int .i64 m.rate)∧w.cell? ⟨b,3,none⟩=some (.int .i64 m.ch)∧w.cell? ⟨b,4,none⟩=some (.bool m.loop)∧w.cell? ⟨b,5,none⟩=some (.int .i64 m.ls)∧w.cell? ⟨b,6,none⟩=some (.int .i64 m.le)∧w.cell? ⟨b,7,none⟩=some (.int .i64 m.sums)∧w.cell? ⟨b,8,none⟩=some (.int .i64 m.first):=
 ⟨LY h rfl,LY h rfl,LY h rfl,LY h rfl,LY h rfl,LY h rfl,LY h rfl,LY h rfl,LY h rfl⟩
def Z54:Array Value:=#[.string ⟨#[]⟩,(),(),(),.bool false,(),(),(),()]
def WhP(B:Bk)(m:Mt)(ch blk:Nat)(w:World)(e:Ending)(w':World):Prop:=e= .returned (.tuple #[.int .i64 (m.first+m.num ch blk*B.size:Nat),.int .u32 (bH B.img (m.sums+4*m.num ch blk) 4:Nat),()])∧Below w.heap.size w w'
theorem yH{P:Program}{F:FuncId}{args:Array Value}{w:World}{v:Value}(h:Calls P F args w fun e w'=>e= .returned v∧w=w'):Calls P F args w fun e w'=>e= .returned v∧w'=w:=h.mono fun _ _ ⟨a,b⟩=>⟨a,b.symm⟩
theorem xI(D:Bd)(B:Bk)(i ch blk:Nat)(hi:i<B.dir.length)(hc:ch<(B.dir.getD i m0).ch)(hb:blk<aO (B.dir.getD i m0).len)(w:World)(h:lJ D w B):Calls Tryz.prog 251 #[.pointer (some ⟨D.bb,0,none⟩),.int .i64 i,.int .i64 ch,.int .i64 blk] w (WhP B (B.dir.getD i m0) ch blk w):=by
 have hM:=pz D B i hi w h
 have I:=h.ok.m i hi
 have hf:=h.ok.f i hi
 have hz:=h.ok.z i hi
 have A5:=MP hc hb
 have A6:=h.ok.s0;have A7:=h.ok.s1;have A2:=h.ok.i1
 have A8:=I.l1;have A9:=I.c0;have B0:=I.c1
 have HH:=MI h
 clear h
 generalize B.dir.getD i m0=m at*
 have B1:=fun w=>count_any m.len aa w
 have U:(Tryz.prog.info? 54).map (·.size)=some (aF m).size:=af
 have j:=ja m
 have A3:m.num ch blk=blk*m.ch+ch:=rfl
 have B2:aO m.len≤65537:=by unfold aO;omega
 have hmul:B.size*m.num ch blk≤B.size*(aO m.len*m.ch):=Nat.mul_le_mul_left _ aa
 have A1:m.num ch blk*B.size=B.size*m.num ch blk:=Nat.mul_comm _ _
 unfold WhP
 have B3:blk*m.ch≤aO m.len*m.ch:=Nat.mul_le_mul_right _ aa
 have e1:IntKind.i64.wrap ((blk:Int)*(m.ch:Int))=((blk*m.ch:Nat):Int):=by rw[Int.natCast_mul];exact IntWalk.i64_in _ aa
 have e2:IntKind.i64.wrap (((blk*m.ch:Nat):Int)+(ch:Int))=((m.num ch blk:Nat):Int):=by rw[A3,Int.natCast_add];exact IntWalk.i64_in _ aa
 have e3:IntKind.i64.wrap (((m.num ch blk:Nat):Int)*(B.size:Int))=((m.num ch blk*B.size:Nat):Int):=by rw[Int.natCast_mul];exact IntWalk.i64_in _ aa
 have e4:IntKind.i64.wrap ((m.first:Int)+((m.num ch blk*B.size:Nat):Int))=((m.first+m.num ch blk*B.size:Nat):Int):=by rw[Int.natCast_add];exact IntWalk.i64_in _ aa
 have e5:IntKind.i64.wrap (4*((m.num ch blk:Nat):Int))=((4*m.num ch blk:Nat):Int):=by rw[Int.natCast_mul];exact IntWalk.i64_in _ aa
 have e6:IntKind.i64.wrap ((m.sums:Int)+((4*m.num ch blk:Nat):Int))=((m.sums+4*m.num ch blk:Nat):Int):=by rw[Int.natCast_add];exact IntWalk.i64_in _ aa
 have B4:=vg B.img HH.out.img.wf (m.sums+4*m.num ch blk) 4
 have e7:IntKind.u32.wrap ((bH B.img (m.sums+4*m.num ch blk) 4:Nat):Int)=((bH B.img (m.sums+4*m.num ch blk) 4:Nat):Int):=by rw[IntKind.wrap_u32];omega
 have B5:=MI (fun w (h:lJ D w B)=>sO (some ⟨D.ib,0,none⟩) B.img.length D.icap B.img (m.sums+4*m.num ch blk) 4 aa aa A2 w h.img)
 generalize bH B.img (m.sums+4*m.num ch blk) 4=R at*
 generalize m.sums+4*m.num ch blk=P at*
 generalize 4*m.num ch blk=Q at*
 generalize m.first+m.num ch blk*B.size=A at*
 generalize m.num ch blk*B.size=S at*
 generalize m.num ch blk=N at*
 generalize blk*m.ch=K at*
 have t1:¬(ch:Int)<0:=aa
 have t2:¬(m.ch:Int)≤(ch:Int):=aa
 have t3:¬(blk:Int)<0:=aa
 have t4:¬((aO m.len:Nat):Int)≤(blk:Int):=aa
 have T:=MI (show ch<m.ch∧blk<aO m.len from⟨hc,hb⟩)
 clear A3 hmul A1 B3 hf hz A5 B4 B2 I A9 B0 A8 hi A6 A7 A2
 go_enter Tryz.func251,Tryz.ntmps251
 go_upto_region 2 with(first
  | (go_at_call 12;refine hM.mono ?_;rintro e w1 ⟨rfl,J⟩)
  | (with_reducible refine MF 54 11 18 ?_;refine wpList_store_row rfl 54 (.tmp 11) (.tmp 18) rfl _ (aF m) rfl rfl 54 _ (L9 _ _) U rfl j ?_))
 have o:=Md (aF m) (L9 w1 (.cells Z54 54))
 have A4:=MI (below_setRow (J.trans ((ae w1 (.cells Z54 54)).mono J.size)) (show w.heap.size≤w1.heap.size from J.size) (aF m))
 change Code.wp _ _ _ _ ((w1.alloc (.cells Z54 54)).setRow w1.heap.size (aF m))
 generalize (w1.alloc (.cells Z54 54)).setRow w1.heap.size (aF m)=W at*
 have A0:=HH.out.aj A4.out
 obtain⟨b0,b1,b2⟩:=dG A0.row
 obtain⟨d0,d1,d2,d3,d4,d5,d6,d7,d8⟩:=fP o
 have B6:=MI A0
 clear A0 o J hM U j
 generalize w1.heap.size=mb at*
 go_upto_region 7 with(go_at_call 121;refine(B1 _).mono ?_;rintro e w2 ⟨rfl,rfl⟩)
 go_quiet ((go_at_call 45;exact Calls.quiet_of_same (yH (B5.out _ (B6.out.aj (below_drewN MB _))))))
 go_wp2_with fail
 go_ret3
 exact⟨rfl,below_drewN A4.out _⟩
theorem KD(ao:Option Addr)(len cap:Nat)(zs:List Int)(w:World)(h:Ints .u8 w ao len zs):Calls Tryz.prog 46 #[.slice ao len cap] w fun e w'=>e= .returned (.int .u32 (gm zs))∧w=w':=sum_any ao len cap zs w h
def F0:Array Value:=frC (zz [] [] [] []) (.slice none 0 0)
theorem wY:F0=#[.int .i64 0,.int .i64 0,.int .i64 0,.int .i64 0,.slice none 0 0,.int .i64 0,.int .i64 0,.int .i64 0,.int .i64 0,.int .i64 0,.int .i64 0,.int .i64 0,.int .i64 0,.int .i64 0,.int .i64 0,.int .i64 0,.int .i64 0,.int .i64 0,.int .i64 0,.int .i64 0,.int .i64 0,.int .i64 0,.int .i64 0,.int .i64 0,.int .i64 0,.int .i64 0,.int .i64 0,.int .i64 0,.int .i64 0]:=af
def O3(B:Bk)(m:Mt)(ch blk:Nat)(n:Nat)(bs:List Int)(w:World)(e:Ending)(w':World):Prop:=Below w.heap.size w w'∧∃(z:List Int)(ao:Option Addr)(mm c:Nat)(ts:List (Int×Int))(err:Int),e= .returned (.tuple #[.agg (frC z (.slice ao mm c)),.int .i64 err])∧z.length=28∧bP eY 2 (0,0) w' ao mm ts∧(∀a,ao=some a→w.heap.size≤a.block)∧(gm bs=(bH B.img (m.sums+4*m.num ch blk) 4:Nat)→(frX n bs).e=0→fQ (frX n bs).z (frX n bs).t=true→z=(frX n bs).z∧ts=(frX n bs).t∧err=0)
theorem open_any(D:Bd)(B:Bk)(i ch blk:Nat)(hi:i<B.dir.length)(hc:ch<(B.dir.getD i m0).ch)(hb:blk<aO (B.dir.getD i m0).len)(bo:Option Addr)(n cap:Nat)(bs:List Int)(hn:n≤1000)(w:World)(B2:Ints .u8 w bo n bs)(B3: ∀a,bo=some a→a.block<w.heap.size)(h:lJ D w B):Calls Tryz.prog 260 #[.pointer (some ⟨D.bb,0,none⟩),.int .i64 i,.int .i64 ch,.int .i64 blk,.slice bo n cap] w (O3 B (B.dir.getD i m0) ch blk n bs w):=by
 have o:=ae w (.cells F0 196)
 have hz:=L9 w (.cells F0 196)
 have A4:=MI (fun w h=>xI D B i ch blk hi hc hb w h)
 have C4:=MI (h.aj o)
 have HI:=MI (B2.aj o)
 have HA:=MI o
 have C5:=MI B3
 have HZ:=MI hz
 have A0:(Tryz.prog.info? 196).map (·.size)=some F0.size:=af
 have B4:Tryz.prog.built 196 []=some F0:=af
 have B5:(zz [] [] [] []).length=28:=af
 have B6:F0.all (·.oneCell')=true:=dH _ none 0 0
 unfold WhP at A4
 unfold O3
 generalize B.dir.getD i m0=m at*
 clear h B2 o hz B3
 generalize m.first+m.num ch blk*B.size=A at*
 generalize ((bH B.img (m.sums+4*m.num ch blk) 4:Nat):Int)=R at*
 go_enter Tryz.func260,Tryz.ntmps260
 go_upto_region 1 with fail
 rw[←wY]
 generalize hS:gm bs=S at*
 have C6:w.heap.size<(w.alloc (.cells F0 196)).heap.size:=ar
 generalize w.alloc (.cells F0 196)=W at*
 go_upto_region 4 with(go_at_call 251;refine(A4.out _ C4.out).mono ?_;rintro e w1 ⟨rfl,I⟩)
 have A5:=HI.out.aj I
 have A6:=KD bo n cap bs w1 A5
 rw[hS] at A6
 have J:=cZ HZ.out I (L8 HZ.out)
 have A7:=MI (HA.out.trans (I.mono HA.out.size))
 have A8: ∀a,bo=some a→a.block<w1.heap.size:=fun a ha=>Nat.lt_of_lt_of_le (C5.out a ha) (Nat.le_trans (Nat.le_of_lt C6) I.size)
 have B7:=MI (Jj bo n cap bs hn w1 A5 A8)
 have C7:=MI hS
 clear A4 I hS A5 A8
 have A9:=L8 J
 by_cases U:S=R
 ·subst U
  unfold FrdP at B7
  go_upto_region 6 with(go_at_call 46;refine A6.mono ?_;rintro e w' ⟨rfl,rfl⟩)
  go_upto_region 7 with(first
   | (go_at_call 265;refine B7.out.mono ?_;rintro e w2 ⟨A1,z,ao,mm,c,ts,err,rfl,B0,hT,B8,A2⟩;have B9:=MI B8;have C0:=cZ J A1 A9;have B1:=MI (A7.out.trans (A1.mono A7.out.size));have C1:=MI hT;have C8:=Nat.lt_of_lt_of_le A9 A1.size;have HG:=MI A2;have A3:(Tryz.prog.info? 196).map (·.size)=some (frC z (.slice ao mm c)).size:=(by rw[bM _ _ B0];kernel_rfl);have C2:F0.size=(frC z (.slice ao mm c)).size:=(by rw[bM _ _ B0];kernel_rfl);clear A2 hT A1 J B8)
   | (with_reducible refine MF 196 15 39 ?_;rw[←wY];refine wpList_store_row rfl 196 (.tmp 15) (.tmp 39) rfl _ (frC z (.slice ao mm c)) rfl rfl 196 F0 (L9 _ _) A3 C2 (dH _ _ _ _) ?_))
  have j:=(setRow_other (w2.alloc (.cells F0 196)) w2.heap.size w.heap.size (frC z (.slice ao mm c)) aa).trans ((heap_alloc_old w2 (.cells F0 196) C8).trans C0)
  have C9:=Md (frC z (.slice ao mm c)) (L9 w2 (.cells F0 196))
  have C3:=MI (below_setRow (B1.out.trans ((ae w2 (.cells F0 196)).mono B1.out.size)) (show w.heap.size≤w2.heap.size from by omega) (frC z (.slice ao mm c)))
  have D0:=MI (C1.out.aj (below_setRow (ae w2 (.cells F0 196)) Me (frC z (.slice ao mm c))))
  have D1:w2.heap.size≠w.heap.size:=aa
  have D2:w.heap.size<w1.heap.size:=A9
  clear C0 B1 C1
  change Code.wp _ _ _ _ ((w2.alloc (.cells F0 196)).setRow w2.heap.size (frC z (.slice ao mm c)))
  generalize (w2.alloc (.cells F0 196)).setRow w2.heap.size (frC z (.slice ao mm c))=W3 at*
  generalize w2.heap.size=fb at*
  have D3:=L8 j
  by_cases he:err=0
  ·subst he
   go_wp2_with (first
    | (with_reducible refine MC 196 15 ?_;refine wpList_load_row rfl 196 (.tmp 15) rfl _ rfl 196 (frC z (.slice ao mm c)) (0,0) _ C9 Tryz.underlying196 rfl A3 ?_)
    | (with_reducible refine MF 196 10 44 ?_;refine wpList_store_row rfl 196 (.tmp 10) (.tmp 44) rfl _ (frC z (.slice ao mm c)) rfl rfl 196 F0 j A3 C2 (dH _ _ _ _) ?_))
   exact bodyPost_ret (results_cell_tmp (fn:=Tryz.f260) (p:=10) (q:=11) (ty:=196) rfl _ _ _ _ _ _ _ rfl (setRow_heap _ _ _ _ _ _ j) Tryz.underlying196 rfl A3) rfl ⟨below_setRow C3.out aa _,z,ao,mm,c,ts,0,rfl,B0,D0.out.kept (aK _ _ _) (fun a ha e=>by have:=B9.out a ha;omega),(fun a ha=>by have:=B9.out a ha;omega),fun _ h1 h2=>⟨(HG.out h1 h2).1,(HG.out h1 h2).2.1,rfl⟩⟩
  ·have q1:(err==0)=false:=by simpa using he
   have q2:(err !=0)=true:=by simpa using he
   have HE:=MI he
   clear he
   go_wp2_with (first
    | (refine bf rfl 196 #[] rfl [] ?hl F0 B4 ?_)
    | (with_reducible refine MF 196 10 43 ?_;refine wpList_store_row rfl 196 (.tmp 10) (.tmp 43) rfl _ F0 rfl rfl 196 F0 j A0 rfl B6 ?_))
   exact bodyPost_ret (results_cell_tmp (fn:=Tryz.f260) (p:=10) (q:=11) (ty:=196) rfl _ _ _ _ _ _ _ rfl (setRow_heap _ _ _ _ _ _ j) Tryz.underlying196 rfl A0) rfl ⟨below_setRow C3.out aa _,zz [] [] [] [],none,0,0,[],4,rfl,B5,bP.nil _ _ _ _ _,(fun a ha=>by cases ha),fun _ h1 h2=>absurd (HG.out h1 h2).2.2 HE.out⟩
 ·have q1:(S==R)=false:=by simpa using U
  have q2:(S !=R)=true:=by simpa using U
  have HN:=MI U
  clear U
  go_wp2_with (first
   | (go_at_call 46;refine A6.mono ?_;rintro e w' ⟨rfl,rfl⟩)
   | (refine bf rfl 196 #[] rfl [] ?hl F0 B4 ?_)
   | (with_reducible refine MF 196 10 35 ?_;refine wpList_store_row rfl 196 (.tmp 10) (.tmp 35) rfl _ F0 rfl rfl 196 F0 J A0 rfl B6 ?_))
  exact bodyPost_ret (results_cell_tmp (fn:=Tryz.f260) (p:=10) (q:=11) (ty:=196) rfl _ _ _ _ _ _ _ rfl (setRow_heap _ _ _ _ _ _ J) Tryz.underlying196 rfl A0) rfl ⟨below_setRow A7.out aa _,zz [] [] [] [],none,0,0,[],9,rfl,B5,bP.nil _ _ _ _ _,(fun a ha=>by cases ha),fun h=>absurd (C7.out.symm.trans h) HN.out⟩
end Go.Proofs.YtnicjahcgnhogaaGreatDoor
namespace Go.Calli
open Go Go.RowKit Go.Maps
structure Flt where
 f:Int
 a:Int
 x:Int
def Flt.zero:Flt:=⟨0,0,0⟩
def ug(t:Flt):Value:=.agg #[.int .i64 t.f,.int .i64 t.a,.int .u8 t.x]
def xB(t:Flt):DataW Unit:=.agg [.lit (.int .i64 t.f),.lit (.int .i64 t.a),.lit (.int .u8 t.x)]
def fltR:Value→Option (DataW Unit×List MemPlace)
 | .agg ⟨[.int .i64 f,.int .i64 a,.int .u8 x]⟩=>some (xB ⟨f,a,x⟩,[])
 | _=>none
theorem zZ(t:Flt):fltR (ug t)=some (xB t,[]):=rfl
theorem Ob{s t:Flt}(h:xB s=xB t):s=t:=by
 cases s;cases t;simp[xB] at h;obtain⟨rfl,rfl,rfl⟩:=h;rfl
theorem Ci{v:Value}{t:Flt}{ps:List MemPlace}(h:fltR v=some (xB t,ps)):v=ug t:=by
 unfold fltR at h
 split at h
 ·rename_i f a x
  have h2:=Ob (congrArg Prod.fst (Option.some.inj h))
  subst h2
  rfl
 ·cases h
def jk(P:Program)(K:TypeId)(w:World)(b n:Nat)(F:Int→Option Flt):Prop:=
 ∃D:DataW Unit,w.ownsMap P K fltR b n D∧∀k:Int,(match F k with
  | none=>Maps.has D (.int .i64 k)=false
  | some t=>Maps.has D (.int .i64 k)=true∧∀z,D.atKey (.int .i64 k) z=xB t)
variable {P:Program} {K e T:TypeId} {w:World} {b n:Nat} {F:Int→Option Flt}
theorem jk.made(w:World):jk P K (w.alloc (.map #[] 0)) w.heap.size 0 (fun _=>none):=⟨_,World.ownsMap_made _ _ _ _,fun k=>rfl⟩
theorem jk.lt(h:jk P K w b n F):b<w.heap.size:=by obtain⟨D,h,_⟩:=h;exact h.lt
theorem jk.heap(h:jk P K w b n F){w':World}(he:w'.heap[b]? =w.heap[b]?):jk P K w' b n F:=by
 obtain⟨D,⟨es,clock,hb,r⟩,hF⟩:=h
 exact⟨D,⟨es,clock,by rw[he];exact hb,r⟩,hF⟩
theorem jk.kept(h:jk P K w b n F){S:Nat→Prop}{w':World}(hk:ag S w w')(hS:¬S b):jk P K w' b n F:=by
 have I:=h.lt
 exact h.heap (hk.block b I hS)
theorem jk.aj(h:jk P K w b n F){w':World}(hb:Below w.heap.size w w'):jk P K w' b n F:=
 h.kept (ag.au (S:=fun _=>False) hb Me) id
theorem jk.at{D:DataW Unit}{k:Int}(hF:(match F k with
  | none=>Maps.has D (.int .i64 k)=false
  | some t=>Maps.has D (.int .i64 k)=true∧∀z,D.atKey (.int .i64 k) z=xB t)):Maps.has D (.int .i64 k)=(F k).isSome∧D.atKey (.int .i64 k) (xB Flt.zero)=xB ((F k).getD Flt.zero):=by
 cases h:F k with
 | none=>rw[h] at hF;exact⟨hF,Maps.atKey_of_not_has hF _⟩
 | some t=>rw[h] at hF;exact⟨hF.1,hF.2 _⟩
section
variable (L:Keyed P K) (hk:P.underlying K=some (.int .i64)) (ht:P.underlying T=some (.map K e)) (hz: ∀w,(zeroValue e).run P w= .ok (ug Flt.zero) w)
include L hk ht hz
theorem jk.look(h:jk P K w b n F){k:Int}(hw:(Lit.int .i64 k).wf=true):(Instr.lookup T (.map (some b)) (.int .i64 k) false).run P w= .ok (ug ((F k).getD Flt.zero)) w:=by
 obtain⟨D,h,hF⟩:=h
 obtain⟨v,ps,I,hv⟩:=h.lookup L ht (hz w) (zZ Flt.zero) (keyOf_int_mk hk hw)
 obtain⟨_,h2⟩:=jk.at (hF k)
 rw[h2] at hv
 rw[I,Ci hv]
theorem jk.look_ok(h:jk P K w b n F){k:Int}(hw:(Lit.int .i64 k).wf=true):(Instr.lookup T (.map (some b)) (.int .i64 k) true).run P w= .ok (.tuple #[ug ((F k).getD Flt.zero),.bool (F k).isSome]) w:=by
 obtain⟨D,h,hF⟩:=h
 obtain⟨v,ps,I,hv⟩:=h.look_ok L ht (hz w) (zZ Flt.zero) (keyOf_int_mk hk hw)
 obtain⟨h1,h2⟩:=jk.at (hF k)
 rw[h2] at hv
 rw[I,Ci hv,h1]
omit hz
theorem jk.store(h:jk P K w b n F)(hn:n<maxLen){k:Int}(hw:(Lit.int .i64 k).wf=true)(t:Flt):
  ∃w',(Instr.mapUpdate T (.map (some b)) (.int .i64 k) (ug t)).run P w= .ok () w'∧jk P K w' b (n+1) (fun j=>if j=k then some t else F j)∧ag (fun i=>i=b) w w':=by
 obtain⟨D,h,hF⟩:=h
 obtain⟨w',U,o,hg⟩:=h.update L ht hn (keyOf_int_mk hk hw) (zZ t)
 refine⟨w',U,⟨_,o,fun j=>?_⟩,(ag.refl _ w).grown hg (fun i hi=>.inr (by cases hi;rfl))⟩
 have hD:=h.isMap
 have J:WideAt.IsKeyLit (Lit.int .i64 k):=by trivial
 by_cases hj:j=k
 ·subst hj
  simp only[if_true]
  exact⟨Maps.has_put_same hD J _,fun z=>Maps.atKey_put_same hD J _ z⟩
 ·have I:(Lit.int .i64 j)≠(Lit.int .i64 k):=fun h=>hj (by cases h;rfl)
  simp only[if_neg hj]
  have:=hF j
  cases R:F j with
  | none=>rw[R] at this;simp only[] at this⊢;rw[Maps.has_put_other I];exact this
  | some t'=>rw[R] at this;simp only[] at this⊢;rw[Maps.has_put_other I];exact⟨this.1,fun z=>by rw[Maps.atKey_put_other I];exact this.2 z⟩
theorem jk.drop(h:jk P K w b n F){k:Int}(hw:(Lit.int .i64 k).wf=true)(ty:TypeId):
  ∃w',(Builtin.delete_ #[T,K] ty #[.map (some b),.int .i64 k]).run P w= .ok (.tuple #[]) w'∧jk P K w' b n (fun j=>if j=k then none else F j)∧ag (fun i=>i=b) w w':=by
 obtain⟨D,h,hF⟩:=h
 obtain⟨w',R,U,hg⟩:=h.drop L ht (keyOf_int_mk hk hw) ty
 refine⟨w',R,⟨_,U,fun j=>?_⟩,(ag.refl _ w).grown hg.grown (fun i hi=>.inr (by cases hi;rfl))⟩
 by_cases hj:j=k
 ·subst hj
  simp only[if_true]
  exact Maps.has_del_same
 ·have I:(Lit.int .i64 j)≠(Lit.int .i64 k):=fun h=>hj (by cases h;rfl)
  simp only[if_neg hj]
  have:=hF j
  cases J:F j with
  | none=>rw[J] at this;simp only[] at this⊢;rw[Maps.has_del_other I];exact this
  | some t'=>rw[J] at this;simp only[] at this⊢;rw[Maps.has_del_other I];exact⟨this.1,fun z=>by rw[Maps.atKey_del_other I];exact this.2 z⟩
end
theorem iE{ops:Array Oper}{rest:List Oper}{o:Oper}{a:Act}{Q:Exit→Act→World→Prop}(hg:o.guard=none)(m x v:Operand)(J:o.op=Op.mapUpdate T m x v)
  (L:Keyed P K) (hk:P.underlying K=some (.int .i64)) (ht:P.underlying T=some (.map K e)) (hm:a.eval m= .map (some b)) (h:jk P K w b n F) (hn:n<maxLen) (k:Int) (t:Flt) (hx:a.eval x= .int .i64 k) (hv:a.eval v=ug t) (hw:(Lit.int .i64 k).wf=true)
  (hK: ∀w',jk P K w' b (n+1) (fun j=>if j=k then some t else F j)→ag (fun i=>i=b) w w'→wpList P ops Q rest (a.put o.dst undef) w'):wpList P ops Q (o::rest) a w:=by
 refine wpList_plain hg fun K' R=>?_
 obtain⟨w',I,r1,r2⟩:=h.store L hk ht hn hw t
 unfold Oper.wp
 simp[execOp,J,hm,hx,hv,I,Result.andThen]
 exact R _ _ (hK w' r1 r2)
theorem pW{ops:Array Oper}{rest:List Oper}{o:Oper}{a:Act}{Q:Exit→Act→World→Prop}(hg:o.guard=none)(m x:Operand)(J:o.op=Op.call {callee:=Callee.builtin Builtin.delete,args:=#[m,x],argTypes:=#[T,K]})
  (L:Keyed P K) (hk:P.underlying K=some (.int .i64)) (ht:P.underlying T=some (.map K e)) (hm:a.eval m= .map (some b)) (h:jk P K w b n F) (k:Int) (hx:a.eval x= .int .i64 k) (hw:(Lit.int .i64 k).wf=true)
  (hK: ∀w',jk P K w' b n (fun j=>if j=k then none else F j)→ag (fun i=>i=b) w w'→wpList P ops Q rest (a.put o.dst (.tuple #[])) w'):wpList P ops Q (o::rest) a w:=by
 refine wpList_plain hg fun K' R=>?_
 obtain⟨w',I,r1,r2⟩:=h.drop L hk ht hw o.type
 unfold Oper.wp
 simp[execOp,J,resolve,invoke,builtin,hm,hx,I,Result.andThen]
 exact R _ _ (hK w' r1 r2)
end Go.Calli
namespace Go.Dskp
open Go Go.Calli
def bx(a x:Int):Int:=bits BinOp.xor IntKind.u8 a x
structure Dk where
 img:List Int
 F:Int→Option Flt
 r:Int
 g:Int
def Dk.pages(s:Dk):Nat:=(s.img.length+63)/64
def Dk.t(s:Dk)(p:Int):Flt:=(s.F p).getD Flt.zero
def pgB(img:List Int)(p:Nat):List Int:=(List.range 64).map (fun i=>img.getD (64*p+i) 0)
def put(F:Int→Option Flt)(p:Int)(v:Option Flt):Int→Option Flt:=fun j=>if j=p then v else F j
def FOk(t:Flt):Prop:=0≤t.a∧t.a<64∧-1≤t.f∧t.f≤9223372036854775807∧0≤t.x∧t.x≤255
def Dk.Ok(s:Dk):Prop:=s.img.length≤4194304∧0≤s.r∧0≤s.g∧s.g≤s.r∧∀k t,s.F k=some t→FOk t
def Dk.out(s:Dk)(p:Int):Prop:=p<0∨(s.pages:Int)≤p
instance (s:Dk) (p:Int):Decidable (s.out p):=inferInstanceAs (Decidable (_∨_))
def rdE(s:Dk)(p:Int):Int:=if s.out p then 5 else if(s.t p).f≠0 then 8 else 0
def rdB(s:Dk)(p:Int):List Int:=if s.out p then[] else if(s.t p).f≠0 then[] else(pgB s.img p.toNat).set (s.t p).a.toNat (bx ((pgB s.img p.toNat).getD (s.t p).a.toNat 0) (s.t p).x)
def rdS(s:Dk)(p:Int):Dk:=if s.out p then s else if(s.t p).f≠0 then{s with r:=s.r+1,g:=s.g+1,F:=put s.F p (some {s.t p with f:=max ((s.t p).f - 1) (-1)})} else{s with r:=s.r+1}
def flS(s:Dk)(p n:Int):Dk:=if s.out p then s else{s with F:=put s.F p (some {s.t p with f:=max n (-1)})}
def flE(s:Dk)(p:Int):Int:=if s.out p then 5 else 0
def spS(s:Dk)(p a x:Int):Dk:=if s.out p then s else if a<0∨64≤a then s else{s with F:=put s.F p (some {s.t p with a:=a,x:=x})}
def spE(s:Dk)(p a:Int):Int:=if s.out p then 5 else if a<0∨64≤a then 1 else 0
def hlS(s:Dk)(p:Int):Dk:=if s.out p then s else{s with F:=put s.F p none}
theorem FOk.zero:FOk Flt.zero:=⟨aq,aq,aq,aq,aq,aq⟩
theorem Dk.Ok.t{s:Dk}(h:s.Ok)(p:Int):FOk (s.t p):=by
 unfold Dk.t
 cases hF:s.F p with
 | none=>exact FOk.zero
 | some t=>exact h.2.2.2.2 p t hF
theorem zI{F:Int→Option Flt}(h: ∀k t,F k=some t→FOk t){p:Int}{v:Option Flt}(hv: ∀t,v=some t→FOk t): ∀k t,put F p v k=some t→FOk t:=by
 intro k t hk
 unfold put at hk
 split at hk
 ·exact hv t hk
 ·exact h k t hk
theorem D6{s:Dk}(h:s.Ok)(p:Int):(rdS s p).Ok:=by
 obtain⟨h1,h2,h3,h4,h5⟩:=h
 have ht:=Dk.Ok.t ⟨h1,h2,h3,h4,h5⟩ p
 unfold rdS
 split
 ·exact⟨h1,h2,h3,h4,h5⟩
 ·split
  ·refine⟨h1,by show 0≤s.r+1;omega,by show 0≤s.g+1;omega,by show s.g+1≤s.r+1;omega,zI h5 ?_⟩
   rintro t ⟨⟩
   obtain⟨a,b,c,d,e,f⟩:=ht
   exact⟨a,b,by show -1≤max _ (-1);omega,by show max _ (-1)≤_;omega,e,f⟩
  ·exact⟨h1,by show 0≤s.r+1;omega,h3,by show s.g≤s.r+1;omega,h5⟩
theorem flS_ok{s:Dk}(h:s.Ok)(p n:Int)(hn:n≤9223372036854775807):(flS s p n).Ok:=by
 obtain⟨h1,h2,h3,h4,h5⟩:=h
 have ht:=Dk.Ok.t ⟨h1,h2,h3,h4,h5⟩ p
 unfold flS
 split
 ·exact⟨h1,h2,h3,h4,h5⟩
 ·refine⟨h1,h2,h3,h4,zI h5 ?_⟩
  rintro t ⟨⟩
  obtain⟨a,b,c,d,e,f⟩:=ht
  exact⟨a,b,by show -1≤max _ (-1);omega,by show max _ (-1)≤_;omega,e,f⟩
theorem spS_ok{s:Dk}(h:s.Ok)(p a x:Int)(hx:0≤x)(I:x≤255):(spS s p a x).Ok:=by
 obtain⟨h1,h2,h3,h4,h5⟩:=h
 have ht:=Dk.Ok.t ⟨h1,h2,h3,h4,h5⟩ p
 unfold spS
 split
 ·exact⟨h1,h2,h3,h4,h5⟩
 ·split
  ·exact⟨h1,h2,h3,h4,h5⟩
  ·refine⟨h1,h2,h3,h4,zI h5 ?_⟩
   rintro t ⟨⟩
   obtain⟨_,_,c,d,e,f⟩:=ht
   exact⟨by show 0≤a;omega,by show a<64;omega,c,d,hx,I⟩
theorem hlS_ok{s:Dk}(h:s.Ok)(p:Int):(hlS s p).Ok:=by
 obtain⟨h1,h2,h3,h4,h5⟩:=h
 unfold hlS
 split
 ·exact⟨h1,h2,h3,h4,h5⟩
 ·exact⟨h1,h2,h3,h4,zI h5 (by rintro t ⟨⟩)⟩
end Go.Dskp
namespace Go.Proofs.YtnicjahcgnhogaaGreatDoor.Cch
open Go Go.RowKit Go.Calli Go.Dskp Go.Maps
attribute [local irreducible] wpStill wpAnyH wpAnyS wpList Code.wp
theorem law3:Keyed Tryz.prog 3:=int_keyed Tryz.underlying3
theorem zh(w:World):(zeroValue 245).run Tryz.prog w= .ok (ug Flt.zero) w:=af
def Dsk(w:World)(b mb:Nat)(ib:Option Addr)(kap m:Nat)(s:Dk):Prop:=
 w.heap[b]? =some (.cells #[.slice ib s.img.length kap,.map (some mb),.int .i64 s.r,.int .i64 s.g] 136 (0,0))∧Ints .u8 w ib s.img.length s.img∧s.img.length≤kap∧jk Tryz.prog 3 w mb m s.F∧b≠mb∧∀a,ib=some a→a.block≠b∧a.block≠mb
theorem bK{w:World}{b:Nat}{v0 v1 v2 v3:Value}{T:Nat}(h:w.heap[b]? =some (.cells #[v0,v1,v2,v3] T (0,0))):
  w.cell? ⟨b,0,none⟩=some v0∧w.cell? ⟨b,1,none⟩=some v1∧w.cell? ⟨b,2,none⟩=some v2∧w.cell? ⟨b,3,none⟩=some v3∧w.frozen? ⟨b,2,none⟩=false∧w.frozen? ⟨b,3,none⟩=false:=
 ⟨LY h rfl,LY h rfl,LY h rfl,LY h rfl,L6 h,L6 h⟩
theorem Dsk.kept{w w':World}{b mb:Nat}{ib:Option Addr}{kap m:Nat}{s:Dk}(h:Dsk w b mb ib kap m s){S:Nat→Prop}(hk:ag S w w')(h0:¬S b)(h1:¬S mb)(h2: ∀a,ib=some a→¬S a.block):Dsk w' b mb ib kap m s:=by
 obtain⟨a1,a2,a3,a4,a5,a6⟩:=h
 exact⟨hk.heap a1 h0,a2.kept hk h2,a3,a4.kept hk h1,a5,a6⟩
theorem Dsk.aj{w w':World}{b mb:Nat}{ib:Option Addr}{kap m:Nat}{s:Dk}(h:Dsk w b mb ib kap m s)(hb:Below w.heap.size w w'):Dsk w' b mb ib kap m s:=
 h.kept (S:=fun _=>False) (ag.au hb Me) id id (fun _ _=>id)
theorem Dsk.drew{w:World}{b mb:Nat}{ib:Option Addr}{kap m:Nat}{s:Dk}(h:Dsk w b mb ib kap m s):Dsk w.drew b mb ib kap m s:=h.aj MB.drew
def Same(v:Value)(w:World)(e:Ending)(w':World):Prop:=e= .returned v∧w=w'
theorem map_none(w:World):(binOp BinOp.eql 134 (.map none) (.map none)).run Tryz.prog w= .ok (.bool true) w:=af
theorem map_some(b:Nat)(w:World):(binOp BinOp.eql 134 (.map (some b)) (.map none)).run Tryz.prog w= .ok (.bool false) w:=af
theorem vK(b mb:Nat)(ib:Option Addr)(kap m:Nat)(s:Dk)(w:World)(h:Dsk w b mb ib kap m s):Calls Tryz.prog 61 #[.pointer (some ⟨b,0,none⟩)] w (Same (.bool false) w):=by
 obtain⟨c0,c1,c2,c3,f2,f3⟩:=bK h.1
 have e1:=map_none w
 have e2:=map_some mb w
 go_enter Tryz.func61,Tryz.ntmps61
 go_wp2_with fail
 all_goals go_ret
 all_goals exact⟨rfl,rfl⟩
theorem rX(b mb:Nat)(ib:Option Addr)(kap m:Nat)(s:Dk)(hs:s.Ok)(w:World)(h:Dsk w b mb ib kap m s):Calls Tryz.prog 23 #[.pointer (some ⟨b,0,none⟩)] w (Same (.int .i64 s.pages) w):=by
 obtain⟨c0,c1,c2,c3,f2,f3⟩:=bK h.1
 have h1:=hs.1
 have hN:=fun w h=>vK b mb ib kap m s w h
 have hl:IntKind.i64.wrap ((s.img.length:Int)+64)=(s.img.length:Int)+64:=IntWalk.i64_in _ aa
 have I:IntKind.i64.wrap ((s.img.length:Int)+63)=(s.img.length:Int)+63:=IntWalk.i64_in _ aa
 go_enter Tryz.func23,Tryz.ntmps23
 go_wp2_with (go_at_call 61;refine(hN w h).mono ?_;rintro e w' ⟨rfl,rfl⟩)
 all_goals go_ret
 all_goals exact⟨by unfold Dk.pages;exact bg aa,rfl⟩
theorem Iy(b mb:Nat)(ib:Option Addr)(kap m:Nat)(s:Dk)(w:World)(h:Dsk w b mb ib kap m s):Calls Tryz.prog 38 #[.pointer (some ⟨b,0,none⟩)] w (Same (.int .i64 s.r) w):=by
 obtain⟨c0,c1,c2,c3,f2,f3⟩:=bK h.1
 have hN:=fun w h=>vK b mb ib kap m s w h
 go_enter Tryz.func38,Tryz.ntmps38
 go_wp2_with (go_at_call 61;refine(hN w h).mono ?_;rintro e w' ⟨rfl,rfl⟩)
 all_goals go_ret
 all_goals exact⟨rfl,rfl⟩
theorem oQ(b mb:Nat)(ib:Option Addr)(kap m:Nat)(s:Dk)(hs:s.Ok)(page:Int)(w:World)(h:Dsk w b mb ib kap m s):Calls Tryz.prog 135 #[.pointer (some ⟨b,0,none⟩),.int .i64 page] w (Same (.int .i64 (flE s page)) w):=by
 obtain⟨c0,c1,c2,c3,f2,f3⟩:=bK h.1
 have hN:=fun w h=>vK b mb ib kap m s w h
 have hP:=fun w h=>rX b mb ib kap m s hs w h
 have HE:Hid (flE s page=if s.out page then 5 else 0):=rfl
 by_cases h0:page<0
 ·rw[if_pos (show s.out page from Or.inl h0)] at HE
  go_enter Tryz.func135,Tryz.ntmps135
  go_wp2_with (first | (go_at_call 61;refine(hN w h).mono ?_;rintro e w' ⟨rfl,rfl⟩) | (go_at_call 23;refine(hP _ h).mono ?_;rintro e w' ⟨rfl,rfl⟩))
  all_goals go_ret
  all_goals exact⟨by rw[HE.out]<;>rfl,rfl⟩
 ·by_cases h1:(s.pages:Int)≤page
  rotate_right
  focus
   rw[if_neg (by unfold Dk.out;omega)] at HE
  rotate_right
  focus
   rw[if_pos (show s.out page from Or.inr h1)] at HE
  all_goals
   go_enter Tryz.func135,Tryz.ntmps135
   go_wp2_with (first | (go_at_call 61;refine(hN w h).mono ?_;rintro e w' ⟨rfl,rfl⟩) | (go_at_call 23;refine(hP _ h).mono ?_;rintro e w' ⟨rfl,rfl⟩))
   all_goals go_ret
   all_goals exact⟨by rw[HE.out]<;>rfl,rfl⟩
def pF(b mb:Nat)(ib:Option Addr)(kap m:Nat)(s':Dk)(E:Int)(w:World)(e:Ending)(w':World):Prop:=e= .returned (.int .i64 E)∧(∃m',m'≤m+1∧Dsk w' b mb ib kap m' s')∧ag (fun k=>k=b∨k=mb) w w'
theorem Dsk.stored{w w':World}{b mb:Nat}{ib:Option Addr}{kap m m':Nat}{s:Dk}{F:Int→Option Flt}(h:Dsk w b mb ib kap m s)(hf:jk Tryz.prog 3 w' mb m' F)(hk:ag (fun i=>i=mb) w w'):Dsk w' b mb ib kap m' {s with F:=F}:=by
 obtain⟨a1,a2,a3,a4,a5,a6⟩:=h
 exact⟨hk.heap a1 a5,a2.kept hk (fun a ha=>(a6 a ha).2),a3,hf,a5,a6⟩
theorem yl{b mb:Nat}{ib:Option Addr}{kap m:Nat}{s:Dk}(w:World)(v0 v1 v2:Value)(h:Dsk w b mb ib kap m s):
  (w.alloc (.cells #[v0,v1,v2] 245)).cell? ⟨w.heap.size,0,none⟩=some v0∧(w.alloc (.cells #[v0,v1,v2] 245)).cell? ⟨w.heap.size,1,none⟩=some v1∧(w.alloc (.cells #[v0,v1,v2] 245)).cell? ⟨w.heap.size,2,none⟩=some v2∧Dsk (w.alloc (.cells #[v0,v1,v2] 245)) b mb ib kap m s∧Below w.heap.size w (w.alloc (.cells #[v0,v1,v2] 245)):=by
 have hb:Below w.heap.size w (w.alloc (.cells #[v0,v1,v2] 245)):=MB.alloc Me _
 have hh:(w.alloc (.cells #[v0,v1,v2] 245)).heap[w.heap.size]? =some (.cells #[v0,v1,v2] 245 (0,0)):=(MapKept.heap_alloc w _).1
 exact⟨LY hh rfl,LY hh rfl,LY hh rfl,h.aj hb,hb⟩
theorem qU(b mb:Nat)(ib:Option Addr)(kap m:Nat)(s:Dk)(hs:s.Ok)(hm:m<1000000000)(page n:Int)(R:(Lit.int .i64 page).wf=true)(w:World)(h:Dsk w b mb ib kap m s):Calls Tryz.prog 102 #[.pointer (some ⟨b,0,none⟩),.int .i64 page,.int .i64 n] w (pF b mb ib kap m (flS s page n) (flE s page) w):=by
 obtain⟨c0,c1,c2,c3,f2,f3⟩:=bK h.1
 have hW:=fun w h=>oQ b mb ib kap m s hs page w h
 have U:=h.2.2.2.1.look law3 Tryz.underlying3 Tryz.underlying134 zh R
 have HE:Hid (flE s page=if s.out page then 5 else 0):=rfl
 have HS:Hid (flS s page n=if s.out page then s else{s with F:=put s.F page (some {s.t page with f:=max n (-1)})}):=rfl
 by_cases ho:s.out page
 ·rw[if_pos ho] at HE HS
  have hE:=HE.out
  rw[hE] at hW
  go_enter Tryz.func102,Tryz.ntmps102
  go_wp2_with (go_at_call 135;refine(hW w h).mono ?_;rintro e w' ⟨rfl,rfl⟩)
  go_ret
  exact⟨by rw[hE]<;>rfl,⟨m,aa,by rw[HS.out];exact h⟩,ag.refl _ _⟩
 ·rw[if_neg ho] at HE HS
  have hE:=HE.out
  rw[hE] at hW
  unfold ug at U
  have HF:Hid (s.t page=(s.F page).getD Flt.zero):=rfl
  rw[←HF.out] at U
  obtain⟨n',j⟩: ∃n',n'=max n (-1):=⟨_,rfl⟩
  rw[←j] at HS
  have J:(n< -1∧n'= -1)∨(-1≤n∧n'=n):=aa
  clear j
  rcases J with⟨A0,rfl⟩ | ⟨A0,rfl⟩
  all_goals
   go_enter Tryz.func102,Tryz.ntmps102
   go_wp2_with (go_at_call 135;refine(hW w h).mono ?_;rintro e w' ⟨rfl,rfl⟩)
   obtain⟨d0,d1,d2,I,A1⟩:=yl w _ _ _ h
   obtain⟨e0,e1,e2,e3,-,-⟩:=bK I.1
   generalize w.alloc _=w1 at*
   go_still_tail 6,af
   repeat still_step
   try refine wpStill_nil ?_
   change wpList _ _ _ _ _ w1.drew
   refine iE (T:=134) (K:=3) (e:=245) rfl _ _ _ rfl law3 Tryz.underlying3 Tryz.underlying134 rfl I.drew.2.2.2.1 aE page ⟨_,(s.t page).a,(s.t page).x⟩ rfl rfl R ?_;intro w2 A2 o
   go_wp2_with fail
   go_ret
   exact⟨by rw[hE]<;>rfl,⟨m+1,aa,by rw[HS.out];exact I.drew.stored A2 o⟩,((ag.au A1 Me).drew.andThen o fun _ _=>id).mono fun _ _=>Or.inr⟩
theorem Ic(b mb:Nat)(ib:Option Addr)(kap m:Nat)(s:Dk)(hs:s.Ok)(hm:m<1000000000)(page n x:Int)(J:(Lit.int .i64 page).wf=true)(w:World)(h:Dsk w b mb ib kap m s):Calls Tryz.prog 103 #[.pointer (some ⟨b,0,none⟩),.int .i64 page,.int .i64 n,.int .u8 x] w (pF b mb ib kap m (spS s page n x) (spE s page n) w):=by
 obtain⟨c0,c1,c2,c3,f2,f3⟩:=bK h.1
 have hW:=fun w h=>oQ b mb ib kap m s hs page w h
 have R:=h.2.2.2.1.look law3 Tryz.underlying3 Tryz.underlying134 zh J
 have HW:Hid (flE s page=if s.out page then 5 else 0):=rfl
 have HE:Hid (spE s page n=if s.out page then 5 else if n<0∨64≤n then 1 else 0):=rfl
 have HS:Hid (spS s page n x=if s.out page then s else if n<0∨64≤n then s else{s with F:=put s.F page (some {s.t page with a:=n,x:=x})}):=rfl
 by_cases ho:s.out page
 ·rw[if_pos ho] at HE HS HW
  have hE:=HE.out
  rw[HW.out] at hW
  go_enter Tryz.func103,Tryz.ntmps103
  go_wp2_with (go_at_call 135;refine(hW w h).mono ?_;rintro e w' ⟨rfl,rfl⟩)
  go_ret
  exact⟨by rw[hE]<;>rfl,⟨m,aa,by rw[HS.out];exact h⟩,ag.refl _ _⟩
 ·rw[if_neg ho] at HE HS HW
  rw[HW.out] at hW
  by_cases hn:n<0∨64≤n
  ·rw[if_pos hn] at HE HS
   have hE:=HE.out
   rcases hn with hn | hn
   all_goals
    go_enter Tryz.func103,Tryz.ntmps103
    go_wp2_with (go_at_call 135;refine(hW w h).mono ?_;rintro e w' ⟨rfl,rfl⟩)
    go_ret
    exact⟨by rw[hE]<;>rfl,⟨m,aa,by rw[HS.out];exact h⟩,ag.refl _ _⟩
  ·rw[if_neg hn] at HE HS
   have hE:=HE.out
   have A0:0≤n:=aa
   have A1:n<64:=aa
   clear hn
   unfold ug at R
   have HF:Hid (s.t page=(s.F page).getD Flt.zero):=rfl
   rw[←HF.out] at R
   go_enter Tryz.func103,Tryz.ntmps103
   go_wp2_with (go_at_call 135;refine(hW w h).mono ?_;rintro e w' ⟨rfl,rfl⟩)
   obtain⟨d0,d1,d2,I,j⟩:=yl w _ _ _ h
   obtain⟨e0,e1,e2,e3,-,-⟩:=bK I.1
   generalize w.alloc _=w1 at*
   go_still_tail 6,af
   repeat still_step
   try refine wpStill_nil ?_
   change wpList _ _ _ _ _ w1.drew
   refine iE (T:=134) (K:=3) (e:=245) rfl _ _ _ rfl law3 Tryz.underlying3 Tryz.underlying134 rfl I.drew.2.2.2.1 aE page ⟨(s.t page).f,n,x⟩ rfl rfl J ?_;intro w2 o U
   go_wp2_with fail
   go_ret
   exact⟨by rw[hE]<;>rfl,⟨m+1,aa,by rw[HS.out];exact I.drew.stored o U⟩,((ag.au j Me).drew.andThen U fun _ _=>id).mono fun _ _=>Or.inr⟩
theorem NI(b mb:Nat)(ib:Option Addr)(kap m:Nat)(s:Dk)(hs:s.Ok)(page:Int)(J:(Lit.int .i64 page).wf=true)(w:World)(h:Dsk w b mb ib kap m s):Calls Tryz.prog 104 #[.pointer (some ⟨b,0,none⟩),.int .i64 page] w (pF b mb ib kap m (hlS s page) (flE s page) w):=by
 obtain⟨c0,c1,c2,c3,f2,f3⟩:=bK h.1
 have hW:=fun w h=>oQ b mb ib kap m s hs page w h
 have HE:Hid (flE s page=if s.out page then 5 else 0):=rfl
 have HS:Hid (hlS s page=if s.out page then s else{s with F:=put s.F page none}):=rfl
 by_cases ho:s.out page
 ·rw[if_pos ho] at HE HS
  have hE:=HE.out
  rw[hE] at hW
  go_enter Tryz.func104,Tryz.ntmps104
  go_wp2_with (go_at_call 135;refine(hW w h).mono ?_;rintro e w' ⟨rfl,rfl⟩)
  go_ret
  exact⟨by rw[hE]<;>rfl,⟨m,aa,by rw[HS.out];exact h⟩,ag.refl _ _⟩
 ·rw[if_neg ho] at HE HS
  have hE:=HE.out
  rw[hE] at hW
  go_enter Tryz.func104,Tryz.ntmps104
  go_wp2_with (first | (go_at_call 135;refine(hW w h).mono ?_;rintro e w' ⟨rfl,rfl⟩) | (at_delete;refine pW (T:=134) (K:=3) (e:=245) rfl _ _ rfl law3 Tryz.underlying3 Tryz.underlying134 rfl h.2.2.2.1 page rfl J ?_;intro w2 R I))
  go_ret
  exact⟨by rw[hE]<;>rfl,⟨m,aa,by rw[HS.out];exact h.stored R I⟩,I.mono fun _ _=>Or.inr⟩
end Go.Proofs.YtnicjahcgnhogaaGreatDoor.Cch
