/- Part 20 of the walk: contracts of the program's functions, each for every input. No condition. -/
import Derived.Test.YtnicjahcgnhogaaGreatDoorU18
import Derived.Lib.LazyBuf
set_option linter.unusedVariables false
set_option linter.unusedSimpArgs false
set_option maxRecDepth 100000
set_option maxHeartbeats 8000000
namespace Go.Proofs.YtnicjahcgnhogaaGreatDoor
open Go Go.RowKit Go.Calli
attribute [local irreducible] wpStill wpAnyH wpAnyS wpList Code.wp
theorem hu194: ∃i2:TypeInfo,Tryz.prog.info? 194=some i2∧i2.zero=some (.agg #[(),(),(),(),(),(),(),(),(),(),(),(),(),(),(),()])∧i2.size=16∧i2.bytes=128:=⟨_,rfl,rfl,rfl,rfl⟩
theorem vN{w:World}{base g n e:Nat}{size:Nat}{cs:Array Value}(hs:cs.size=size)(h0:0<size)(hz: ∀i,i<cs.size→cs[i]? =some (.int .i64 0))(h:w.ownsRow base e size (.slice (some ⟨g,0,none⟩) n n) n (madeCells (Value.agg cs).cells (n*size)).toList):Blk .i64 w g e (List.replicate (n*size) 0):=by
 have h2:=Bl h
 have h3:(Value.agg cs).cells=cs:=rfl
 rw[h3,BJ cs (.int .i64 0) aa hz] at h2
 unfold Blk
 rw[List.map_replicate]
 exact h2
def kF(l:List Int):List Int:=jM l (List.replicate (aO l.length*16) 0) l.length
theorem EW(n:Nat):n≤aO n*16:=by unfold aO;omega
theorem Bj(l:List Int):(kF l).length=aO l.length*16:=by
 have:=EW l.length
 unfold kF
 rw[o6 _ _ _ Me (by simp;omega)]
 simp
theorem Gh{l:List Int}(h: ∀z ∈ l,(Lit.int .i64 z).wf=true): ∀z ∈ kF l,(Lit.int .i64 z).wf=true:=by
 intro z hz
 have:=EW l.length
 unfold kF at hz
 rw[sD _ _ (by simp;omega)] at hz
 rcases List.mem_append.1 hz with h1 | h1
 ·exact h z h1
 ·have h2:=List.mem_of_mem_drop h1
  rw[List.eq_of_mem_replicate h2];rfl
def BlsP(z:List Int)(c T:Nat)(w:World)(e:Ending)(w':World):Prop:=∃g,e= .returned (.slice (some ⟨g,0,none⟩) c c)∧w.heap.size≤g∧Blk .i64 w' g T z∧Below w.heap.size w w'
theorem ql(ao:Option Addr)(n cap:Nat)(zs:List Int)(hn:n≤100000)(w:World)(h:Ints .i64 w ao n zs):Calls Tryz.prog 160 #[.slice ao n cap] w (BlsP (kF zs) (aO n) 194 w):=by
 obtain⟨i2,A7,A6,A8,A9⟩:=hu194
 have HI:=MI h
 have HL:=MI h.hlen
 have hC:=MI (fun W=>count_any n aa W)
 have B3:=EW n
 have B4:aO n≤100000:=by unfold aO;omega
 have HP:Hid (kF zs=jM zs (List.replicate (aO n*16) 0) n):=by unfold Hid kF;rw[h.hlen]
 clear h
 generalize aO n=c at*
 go_enter Tryz.func160,Tryz.ntmps160
 go_upto_region 3 with(first
  | (go_at_call 121;refine(hC.out _).mono ?_;rintro e w' ⟨rfl,hw⟩;obtain rfl:=hw.symm)
  | (at_make;refine wpList_make_full _ rfl _ _ 237 rfl w.heap.size 194 _ _ _ Tryz.underlying237 A7 A6 A8 _ _ _ _ c rfl rfl rfl rfl (by rw[A9];omega) aE Me ?_;intro w3 U J))
 have o:Below w.heap.size w w3:=((ag.refl (fun _=>False) w).grown J (fun k hk=>by cases hk)).aW Me (fun _ _ e=>e.elim)
 have A0:=MI (vN rfl aq (fun i hi=>by
  have B5:i<16:=hi
  rcases i with _ | _ | _ | _ | _ | _ | _ | _ | _ | _ | _ | _ | _ | _ | _ | _ | i<;>first | rfl | omega) U)
 have HB:=MI o
 clear J U o
 go_loopw [12] (fun v12 wr=>∃j:Nat,j≤n∧v12= .int .i64 (j:Int)∧Blk .i64 wr w.heap.size 194 (jM zs (List.replicate (c*16) 0) j)∧Below w.heap.size w wr) (fun v12 _=>n - aC v12)
 case atStart=>exact⟨0,aa,rfl,by rw[vV];exact A0.out,HB.out⟩
 case round=>
  clear A0 HB
  obtain⟨j,hj,rfl,hB,hb⟩:=hrel
  by_cases A1:j<n
  ·obtain⟨a,x,rfl,hc,B0,-⟩:=(HI.out.aj hb).int A1
   have hl:=o6 zs (List.replicate (c*16) 0) j (by rw[HL.out];omega) (by rw[HL.out];simp;omega)
   have A2:=hB.cell (i:=j) (by rw[hl];simp;omega)
   have A3:=hB.frozen j
   have I:=hB.set j (zs.getD j 0)
   rw[su zs _ j (by rw[HL.out];exact A1) (by rw[HL.out];simp;omega),hc.out] at I
   have HS:=MI I
   have Hb:=MI hb
   have R:j/16*16+j%16=j:=aa
   have B6:j/16<c:=aa
   have B7:j%16<16:=Nat.mod_lt _ aq
   have B8:(j:Int).tmod 16=((j%16:Nat):Int):=rfl
   obtain⟨ov,A4⟩: ∃ov,wr.cell? ⟨w.heap.size,j,none⟩=some ov:=⟨_,A2⟩
   have B1:wr.cell? ⟨w.heap.size,j/16*16+j%16,none⟩=some ov:=by rw[R];exact A4
   have B2:wr.frozen? ⟨w.heap.size,j/16*16+j%16,none⟩=false:=by rw[R];exact A3
   clear hB hb I hl hc A2 A3 A4
   have A5:=MI R
   clear R
   generalize hr:j%16=r at*
   clear hr
   go_wp2_with fail
   trace_state
   exact⟨⟨j+1,aa,aD,by rw[A5.out];exact HS.out,by rw[A5.out];exact Hb.out.setCell (p:=⟨w.heap.size,j,none⟩) Me _⟩,by simp[aC];omega⟩
  ·obtain rfl:j=n:=aa
   have hE:Blk .i64 wr w.heap.size 194 (kF zs):=by rw[HP.out];exact hB
   have HE:=MI hE
   have Hb:=MI hb
   clear hB hb hE
   go_wp2_with fail
   go_ret
   exact⟨_,rfl,Me,HE.out,Hb.out⟩
theorem atZ_bd(g:List Int)(i:Nat)(hg:g.length=4)(hi:i<16):0≤atZ g i∧atZ g i≤3:=by
 unfold atZ
 split
 ·rename_i h
  exact wo h (i/4) aa
 ·omega
def upL(b g:List Int):List Int:=(List.range 16).map (fun i=>wrap64 (b.getD i 0*2^(atZ g i).toNat))
theorem jC(b g:List Int):(upL b g).length=16:=by simp[upL]
theorem FH(b g:List Int)(i:Nat)(h:i<16):(upL b g).getD i 0=wrap64 (b.getD i 0*2^(atZ g i).toNat):=by simp[upL,List.getD,h]
theorem upL_wf(b g:List Int): ∀z ∈ upL b g,(Lit.int .i64 z).wf=true:=fun z hz=>by
 unfold upL at hz
 obtain⟨i,_,rfl⟩:=List.mem_map.1 hz
 exact wrap64_wf _
theorem Ho(b g:List Int)(hb:b.length=16)(hg:g.length=4)(w:World):Calls Tryz.prog 162 #[.agg (iA b),.agg (iA g)] w (fun e w'=>e= .returned (.agg (iA (upL b g)))∧Below w.heap.size w w'):=by
 have A0:=ae w (.cells (iA b) 194)
 have A2:=L9 w (.cells (iA b) 194)
 have A3:=ae (w.alloc (.cells (iA b) 194)) (.cells (iA g) 191)
 have A1:=L9 (w.alloc (.cells (iA b) 194)) (.cells (iA g) 191)
 have I:=ae ((w.alloc (.cells (iA b) 194)).alloc (.cells (iA g) 191)) (.cells #[(),(),(),(),(),(),(),(),(),(),(),(),(),(),(),()] 194)
 have R:=L9 ((w.alloc (.cells (iA b) 194)).alloc (.cells (iA g) 191)) (.cells #[(),(),(),(),(),(),(),(),(),(),(),(),(),(),(),()] 194)
 have A1:=rwB A1 I
 have A2:=rwB (rwB A2 A3) I
 have hB:=(A0.trans (A3.mono A0.size)).trans (I.mono (A0.trans (A3.mono A0.size)).size)
 simp only[World.size_alloc] at A1 R
 clear A0 A3 I
 have HG:=MI (fun i hi W=>zV g hg i hi W)
 have B3:=MI (fun i hi=>atZ_bd g i hg hi)
 have HM:=MI (fun j (hj:j<16)=>su (upL b g) b j (by rw[jC];exact hj) (by rw[jC,hb];exact Nat.le_refl _))
 have HL:=MI (fun j (hj:j≤16)=>(o6 (upL b g) b j (by rw[jC];exact hj) (by rw[jC,hb];exact Nat.le_refl _)).trans hb)
 have B4:=MI (fun j (hj:j<16)=>show(jM (upL b g) b j).getD j 0=b.getD j 0 by
  unfold jM
  rw[List.getD_eq_getElem?_getD,List.getElem?_append_right (by rw[List.length_take];exact Nat.min_le_left _ _),List.getD_eq_getElem?_getD]
  simp[jC,List.getElem?_drop,show min j 16=j by omega])
 have HX:=MI (fun i hi=>FH b g i hi)
 have HA:Hid (jM (upL b g) b 16=upL b g):=by
  have:=sD (upL b g) b (by rw[jC,hb];exact Nat.le_refl _)
  rw[jC,List.drop_of_length_le aa,List.append_nil] at this
  exact this
 have A5:=MI (jC b g)
 have HB:=MI hB
 have A6:=MI A2
 have A7:=MI A1
 have A8:=MI R
 obtain⟨g0,g1,g2,g3,rfl⟩:=nS hg
 clear A2 A1 R hB hb hg
 go_enter Tryz.func162,Tryz.ntmps162
 go_upto_region 2 with fail
 generalize ((w.alloc (.cells (iA b) 194)).alloc (.cells (iA [g0,g1,g2,g3]) 191)).alloc (.cells #[(),(),(),(),(),(),(),(),(),(),(),(),(),(),(),()] 194)=W at*
 generalize hU:upL b [g0,g1,g2,g3]=U at*
 have HU:=MI hU
 clear hU
 go_loopw [6] (fun v6 wr=>∃j:Nat,j≤16∧v6= .int .i64 (j:Int)∧wr.heap[w.heap.size]? =some (.cells (iA (jM U b j)) 194 (0,0))∧wr.heap[w.heap.size+1]? =some (.cells (iA [g0,g1,g2,g3]) 191 (0,0))∧wr.heap[w.heap.size+1+1]? =some (.cells #[(),(),(),(),(),(),(),(),(),(),(),(),(),(),(),()] 194 (0,0))∧Below w.heap.size w wr) (fun v6 _=>16 - aC v6)
 case atStart=>exact⟨0,aa,rfl,A6.out,A7.out,A8.out,HB.out⟩
 case round=>
  clear A6 A7 A8 HB
  obtain⟨j,hj,rfl,h0,h1,h2,hB⟩:=hrel
  by_cases J:j<16
  ·have hx:=HX.out j J
   have A9:=aH (k:=j) h0 (by rw[HL.out j hj];exact J)
   rw[B4.out j J] at A9
   have B9:=ay h0 j
   have o: ∀(W1:World),W1.heap[w.heap.size]? =some (.cells (iA (jM U b j)) 194 (0,0))→(W1.setCell ⟨w.heap.size,j,none⟩ (.int .i64 (wrap64 (b.getD j 0*2^(atZ [g0,g1,g2,g3] j).toNat)))).heap[w.heap.size]? =some (.cells (iA (jM U b (j+1))) 194 (0,0)):=fun W1 h=>by
    have h5:=bY h j (U.getD j 0)
    rw[HM.out j J,hx] at h5
    exact h5
   have B0:wr.heap[w.heap.size+1]? =some (.cells #[.int .i64 g0,.int .i64 g1,.int .i64 g2,.int .i64 g3] 191 (0,0)):=h1
   obtain⟨d0,d1,d2,d3⟩:=bK B0
   have B1:=B3.out j J
   have B2:=MI (fun W=>HG.out j J W)
   obtain⟨k,hk⟩: ∃k:Nat,atZ [g0,g1,g2,g3] j=(k:Int):=⟨(atZ [g0,g1,g2,g3] j).toNat,aa⟩
   rw[hk] at B2 o B1
   rw[Int.toNat_natCast] at o
   have C0:min k 64=k:=aa
   have HS:=MI o
   have H0:=MI h0
   have H1:=MI h1
   have H2:=MI h2
   have HB:=MI hB
   have B5:=L8 h0
   clear o hx hk h0 h1 h2 hB B0 B1
   generalize b.getD j 0=x at*
   go_upto_region 4 with fail
   go_region_law (go_simp;go_at_call 192;refine(B2.out _).mono ?_;rintro e w2 ⟨rfl,I⟩;have B7:=(I.cell (p:=⟨w.heap.size,j,none⟩) (by exact B5)).trans A9;have R:=rwB (w:=wr.drew) H0.out I;have B8:=ay R j)
   all_goals go_wp2_with fail
   all_goals refine⟨⟨j+1,aa,aD,HS.out _ R,(heap_setCell_other _ _ _ _ (by show w.heap.size+1≠w.heap.size;omega)).trans (rwB (w:=wr.drew) H1.out I),(heap_setCell_other _ _ _ _ (by show w.heap.size+1+1≠w.heap.size;omega)).trans (rwB (w:=wr.drew) H2.out I),(HB.out.drew.trans (I.mono HB.out.size)).setCell (p:=⟨w.heap.size,j,none⟩) Me _⟩,by simp[aC];omega⟩
  ·obtain rfl:j=16:=aa
   rw[HA.out] at h0
   have A4:(Tryz.prog.info? 194).map (·.size)=some (iA U).size:=by rw[az,A5.out];kernel_rfl
   have B6:(#[(),(),(),(),(),(),(),(),(),(),(),(),(),(),(),()]:Array Value).size=(iA U).size:=by rw[az,A5.out];rfl
   go_wp2_with (first | ((with_reducible refine MC 194 2 ?_);refine wpList_load_row rfl 194 (.tmp 2) rfl w.heap.size rfl 194 (iA U) (0,0) _ h0 Tryz.underlying194 rfl A4 ?_) | ((with_reducible refine MF 194 4 18 ?_);refine wpList_store_row rfl 194 (.tmp 4) (.tmp 18) rfl _ (iA U) rfl rfl 194 (#[(),(),(),(),(),(),(),(),(),(),(),(),(),(),(),()]) h2 A4 B6 (bV _) ?_))
   exact bodyPost_ret (results_cell_row (fn:=Tryz.f162) rfl _ _ _ _ _ _ _ rfl (setRow_heap _ _ _ _ _ _ h2) Tryz.underlying194 rfl A4) rfl ⟨by rw[HU.out],below_setRow hB aa _⟩
def wfL(l:List Int):Prop:=∀z ∈ l,(Lit.int .i64 z).wf=true
def G9(c:Nat):Prop:=∀(W:World)(base g cap:Nat)(z:List Int)(i:Nat),0<i→i<c→W.ownsRow base 194 16 (.slice (some ⟨g,0,none⟩) c cap) c (iL z)→wfL z→Calls Tryz.prog 193 #[.agg (iA dm),.pointer (some ⟨g,(i - 1)*16,none⟩),.pointer (some ⟨g,i*16,none⟩),.func (.func 194) #[.agg (iA aJ)] #[]] W (fun e w'=>e= .returned (.tuple #[])∧∃z',w'.ownsRow base 194 16 (.slice (some ⟨g,0,none⟩) c cap) c (iL z')∧wfL z'∧ag (fun k=>k=g) W w')
def JoinP(c:Nat)(z:List Int)(w:World)(e:Ending)(w':World):Prop:=∃g cap z',e= .returned (.slice (some ⟨g,0,none⟩) c cap)∧w'.ownsRow w.heap.size 194 16 (.slice (some ⟨g,0,none⟩) c cap) c (iL z')∧wfL z'∧Below w.heap.size w w'∧(c=1→z'=z)
theorem info194:(Tryz.prog.info? 194).map (fun i=>(i.zero,i.size,i.bytes))=some (some (.agg #[(),(),(),(),(),(),(),(),(),(),(),(),(),(),(),()]),16,128):=af
theorem Nq(c:Nat)(hc:0<c)(C9:c≤10000)(g cap:Nat)(z:List Int)(hz:z.length=c*16)(B0:wfL z)(R:2≤c→G9 c)(w:World)(h:Blk .i64 w g 194 z):Calls Tryz.prog 163 #[.agg (iA dm),.slice (some ⟨g,0,none⟩) c cap] w (JoinP c z w):=by
 have A0:=ae w (.cells (iA dm) 178)
 have B1:=L9 w (.cells (iA dm) 178)
 have B2:=h.aj A0
 have D0:(iA dm).size=32:=af
 have A8:(Tryz.prog.info? 178).map (·.size)=some (iA dm).size:=af
 have U: ∀j u,(iL z)[j]? =some u→(w.alloc (.cells (iA dm) 178)).cell? ((⟨g,0,none⟩:Addr).add j)=some u:=fun j u hu=>by
  rw[add0,Nat.zero_add]
  have hj:j<z.length:=by have:=(List.getElem?_eq_some_iff.1 hu).1;rwa [bU] at this
  rw[B2.cell hj,←hu]
  simp[iL,List.getD,hj]
 have o:=MI U
 have HB:=MI A0
 have HZ:=MI B1
 have C0:=MI B0
 have HM:=MI R
 have C1:=MI hz
 clear U A0 B2 h R B0 hz
 go_enter Tryz.func163,Tryz.ntmps163
 go_upto_region 1 with fail
 have A1:(w.alloc (.cells (iA dm) 178)).ownsRow w.heap.size 194 16 (.slice none 0 0) 0 []:=World.ownsRow_nil _ _ _ _
 have A2:=HB.out.size
 generalize w.alloc (.cells (iA dm) 178)=W at*
 go_upto_region 3 with(at_builtin;refine dU rfl _ (.tmp 7) 237 194 16 rfl Tryz.underlying237 info194 rfl aq w.heap.size _ 0 [] rfl A1 ⟨g,0,none⟩ c cap (iL z) (by rw[bU,C1.out]) rfl o.out (zS z) aa aE A2 ?_;intro v5 w2 J B3;rw[List.nil_append,Nat.zero_add] at J;obtain⟨g2,cap2,rfl⟩:=lC J hc)
 have A3:Below W.heap.size W w2:=B3.aW Me (fun _ _ e=>by cases e)
 have B4:=rwB HZ.out A3
 have B5:=HB.out.trans (A3.mono A2)
 have B6:=MI J
 have B7:=MI B4
 have B8:=MI B5
 clear B3 A3 B4 B5 J A1 A2 B1 o HZ
 go_loopw [6] (fun v6 wr=>∃(i:Nat)(z':List Int),1≤i∧i≤c∧v6= .int .i64 (i:Int)∧wr.ownsRow w.heap.size 194 16 (.slice (some ⟨g2,0,none⟩) c cap2) c (iL z')∧wfL z'∧Below w.heap.size w wr∧wr.heap[w.heap.size]? =some (.cells (iA dm) 178 (0,0))∧(i=1→z'=z)) (fun v6 _=>c - aC v6)
 case atStart=>exact⟨1,z,aa,hc,rfl,B6.out,C0.out,B8.out,B7.out,fun _=>rfl⟩
 case round=>
  clear B6 B7 B8
  obtain⟨i,z',D1,D2,rfl,hO,A4,hB,hZ,h1⟩:=hrel
  by_cases C2:i<c
  ·have hM:=MI (HM.out aa wr.drew w.heap.size g2 cap2 z' i aa C2 hO A4)
   have C8:(i:Int)<(c:Int):=aa
   have D3:0<i:=aa
   have e1:IntKind.i64.wrap ((i:Int) - 1)=((i - 1:Nat):Int):=by rw[show(i:Int) - 1=((i - 1:Nat):Int) by omega];exact IntWalk.i64_in _ aa
   have D4:i - 1<c:=aa
   have D5: ∀(fn:Fn)(first cap:Array Value)(w:World),(Instr.makeFunc fn first cap).run Tryz.prog w= .ok (.func fn first cap) w:=fun _ _ _ _=>rfl
   have C3:wr.drew.rangeAt w.heap.size 0 (iL aJ):=fun j v hv=>by
    rw[Nat.zero_add,LZ (show wr.drew.heap[w.heap.size]? =_ from hZ)]
    have hj:j<(iL aJ).length:=(List.getElem?_eq_some_iff.1 hv).1
    show(iA (aJ++aJ))[j]? =some v
    unfold iA
    rw[List.map_append,List.getElem?_toArray]
    exact(List.getElem?_append_left hj).trans hv
   have B9:=MI hB.drew
   have A5:=MI hO
   have A6:g2≠w.heap.size:=fun e=>by
    obtain⟨cs,C4⟩:=ah hO rfl
    subst e
    exact aI C4 hZ aq rfl
   have A9:(Tryz.prog.info? 174).map (·.size)=some (iL aJ).length:=af
   clear hO A4 hB h1
   go_upto_region 5 with fail
   refine wp_region_noPanic ?_
   refine wp_region_held_drew (S:=fun w'=>w'.heap[w.heap.size]? =some (.cells (iA dm) 178 (0,0))∧w'.rangeAt w.heap.size 0 (iL aJ)) af ?_ (fun I=>?_)
   ·exact⟨hZ,C3⟩
   refine ba 1 ?_
   try simp only[Act.put,aS]
   refine ba 2 ?_
   try simp only[Act.put,aS]
   refine ba 3 ?_
   try simp only[Act.put,aS]
   refine ba 4 ?_
   try simp only[Act.put,aS]
   refine ba 5 ?_
   try simp only[Act.put,aS]
   refine ba 6 ?_
   try simp only[Act.put,aS]
   refine ba 7 ?_
   try simp only[Act.put,aS]
   refine ba 8 ?_
   try simp only[Act.put,aS]
   refine wpAnyH_take (i:=0) (v:=.agg (iA dm)) rfl af af af (fun _ _ _ h=>h) (aZ af 178 (.tmp 2) rfl w.heap.size rfl 178 (iA dm) (0,0) _ (fun w h=>h.1) Tryz.underlying178 rfl A8) aw ?_
   try simp only[Act.put,aS]
   refine wpAnyH_take (i:=9) (v:=.agg (iA aJ)) rfl af af af (fun _ _ _ h=>h) (yieldsIf_load_mid af 174 (.tmp 23) rfl w.heap.size 0 rfl (iL aJ) _ (fun w h=>h.2) Tryz.underlying174 rfl A9) aw ?_
   try simp only[Act.put,aS]
   refine ba 10 ?_
   try simp only[Act.put,aS]
   refine bj 11 (fun K hK=>?_)
   go_simp
   go_at_call 193;refine hM.out.mono ?_;rintro e w3 ⟨rfl,z2,C5,C6,A7⟩
   refine hK.out _ _ ?_ (fun I=>?_)
   ·(try dsimp only);exact⟨A7.heap I.1 (fun e=>A6 e.symm),fun j v hv=>A7.cell (I.2 j v hv) (fun e=>A6 e.symm)⟩
   clear hK K
   try simp only[Act.put,aS]
   refine wpAnyH_done af ?_ _
   refine NoPanic.normal ?_
   go_wp2_with fail
   refine⟨⟨i+1,z2,aa,aa,aD,C5,C6,B9.out.trans (A7.aW B9.out.size (fun k hk e=>by have h5:w.heap.size≤g2:=jH A5.out rfl;have e2:k=g2:=e;omega)),I.1,fun e=>aa⟩,by simp[aC];omega⟩
  ·obtain rfl:i=c:=aa
   have A5:=MI hO
   have C7:=MI hB
   clear hO hB hZ
   go_wp2_with fail
   go_ret
   exact⟨g2,cap2,z',rfl,A5.out,A4,C7.out,h1⟩
theorem tN{P:Program}{ops:Array Oper}{o:Oper}{a:Act}{w:World}{K:Act→World→Prop}{Q:Exit→Act→World→Prop}{E:Prop}(I:o.guard=none)(ty:TypeId)(x y:Operand)(ho:o.op= .store ty x y)(g:Nat)(cells:Array Value)(hx:a.eval x= .pointer (some ⟨g,0,none⟩))(hy:a.eval y= .agg cells)(t:TypeId)(old:Array Value)(hg:w.heap[g]? =some (.cells old t (0,0)))(hi:(P.info? ty).map (·.size)=some cells.size)(hold:old.size=cells.size)(h1:cells.all (·.oneCell')=true)(h:K (a.put o.dst undef) (w.setRow g cells)):if Region.wanted o (yielded ops a.tmps)=true then Oper.wp P o a w K Q else E:=by
 rw[if_pos (by simp[Region.wanted,I])]
 exact wp_store_row ty x y ho g cells hx hy t old hg hi hold h1 h
def aT{α:Type}(xs:List α)(o:Nat)(vs:List α):List α:=xs.take o++(vs++xs.drop (o+vs.length))
theorem gu{α:Type}(xs:List α)(o:Nat)(vs:List α)(h:o+vs.length≤xs.length):(aT xs o vs).length=xs.length:=by simp[aT];omega
theorem uS{α:Type}(xs:List α)(o:Nat)(vs:List α)(h:o+vs.length≤xs.length)(j:Nat):(aT xs o vs)[j]? =if o≤j∧j<o+vs.length then vs[j - o]? else xs[j]? :=by
 unfold aT
 by_cases h1:j<o
 ·rw[if_neg aa,List.getElem?_append_left (by simp;omega),List.getElem?_take_of_lt h1]
 ·rw[List.getElem?_append_right (by simp;omega)]
  have h2:(xs.take o).length=o:=by simp;omega
  rw[h2]
  by_cases h3:j<o+vs.length
  ·rw[if_pos aa,List.getElem?_append_left aa]
  ·rw[if_neg aa,List.getElem?_append_right aa,List.getElem?_drop,show o+vs.length+(j - o - vs.length)=j by omega]
theorem DJ(cs:Array Value)(o:Nat)(vs:List Value)(h:o+vs.length≤cs.size):spl cs o vs=(aT cs.toList o vs).toArray:=by
 apply Array.ext_getElem?
 intro j
 have h2:=uS cs.toList o vs (by simpa using h) j
 have h3:(aT cs.toList o vs).toArray[j]? =(aT cs.toList o vs)[j]? :=List.getElem?_toArray ..
 have h4:cs.toList[j]? =cs[j]? :=Array.getElem?_toList ..
 rw[uu vs cs o j h,h3,h2,h4]
theorem iZ{w:World}{base e size n:Nat}{v:Value}{xs:List Value}(h:w.ownsRow base e size v n xs){g cap:Nat}(hv:v= .slice (some ⟨g,0,none⟩) n cap)(o:Nat)(vs:List Value)(ho:o+vs.length≤n*size):(w.setCells g o vs).ownsRow base e size v n (aT xs o vs):=by
 obtain⟨h0,h1⟩:=h
 rcases h1 with⟨e1,_⟩ | ⟨g',cap',cur,e1,hb,hg,I,J,R,U⟩
 ·rw[e1] at hv;cases hv
 ·rw[e1] at hv
  cases hv
  have hle:n*size≤cap*size:=Nat.mul_le_mul_right _ I
  refine⟨by rw[gu _ _ _ aa];exact h0,.inr ⟨g,cap,spl cur o vs,e1,hb,iR _ _ _ _ _ _ hg,I,J,by rw[KP];exact R,?_⟩⟩
  apply List.ext_getElem?
  intro j
  rw[uS _ _ _ aa]
  by_cases hj:j<n*size
  ·have h5:xs[j]? =cur[j]? :=by rw[←U,List.getElem?_take_of_lt hj,Array.getElem?_toList]
   rw[List.getElem?_take_of_lt hj,Array.getElem?_toList,uu vs cur o j aa,h5]
  ·rw[if_neg aa,List.getElem?_eq_none (by simp;omega),List.getElem?_eq_none aa]
theorem Blk.setCells{k:IntKind}{w:World}{b t:Nat}{zs vs:List Int}(h:Blk k w b t zs)(o:Nat)(ho:o+vs.length≤zs.length):Blk k (w.setCells b o (vs.map (Value.int k))) b t (aT zs o vs):=by
 unfold Blk
 rw[iR _ _ _ _ _ _ h,DJ _ _ _ (by simpa using ho)]
 simp[aT,List.map_take,List.map_drop]
theorem Blk.range{k:IntKind}{w:World}{b t:Nat}{zs:List Int}(h:Blk k w b t zs)(o n:Nat)(ho:o+n≤zs.length):w.rangeAt b o (((zs.drop o).take n).map (Value.int k)):=fun j v hv=>by
 have hj:j<n:=by have:=(List.getElem?_eq_some_iff.1 hv).1;simp at this;omega
 rw[h.cell aa,←hv]
 simp[hj,List.getD,show o+j<zs.length by omega]
theorem oW{w:World}{base e size n:Nat}{xs:List Value}{g cap:Nat}(h:w.ownsRow base e size (.slice (some ⟨g,0,none⟩) n cap) n xs)(o m:Nat):w.rangeAt g o ((xs.drop o).take m):=fun j v hv=>by
 have hj:j<m:=by have:=(List.getElem?_eq_some_iff.1 hv).1;simp at this;omega
 rw[List.getElem?_take_of_lt hj,List.getElem?_drop] at hv
 have:=h.cells (g:=g) rfl (o+j) v hv
 rwa [add0,Nat.zero_add] at this
theorem uK{w:World}{b t:Nat}{cs:Array Value}(h:w.heap[b]? =some (.cells cs t (0,0)))(o n:Nat)(ho:o+n≤cs.size):w.there b o n:=fun j hj=>by
 refine⟨?_,L6 h⟩
 rw[LZ h,Array.getElem?_eq_getElem aa]
 rfl
theorem bJ{w:World}{base e size n:Nat}{xs:List Value}{g cap:Nat}(h:w.ownsRow base e size (.slice (some ⟨g,0,none⟩) n cap) n xs)(o m:Nat)(ho:o+m≤n*size):w.there g o m:=by
 rcases h.2 with⟨e1,_⟩ | ⟨g',cap',cur,e1,hb,hg,I,J,R,U⟩
 ·cases e1
 ·cases e1
  have hle:n*size≤cap*size:=Nat.mul_le_mul_right _ I
  exact uK hg o m aa
theorem kN{B:Nat}{a w:World}(h:Below B a w){b:Nat}(hb:B≤b)(o:Nat)(vs:List Value):Below B a (w.setCells b o vs):=lK vs h hb o
structure Sr where
 nl:List Int
 rate:Int
 loop:Bool
 ls:Int
 le:Int
 d:Option Addr
 dc:Nat
 cs:List (List Int)
def srA(s:Sr):Array Value:=#[.string (strOfNums s.nl),.int .i64 s.rate,.bool s.loop,.int .i64 s.ls,.int .i64 s.le,.slice s.d s.cs.length s.dc]
def srV(s:Sr):List Value:=[.string (strOfNums s.nl),.int .i64 s.rate,.bool s.loop,.int .i64 s.ls,.int .i64 s.le,.slice s.d s.cs.length s.dc]
def sr0:Sr:=⟨[],0,false,0,0,none,0,[]⟩
structure wW(w:World)(s:Sr):Prop where
 nb:Byt s.nl
 nl:s.nl.length≤1000000000000
 n:s.cs.length≤1000000
 c: ∀k,k<s.cs.length→∃a ao cap,s.d=some a∧w.cell? (a.add k)=some (.slice ao (s.cs.getD k []).length cap)∧Ints .i64 w ao (s.cs.getD k []).length (s.cs.getD k [])
theorem wW.aj{w w':World}{s:Sr}(h:wW w s)(hb:Below w.heap.size w w'):wW w' s:=
 ⟨h.nb,h.nl,h.n,fun k hk=>by
  obtain⟨a,ao,cap,h1,h2,h3⟩:=h.c k hk
  exact⟨a,ao,cap,h1,(hb.cell (World.block_lt_of_cell? w _ h2)).trans h2,h3.aj hb⟩⟩
theorem eX{w:World}{b:Nat}{v0 v1 v2 v3 v4 v5:Value}{T:Nat}(h:w.heap[b]? =some (.cells #[v0,v1,v2,v3,v4,v5] T (0,0))):w.cell? ⟨b,0,none⟩=some v0∧w.cell? ⟨b,1,none⟩=some v1∧w.cell? ⟨b,2,none⟩=some v2∧w.cell? ⟨b,3,none⟩=some v3∧w.cell? ⟨b,4,none⟩=some v4∧w.cell? ⟨b,5,none⟩=some v5:=
 ⟨LY h rfl,LY h rfl,LY h rfl,LY h rfl,LY h rfl,LY h rfl⟩
theorem jV(a:Addr):a.add 0=a:=by unfold Addr.add;split<;>simp_all
def gQ(s:Sr):Nat:=(s.cs.getD 0 []).length
theorem vP(s:Sr)(w:World)(h:wW w s):Calls Tryz.prog 92 #[.agg (srA s)] w (fun e w'=>e= .returned (.int .i64 (gQ s:Int))∧Below w.heap.size w w'):=by
 have I:=ae w (.cells (srA s) 76)
 have J:=L9 w (.cells (srA s) 76)
 obtain⟨a0,a1,a2,a3,a4,a5⟩:=eX J
 have hO:=h.aj I
 have HB:=MI I
 have hn:=h.n
 by_cases h0:s.cs.length=0
 ·have hl:Hid (gQ s=0):=by unfold Hid gQ;rw[List.eq_nil_of_length_eq_zero h0];rfl
  rw[h0] at a5
  unfold srA at*
  rw[h0] at HB
  clear hO I J
  go_enter Tryz.func92,Tryz.ntmps92
  go_wp2_with fail
  go_ret
  exact⟨by rw[hl.out];rfl,HB.out⟩
 ·obtain⟨a,ao,cap,hd,hc,hi⟩:=hO.c 0 aa
  have hl:Hid (gQ s=(s.cs.getD 0 []).length):=rfl
  have R:=hi.lim
  unfold maxLen at R
  rw[hd] at a5
  have U:¬(s.cs.length:Int)=0:=aa
  have o:((s.cs.length:Int)==0)=false:=beq_eq_false_iff_ne.2 U
  have j:(w.alloc (.cells (srA s) 76)).cell? a=some (.slice ao (s.cs.getD 0 []).length cap):=by rw[←hc,jV]
  have A0:0<s.cs.length:=aa
  clear hO I J hi hc
  generalize (s.cs.getD 0 []).length=q at*
  unfold srA at*
  simp only[hd] at a0 a1 a2 a3 a4 a5 j HB⊢
  go_enter Tryz.func92,Tryz.ntmps92
  go_wp2_with fail
  go_ret
  exact⟨by rw[hl.out];rfl,HB.out⟩
def dB(s:Sr):Mt:=⟨strOfNums s.nl,gQ s,s.rate.toNat,s.cs.length,s.loop,s.ls.toNat,s.le.toNat,0,0⟩
theorem Et(s:Sr)(h1:0≤s.rate)(h2:0≤s.ls)(h3:0≤s.le)(w:World)(h:wW w s):Calls Tryz.prog 57 #[.agg (srA s)] w (fun e w'=>e= .returned (.agg (aF (dB s)))∧Below w.heap.size w w'):=by
 have j:=ae w (.cells (srA s) 76)
 have o:=L9 w (.cells (srA s) 76)
 have A0:=ae (w.alloc (.cells (srA s) 76)) (.cells Z54 54)
 have U:=L9 (w.alloc (.cells (srA s) 76)) (.cells Z54 54)
 have o:=rwB o A0
 have hB:=j.trans (A0.mono j.size)
 rw[World.size_alloc] at U
 have hO:=h.aj hB
 have hL:=MI (fun W h=>vP s W h)
 have hm:Hid (aF (dB s)=#[.string (strOfNums s.nl),.int .i64 (gQ s:Int),.int .i64 s.rate,.int .i64 (s.cs.length:Int),.bool s.loop,.int .i64 s.ls,.int .i64 s.le,.int .i64 0,.int .i64 0]):=by
  unfold Hid aF dB
  simp only[Int.toNat_of_nonneg h1,Int.toNat_of_nonneg h2,Int.toNat_of_nonneg h3]
  rfl
 have HO:=MI hO
 have HB:=MI hB
 have A7:=MI U
 have A8:(Tryz.prog.info? 76).map (·.size)=some (srA s).size:=af
 have hn:=h.n
 clear hO j A0 hB h U
 go_enter Tryz.func57,Tryz.ntmps57
 go_upto_region 1 with fail
 have A1:(Tryz.prog.info? 54).map (·.size)=some (aF (dB s)).size:=af
 have A4:=ja (dB s)
 change Code.wp _ _ _ _ ((w.alloc (.cells (srA s) 76)).alloc (.cells Z54 54))
 generalize (w.alloc (.cells (srA s) 76)).alloc (.cells Z54 54)=W at*
 have A9:=MI (hL.out W.drew (HO.out.aj (Below.refl _ W).drew))
 have B0:=A7.out
 have A5:w.heap.size+1≠w.heap.size:=aa
 refine wp_region_noPanic ?_
 refine wp_region_held_drew (S:=fun w'=>w'.heap[w.heap.size]? =some (.cells (srA s) 76 (0,0))∧∃cs:Array Value,w'.heap[w.heap.size+1]? =some (.cells cs 54 (0,0))∧cs.size=(aF (dB s)).size) af ?_ (fun J=>?_)
 ·exact⟨o,Z54,B0,rfl⟩
 refine ba 0 ?_
 try simp only[Act.put,aS]
 refine ba 4 ?_
 try simp only[Act.put,aS]
 refine ba 6 ?_
 try simp only[Act.put,aS]
 refine ba 9 ?_
 try simp only[Act.put,aS]
 refine ba 11 ?_
 try simp only[Act.put,aS]
 refine ba 13 ?_
 try simp only[Act.put,aS]
 refine MG 1 ?_ ?_ aw ?_
 rotate_left
 ·(intro w' I;obtain⟨a0,a1,a2,a3,a4,a5⟩:=eX I.1;(try dsimp only at*);go_simp;try with_reducible rfl)
 try simp only[Act.put,aS]
 refine MG 5 ?_ ?_ aw ?_
 rotate_left
 ·(intro w' I;obtain⟨a0,a1,a2,a3,a4,a5⟩:=eX I.1;(try dsimp only at*);go_simp;try with_reducible rfl)
 try simp only[Act.put,aS]
 refine MG 7 ?_ ?_ aw ?_
 rotate_left
 ·(intro w' I;obtain⟨a0,a1,a2,a3,a4,a5⟩:=eX I.1;(try dsimp only at*);go_simp;try with_reducible rfl)
 try simp only[Act.put,aS]
 refine MG 10 ?_ ?_ aw ?_
 rotate_left
 ·(intro w' I;obtain⟨a0,a1,a2,a3,a4,a5⟩:=eX I.1;(try dsimp only at*);go_simp;try with_reducible rfl)
 try simp only[Act.put,aS]
 refine MG 12 ?_ ?_ aw ?_
 rotate_left
 ·(intro w' I;obtain⟨a0,a1,a2,a3,a4,a5⟩:=eX I.1;(try dsimp only at*);go_simp;try with_reducible rfl)
 try simp only[Act.put,aS]
 refine MG 14 ?_ ?_ aw ?_
 rotate_left
 ·(intro w' I;obtain⟨a0,a1,a2,a3,a4,a5⟩:=eX I.1;(try dsimp only at*);go_simp;try with_reducible rfl)
 try simp only[Act.put,aS]
 refine ba 8 ?_
 try simp only[Act.put,aS]
 refine wpAnyH_take (i:=2) (v:=.agg (srA s)) rfl af af af (fun _ _ _ h=>h) (aZ af 76 (.tmp 1) rfl w.heap.size rfl 76 (srA s) (0,0) _ (fun w h=>h.1) Tryz.underlying76 rfl A8) aw ?_
 try simp only[Act.put,aS]
 refine bj 3 (fun K hK=>?_)
 go_simp
 go_at_call 92;refine A9.out.mono ?_;rintro e w3 ⟨rfl,A2⟩
 refine hK.out _ _ ?_ (fun J=>?_)
 ·(try dsimp only);obtain⟨B1,cs1,R,U⟩:=J;exact⟨rwB B1 A2,cs1,rwB R A2,U⟩
 clear hK K
 try simp only[Act.put,aS]
 refine ba 15 ?_
 try simp only[Act.put,aS]
 obtain⟨cs1,R,A6⟩:=J.2
 have A3:=Md (aF (dB s)) R
 refine bj 16 (fun K hK=>?_)
 refine tN rfl 54 (.tmp 2) (.tmp 18) rfl (w.heap.size+1) (aF (dB s)) rfl (by rw[hm.out];rfl) 54 cs1 R A1 A6 A4 ?_
 refine hK.out _ _ ?_ (fun B2=>?_)
 ·exact⟨(setRow_other _ _ _ _ (fun e=>A5 e.symm)).trans J.1,_,A3,rfl⟩
 clear hK K
 try simp only[Act.put,aS]
 refine wpAnyH_done af ?_ _
 refine NoPanic.normal ?_
 go_wp2_with fail
 exact bodyPost_ret (results_cell_row rfl _ _ (w.heap.size+1) 54 _ (0,0) _ rfl A3 Tryz.underlying54 rfl A1) rfl ⟨rfl,below_setRow (HB.out.drew.trans (A2.mono HB.out.size)) (Nat.le_succ _) _⟩
def nmB(t:ByteArray):List Int:=t.data.toList.map (fun x=>(x.toNat:Int))
theorem Gm(t:ByteArray):(nmB t).length=t.size:=by simp[nmB]
def six(m:Mt):List Nat:=[m.len,m.rate,m.ls,m.le,m.sums,m.first]
def sH(zs:List Int)(off:Nat)(m:Mt):Nat→List Int
 | 0=>aT zs off (nmB m.nm)
 | i+1=>kH (sH zs off m i) (off+(32+4*i)) 4 ((six m).getD i 0) 4
def CG(zs:List Int)(off:Nat)(m:Mt):List Int:=
 let z:=(sH zs off m 6).set (off+56) ((m.ch:Int)%256)
 if m.loop then z.set (off+57) 1 else z
structure MtB(m:Mt):Prop where
 nm:m.nm.size≤32
 six: ∀i,(six m).getD i 0<4294967296
 ch:m.ch≤2
theorem CJ(zs:List Int)(off:Nat)(m:Mt)(h:off+m.nm.size≤zs.length): ∀i,(sH zs off m i).length=zs.length:=by
 intro i
 induction i with
 | zero=>exact gu _ _ _ (by rw[Gm];exact h)
 | succ i ih=>rw[sH,kG,ih]
theorem Oe(zs:List Int)(off:Nat)(m:Mt)(h:off+m.nm.size≤zs.length):(CG zs off m).length=zs.length:=by
 unfold CG
 split<;>simp[CJ zs off m h]
theorem CE(ib off len cap:Nat)(zs:List Int)(m:Mt)(hm:MtB m)(hl:off+len≤zs.length)(C4:64≤len)(hz:zs.length≤60000)(w:World)(h:Blk .u8 w ib 5 zs):Calls Tryz.prog 97 #[.slice (some ⟨ib,off,none⟩) len cap,.agg (aF m)] w (NumP ib (CG zs off m) w):=by
 have o:=ae w (.cells (aF m) 54)
 have A0:=L9 w (.cells (aF m) 54)
 have C5:=h.lt
 have hB:=h.aj o
 have A4:=CJ zs off m (by have:=hm.nm;omega)
 have A1:=MI A4
 have B4:=MI hm
 have C6:=hm.nm
 have HK:=MI (ag.au (S:=fun k=>k=ib) o Me)
 have B5: ∀ty,(Builtin.copy_ #[63,9] ty #[.slice (some ⟨ib,off,none⟩) len cap,.string m.nm]).run Tryz.prog (w.alloc (.cells (aF m) 54))= .ok (goInt m.nm.size) ((w.alloc (.cells (aF m) 54)).setCells ib off (m.nm.data.toList.map fun x=>Value.int .u8 (x.toNat:Int))):=fun ty=>run_copy_string _ 63 9 ty 5 ib off len cap m.nm Tryz.underlying63 (fun W=>af) aa (fun j hj=>by rw[hB.cell aa];rfl) (fun j hj=>hB.frozen _)
 have A2:w.heap.size≠ib:=aa
 have A5:Blk .u8 ((w.alloc (.cells (aF m) 54)).setCells ib off (m.nm.data.toList.map fun x=>Value.int .u8 (x.toNat:Int))) ib 5 (sH zs off m 0):=by
  have h5:=Blk.setCells (vs:=nmB m.nm) hB off (by rw[Gm];omega)
  rw[show(nmB m.nm).map (Value.int .u8)=m.nm.data.toList.map (fun x=>Value.int .u8 (x.toNat:Int)) by simp[nmB,List.map_map,Function.comp_def]] at h5
  exact h5
 have A6:=(gI (m.nm.data.toList.map fun x=>Value.int .u8 (x.toNat:Int)) (w.alloc (.cells (aF m) 54)) ib off w.heap.size A2).trans A0
 have A7:ag (fun k=>k=ib) w ((w.alloc (.cells (aF m) 54)).setCells ib off (m.nm.data.toList.map fun x=>Value.int .u8 (x.toNat:Int))):=ag.setCells _ HK.out (.inr rfl) off
 obtain⟨a0,a1,a2,a3,a4,a5,a6,a7,a8⟩:=fP A0
 have A8:=MI A5
 have A3:=MI A6
 have J:=MI A7
 clear o hB A4 hm h A5 A6 A7 A0 HK
 go_enter Tryz.func97,Tryz.ntmps97
 go_upto_region 2 with fail
 clear B5 a0 a1 a2 a3 a4 a5 a6 a7 a8
 generalize (w.alloc (.cells (aF m) 54)).setCells ib off (m.nm.data.toList.map fun x=>Value.int .u8 (x.toNat:Int))=W at*
 obtain⟨a0,a1,a2,a3,a4,a5,a6,a7,a8⟩:=fP A3.out
 have B6:=MI (fun(k:Nat)(hk:k<6) W=>show(Instr.index 163 (.agg #[.int .i64 (m.len:Int),.int .i64 (m.rate:Int),.int .i64 (m.ls:Int),.int .i64 (m.le:Int),.int .i64 (m.sums:Int),.int .i64 (m.first:Int)]) (.int .i64 (k:Int))).run Tryz.prog W= .ok (.int .i64 (((six m).map (fun n:Nat=>(n:Int))).getD k 0)) W from gZ (P:=Tryz.prog) 163 3 6 Tryz.underlying163 Tryz.underlying3 af ((six m).map (fun n:Nat=>(n:Int))) rfl k hk W)
 have B7:Hid (∀k,k<6→((six m).map (fun n:Nat=>(n:Int))).getD k 0=(((six m).getD k 0:Nat):Int)):=fun k hk=>by
  rcases k with _ | _ | _ | _ | _ | _ | k<;>first | rfl | omega
 go_upto_region 3 with fail
 clear a0 a1 a2 a3 a4 a5 a6 a7 a8
 go_loopw [23] (fun v23 wr=>∃i:Nat,i≤6∧v23= .int .i64 (i:Int)∧Blk .u8 wr ib 5 (sH zs off m i)∧ag (fun k=>k=ib) w wr∧wr.heap[w.heap.size]? =some (.cells (aF m) 54 (0,0))) (fun v23 _=>6 - aC v23)
 case atStart=>exact⟨0,aa,rfl,A8.out,J.out,A3.out⟩
 case round=>
  clear A8 J A3
  obtain⟨i,hi,rfl,hB,hK,hZ⟩:=hrel
  by_cases A9:i<6
  ·have B8:=B6.out i A9
   rw[B7.out i A9] at B8
   have h6:=B4.out.six i
   have e1:IntKind.i64.wrap (4*(i:Int))=4*(i:Int):=IntWalk.i64_in _ aa
   have e2:IntKind.i64.wrap (32+4*(i:Int))=((32+4*i:Nat):Int):=by rw[show 32+4*(i:Int)=((32+4*i:Nat):Int) by omega];exact IntWalk.i64_in _ aa
   have hN:=MI (lF ib off len cap (sH zs off m i) (32+4*i) 4 ((six m).getD i 0) aq aa (by rw[A1.out i];exact hl) (by rw[A1.out i];exact hz) h6 wr hB)
   have B9:Hid (sH zs off m (i+1)=kH (sH zs off m i) (off+(32+4*i)) 4 ((six m).getD i 0) 4):=rfl
   have HK:=MI hK
   have HZ:=MI hZ
   clear hB hK hZ
   generalize (six m).getD i 0=si at*
   generalize 32+4*i=oi at*
   go_wp2_with (go_at_call 96;refine hN.out.mono ?_;rintro e w2 ⟨rfl,C0,B0⟩)
   exact⟨⟨i+1,aa,aD,by rw[B9.out];exact C0,HK.out.trans B0,B0.heap HZ.out A2⟩,by simp[aC];omega⟩
  ·obtain rfl:i=6:=aa
   obtain⟨a0,a1,a2,a3,a4,a5,a6,a7,a8⟩:=fP hZ
   have C7:=A1.out 6
   have C8:=hB.cell (i:=off+56) aa
   have C9:=hB.frozen (off+56)
   have I:=hB.set (off+56) ((m.ch:Int)%256)
   have C2:=I.cell (i:=off+57) (by rw[List.length_set];omega)
   have C3:=I.frozen (off+57)
   have R:=I.set (off+57) 1
   have U:Hid (CG zs off m=if m.loop then((sH zs off m 6).set (off+56) ((m.ch:Int)%256)).set (off+57) 1 else(sH zs off m 6).set (off+56) ((m.ch:Int)%256)):=rfl
   have B1:ag (fun k=>k=ib) w (wr.setCell ⟨ib,off+56,none⟩ (.int .u8 ((m.ch:Int)%256))):=hK.setCell (p:=⟨ib,off+56,none⟩) (.inr rfl) _
   have B2: ∀u,(wr.setCell ⟨ib,off+56,none⟩ u).cell? ⟨w.heap.size,4,none⟩=some (.bool m.loop):=fun u=>(aA wr ib (off+56) u).cell a4 A2
   have HS:=MI I
   have C1:=MI R
   have J:=MI B1
   clear I R hB hK hZ B1
   cases B3:m.loop
   ·rw[B3] at B2 U a4
    go_wp2_with fail
    go_end0
    exact⟨rfl,by rw[U.out];exact HS.out,J.out⟩
   ·rw[B3] at B2 U a4
    go_wp2_with fail
    go_end0
    exact⟨rfl,by rw[U.out];exact C1.out,J.out.setCell (p:=⟨ib,off+57,none⟩) (.inr rfl) _⟩
end Go.Proofs.YtnicjahcgnhogaaGreatDoor
