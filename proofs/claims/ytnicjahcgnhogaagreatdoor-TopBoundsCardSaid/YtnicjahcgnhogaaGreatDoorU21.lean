/- Part 22 of the walk: contracts of the program's functions, each for every input. No condition. -/
import Derived.Test.YtnicjahcgnhogaaGreatDoorU19
set_option linter.unusedVariables false
set_option linter.unusedSimpArgs false
set_option maxRecDepth 100000
set_option maxHeartbeats 8000000
namespace Go.Proofs.YtnicjahcgnhogaaGreatDoor
open Go Go.RowKit Go.Calli
attribute [local irreducible] wpStill wpAnyH wpAnyS wpList Code.wp
theorem Fz{l:List Int}(h:wfL l)(i:Nat){x:Int}(hx:(Lit.int .i64 x).wf=true):wfL (l.set i x):=wf_set h i hx
theorem turn_wf(p u a b:Int):(Lit.int .i64 (nZ p u a b).1).wf=true∧(Lit.int .i64 (nZ p u a b).2).wf=true:=⟨wrap64_wf _,wrap64_wf _⟩
theorem Bi(r:Nat){b:List Int}(h:wfL b)(x:Pr r):wfL (jF r b x):=by
 unfold jF
 exact Fz (Fz h _ (turn_wf _ _ _ _).1) _ (turn_wf _ _ _ _).2
theorem kU(r:Nat)(xs:List (Pr r)): ∀b:List Int,wfL b→wfL (dE r b xs):=by
 induction xs with
 | nil=>intro b h;exact h
 | cons x l ih=>intro b h;exact ih _ (Bi r h x)
theorem fwdL_wf{b:List Int}(h:wfL b):wfL (iU b):=kU _ _ _ (kU _ _ _ (kU _ _ _ (kU _ _ _ h)))
theorem Cc(b:List Int):(iU b).length=b.length:=by simp only[iU,iq]
theorem xX{xs vs:List Int}(h:wfL xs)(o:Nat)(hv:wfL vs):wfL (aT xs o vs):=fun z hz=>by
 unfold aT at hz
 rcases List.mem_append.1 hz with h1 | h1
 ·exact h z (List.mem_of_mem_take h1)
 ·rcases List.mem_append.1 h1 with h2 | h2
  ·exact hv z h2
  ·exact h z (List.mem_of_mem_drop h2)
def rowOf(z:List Int)(o n:Nat):List Int:=(z.drop o).take n
theorem mO(z:List Int)(o n:Nat)(h:o+n≤z.length):(rowOf z o n).length=n:=by simp[rowOf];omega
theorem A8{z:List Int}(h:wfL z)(o n:Nat):wfL (rowOf z o n):=fun x hx=>h x (List.mem_of_mem_drop (List.mem_of_mem_take hx))
theorem oV(z:List Int)(n:Nat)(h:z.length=n):rowOf z 0 n=z:=by simp[rowOf,←h]
theorem uT{α:Type}(z v:List α)(h:v.length=z.length):aT z 0 v=v:=by simp[aT,h]
theorem up_flat(b:List Int)(hb:b.length=16)(h:wfL b):upL b [0,0,0,0]=b:=by
 apply List.ext_getElem
 ·rw[jC,hb]
 ·intro i h1 h2
  have hi:i<16:=by rwa [jC] at h1
  have h3:=FH b [0,0,0,0] i hi
  rw[List.getD_eq_getElem?_getD,List.getElem?_eq_getElem h1,Option.getD_some] at h3
  rw[h3]
  have h4:atZ [0,0,0,0] i=0:=by
   unfold atZ
   rw[if_pos aq]
   rcases(show i/4=0∨i/4=1∨i/4=2∨i/4=3 by omega) with e | e | e | e<;>rw[e]<;>rfl
  rw[h4,show b.getD i 0=b[i] by simp[List.getD,h2]]
  have h5:=bounds_i64 (h b[i] (List.getElem_mem h2))
  show wrap64 (b[i]*2^(0:Int).toNat)=b[i]
  rw[show b[i]*2^(0:Int).toNat=b[i] by simp]
  unfold wrap64
  omega
def SpecP(c:Nat)(l gs:List Int)(w:World)(e:Ending)(w':World):Prop:=∃g cap z',e= .returned (.slice (some ⟨g,0,none⟩) c cap)∧w'.ownsRow w.heap.size 194 16 (.slice (some ⟨g,0,none⟩) c cap) c (iL z')∧wfL z'∧Below w.heap.size w w'∧(c=1→gs=[0,0,0,0]→z'=iU (kF l))
theorem BV{w:World}{base g cap c:Nat}{z:List Int}(h:w.ownsRow base 194 16 (.slice (some ⟨g,0,none⟩) c cap) c (iL z))(o m:Nat):w.rangeAt g o (iL (rowOf z o m)):=by
 have:=oW h o m
 unfold rowOf iL at*
 rwa [List.map_take,List.map_drop]
theorem own_iL{w:World}{base g cap c:Nat}{z:List Int}(h:w.ownsRow base 194 16 (.slice (some ⟨g,0,none⟩) c cap) c (iL z))(o:Nat)(v:List Int)(ho:o+v.length≤c*16):(w.setCells g o (iL v)).ownsRow base 194 16 (.slice (some ⟨g,0,none⟩) c cap) c (iL (aT z o v)):=by
 have:=iZ h rfl o (iL v) (by rw[bU];exact ho)
 unfold aT iL at*
 simpa[List.map_take,List.map_drop] using this
theorem Gz{w:World}{base g cap c:Nat}{z:List Int}(h:w.ownsRow base 194 16 (.slice (some ⟨g,0,none⟩) c cap) c (iL z)):z.length=c*16:=by
 have:=h.1
 rwa [bU] at this
theorem lg(w:World)(b o:Nat)(cells:Array Value)(ht:w.there b o cells.size)(h1:cells.all (·.oneCell')=true):(storeCells ⟨b,o,none⟩ cells.toList 0).run Tryz.prog w= .ok () (w.setCells b o cells.toList):=by
 have:=run_storeCells_cells (P:=Tryz.prog) b o cells.toList 0 w (fun j hj=>by simpa using(ht j (by simpa using hj)).1) (fun j hj=>by simpa using(ht j (by simpa using hj)).2)
  (fun v hv=>(Array.all_eq_true_iff_forall_mem.1 h1) v (by simpa using hv))
 simpa only[Nat.add_zero] using this
theorem own_base{w:World}{B B' e size n:Nat}{v:Value}{xs:List Value}(h:w.ownsRow B e size v n xs)(hb:B'≤B):w.ownsRow B' e size v n xs:=by
 obtain⟨h0,h1⟩:=h
 refine⟨h0,?_⟩
 rcases h1 with h1 | ⟨g,cap,cur,e1,I,r⟩
 ·exact .inl h1
 ·exact .inr ⟨g,cap,cur,e1,Nat.le_trans hb I,r⟩
theorem i194(z:List Int)(h:z.length=16):(Tryz.prog.info? 194).map (·.size)=some (iL z).length:=by rw[bU,h];kernel_rfl
theorem i191(z:List Int)(h:z.length=4):(Tryz.prog.info? 191).map (·.size)=some (iL z).length:=by rw[bU,h];kernel_rfl
theorem AU(ao:Option Addr)(n cap:Nat)(l:List Int)(I0:0<n)(hn:n≤10000)(D6:wfL l)(gg gcap:Nat)(gs:List Int)(D7:gs.length=aO n*4)(B5:2≤aO n→G9 (aO n))(w:World)(hI:Ints .i64 w ao n l)(hG:Blk .i64 w gg 191 gs):Calls Tryz.prog 131 #[.agg (iA dm),.slice ao n cap,.slice (some ⟨gg,0,none⟩) (aO n) gcap] w (SpecP (aO n) l gs w):=by
 have B6:=ae w (.cells (iA dm) 178)
 have D8:=L9 w (.cells (iA dm) 178)
 have D9:=hG.lt
 have F8:=MI (ql ao n cap l aa _ (hI.aj B6))
 have HG:=MI (hG.aj B6)
 have C2:=Bj l
 rw[hI.hlen] at C2
 have F9:=MI C2
 have G0:Hid (wfL (kF l)):=Gh D6
 have D5:(Tryz.prog.info? 178).map (·.size)=some (iA dm).size:=af
 have HB:=MI B6
 have HZ:=MI D8
 have HM:=MI B5
 have E0:=MI D7
 have E1:0<aO n:=by unfold aO;omega
 have I1:aO n≤1000:=by unfold aO;omega
 have G1:=MI D9
 clear B6 hI hG B5 D7 D6 C2 D9
 generalize aO n=c at*
 go_enter Tryz.func131,Tryz.ntmps131
 go_upto_region 3 with(go_at_call 160;refine F8.out.mono ?_;rintro e w1 ⟨g,rfl,A9,U,B7⟩)
 have E2:=rwB HZ.out B7
 have E3:=HG.out.aj B7
 have E4:=HB.out.trans (B7.mono HB.out.size)
 have I2:w.heap.size+1≤g:=Nat.le_trans (L8 HZ.out) A9
 have E5:=MI E2
 have E6:=MI E3
 have E7:=MI E4
 have B8:=MI U
 clear D8 E2 E3 E4 U A9 B7 HZ HG HB
 go_loopw [14] (fun v14 wr=>∃(i:Nat)(z:List Int),i≤c∧v14= .int .i64 (i:Int)∧Blk .i64 wr g 194 z∧z.length=c*16∧wfL z∧Blk .i64 wr gg 191 gs∧wr.heap[w.heap.size]? =some (.cells (iA dm) 178 (0,0))∧Below w.heap.size w wr∧(c=1→gs=[0,0,0,0]→z=kF l)) (fun v14 _=>c - aC v14)
 case atStart=>exact⟨0,kF l,aa,rfl,B8.out,F9.out,G0.out,E6.out,E5.out,E7.out,fun _ _=>rfl⟩
 case round=>
  clear B8 E6 E5 E7
  obtain⟨i,z,hi,rfl,U,B9,B0,hG,hZ,hB,A0⟩:=hrel
  by_cases I3:i<c
  ·have H6:(i:Int)<(c:Int):=aa
   have A7:i*16+16≤c*16:=aa
   have I4:i*4+4≤c*4:=aa
   have I:wr.drew.rangeAt g (i*16) (iL (rowOf z (i*16) 16)):=Blk.range U (i*16) 16 aa
   have J:wr.drew.rangeAt gg (i*4) (iL (rowOf gs (i*4) 4)):=Blk.range hG (i*4) 4 (by rw[E0.out];omega)
   have A1:=mO z (i*16) 16 aa
   have C0:=mO gs (i*4) 4 (by rw[E0.out];omega)
   have hU:=MI (fun W=>Ho (rowOf z (i*16) 16) (rowOf gs (i*4) 4) A1 C0 W)
   have I5:=i194 _ A1
   have I6:=i191 _ C0
   have R:=jC (rowOf z (i*16) 16) (rowOf gs (i*4) 4)
   have C3:(Tryz.prog.info? 194).map (·.size)=some (iA (upL (rowOf z (i*16) 16) (rowOf gs (i*4) 4))).size:=by rw[az,R];kernel_rfl
   have A6:Hid (wfL (aT z (i*16) (upL (rowOf z (i*16) 16) (rowOf gs (i*4) 4)))∧(aT z (i*16) (upL (rowOf z (i*16) 16) (rowOf gs (i*4) 4))).length=c*16∧(c=1→gs=[0,0,0,0]→aT z (i*16) (upL (rowOf z (i*16) 16) (rowOf gs (i*4) 4))=kF l)):=by
    refine⟨xX B0 _ (upL_wf _ _),by rw[gu _ _ _ (by rw[R];omega)];exact B9,fun h1 h2=>?_⟩
    have G2:i=0:=aa
    subst G2
    have C4:z.length=16:=aa
    rw[show rowOf z (0*16) 16=z from oV z 16 C4,show rowOf gs (0*4) 4=gs from oV gs 4 (by rw[h2];rfl),h2,up_flat z C4 B0,show aT z (0*16) z=z from uT z z rfl]
    exact A0 h1 h2
   have B2:Hid (∀W,Blk .i64 W g 194 z→Blk .i64 (W.setCells g (i*16) (iA (upL (rowOf z (i*16) 16) (rowOf gs (i*4) 4))).toList) g 194 (aT z (i*16) (upL (rowOf z (i*16) 16) (rowOf gs (i*4) 4)))):=fun W h=>Blk.setCells h (i*16) (by rw[R];omega)
   have C5:Hid (∀W,Blk .i64 W g 194 z→W.there g (i*16) (iA (upL (rowOf z (i*16) 16) (rowOf gs (i*4) 4))).size):=fun W h=>uK h (i*16) _ (by rw[az,R];simp;omega)
   have B8:=MI U
   have G3:=MI hG
   have A3:=MI hZ
   have o:=MI hB
   have H7:=U.lt
   have H8:=hG.lt
   have B3:=A1
   have C6:=MI R
   have F5:=C0
   clear U hG hZ hB A0 R A1 C0 B9 B0
   generalize aT z (i*16) (upL (rowOf z (i*16) 16) (rowOf gs (i*4) 4))=z2 at*
   generalize upL (rowOf z (i*16) 16) (rowOf gs (i*4) 4)=u at*
   generalize rowOf z (i*16) 16=rb at*
   generalize rowOf gs (i*4) 4=rg at*
   go_upto_region 6 with fail
   obtain⟨x0,x1,x2,x3,x4,x5,x6,x7,x8,x9,x10,x11,x12,x13,x14,x15,rfl⟩:=zO B3
   obtain⟨r0,r1,r2,r3,rfl⟩:=nS F5
   have cb0:wr.drew.cell? ⟨g,i*16,none⟩=some (.int .i64 x0):=I 0 _ rfl
   have cb1:wr.drew.cell? ⟨g,i*16+1,none⟩=some (.int .i64 x1):=I 1 _ rfl
   have cb2:wr.drew.cell? ⟨g,i*16+2,none⟩=some (.int .i64 x2):=I 2 _ rfl
   have cb3:wr.drew.cell? ⟨g,i*16+3,none⟩=some (.int .i64 x3):=I 3 _ rfl
   have cb4:wr.drew.cell? ⟨g,i*16+4,none⟩=some (.int .i64 x4):=I 4 _ rfl
   have cb5:wr.drew.cell? ⟨g,i*16+5,none⟩=some (.int .i64 x5):=I 5 _ rfl
   have cb6:wr.drew.cell? ⟨g,i*16+6,none⟩=some (.int .i64 x6):=I 6 _ rfl
   have cb7:wr.drew.cell? ⟨g,i*16+7,none⟩=some (.int .i64 x7):=I 7 _ rfl
   have cb8:wr.drew.cell? ⟨g,i*16+8,none⟩=some (.int .i64 x8):=I 8 _ rfl
   have cb9:wr.drew.cell? ⟨g,i*16+9,none⟩=some (.int .i64 x9):=I 9 _ rfl
   have cb10:wr.drew.cell? ⟨g,i*16+10,none⟩=some (.int .i64 x10):=I 10 _ rfl
   have cb11:wr.drew.cell? ⟨g,i*16+11,none⟩=some (.int .i64 x11):=I 11 _ rfl
   have cb12:wr.drew.cell? ⟨g,i*16+12,none⟩=some (.int .i64 x12):=I 12 _ rfl
   have cb13:wr.drew.cell? ⟨g,i*16+13,none⟩=some (.int .i64 x13):=I 13 _ rfl
   have cb14:wr.drew.cell? ⟨g,i*16+14,none⟩=some (.int .i64 x14):=I 14 _ rfl
   have cb15:wr.drew.cell? ⟨g,i*16+15,none⟩=some (.int .i64 x15):=I 15 _ rfl
   have cg0:wr.drew.cell? ⟨gg,i*4,none⟩=some (.int .i64 r0):=J 0 _ rfl
   have cg1:wr.drew.cell? ⟨gg,i*4+1,none⟩=some (.int .i64 r1):=J 1 _ rfl
   have cg2:wr.drew.cell? ⟨gg,i*4+2,none⟩=some (.int .i64 r2):=J 2 _ rfl
   have cg3:wr.drew.cell? ⟨gg,i*4+3,none⟩=some (.int .i64 r3):=J 3 _ rfl
   have C7:=MI (show ∀W,Calls Tryz.prog 162 #[.agg #[.int .i64 x0,.int .i64 x1,.int .i64 x2,.int .i64 x3,.int .i64 x4,.int .i64 x5,.int .i64 x6,.int .i64 x7,.int .i64 x8,.int .i64 x9,.int .i64 x10,.int .i64 x11,.int .i64 x12,.int .i64 x13,.int .i64 x14,.int .i64 x15],.agg #[.int .i64 r0,.int .i64 r1,.int .i64 r2,.int .i64 r3]] W (fun e w'=>e= .returned (.agg (iA u))∧Below W.heap.size W w') from hU.out)
   have F6:(iA u).size=16:=by rw[az];exact C6.out
   clear hU I J
   go_region_law (go_simp;go_at_call 162;refine(C7.out _).mono ?_;rintro e w2 ⟨rfl,A4⟩;have C8:=B8.out.aj (w':=w2) (show Below wr.heap.size wr w2 from((Below.refl _ wr).drew).trans A4);have A5:=C5.out _ C8;have C9:=run_storeAt_mid (P:=Tryz.prog) w2 g (i*16) 194 (iA u) A5 C3 (bV _);have B4:=lg w2 g (i*16) (iA u) A5 (bV _))
   all_goals
    have A2:Below wr.heap.size wr w2:=((Below.refl _ wr).drew).trans A4
    have G4:=(gI (iA u).toList w2 g (i*16) gg (by have:=G1.out;omega)).trans (G3.out.aj A2)
    have D0:=(gI (iA u).toList w2 g (i*16) w.heap.size aa).trans (rwB A3.out A2)
    have D1:Below w.heap.size w (w2.setCells g (i*16) (iA u).toList):=kN (o.out.trans (A2.mono o.out.size)) aa _ _
    have D2:=B2.out _ C8
    clear A2 A5 C9 B4 C8 A4
    generalize w2.setCells g (i*16) (iA u).toList=W3 at*
    go_wp2_with fail
    exact⟨⟨i+1,z2,aa,aD,D2,A6.out.2.1,A6.out.1,G4,D0,D1,A6.out.2.2⟩,by simp[aC];omega⟩
  ·obtain rfl:i=c:=aa
   have A7:0<i:=E1
   have hJ:=MI (Nq i E1 aa g i z B9 B0 HM.out wr U)
   have o:=MI hB
   have G5:=MI A0
   have A3:=MI hZ
   clear U hG hB A0 B9 B0
   go_upto_region 10 with(first
    | ((with_reducible refine MC 178 3 ?_);refine wpList_load_row rfl 178 (.tmp 3) rfl w.heap.size rfl 178 (iA dm) (0,0) _ hZ Tryz.underlying178 rfl D5 ?_)
    | (go_at_call 163;refine hJ.out.mono ?_;rintro e w2 ⟨g2,cap2,z2,rfl,B1,G6,A4,G7⟩))
   have E8:=rwB A3.out A4
   have E9:=o.out.trans (A4.mono o.out.size)
   have A9:wr.heap.size≤g2:=jH B1 rfl
   have B1:=own_base B1 o.out.size
   have I7:w.heap.size+1≤g2:=Nat.le_trans (L8 A3.out) A9
   have F1:=MI E8
   have F2:=MI E9
   have F3:=MI B1
   clear hZ E8 E9 A9 B1 A4 A3 o hJ
   go_loopw [39] (fun v39 wr=>∃(k:Nat)(y:List Int),k≤i∧v39= .int .i64 (k:Int)∧wr.ownsRow w.heap.size 194 16 (.slice (some ⟨g2,0,none⟩) i cap2) i (iL y)∧wfL y∧wr.heap[w.heap.size]? =some (.cells (iA dm) 178 (0,0))∧Below w.heap.size w wr∧(i=1→gs=[0,0,0,0]→y=if k=0 then kF l else iU (kF l))) (fun v39 _=>i - aC v39)
   case atStart=>exact⟨0,z2,aa,rfl,F3.out,G6,F1.out,F2.out,fun h1 h2=>by rw[if_pos rfl,G7 h1,G5.out h1 h2]⟩
   case round=>
    clear F3 F1 F2
    obtain⟨k,y,hk,rfl,hO,C1,hZ,hB,A0⟩:=hrel
    by_cases I8:k<i
    ·have H9:(k:Int)<(i:Int):=aa
     have I9:=Gz hO
     have A7:k*16+16≤i*16:=aa
     have I:wr.drew.rangeAt g2 (k*16) (iL (rowOf y (k*16) 16)):=BV hO (k*16) 16
     have A1:=mO y (k*16) 16 aa
     have hU:=MI (fun W=>(both_any (rowOf y (k*16) 16) A1 W).2)
     have R:=Cc (rowOf y (k*16) 16)
     rw[A1] at R
     have C3:(Tryz.prog.info? 194).map (·.size)=some (iA (iU (rowOf y (k*16) 16))).size:=by rw[az,R];kernel_rfl
     have A6:Hid (wfL (aT y (k*16) (iU (rowOf y (k*16) 16)))∧(i=1→gs=[0,0,0,0]→aT y (k*16) (iU (rowOf y (k*16) 16))=iU (kF l))):=by
      refine⟨xX C1 _ (fwdL_wf (A8 C1 _ _)),fun h1 h2=>?_⟩
      have G8:k=0:=aa
      subst G8
      have F7:y.length=16:=aa
      have h3:=A0 h1 h2
      rw[if_pos rfl] at h3
      rw[show rowOf y (0*16) 16=y from oV y 16 F7,show aT y (0*16) (iU y)=iU y from uT y _ (Cc y),h3]
     have B2:Hid (∀W:World,W.ownsRow w.heap.size 194 16 (.slice (some ⟨g2,0,none⟩) i cap2) i (iL y)→(W.setCells g2 (k*16) (iA (iU (rowOf y (k*16) 16))).toList).ownsRow w.heap.size 194 16 (.slice (some ⟨g2,0,none⟩) i cap2) i (iL (aT y (k*16) (iU (rowOf y (k*16) 16))))):=by
      generalize iU (rowOf y (k*16) 16)=u at*
      intro W h
      have h5:=own_iL h (k*16) u (by rw[R];exact A7)
      exact h5
     have C5:Hid (∀W:World,W.ownsRow w.heap.size 194 16 (.slice (some ⟨g2,0,none⟩) i cap2) i (iL y)→W.there g2 (k*16) (iA (iU (rowOf y (k*16) 16))).size):=by
      generalize iU (rowOf y (k*16) 16)=u at*
      intro W h
      exact bJ h (k*16) _ (by rw[az,R];exact A7)
     have J:wr.drew.rangeAt w.heap.size 16 (iL aJ):=fun j v hv=>by
      rw[LZ (show wr.drew.heap[w.heap.size]? =_ from hZ)]
      show(iA (aJ++aJ))[16+j]? =some v
      unfold iA
      rw[List.map_append,List.getElem?_toArray]
      have F4:(aJ.map (Value.int .i64)).length=16:=af
      have h5:(aJ.map (Value.int .i64)++aJ.map (Value.int .i64))[16+j]? =(aJ.map (Value.int .i64))[16+j - (aJ.map (Value.int .i64)).length]? :=List.getElem?_append_right (by rw[F4];omega)
      rw[F4,show 16+j - 16=j by omega] at h5
      exact h5.trans hv
     have H0:=MI hO
     have A3:=MI hZ
     have o:=MI hB
     have C6:=MI R
     have B3:=A1
     have H2:aJ.length=16:=af
     clear hO hZ hB A0 R A1 C1
     generalize aT y (k*16) (iU (rowOf y (k*16) 16))=z3 at*
     generalize iU (rowOf y (k*16) 16)=u at*
     generalize rowOf y (k*16) 16=rb at*
     generalize aJ=tL at*
     go_upto_region 12 with fail
     obtain⟨x0,x1,x2,x3,x4,x5,x6,x7,x8,x9,x10,x11,x12,x13,x14,x15,rfl⟩:=zO B3
     obtain⟨t0,t1,t2,t3,t4,t5,t6,t7,t8,t9,t10,t11,t12,t13,t14,t15,rfl⟩:=zO H2
     have cb0:wr.drew.cell? ⟨g2,k*16,none⟩=some (.int .i64 x0):=I 0 _ rfl
     have cb1:wr.drew.cell? ⟨g2,k*16+1,none⟩=some (.int .i64 x1):=I 1 _ rfl
     have cb2:wr.drew.cell? ⟨g2,k*16+2,none⟩=some (.int .i64 x2):=I 2 _ rfl
     have cb3:wr.drew.cell? ⟨g2,k*16+3,none⟩=some (.int .i64 x3):=I 3 _ rfl
     have cb4:wr.drew.cell? ⟨g2,k*16+4,none⟩=some (.int .i64 x4):=I 4 _ rfl
     have cb5:wr.drew.cell? ⟨g2,k*16+5,none⟩=some (.int .i64 x5):=I 5 _ rfl
     have cb6:wr.drew.cell? ⟨g2,k*16+6,none⟩=some (.int .i64 x6):=I 6 _ rfl
     have cb7:wr.drew.cell? ⟨g2,k*16+7,none⟩=some (.int .i64 x7):=I 7 _ rfl
     have cb8:wr.drew.cell? ⟨g2,k*16+8,none⟩=some (.int .i64 x8):=I 8 _ rfl
     have cb9:wr.drew.cell? ⟨g2,k*16+9,none⟩=some (.int .i64 x9):=I 9 _ rfl
     have cb10:wr.drew.cell? ⟨g2,k*16+10,none⟩=some (.int .i64 x10):=I 10 _ rfl
     have cb11:wr.drew.cell? ⟨g2,k*16+11,none⟩=some (.int .i64 x11):=I 11 _ rfl
     have cb12:wr.drew.cell? ⟨g2,k*16+12,none⟩=some (.int .i64 x12):=I 12 _ rfl
     have cb13:wr.drew.cell? ⟨g2,k*16+13,none⟩=some (.int .i64 x13):=I 13 _ rfl
     have cb14:wr.drew.cell? ⟨g2,k*16+14,none⟩=some (.int .i64 x14):=I 14 _ rfl
     have cb15:wr.drew.cell? ⟨g2,k*16+15,none⟩=some (.int .i64 x15):=I 15 _ rfl
     have cg0:wr.drew.cell? ⟨w.heap.size,16,none⟩=some (.int .i64 t0):=J 0 _ rfl
     have cg1:wr.drew.cell? ⟨w.heap.size,17,none⟩=some (.int .i64 t1):=J 1 _ rfl
     have cg2:wr.drew.cell? ⟨w.heap.size,18,none⟩=some (.int .i64 t2):=J 2 _ rfl
     have cg3:wr.drew.cell? ⟨w.heap.size,19,none⟩=some (.int .i64 t3):=J 3 _ rfl
     have cg4:wr.drew.cell? ⟨w.heap.size,20,none⟩=some (.int .i64 t4):=J 4 _ rfl
     have cg5:wr.drew.cell? ⟨w.heap.size,21,none⟩=some (.int .i64 t5):=J 5 _ rfl
     have cg6:wr.drew.cell? ⟨w.heap.size,22,none⟩=some (.int .i64 t6):=J 6 _ rfl
     have cg7:wr.drew.cell? ⟨w.heap.size,23,none⟩=some (.int .i64 t7):=J 7 _ rfl
     have cg8:wr.drew.cell? ⟨w.heap.size,24,none⟩=some (.int .i64 t8):=J 8 _ rfl
     have cg9:wr.drew.cell? ⟨w.heap.size,25,none⟩=some (.int .i64 t9):=J 9 _ rfl
     have cg10:wr.drew.cell? ⟨w.heap.size,26,none⟩=some (.int .i64 t10):=J 10 _ rfl
     have cg11:wr.drew.cell? ⟨w.heap.size,27,none⟩=some (.int .i64 t11):=J 11 _ rfl
     have cg12:wr.drew.cell? ⟨w.heap.size,28,none⟩=some (.int .i64 t12):=J 12 _ rfl
     have cg13:wr.drew.cell? ⟨w.heap.size,29,none⟩=some (.int .i64 t13):=J 13 _ rfl
     have cg14:wr.drew.cell? ⟨w.heap.size,30,none⟩=some (.int .i64 t14):=J 14 _ rfl
     have cg15:wr.drew.cell? ⟨w.heap.size,31,none⟩=some (.int .i64 t15):=J 15 _ rfl
     have C7:=MI (show ∀W,Calls Tryz.prog 164 #[.agg #[.int .i64 t0,.int .i64 t1,.int .i64 t2,.int .i64 t3,.int .i64 t4,.int .i64 t5,.int .i64 t6,.int .i64 t7,.int .i64 t8,.int .i64 t9,.int .i64 t10,.int .i64 t11,.int .i64 t12,.int .i64 t13,.int .i64 t14,.int .i64 t15],.agg #[.int .i64 x0,.int .i64 x1,.int .i64 x2,.int .i64 x3,.int .i64 x4,.int .i64 x5,.int .i64 x6,.int .i64 x7,.int .i64 x8,.int .i64 x9,.int .i64 x10,.int .i64 x11,.int .i64 x12,.int .i64 x13,.int .i64 x14,.int .i64 x15]] W (fun e w'=>e= .returned (.agg (iA u))∧Below W.heap.size W w') from hU.out)
     have F6:(iA u).size=16:=by rw[az];exact C6.out
     clear hU I J
     go_region_law (go_simp;go_at_call 164;refine(C7.out _).mono ?_;rintro e w3 ⟨rfl,D3⟩;have D4:=aQ H0.out (w':=w3) (show Below wr.heap.size wr w3 from((Below.refl _ wr).drew).trans D3);have A5:=C5.out _ D4;have C9:=run_storeAt_mid (P:=Tryz.prog) w3 g2 (k*16) 194 (iA u) A5 C3 (bV _);have B4:=lg w3 g2 (k*16) (iA u) A5 (bV _))
     all_goals
      have A2:Below wr.heap.size wr w3:=((Below.refl _ wr).drew).trans D3
      have D0:=(gI (iA u).toList w3 g2 (k*16) w.heap.size aa).trans (rwB A3.out A2)
      have D1:Below w.heap.size w (w3.setCells g2 (k*16) (iA u).toList):=kN (o.out.trans (A2.mono o.out.size)) aa _ _
      have D2:=B2.out _ D4
      clear A2 A5 C9 B4 D4 D3
      generalize w3.setCells g2 (k*16) (iA u).toList=W3 at*
      go_wp2_with fail
      exact⟨⟨k+1,z3,aa,aD,D2,A6.out.1,D0,D1,fun h1 h2=>by rw[if_neg aa];exact A6.out.2 h1 h2⟩,by simp[aC];omega⟩
    ·obtain rfl:k=i:=aa
     have H3:=MI hO
     have H4:=MI hB
     have H5:=MI A0
     clear hO hB hZ A0
     go_wp2_with fail
     go_ret
     exact⟨g2,cap2,y,rfl,H3.out,C1,H4.out,fun h1 h2=>by have:=H5.out h1 h2;rwa [if_neg aa] at this⟩
theorem hu191: ∃i2:TypeInfo,Tryz.prog.info? 191=some i2∧i2.zero=some (.agg #[(),(),(),()])∧i2.size=4∧i2.bytes=32:=⟨_,rfl,rfl,rfl,rfl⟩
def zg(c:Nat)(size:Int)(w:World)(e:Ending)(w':World):Prop:=∃g gs,e= .returned (.slice (some ⟨g,0,none⟩) c c)∧w.heap.size≤g∧gs.length=c*4∧Blk .i64 w' g 191 gs∧Below w.heap.size w w'∧(55≤size→gs=List.replicate (c*4) 0)
theorem yF(cb:Nat)(size:Int)(ao:Option Addr)(n cap:Nat)(l:List Int)(hn:n≤10000)(A8: ∀z ∈ l,(Lit.int .i64 z).wf=true)(w:World)(R:size<55→Calls Tryz.prog 130 #[.pointer (some ⟨cb,0,none⟩),.slice ao n cap] w (zg (aO n) size w))(hC:mF w cb size)(hI:Ints .i64 w ao n l):Calls Tryz.prog 130 #[.pointer (some ⟨cb,0,none⟩),.slice ao n cap] w (zg (aO n) size w):=by
 by_cases o:55≤size
 case neg=>exact R aa
 obtain⟨i2,A0,j,A1,A2⟩:=hu191
 clear R
 have A3:=MI (fun W=>count_any n aa W)
 have A9:aO n≤10000:=by unfold aO;omega
 have HC:=MI hC
 have HI:=MI hI
 have A4:=MI (fun W h=>yK cb size W h)
 have A5:=MI (fun W h=>ql ao n cap l aa W h)
 clear hC hI
 generalize aO n=c at*
 go_enter Tryz.func130,Tryz.ntmps130
 go_upto_region 2 with(first
  | (go_at_call 121;refine(A3.out _).mono ?_;rintro e w' ⟨rfl,hw⟩;obtain rfl:=hw.symm)
  | (at_make;refine wpList_make_full _ rfl _ _ 235 rfl w.heap.size 191 _ _ _ Tryz.underlying235 A0 j A1 _ _ _ _ c rfl rfl rfl rfl (by rw[A2];omega) aE Me ?_;intro w3 U I))
 have J:Below w.heap.size w w3:=((ag.refl (fun _=>False) w).grown I (fun k hk=>by cases hk)).aW Me (fun _ _ e=>e.elim)
 have A6:=MI (vN rfl aq (fun i hi=>by
  have B0:i<4:=hi
  rcases i with _ | _ | _ | _ | i<;>first | rfl | omega) U)
 have HB:=MI J
 have hE:=MI (A4.out w3 (HC.out.aj J))
 have A7:=MI (A5.out w3 (HI.out.aj J))
 clear I U J
 have hd:decide (55≤size)=true:=decide_eq_true o
 rw[hd] at hE
 go_wp2_with (go_at_call 159;refine hE.out.mono ?_;rintro e w' ⟨rfl,hw⟩;obtain rfl:=hw.symm)
 go_ret
 exact⟨_,_,rfl,Me,ar,A6.out,HB.out,fun _=>rfl⟩
def wL(z:List Int):List Int:=(List.range 4).map (fun k=>z.getD (8+k) 0)
theorem zl(z:List Int):(wL z).length=4:=by simp[wL]
theorem fJ.LJ{w:World}{b:Nat}{z:List Int}{tv:Value}(h:fJ w b z tv):w.rangeAt b 9 ((wL z).map (Value.int .i64)):=fun j v hv=>by
 have hj:j<4:=by
  have:=(List.getElem?_eq_some_iff.1 hv).1
  simpa[wL] using this
 have h1:=h.hi (k:=4+j) aa
 rw[show 5+(4+j)=9+j by omega,show 4+(4+j)=8+j by omega] at h1
 rw[h1,←hv]
 simp[wL,hj]
def Dh(z:List Int)(n:Nat):Int:=wrap64 (52+28*(n:Int)+pU (wL z) 4)
theorem OI(z:List Int)(hz:z.length=28)(ao:Option Addr)(n cap:Nat)(hn:n≤1000)(w:World):Calls Tryz.prog 202 #[.agg (frC z (.slice ao n cap))] w (fun e w'=>e= .returned (.int .i64 (Dh z n))∧Below w.heap.size w w'):=by
 have J:=ae w (.cells (frC z (.slice ao n cap)) 196)
 have R:=L9 w (.cells (frC z (.slice ao n cap)) 196)
 have hF:fJ (w.alloc (.cells (frC z (.slice ao n cap)) 196)) w.heap.size z (.slice ao n cap):=⟨R,hz⟩
 have hC:=MI (fun W=>Ou (wL z) (zl z) W)
 have HB:=MI J
 have hm:=hF.mid
 have A1:=hF.LJ
 have A2:(Tryz.prog.info? 191).map (·.size)=some ((wL z).map (Value.int .i64)).length:=by rw[List.length_map,zl];kernel_rfl
 have A3:Hid (Dh z n=wrap64 (52+28*(n:Int)+pU (wL z) 4)):=rfl
 have e1:IntKind.i64.wrap (28*(n:Int))=28*(n:Int):=IntWalk.i64_in _ aa
 have e2:IntKind.i64.wrap (52+28*(n:Int))=52+28*(n:Int):=IntWalk.i64_in _ aa
 have o:=L8 R
 have A4:=J.size
 clear J hF
 generalize pU (wL z) 4=co at*
 generalize A0:(wL z).map (Value.int .i64)=CS at*
 have A5:Hid (CS.toArray=iA (wL z)):=by unfold Hid;rw[←A0];rfl
 clear A0 R
 go_enter Tryz.func202,Tryz.ntmps202
 go_upto_region 1 with fail
 generalize w.alloc (.cells (frC z (.slice ao n cap)) 196)=W at*
 refine wp_region_noPanic ?_
 refine wp_region_held_drew (S:=fun w'=>w'.cell? ⟨w.heap.size,4,none⟩=some (.slice ao n cap)∧w'.rangeAt w.heap.size 9 CS) af ?_ (fun I=>?_)
 ·exact⟨hm,A1⟩
 refine ba 0 ?_
 try simp only[Act.put,aS]
 refine ba 1 ?_
 try simp only[Act.put,aS]
 refine ba 2 ?_
 try simp only[Act.put,aS]
 refine ba 3 ?_
 try simp only[Act.put,aS]
 refine ba 4 ?_
 try simp only[Act.put,aS]
 refine ba 5 ?_
 try simp only[Act.put,aS]
 refine wpAnyH_take (i:=6) (v:=.agg CS.toArray) rfl af af af (fun _ _ _ h=>h) (yieldsIf_load_mid af 191 (.tmp 8) rfl w.heap.size 9 rfl CS _ (fun w h=>h.2) Tryz.underlying191 rfl A2) aw ?_
 try simp only[Act.put,aS]
 rw[A5.out]
 refine bj 7 (fun K hK=>?_)
 go_simp
 go_at_call 229;refine(hC.out _).mono ?_;rintro e w4 ⟨rfl,U⟩
 refine hK.out _ _ ?_ (fun I=>?_)
 ·(try dsimp only);exact⟨(U.cell (by exact o)).trans I.1,fun j v hv=>(U.cell (by exact o)).trans (I.2 j v hv)⟩
 clear hK K
 try simp only[Act.put,aS]
 refine ba 8 ?_
 try simp only[Act.put,aS]
 refine ba 9 ?_
 try simp only[Act.put,aS]
 refine wpAnyH_done af ?_ _
 refine NoPanic.normal ?_
 go_wp2_with fail
 go_ret
 exact⟨bg (by rw[A3.out];unfold wrap64;rw[IntKind.wrap_i64]),HB.out.trans ((show Below W.heap.size W w4 from((Below.refl _ W).drew).trans U).mono A4)⟩
theorem wL_get(z:List Int)(k:Nat)(hk:k<4):(wL z).getD k 0=z.getD (8+k) 0:=by simp[wL,List.getD,hk]
def NxP(z:List Int)(w:World)(e:Ending)(w':World):Prop:=∃r:Int,e= .returned (.int .i64 r)∧Below w.heap.size w w'∧(r= -1∨∃k:Nat,r=(k:Int)∧k<4∧z.getD (4+k) 0<23)
theorem I7(z m:List Int)(hz:z.length=28)(hm:m.length=4)(tv:Value)(w:World):Calls Tryz.prog 203 #[.agg (frC z tv),.agg (iA m)] w (NxP z w):=by
 have A0:=ae w (.cells (frC z tv) 196)
 have R:=L9 w (.cells (frC z tv) 196)
 have A1:=ae (w.alloc (.cells (frC z tv) 196)) (.cells (iA m) 191)
 have A2:=L9 (w.alloc (.cells (frC z tv) 196)) (.cells (iA m) 191)
 have R:=rwB R A1
 have hB:=A0.trans (A1.mono A0.size)
 rw[World.size_alloc] at A2
 have hF:fJ ((w.alloc (.cells (frC z tv) 196)).alloc (.cells (iA m) 191)) w.heap.size z tv:=⟨R,hz⟩
 have A5:=hF.LJ
 have A6:(Tryz.prog.info? 191).map (·.size)=some ((wL z).map (Value.int .i64)).length:=by rw[List.length_map,zl];kernel_rfl
 have HF:=MI hF
 have A7:=MI A2
 have HB:=MI hB
 have B4:=MI (fun k (hk:k<4) W=>gZ (P:=Tryz.prog) 191 3 4 Tryz.underlying191 Tryz.underlying3 af (wL z) (zl z) k hk W)
 clear A0 A1 R A2 hB hF
 go_enter Tryz.func203,Tryz.ntmps203
 go_upto_region 2 with fail
 generalize (w.alloc (.cells (frC z tv) 196)).alloc (.cells (iA m) 191)=W at*
 go_upto_region 3 with((with_reducible refine MC 191 8 ?_);refine wpList_load_mid rfl 191 (.tmp 8) rfl w.heap.size 9 rfl ((wL z).map (Value.int .i64)) _ A5 Tryz.underlying191 rfl A6 ?_;rw[show((wL z).map (Value.int .i64)).toArray=iA (wL z) from rfl])
 clear A5 A6
 go_loopw [5,10] (fun v5 v10 wr=>∃(j:Nat)(b:Int),j≤4∧v10= .int .i64 (j:Int)∧v5= .int .i64 b∧(b= -1∨∃k:Nat,b=(k:Int)∧k<4∧z.getD (4+k) 0<23)∧fJ wr w.heap.size z tv∧wr.heap[w.heap.size+1]? =some (.cells (iA m) 191 (0,0))∧Below w.heap.size w wr) (fun _ v10 _=>4 - aC v10)
 case atStart=>exact⟨0,-1,aa,rfl,rfl,.inl rfl,HF.out,A7.out,HB.out⟩
 case round=>
  clear HF A7 HB
  obtain⟨j,b,hj,rfl,rfl,U,hF,h1,hB⟩:=hrel
  by_cases o:j<4
  ·have A8:=B4.out j o
   rw[wL_get z j o] at A8
   have cs:=hF.hi (k:=j) aa
   have cm:=aH (k:=j) h1 aa
   have HF:=MI hF
   have H1:=MI h1
   have HB:=MI hB
   have I:=MI U
   have A9: ∀n,fJ (wr.drewN n) w.heap.size z tv∧(wr.drewN n).heap[w.heap.size+1]? =some (.cells (iA m) 191 (0,0))∧Below w.heap.size w (wr.drewN n):=fun n=>⟨⟨hF.row,hF.len⟩,h1,below_drewN hB n⟩
   have A3:=MI A9
   clear hF h1 hB U A9
   by_cases B0:z.getD (8+j) 0=0
   ·rw[B0] at A8
    go_wp2_with fail
    exact⟨⟨j+1,b,aa,aD,rfl,I.out,HF.out,H1.out,HB.out⟩,by simp[aC];omega⟩
   ·have B8:(z.getD (8+j) 0==0)=false:=beq_eq_false_iff_ne.2 B0
    generalize z.getD (8+j) 0=wj at*
    by_cases B7:23≤z.getD (4+j) 0
    ·generalize z.getD (4+j) 0=sj at*
     go_wp2_with fail
     exact⟨⟨j+1,b,aa,aD,rfl,I.out,HF.out,H1.out,HB.out⟩,by simp[aC];omega⟩
    ·have B1:Hid (z.getD (4+j) 0<23):=by unfold Hid;omega
     rcases I.out with rfl | ⟨k,rfl,hk,B2⟩
     ·generalize J:z.getD (4+j) 0=sj at*
      have A4:=MI J
      clear J
      go_upto_region 6 with fail
      go_quiet (fail)
      go_wp2_with fail
      refine⟨⟨j+1,(j:Int),aa,aD,rfl,.inr ⟨j,rfl,o,by rw[A4.out];exact B1.out⟩,A3.out _⟩,by simp[aC];omega⟩
     ·have cs2:=HF.out.hi (k:=k) aa
      have cm2:=aH (k:=k) H1.out aa
      have B5:=MI B2
      have gk:decide ((k:Int)<0)=false:=decide_eq_false aa
      clear B2
      generalize J:z.getD (4+j) 0=sj at*
      generalize B3:z.getD (4+k) 0=sk at*
      generalize m.getD j 0=mj at*
      generalize m.getD k 0=mk at*
      have A4:=MI J
      have B6:=MI B3
      clear J B3
      go_upto_region 6 with fail
      go_quiet (fail)
      go_wp2_with fail
      all_goals first
       | exact⟨⟨j+1,(j:Int),aa,aD,rfl,.inr ⟨j,rfl,o,by rw[A4.out];exact B1.out⟩,A3.out _⟩,by simp[aC];omega⟩
       | exact⟨⟨j+1,(k:Int),aa,aD,rfl,.inr ⟨k,rfl,hk,by rw[B6.out];exact B5.out⟩,A3.out _⟩,by simp[aC];omega⟩
  ·obtain rfl:j=4:=aa
   have I:=MI U
   have HB:=MI hB
   clear U hB hF h1
   go_wp2_with fail
   go_ret
   exact⟨b,rfl,HB.out,I.out⟩
theorem GH{w:World}{b T:Nat}{zs:List Int}(h:w.heap[b]? =some (.cells (iA zs) T (0,0)))(off k:Nat)(hk:off+k≤zs.length)(hz:zs.length≤1000)(I: ∀z ∈ zs,(Lit.int .i64 z).wf=true):Ints .i64 w (some ⟨b,off,none⟩) k ((zs.drop off).take k):=
 ⟨by simp;omega,aE,fun i hi=>⟨_,rfl,by
  rw[add0,aH (k:=off+i) h aa]
  simp[List.getD,hi]⟩,fun z hz=>I z (List.mem_of_mem_drop (List.mem_of_mem_take hz))⟩
theorem abs_bd{v:Int}(h1: -9223372036854775808≤v)(h2:v≤9223372036854775807):0≤wV v∧wV v≤9223372036854775807:=by
 unfold wV wrap64
 split
 ·omega
 ·split<;>omega
theorem Gf{l:List Int}(h: ∀z ∈ l,(Lit.int .i64 z).wf=true):0≤jf l∧jf l≤9223372036854775807:=by
 unfold jf
 have key: ∀(l:List Int)(p:Int),(∀z ∈ l,(Lit.int .i64 z).wf=true)→0≤p∧p≤9223372036854775807→0≤l.foldl (fun p v=>max p (wV v)) p∧l.foldl (fun p v=>max p (wV v)) p≤9223372036854775807:=by
  intro l
  induction l with
  | nil=>intro p _ hp;exact hp
  | cons v r ih=>
   intro p hl hp
   have h1:=bounds_i64 (hl v ar)
   have h2:=abs_bd h1.1 h1.2
   exact ih _ (fun z hz=>hl z (by simp[hz])) ⟨Int.le_trans hp.1 (Int.le_max_left _ _),Int.max_le.2 ⟨hp.2,h2.2⟩⟩
 exact key l 0 h ⟨aa,aa⟩
theorem LP(zs:List Int)(I: ∀z ∈ zs,(Lit.int .i64 z).wf=true)(w:World):Calls Tryz.prog 165 #[.int .i64 (jf zs)] w (Qt (.int .i64 (kE (jf zs))) w):=xH _ (by have:=Gf I;omega) (Gf I).2 w
theorem MZ(b:List Int)(hb:b.length=16)(A2: ∀z ∈ b,(Lit.int .i64 z).wf=true)(w:World):Calls Tryz.prog 199 #[.agg (iA b)] w (fun e w'=>∃m:List Int,m.length=4∧e= .returned (.agg (iA m))∧Below w.heap.size w w'):=by
 have J:=ae w (.cells (iA b) 194)
 have U:=L9 w (.cells (iA b) 194)
 have o:=ae (w.alloc (.cells (iA b) 194)) (.cells #[(),(),(),()] 191)
 have R:=L9 (w.alloc (.cells (iA b) 194)) (.cells #[(),(),(),()] 191)
 have A0:=ae ((w.alloc (.cells (iA b) 194)).alloc (.cells #[(),(),(),()] 191)) (.cells #[(),(),(),()] 191)
 have A3:=L9 ((w.alloc (.cells (iA b) 194)).alloc (.cells #[(),(),(),()] 191)) (.cells #[(),(),(),()] 191)
 have R:=rwB R A0
 have U:=rwB (rwB U o) A0
 have hB:=(J.trans (o.mono J.size)).trans (A0.mono (J.trans (o.mono J.size)).size)
 simp only[World.size_alloc] at R A3
 clear J o A0
 have HB:=MI hB
 have A6:=MI U
 have A7:=MI R
 have A8:=MI A3
 have HP:=MI (fun(wr:World)(h:wr.heap[w.heap.size]? =some (.cells (iA b) 194 (0,0)))(off:Nat)(ho:off+4≤16)(cap:Nat)=>vG (some ⟨w.heap.size,off,none⟩) 4 cap ((b.drop off).take 4) wr (GH h off 4 aa aa A2))
 have HW:=MI (fun(off:Nat) W=>LP ((b.drop off).take 4) (fun z hz=>A2 z (List.mem_of_mem_drop (List.mem_of_mem_take hz))) W)
 clear hB U R A3 A2
 go_enter Tryz.func199,Tryz.ntmps199
 go_upto_region 3 with fail
 generalize ((w.alloc (.cells (iA b) 194)).alloc (.cells #[(),(),(),()] 191)).alloc (.cells #[(),(),(),()] 191)=W at*
 go_loopw [5] (fun v5 wr=>∃(j:Nat)(m:List Int),j≤4∧v5= .int .i64 (j:Int)∧m.length=4∧wr.heap[w.heap.size]? =some (.cells (iA b) 194 (0,0))∧wr.heap[w.heap.size+1]? =some (.cells #[(),(),(),()] 191 (0,0))∧wr.heap[w.heap.size+1+1]? =some (.cells (iA m) 191 (0,0))∧Below w.heap.size w wr) (fun v5 _=>4 - aC v5)
 case atStart=>exact⟨0,[0,0,0,0],aa,rfl,rfl,A6.out,A7.out,A8.out,HB.out⟩
 case round=>
  clear A6 A7 A8 HB
  obtain⟨j,m,hj,rfl,hm,h0,h1,h2,hB⟩:=hrel
  by_cases B1:j<4
  ·have A4:=fun v=>bY h2 j v
   have B2:=aH (k:=j) h2 aa
   have B3:=ay h2 j
   have B0:=MI A4
   have H0:=MI h0
   have H1:=MI h1
   have HB:=MI hB
   have A1:=MI (fun off ho cap=>HP.out wr h0 off ho cap)
   clear h0 h1 h2 hB A4
   have I:Hid (∀(n1:Nat)(v:Int),(m.set j v).length=4∧((wr.drewN n1).setCell ⟨w.heap.size+1+1,j,none⟩ (.int .i64 v)).heap[w.heap.size]? =some (.cells (iA b) 194 (0,0))∧((wr.drewN n1).setCell ⟨w.heap.size+1+1,j,none⟩ (.int .i64 v)).heap[w.heap.size+1]? =some (.cells #[(),(),(),()] 191 (0,0))∧((wr.drewN n1).setCell ⟨w.heap.size+1+1,j,none⟩ (.int .i64 v)).heap[w.heap.size+1+1]? =some (.cells (iA (m.set j v)) 191 (0,0))∧Below w.heap.size w ((wr.drewN n1).setCell ⟨w.heap.size+1+1,j,none⟩ (.int .i64 v))):=fun n1 v=>
    ⟨by simpa using hm,(heap_setCell_other _ _ _ _ (by show w.heap.size≠w.heap.size+1+1;omega)).trans H0.out,(heap_setCell_other _ _ _ _ (by show w.heap.size+1≠w.heap.size+1+1;omega)).trans H1.out,B0.out v,(below_drewN HB.out n1).setCell (p:=⟨w.heap.size+1+1,j,none⟩) (by show w.heap.size≤w.heap.size+1+1;omega) _⟩
   rcases(show j=0∨j=1∨j=2∨j=3 by omega) with rfl | rfl | rfl | rfl
   ·go_wp2_with (first
     | (go_at_call 166;refine(A1.out 0 aq _).mono ?_;rintro e w1 ⟨rfl,n1,rfl⟩)
     | (go_at_call 165;refine(HW.out 0 _).mono ?_;rintro e w2 ⟨rfl,n2,rfl⟩))
    exact⟨⟨1,_,aa,rfl,I.out _ _⟩,by simp[aC]⟩
   ·go_wp2_with (first
     | (go_at_call 166;refine(A1.out 4 aq _).mono ?_;rintro e w1 ⟨rfl,n1,rfl⟩)
     | (go_at_call 165;refine(HW.out 4 _).mono ?_;rintro e w2 ⟨rfl,n2,rfl⟩))
    exact⟨⟨2,_,aa,rfl,I.out _ _⟩,by simp[aC]⟩
   ·go_wp2_with (first
     | (go_at_call 166;refine(A1.out 8 aq _).mono ?_;rintro e w1 ⟨rfl,n1,rfl⟩)
     | (go_at_call 165;refine(HW.out 8 _).mono ?_;rintro e w2 ⟨rfl,n2,rfl⟩))
    exact⟨⟨3,_,aa,rfl,I.out _ _⟩,by simp[aC]⟩
   ·go_wp2_with (first
     | (go_at_call 166;refine(A1.out 12 aq _).mono ?_;rintro e w1 ⟨rfl,n1,rfl⟩)
     | (go_at_call 165;refine(HW.out 12 _).mono ?_;rintro e w2 ⟨rfl,n2,rfl⟩))
    exact⟨⟨4,_,aa,rfl,I.out _ _⟩,by simp[aC]⟩
  ·obtain rfl:j=4:=aa
   have A5:(Tryz.prog.info? 191).map (·.size)=some (iA m).size:=by rw[az,hm];kernel_rfl
   have A9:(#[(),(),(),()]:Array Value).size=(iA m).size:=by rw[az,hm];rfl
   clear hm h0
   go_wp2_with (first | ((with_reducible refine MC 191 3 ?_);refine wpList_load_row rfl 191 (.tmp 3) rfl _ rfl 191 (iA m) (0,0) _ h2 Tryz.underlying191 rfl A5 ?_) | ((with_reducible refine MF 191 2 19 ?_);refine wpList_store_row rfl 191 (.tmp 2) (.tmp 19) rfl _ (iA m) rfl rfl 191 #[(),(),(),()] h1 A5 A9 (bV _) ?_))
   exact bodyPost_ret (results_cell_row (fn:=Tryz.f199) rfl _ _ _ _ _ _ _ rfl (setRow_heap _ _ _ _ _ _ h1) Tryz.underlying191 rfl A5) rfl ⟨m,by simpa[az] using A9.symm,rfl,below_setRow hB aa _⟩
end Go.Proofs.YtnicjahcgnhogaaGreatDoor
