/- Part 22 of the walk: contracts of the program's functions, each for every input. No condition. -/
import Derived.Test.YtnicjahcgnhogaaGreatDoorQ20
import Derived.Test.YtnicjahcgnhogaaGreatDoorQ03
import Derived.Test.YtnicjahcgnhogaaGreatDoorQ13
import Derived.Test.YtnicjahcgnhogaaGreatDoorQ18
import Derived.Test.YtnicjahcgnhogaaGreatDoorQ08
import Derived.Lib.LazyBuf
set_option linter.unusedVariables false
set_option linter.unusedSimpArgs false
set_option maxRecDepth 100000
set_option maxHeartbeats 8000000
namespace Go.Proofs.YtnicjahcgnhogaaGreatDoor
open Go Go.RowKit Go.Calli
attribute [local irreducible] wpStill wpAnyH wpAnyS wpList Code.wp
def wfL(l:List Int):Prop:=∀z ∈ l,(Lit.int .i64 z).wf=true
def LJ(c:Nat):Prop:=∀(W:World)(base g cap:Nat)(z:List Int)(i:Nat),0<i→i<c→W.ownsRow base 194 16 (.slice (some ⟨g,0,none⟩) c cap) c (iL z)→wfL z→Calls Tryz.prog 193 #[.agg (iA cO),.pointer (some ⟨g,(i - 1)*16,none⟩),.pointer (some ⟨g,i*16,none⟩),.func (.func 194) #[.agg (iA aI)] #[]] W (fun e w'=>e= .returned (.tuple #[])∧∃z',w'.ownsRow base 194 16 (.slice (some ⟨g,0,none⟩) c cap) c (iL z')∧wfL z'∧af (fun k=>k=g) W w')
def JoinP(c:Nat)(z:List Int)(w:World)(e:Ending)(w':World):Prop:=∃g cap z',e= .returned (.slice (some ⟨g,0,none⟩) c cap)∧w'.ownsRow w.heap.size 194 16 (.slice (some ⟨g,0,none⟩) c cap) c (iL z')∧wfL z'∧Below w.heap.size w w'∧(c=1→z'=z)
theorem info194:(Tryz.prog.info? 194).map (fun i=>(i.zero,i.size,i.bytes))=some (some (.agg #[(),(),(),(),(),(),(),(),(),(),(),(),(),(),(),()]),16,128):=by kernel_rfl
theorem JM(c:Nat)(hc:0<c)(hc2:c≤10000)(g cap:Nat)(z:List Int)(hz:z.length=c*16)(hwf:wfL z)(hmeet:2≤c→LJ c)(w:World)(h:Blk .i64 w g 194 z):Calls Tryz.prog 163 #[.agg (iA cO),.slice (some ⟨g,0,none⟩) c cap] w (JoinP c z w):=by
 have hba:=ae w (.cells (iA cO) 178)
 have hz0:=L9 w (.cells (iA cO) 178)
 have hB1:=h.ah hba
 have hll:(iA cO).size=32:=by kernel_rfl
 have hi178:(Tryz.prog.info? 178).map (·.size)=some (iA cO).size:=by kernel_rfl
 have hcell: ∀j u,(iL z)[j]? =some u→(w.alloc (.cells (iA cO) 178)).cell? ((⟨g,0,none⟩:Addr).add j)=some u:=fun j u hu=>by
  rw[add0,Nat.zero_add]
  have hj:j<z.length:=by have:=(List.getElem?_eq_some_iff.1 hu).1;rwa [dA] at this
  rw[hB1.cell hj,←hu]
  simp[iL,List.getD,hj]
 have hCell:=MI hcell
 have HB:=MI hba
 have HZ:=MI hz0
 have HWF:=MI hwf
 have HM:=MI hmeet
 have HLn:=MI hz
 clear hcell hba hB1 h hmeet hwf hz
 go_enter Tryz.func163,Tryz.ntmps163
 go_upto_region 1 with fail
 have hnil:(w.alloc (.cells (iA cO) 178)).ownsRow w.heap.size 194 16 (.slice none 0 0) 0 []:=World.ownsRow_nil _ _ _ _
 have hsz:=HB.out.size
 generalize w.alloc (.cells (iA cO) 178)=W at*
 go_upto_region 3 with(at_builtin;refine bY rfl _ (.tmp 7) 237 194 16 rfl Tryz.underlying237 info194 rfl (by decide) w.heap.size _ 0 [] rfl hnil ⟨g,0,none⟩ c cap (iL z) (by rw[dA,HLn.out]) rfl hCell.out (Dj z) (by omega) (by unfold maxLen;omega) hsz ?_;intro v5 w2 hown hk2;rw[List.nil_append,Nat.zero_add] at hown;obtain⟨g2,cap2,rfl⟩:=iF hown hc)
 have hb2:Below W.heap.size W w2:=hk2.bg Me (fun _ _ e=>by cases e)
 have hz2:=rwB HZ.out hb2
 have hB2:=HB.out.trans (hb2.mono hsz)
 have HO2:=MI hown
 have HZ2:=MI hz2
 have HB2:=MI hB2
 clear hk2 hb2 hz2 hB2 hown hnil hsz hz0 hCell HZ
 go_loopw [6] (fun v6 wr=>∃(i:Nat)(z':List Int),1≤i∧i≤c∧v6= .int .i64 (i:Int)∧wr.ownsRow w.heap.size 194 16 (.slice (some ⟨g2,0,none⟩) c cap2) c (iL z')∧wfL z'∧Below w.heap.size w wr∧wr.heap[w.heap.size]? =some (.cells (iA cO) 178 (0,0))∧(i=1→z'=z)) (fun v6 _=>c - aG v6)
 case atStart=>exact⟨1,z,by omega,hc,rfl,HO2.out,HWF.out,HB2.out,HZ2.out,fun _=>rfl⟩
 case round=>
  clear HO2 HZ2 HB2
  obtain⟨i,z',hi1,hic,rfl,hO,hw',hB,hZ,h1⟩:=hrel
  by_cases hlt:i<c
  ·have hM:=MI (HM.out (by omega) wr.drew w.heap.size g2 cap2 z' i (by omega) hlt hO hw')
   have hlt2:(i:Int)<(c:Int):=by omega
   have hi0:0<i:=by omega
   have e1:IntKind.i64.wrap ((i:Int) - 1)=((i - 1:Nat):Int):=by rw[show(i:Int) - 1=((i - 1:Nat):Int) by omega];exact IntWalk.i64_in _ (by omega)
   have hi2:i - 1<c:=by omega
   have hmf: ∀(fn:Fn)(first cap:Array Value)(w:World),(Instr.makeFunc fn first cap).run Tryz.prog w= .ok (.func fn first cap) w:=fun _ _ _ _=>rfl
   have hrg:wr.drew.rangeAt w.heap.size 0 (iL aI):=fun j v hv=>by
    rw[Nat.zero_add,LZ (show wr.drew.heap[w.heap.size]? =_ from hZ)]
    have hj:j<(iL aI).length:=(List.getElem?_eq_some_iff.1 hv).1
    show(iA (aI++aI))[j]? =some v
    unfold iA
    rw[List.map_append,List.getElem?_toArray]
    exact(List.getElem?_append_left hj).trans hv
   have hBd:=MI hB.drew
   have hO0:=MI hO
   have hgne:g2≠w.heap.size:=fun e=>by
    obtain⟨cs,hcs⟩:=ag hO rfl
    subst e
    exact aF hcs hZ (by decide) rfl
   have hsz16:(Tryz.prog.info? 174).map (·.size)=some (iL aI).length:=by kernel_rfl
   clear hO hw' hB h1
   go_upto_region 5 with fail
   refine wp_region_noPanic ?_
   refine wp_region_held_drew (S:=fun w'=>w'.heap[w.heap.size]? =some (.cells (iA cO) 178 (0,0))∧w'.rangeAt w.heap.size 0 (iL aI)) (by kernel_rfl) ?_ (fun hHeld=>?_)
   ·exact⟨hZ,hrg⟩
   refine MG 1 ?_ ?_ (by assumption) ?_
   rotate_left
   ·(intro w hSw;(try dsimp only at hSw);go_simp;try with_reducible rfl)
   try simp only[Act.put,aS]
   refine MG 2 ?_ ?_ (by assumption) ?_
   rotate_left
   ·(intro w hSw;(try dsimp only at hSw);go_simp;try with_reducible rfl)
   try simp only[Act.put,aS]
   refine MG 3 ?_ ?_ (by assumption) ?_
   rotate_left
   ·(intro w hSw;(try dsimp only at hSw);go_simp;try with_reducible rfl)
   try simp only[Act.put,aS]
   refine MG 4 ?_ ?_ (by assumption) ?_
   rotate_left
   ·(intro w hSw;(try dsimp only at hSw);go_simp;try with_reducible rfl)
   try simp only[Act.put,aS]
   refine MG 5 ?_ ?_ (by assumption) ?_
   rotate_left
   ·(intro w hSw;(try dsimp only at hSw);go_simp;try with_reducible rfl)
   try simp only[Act.put,aS]
   refine MG 6 ?_ ?_ (by assumption) ?_
   rotate_left
   ·(intro w hSw;(try dsimp only at hSw);go_simp;try with_reducible rfl)
   try simp only[Act.put,aS]
   refine MG 7 ?_ ?_ (by assumption) ?_
   rotate_left
   ·(intro w hSw;(try dsimp only at hSw);go_simp;try with_reducible rfl)
   try simp only[Act.put,aS]
   refine MG 8 ?_ ?_ (by assumption) ?_
   rotate_left
   ·(intro w hSw;(try dsimp only at hSw);go_simp;try with_reducible rfl)
   try simp only[Act.put,aS]
   refine wpAnyH_take (i:=0) (v:=.agg (iA cO)) rfl (by kernel_rfl) (by kernel_rfl) (by kernel_rfl) (fun _ _ _ h=>h) (aU (by kernel_rfl) 178 (.tmp 2) rfl w.heap.size rfl 178 (iA cO) (0,0) _ (fun w h=>h.1) Tryz.underlying178 rfl hi178) (by assumption) ?_
   try simp only[Act.put,aS]
   refine wpAnyH_take (i:=9) (v:=.agg (iA aI)) rfl (by kernel_rfl) (by kernel_rfl) (by kernel_rfl) (fun _ _ _ h=>h) (yieldsIf_load_mid (by kernel_rfl) 174 (.tmp 23) rfl w.heap.size 0 rfl (iL aI) _ (fun w h=>h.2) Tryz.underlying174 rfl hsz16) (by assumption) ?_
   try simp only[Act.put,aS]
   refine MG 10 ?_ ?_ (by assumption) ?_
   rotate_left
   ·(intro w hSw;(try dsimp only at hSw);go_simp;try with_reducible rfl)
   try simp only[Act.put,aS]
   refine wpAnyH_ready (rs:=[11]) (by kernel_rfl) (by simp) ?_
   refine AllReadyH.cons rfl (fun K hK=>?_) AllReadyH.nil
   go_simp
   go_at_call 193;refine hM.out.mono ?_;rintro e w3 ⟨rfl,z2,hO2,hw2,hk3⟩
   refine hK.out _ _ ?_ (fun hHeld=>?_)
   ·(try dsimp only);exact⟨hk3.heap hHeld.1 (fun e=>hgne e.symm),fun j v hv=>hk3.cell (hHeld.2 j v hv) (fun e=>hgne e.symm)⟩
   clear hK K
   try simp only[Act.put,aS]
   refine wpAnyH_done (by kernel_rfl) ?_ _
   refine NoPanic.normal ?_
   go_wp2_with fail
   refine⟨⟨i+1,z2,by omega,by omega,by go_num,hO2,hw2,hBd.out.trans (hk3.bg hBd.out.size (fun k hk e=>by have h5:w.heap.size≤g2:=mr hO0.out rfl;have e2:k=g2:=e;omega)),hHeld.1,fun e=>by omega⟩,by simp[aG];omega⟩
  ·obtain rfl:i=c:=by omega
   have hO0:=MI hO
   have hB0:=MI hB
   clear hO hB hZ
   go_wp2_with fail
   go_ret
   exact⟨g2,cap2,z',rfl,hO0.out,hw',hB0.out,h1⟩
theorem rP{P:Program}{ops:Array Oper}{o:Oper}{a:Act}{w:World}{K:Act→World→Prop}{Q:Exit→Act→World→Prop}{E:Prop}(hgd:o.guard=none)(ty:TypeId)(x y:Operand)(ho:o.op= .store ty x y)(g:Nat)(cells:Array Value)(hx:a.eval x= .pointer (some ⟨g,0,none⟩))(hy:a.eval y= .agg cells)(t:TypeId)(old:Array Value)(hg:w.heap[g]? =some (.cells old t (0,0)))(hi:(P.info? ty).map (·.size)=some cells.size)(hold:old.size=cells.size)(h1:cells.all (·.oneCell')=true)(h:K (a.put o.dst undef) (w.setRow g cells)):if Region.wanted o (yielded ops a.tmps)=true then Oper.wp P o a w K Q else E:=by
 rw[if_pos (by simp[Region.wanted,hgd])]
 exact wp_store_row ty x y ho g cells hx hy t old hg hi hold h1 h
def bz{α:Type}(xs:List α)(o:Nat)(vs:List α):List α:=xs.take o++(vs++xs.drop (o+vs.length))
theorem jy{α:Type}(xs:List α)(o:Nat)(vs:List α)(h:o+vs.length≤xs.length):(bz xs o vs).length=xs.length:=by simp[bz];omega
theorem tN{α:Type}(xs:List α)(o:Nat)(vs:List α)(h:o+vs.length≤xs.length)(j:Nat):(bz xs o vs)[j]? =if o≤j∧j<o+vs.length then vs[j - o]? else xs[j]? :=by
 unfold bz
 by_cases h1:j<o
 ·rw[if_neg (by omega),List.getElem?_append_left (by simp;omega),List.getElem?_take_of_lt h1]
 ·rw[List.getElem?_append_right (by simp;omega)]
  have h2:(xs.take o).length=o:=by simp;omega
  rw[h2]
  by_cases h3:j<o+vs.length
  ·rw[if_pos (by omega),List.getElem?_append_left (by omega)]
  ·rw[if_neg (by omega),List.getElem?_append_right (by omega),List.getElem?_drop,show o+vs.length+(j - o - vs.length)=j by omega]
theorem BI(cs:Array Value)(o:Nat)(vs:List Value)(h:o+vs.length≤cs.size):spl cs o vs=(bz cs.toList o vs).toArray:=by
 apply Array.ext_getElem?
 intro j
 have h2:=tN cs.toList o vs (by simpa using h) j
 have h3:(bz cs.toList o vs).toArray[j]? =(bz cs.toList o vs)[j]? :=List.getElem?_toArray ..
 have h4:cs.toList[j]? =cs[j]? :=Array.getElem?_toList ..
 rw[su vs cs o j h,h3,h2,h4]
theorem yu{w:World}{base e size n:Nat}{v:Value}{xs:List Value}(h:w.ownsRow base e size v n xs){g cap:Nat}(hv:v= .slice (some ⟨g,0,none⟩) n cap)(o:Nat)(vs:List Value)(ho:o+vs.length≤n*size):(w.setCells g o vs).ownsRow base e size v n (bz xs o vs):=by
 obtain⟨h0,h1⟩:=h
 rcases h1 with⟨e1,_⟩ | ⟨g',cap',cur,e1,hb,hg,hnc,hcm,hcs,htk⟩
 ·rw[e1] at hv;cases hv
 ·rw[e1] at hv
  cases hv
  have hle:n*size≤cap*size:=Nat.mul_le_mul_right _ hnc
  refine⟨by rw[jy _ _ _ (by omega)];exact h0,.inr ⟨g,cap,spl cur o vs,e1,hb,iE _ _ _ _ _ _ hg,hnc,hcm,by rw[IQ];exact hcs,?_⟩⟩
  apply List.ext_getElem?
  intro j
  rw[tN _ _ _ (by omega)]
  by_cases hj:j<n*size
  ·have h5:xs[j]? =cur[j]? :=by rw[←htk,List.getElem?_take_of_lt hj,Array.getElem?_toList]
   rw[List.getElem?_take_of_lt hj,Array.getElem?_toList,su vs cur o j (by omega),h5]
  ·rw[if_neg (by omega),List.getElem?_eq_none (by simp;omega),List.getElem?_eq_none (by omega)]
theorem Blk.setCells{k:IntKind}{w:World}{b t:Nat}{zs vs:List Int}(h:Blk k w b t zs)(o:Nat)(ho:o+vs.length≤zs.length):Blk k (w.setCells b o (vs.map (Value.int k))) b t (bz zs o vs):=by
 unfold Blk
 rw[iE _ _ _ _ _ _ h,BI _ _ _ (by simpa using ho)]
 simp[bz,List.map_take,List.map_drop]
theorem Blk.range{k:IntKind}{w:World}{b t:Nat}{zs:List Int}(h:Blk k w b t zs)(o n:Nat)(ho:o+n≤zs.length):w.rangeAt b o (((zs.drop o).take n).map (Value.int k)):=fun j v hv=>by
 have hj:j<n:=by have:=(List.getElem?_eq_some_iff.1 hv).1;simp at this;omega
 rw[h.cell (by omega),←hv]
 simp[hj,List.getD,show o+j<zs.length by omega]
theorem nV{w:World}{base e size n:Nat}{xs:List Value}{g cap:Nat}(h:w.ownsRow base e size (.slice (some ⟨g,0,none⟩) n cap) n xs)(o m:Nat):w.rangeAt g o ((xs.drop o).take m):=fun j v hv=>by
 have hj:j<m:=by have:=(List.getElem?_eq_some_iff.1 hv).1;simp at this;omega
 rw[List.getElem?_take_of_lt hj,List.getElem?_drop] at hv
 have:=h.cells (g:=g) rfl (o+j) v hv
 rwa [add0,Nat.zero_add] at this
theorem yY{w:World}{b t:Nat}{cs:Array Value}(h:w.heap[b]? =some (.cells cs t (0,0)))(o n:Nat)(ho:o+n≤cs.size):w.there b o n:=fun j hj=>by
 refine⟨?_,L6 h⟩
 rw[LZ h,Array.getElem?_eq_getElem (by omega)]
 rfl
theorem Gn{w:World}{base e size n:Nat}{xs:List Value}{g cap:Nat}(h:w.ownsRow base e size (.slice (some ⟨g,0,none⟩) n cap) n xs)(o m:Nat)(ho:o+m≤n*size):w.there g o m:=by
 rcases h.2 with⟨e1,_⟩ | ⟨g',cap',cur,e1,hb,hg,hnc,hcm,hcs,htk⟩
 ·cases e1
 ·cases e1
  have hle:n*size≤cap*size:=Nat.mul_le_mul_right _ hnc
  exact yY hg o m (by omega)
theorem mW{B:Nat}{a w:World}(h:Below B a w){b:Nat}(hb:B≤b)(o:Nat)(vs:List Value):Below B a (w.setCells b o vs):=kR vs h hb o
structure Sr where
 nl:List Int
 rate:Int
 loop:Bool
 ls:Int
 le:Int
 d:Option Addr
 dc:Nat
 cs:List (List Int)
def srA(s:Sr):Array Value:=#[.string (strOfNums s.nl),.int .i64 s.rate,.bool s.loop,.int .i64 s.ls,.int .i64 s.le,.slice s.d s.cs.length s.dc]
def srV(s:Sr):List Value:=[.string (strOfNums s.nl),.int .i64 s.rate,.bool s.loop,.int .i64 s.ls,.int .i64 s.le,.slice s.d s.cs.length s.dc]
structure lY(w:World)(s:Sr):Prop where
 nb:Byt s.nl
 nl:s.nl.length≤1000000000000
 n:s.cs.length≤1000000
 c: ∀k,k<s.cs.length→∃a ao cap,s.d=some a∧w.cell? (a.add k)=some (.slice ao (s.cs.getD k []).length cap)∧Ints .i64 w ao (s.cs.getD k []).length (s.cs.getD k [])
theorem lY.ah{w w':World}{s:Sr}(h:lY w s)(hb:Below w.heap.size w w'):lY w' s:=
 ⟨h.nb,h.nl,h.n,fun k hk=>by
  obtain⟨a,ao,cap,h1,h2,h3⟩:=h.c k hk
  exact⟨a,ao,cap,h1,(hb.cell (World.block_lt_of_cell? w _ h2)).trans h2,h3.ah hb⟩⟩
theorem dM{w:World}{b:Nat}{v0 v1 v2 v3 v4 v5:Value}{T:Nat}(h:w.heap[b]? =some (.cells #[v0,v1,v2,v3,v4,v5] T (0,0))):w.cell? ⟨b,0,none⟩=some v0∧w.cell? ⟨b,1,none⟩=some v1∧w.cell? ⟨b,2,none⟩=some v2∧w.cell? ⟨b,3,none⟩=some v3∧w.cell? ⟨b,4,none⟩=some v4∧w.cell? ⟨b,5,none⟩=some v5:=
 ⟨LY h rfl,LY h rfl,LY h rfl,LY h rfl,LY h rfl,LY h rfl⟩
theorem oq(a:Addr):a.add 0=a:=by unfold Addr.add;split<;>simp_all
def jr(s:Sr):Nat:=(s.cs.getD 0 []).length
theorem uC(s:Sr)(w:World)(h:lY w s):Calls Tryz.prog 92 #[.agg (srA s)] w (fun e w'=>e= .returned (.int .i64 (jr s:Int))∧Below w.heap.size w w'):=by
 have hba:=ae w (.cells (srA s) 76)
 have hz0:=L9 w (.cells (srA s) 76)
 obtain⟨a0,a1,a2,a3,a4,a5⟩:=dM hz0
 have hO:=h.ah hba
 have HB:=MI hba
 have hn:=h.n
 by_cases h0:s.cs.length=0
 ·have hl:Hid (jr s=0):=by unfold Hid jr;rw[List.eq_nil_of_length_eq_zero h0];rfl
  rw[h0] at a5
  unfold srA at*
  rw[h0] at HB
  clear hO hba hz0
  go_enter Tryz.func92,Tryz.ntmps92
  go_wp2_with fail
  go_ret
  exact⟨by rw[hl.out];rfl,HB.out⟩
 ·obtain⟨a,ao,cap,hd,hc,hi⟩:=hO.c 0 (by omega)
  have hl:Hid (jr s=(s.cs.getD 0 []).length):=rfl
  have hlm:=hi.lim
  unfold maxLen at hlm
  rw[hd] at a5
  have h0i:¬(s.cs.length:Int)=0:=by omega
  have h0b:((s.cs.length:Int)==0)=false:=beq_eq_false_iff_ne.2 h0i
  have hc0:(w.alloc (.cells (srA s) 76)).cell? a=some (.slice ao (s.cs.getD 0 []).length cap):=by rw[←hc,oq]
  have h0n:0<s.cs.length:=by omega
  clear hO hba hz0 hi hc
  generalize (s.cs.getD 0 []).length=q at*
  unfold srA at*
  simp only[hd] at a0 a1 a2 a3 a4 a5 hc0 HB⊢
  go_enter Tryz.func92,Tryz.ntmps92
  go_wp2_with fail
  go_ret
  exact⟨by rw[hl.out];rfl,HB.out⟩
def fG(s:Sr):Mt:=⟨strOfNums s.nl,jr s,s.rate.toNat,s.cs.length,s.loop,s.ls.toNat,s.le.toNat,0,0⟩
theorem CX(s:Sr)(h1:0≤s.rate)(h2:0≤s.ls)(h3:0≤s.le)(w:World)(h:lY w s):Calls Tryz.prog 57 #[.agg (srA s)] w (fun e w'=>e= .returned (.agg (aB (fG s)))∧Below w.heap.size w w'):=by
 have hba:=ae w (.cells (srA s) 76)
 have hz0:=L9 w (.cells (srA s) 76)
 have hb1:=ae (w.alloc (.cells (srA s) 76)) (.cells Z54 54)
 have hz1:=L9 (w.alloc (.cells (srA s) 76)) (.cells Z54 54)
 have hz0:=rwB hz0 hb1
 have hB:=hba.trans (hb1.mono hba.size)
 rw[World.size_alloc] at hz1
 have hO:=h.ah hB
 have hL:=MI (fun W h=>uC s W h)
 have hm:Hid (aB (fG s)=#[.string (strOfNums s.nl),.int .i64 (jr s:Int),.int .i64 s.rate,.int .i64 (s.cs.length:Int),.bool s.loop,.int .i64 s.ls,.int .i64 s.le,.int .i64 0,.int .i64 0]):=by
  unfold Hid aB fG
  simp only[Int.toNat_of_nonneg h1,Int.toNat_of_nonneg h2,Int.toNat_of_nonneg h3]
  rfl
 have HO:=MI hO
 have HB:=MI hB
 have HZ1:=MI hz1
 have hsz:(Tryz.prog.info? 76).map (·.size)=some (srA s).size:=by kernel_rfl
 have hn:=h.n
 clear hO hba hb1 hB h hz1
 go_enter Tryz.func57,Tryz.ntmps57
 go_upto_region 1 with fail
 have hsz2:(Tryz.prog.info? 54).map (·.size)=some (aB (fG s)).size:=by kernel_rfl
 have hone:=jc (fG s)
 change Code.wp _ _ _ _ ((w.alloc (.cells (srA s) 76)).alloc (.cells Z54 54))
 generalize (w.alloc (.cells (srA s) 76)).alloc (.cells Z54 54)=W at*
 have hLW:=MI (hL.out W.drew (HO.out.ah (Below.refl _ W).drew))
 have hZ1:=HZ1.out
 have hneb:w.heap.size+1≠w.heap.size:=by omega
 refine wp_region_noPanic ?_
 refine wp_region_held_drew (S:=fun w'=>w'.heap[w.heap.size]? =some (.cells (srA s) 76 (0,0))∧∃cs:Array Value,w'.heap[w.heap.size+1]? =some (.cells cs 54 (0,0))∧cs.size=(aB (fG s)).size) (by kernel_rfl) ?_ (fun hHeld=>?_)
 ·exact⟨hz0,Z54,hZ1,rfl⟩
 refine MG 0 ?_ ?_ (by assumption) ?_
 rotate_left
 ·(intro w hSw;(try dsimp only at hSw);go_simp;try with_reducible rfl)
 try simp only[Act.put,aS]
 refine MG 4 ?_ ?_ (by assumption) ?_
 rotate_left
 ·(intro w hSw;(try dsimp only at hSw);go_simp;try with_reducible rfl)
 try simp only[Act.put,aS]
 refine MG 6 ?_ ?_ (by assumption) ?_
 rotate_left
 ·(intro w hSw;(try dsimp only at hSw);go_simp;try with_reducible rfl)
 try simp only[Act.put,aS]
 refine MG 9 ?_ ?_ (by assumption) ?_
 rotate_left
 ·(intro w hSw;(try dsimp only at hSw);go_simp;try with_reducible rfl)
 try simp only[Act.put,aS]
 refine MG 11 ?_ ?_ (by assumption) ?_
 rotate_left
 ·(intro w hSw;(try dsimp only at hSw);go_simp;try with_reducible rfl)
 try simp only[Act.put,aS]
 refine MG 13 ?_ ?_ (by assumption) ?_
 rotate_left
 ·(intro w hSw;(try dsimp only at hSw);go_simp;try with_reducible rfl)
 try simp only[Act.put,aS]
 refine MG 1 ?_ ?_ (by assumption) ?_
 rotate_left
 ·(intro w' hSw;obtain⟨a0,a1,a2,a3,a4,a5⟩:=dM hSw.1;(try dsimp only at*);go_simp;try with_reducible rfl)
 try simp only[Act.put,aS]
 refine MG 5 ?_ ?_ (by assumption) ?_
 rotate_left
 ·(intro w' hSw;obtain⟨a0,a1,a2,a3,a4,a5⟩:=dM hSw.1;(try dsimp only at*);go_simp;try with_reducible rfl)
 try simp only[Act.put,aS]
 refine MG 7 ?_ ?_ (by assumption) ?_
 rotate_left
 ·(intro w' hSw;obtain⟨a0,a1,a2,a3,a4,a5⟩:=dM hSw.1;(try dsimp only at*);go_simp;try with_reducible rfl)
 try simp only[Act.put,aS]
 refine MG 10 ?_ ?_ (by assumption) ?_
 rotate_left
 ·(intro w' hSw;obtain⟨a0,a1,a2,a3,a4,a5⟩:=dM hSw.1;(try dsimp only at*);go_simp;try with_reducible rfl)
 try simp only[Act.put,aS]
 refine MG 12 ?_ ?_ (by assumption) ?_
 rotate_left
 ·(intro w' hSw;obtain⟨a0,a1,a2,a3,a4,a5⟩:=dM hSw.1;(try dsimp only at*);go_simp;try with_reducible rfl)
 try simp only[Act.put,aS]
 refine MG 14 ?_ ?_ (by assumption) ?_
 rotate_left
 ·(intro w' hSw;obtain⟨a0,a1,a2,a3,a4,a5⟩:=dM hSw.1;(try dsimp only at*);go_simp;try with_reducible rfl)
 try simp only[Act.put,aS]
 refine MG 8 ?_ ?_ (by assumption) ?_
 rotate_left
 ·(intro w hSw;(try dsimp only at hSw);go_simp;try with_reducible rfl)
 try simp only[Act.put,aS]
 refine wpAnyH_take (i:=2) (v:=.agg (srA s)) rfl (by kernel_rfl) (by kernel_rfl) (by kernel_rfl) (fun _ _ _ h=>h) (aU (by kernel_rfl) 76 (.tmp 1) rfl w.heap.size rfl 76 (srA s) (0,0) _ (fun w h=>h.1) Tryz.underlying76 rfl hsz) (by assumption) ?_
 try simp only[Act.put,aS]
 refine wpAnyH_ready (rs:=[3]) (by kernel_rfl) (by simp) ?_
 refine AllReadyH.cons rfl (fun K hK=>?_) AllReadyH.nil
 go_simp
 go_at_call 92;refine hLW.out.mono ?_;rintro e w3 ⟨rfl,hb3⟩
 refine hK.out _ _ ?_ (fun hHeld=>?_)
 ·(try dsimp only);obtain⟨hH1,cs1,hcs1,hz1⟩:=hHeld;exact⟨rwB hH1 hb3,cs1,rwB hcs1 hb3,hz1⟩
 clear hK K
 try simp only[Act.put,aS]
 refine MG 15 ?_ ?_ (by assumption) ?_
 rotate_left
 ·(intro w hSw;(try dsimp only at hSw);go_simp;try with_reducible rfl)
 try simp only[Act.put,aS]
 obtain⟨cs1,hcs1,hcz1⟩:=hHeld.2
 have hR3:=Md (aB (fG s)) hcs1
 refine wpAnyH_ready (rs:=[16]) (by kernel_rfl) (by simp) ?_
 refine AllReadyH.cons rfl (fun K hK=>?_) AllReadyH.nil
 refine rP rfl 54 (.tmp 2) (.tmp 18) rfl (w.heap.size+1) (aB (fG s)) rfl (by rw[hm.out];rfl) 54 cs1 hcs1 hsz2 hcz1 hone ?_
 refine hK.out _ _ ?_ (fun hH2=>?_)
 ·exact⟨(setRow_other _ _ _ _ (fun e=>hneb e.symm)).trans hHeld.1,_,hR3,rfl⟩
 clear hK K
 try simp only[Act.put,aS]
 refine wpAnyH_done (by kernel_rfl) ?_ _
 refine NoPanic.normal ?_
 go_wp2_with fail
 exact bodyPost_ret (results_cell_row rfl _ _ (w.heap.size+1) 54 _ (0,0) _ rfl hR3 Tryz.underlying54 rfl hsz2) rfl ⟨rfl,below_setRow (HB.out.drew.trans (hb3.mono HB.out.size)) (Nat.le_succ _) _⟩
def nmB(t:ByteArray):List Int:=t.data.toList.map (fun x=>(x.toNat:Int))
theorem Ei(t:ByteArray):(nmB t).length=t.size:=by simp[nmB]
def six(m:Mt):List Nat:=[m.len,m.rate,m.ls,m.le,m.sums,m.first]
def qZ(zs:List Int)(off:Nat)(m:Mt):Nat→List Int
 | 0=>bz zs off (nmB m.nm)
 | i+1=>jP (qZ zs off m i) (off+(32+4*i)) 4 ((six m).getD i 0) 4
def Aq(zs:List Int)(off:Nat)(m:Mt):List Int:=
 let z:=(qZ zs off m 6).set (off+56) ((m.ch:Int)%256)
 if m.loop then z.set (off+57) 1 else z
structure MtB(m:Mt):Prop where
 nm:m.nm.size≤32
 six: ∀i,(six m).getD i 0<4294967296
 ch:m.ch≤2
theorem Ar(zs:List Int)(off:Nat)(m:Mt)(h:off+m.nm.size≤zs.length): ∀i,(qZ zs off m i).length=zs.length:=by
 intro i
 induction i with
 | zero=>exact jy _ _ _ (by rw[Ei];exact h)
 | succ i ih=>rw[qZ,kN,ih]
theorem KC(zs:List Int)(off:Nat)(m:Mt)(h:off+m.nm.size≤zs.length):(Aq zs off m).length=zs.length:=by
 unfold Aq
 split<;>simp[Ar zs off m h]
theorem Ap(ib off len cap:Nat)(zs:List Int)(m:Mt)(hm:MtB m)(hl:off+len≤zs.length)(h64:64≤len)(hz:zs.length≤60000)(w:World)(h:Blk .u8 w ib 5 zs):Calls Tryz.prog 97 #[.slice (some ⟨ib,off,none⟩) len cap,.agg (aB m)] w (NumP ib (Aq zs off m) w):=by
 have hba:=ae w (.cells (aB m) 54)
 have hz0:=L9 w (.cells (aB m) 54)
 have hlt:=h.lt
 have hB:=h.ah hba
 have hnl:=Ar zs off m (by have:=hm.nm;omega)
 have HNL:=MI hnl
 have HMX:=MI hm
 have hnm:=hm.nm
 have HK:=MI (af.au (S:=fun k=>k=ib) hba Me)
 have hcp: ∀ty,(Builtin.copy_ #[63,9] ty #[.slice (some ⟨ib,off,none⟩) len cap,.string m.nm]).run Tryz.prog (w.alloc (.cells (aB m) 54))= .ok (goInt m.nm.size) ((w.alloc (.cells (aB m) 54)).setCells ib off (m.nm.data.toList.map fun x=>Value.int .u8 (x.toNat:Int))):=fun ty=>run_copy_string _ 63 9 ty 5 ib off len cap m.nm Tryz.underlying63 (fun W=>by kernel_rfl) (by omega) (fun j hj=>by rw[hB.cell (by omega)];rfl) (fun j hj=>hB.frozen _)
 have hne:w.heap.size≠ib:=by omega
 have hB1:Blk .u8 ((w.alloc (.cells (aB m) 54)).setCells ib off (m.nm.data.toList.map fun x=>Value.int .u8 (x.toNat:Int))) ib 5 (qZ zs off m 0):=by
  have h5:=Blk.setCells (vs:=nmB m.nm) hB off (by rw[Ei];omega)
  rw[show(nmB m.nm).map (Value.int .u8)=m.nm.data.toList.map (fun x=>Value.int .u8 (x.toNat:Int)) by simp[nmB,List.map_map,Function.comp_def]] at h5
  exact h5
 have hz1:=(fZ (m.nm.data.toList.map fun x=>Value.int .u8 (x.toNat:Int)) (w.alloc (.cells (aB m) 54)) ib off w.heap.size hne).trans hz0
 have hK1:af (fun k=>k=ib) w ((w.alloc (.cells (aB m) 54)).setCells ib off (m.nm.data.toList.map fun x=>Value.int .u8 (x.toNat:Int))):=af.setCells _ HK.out (.inr rfl) off
 obtain⟨a0,a1,a2,a3,a4,a5,a6,a7,a8⟩:=fK hz0
 have HB1:=MI hB1
 have HZ1:=MI hz1
 have HK1:=MI hK1
 clear hba hB hnl hm h hB1 hz1 hK1 hz0 HK
 go_enter Tryz.func97,Tryz.ntmps97
 go_upto_region 2 with fail
 clear hcp a0 a1 a2 a3 a4 a5 a6 a7 a8
 generalize (w.alloc (.cells (aB m) 54)).setCells ib off (m.nm.data.toList.map fun x=>Value.int .u8 (x.toNat:Int))=W at*
 obtain⟨a0,a1,a2,a3,a4,a5,a6,a7,a8⟩:=fK HZ1.out
 have HIX:=MI (fun(k:Nat)(hk:k<6) W=>show(Instr.index 163 (.agg #[.int .i64 (m.len:Int),.int .i64 (m.rate:Int),.int .i64 (m.ls:Int),.int .i64 (m.le:Int),.int .i64 (m.sums:Int),.int .i64 (m.first:Int)]) (.int .i64 (k:Int))).run Tryz.prog W= .ok (.int .i64 (((six m).map (fun n:Nat=>(n:Int))).getD k 0)) W from iG (P:=Tryz.prog) 163 3 6 Tryz.underlying163 Tryz.underlying3 (by kernel_rfl) ((six m).map (fun n:Nat=>(n:Int))) rfl k hk W)
 have HSX:Hid (∀k,k<6→((six m).map (fun n:Nat=>(n:Int))).getD k 0=(((six m).getD k 0:Nat):Int)):=fun k hk=>by
  rcases k with _ | _ | _ | _ | _ | _ | k<;>first | rfl | omega
 go_upto_region 3 with fail
 clear a0 a1 a2 a3 a4 a5 a6 a7 a8
 go_loopw [23] (fun v23 wr=>∃i:Nat,i≤6∧v23= .int .i64 (i:Int)∧Blk .u8 wr ib 5 (qZ zs off m i)∧af (fun k=>k=ib) w wr∧wr.heap[w.heap.size]? =some (.cells (aB m) 54 (0,0))) (fun v23 _=>6 - aG v23)
 case atStart=>exact⟨0,by omega,rfl,HB1.out,HK1.out,HZ1.out⟩
 case round=>
  clear HB1 HK1 HZ1
  obtain⟨i,hi,rfl,hB,hK,hZ⟩:=hrel
  by_cases hi6:i<6
  ·have hix:=HIX.out i hi6
   rw[HSX.out i hi6] at hix
   have h6:=HMX.out.six i
   have e1:IntKind.i64.wrap (4*(i:Int))=4*(i:Int):=IntWalk.i64_in _ (by omega)
   have e2:IntKind.i64.wrap (32+4*(i:Int))=((32+4*i:Nat):Int):=by rw[show 32+4*(i:Int)=((32+4*i:Nat):Int) by omega];exact IntWalk.i64_in _ (by omega)
   have hN:=MI (kM ib off len cap (qZ zs off m i) (32+4*i) 4 ((six m).getD i 0) (by decide) (by omega) (by rw[HNL.out i];exact hl) (by rw[HNL.out i];exact hz) h6 wr hB)
   have hNx:Hid (qZ zs off m (i+1)=jP (qZ zs off m i) (off+(32+4*i)) 4 ((six m).getD i 0) 4):=rfl
   have HK:=MI hK
   have HZ:=MI hZ
   clear hB hK hZ
   generalize (six m).getD i 0=si at*
   generalize 32+4*i=oi at*
   go_wp2_with (go_at_call 96;refine hN.out.mono ?_;rintro e w2 ⟨rfl,hB2,hk2⟩)
   exact⟨⟨i+1,by omega,by go_num,by rw[hNx.out];exact hB2,HK.out.trans hk2,hk2.heap HZ.out hne⟩,by simp[aG];omega⟩
  ·obtain rfl:i=6:=by omega
   obtain⟨a0,a1,a2,a3,a4,a5,a6,a7,a8⟩:=fK hZ
   have hl6:=HNL.out 6
   have hcb:=hB.cell (i:=off+56) (by omega)
   have hfb:=hB.frozen (off+56)
   have hset:=hB.set (off+56) ((m.ch:Int)%256)
   have hcb2:=hset.cell (i:=off+57) (by rw[List.length_set];omega)
   have hfb2:=hset.frozen (off+57)
   have hset2:=hset.set (off+57) 1
   have hEZ:Hid (Aq zs off m=if m.loop then((qZ zs off m 6).set (off+56) ((m.ch:Int)%256)).set (off+57) 1 else(qZ zs off m 6).set (off+56) ((m.ch:Int)%256)):=rfl
   have hk1:af (fun k=>k=ib) w (wr.setCell ⟨ib,off+56,none⟩ (.int .u8 ((m.ch:Int)%256))):=hK.setCell (p:=⟨ib,off+56,none⟩) (.inr rfl) _
   have hlp: ∀u,(wr.setCell ⟨ib,off+56,none⟩ u).cell? ⟨w.heap.size,4,none⟩=some (.bool m.loop):=fun u=>(aC wr ib (off+56) u).cell a4 hne
   have HS:=MI hset
   have HS2:=MI hset2
   have HK1:=MI hk1
   clear hset hset2 hB hK hZ hk1
   cases hml:m.loop
   ·rw[hml] at hlp hEZ a4
    go_wp2_with fail
    go_end0
    exact⟨rfl,by rw[hEZ.out];exact HS.out,HK1.out⟩
   ·rw[hml] at hlp hEZ a4
    go_wp2_with fail
    go_end0
    exact⟨rfl,by rw[hEZ.out];exact HS2.out,HK1.out.setCell (p:=⟨ib,off+57,none⟩) (.inr rfl) _⟩
def mg(m:Mt):Bool:=ku (numsOf m.nm)&&(decide (1≤m.len)&&(decide (m.len≤1048576)&&(decide (1≤m.rate)&&(decide (m.rate≤192000)&&(decide (m.ch=1∨m.ch=2)&&oO m.loop m.ls m.le m.len)))))
theorem CQ(s:ByteArray):Byt (numsOf s):=CP s
theorem FM{m:Mt}(h:mg m=true):m.Ok:=by
 unfold mg at h
 simp only[Bool.and_eq_true,decide_eq_true_eq] at h
 obtain⟨_,h1,h2,h3,h4,h5,h6⟩:=h
 have h7:(m.loop=true→m.ls<m.le)∧m.le≤m.len∧(m.loop=false→m.ls=0∧m.le=0):=by
  unfold oO at h6
  cases hl:m.loop with
  | true=>
   rw[hl] at h6
   simp only[if_true,decide_eq_true_eq] at h6
   exact⟨(fun _=>by omega),by omega,(fun h=>by cases h)⟩
  | false=>
   rw[hl] at h6
   simp only[Bool.false_eq_true,if_false,decide_eq_true_eq] at h6
   exact⟨(fun h=>by cases h),by omega,(fun _=>by omega)⟩
 exact⟨h1,h2,h3,h4,by omega,by omega,h7.1,h7.2.1,h7.2.2⟩
theorem vM(m:Mt)(hnm:m.nm.size≤1000000)(w:World):Calls Tryz.prog 81 #[.agg (aB m)] w (fun e w'=>e= .returned (.bool (mg m))∧Below w.heap.size w w'):=by
 have HB:=MI (ae w (.cells (aB m) 54))
 have HI0:=uH (numsOf m.nm) (CQ _) (by rw[CO];omega) (w.alloc (.cells (aB m) 54))
 rw[xW] at HI0
 have HI:=MI HI0
 have HL:=MI (vW m.loop m.ls m.le m.len (w.alloc (.cells (aB m) 54)))
 have HD:=MI (show mg m=(ku (numsOf m.nm)&&(decide (1≤m.len)&&(decide (m.len≤1048576)&&(decide (1≤m.rate)&&(decide (m.rate≤192000)&&(decide (m.ch=1∨m.ch=2)&&oO m.loop m.ls m.le m.len)))))) from rfl)
 clear HI0
 generalize mg m=R at*
 generalize ku (numsOf m.nm)=bI at*
 generalize hlz:oO m.loop m.ls m.le m.len=bL at*
 have HLz:=MI hlz
 clear hlz
 obtain⟨nm,len,rate,ch,loop,ls,le,sums,first⟩:=m
 unfold aB at*
 simp only at*
 cases bI with
 | false=>
  have hR:=MI (show R=false by rw[HD.out];rfl)
  clear HD
  go_enter Tryz.func81,Tryz.ntmps81
  go_wp2_with (first | (go_at_call 119;refine HI.out.mono ?_;rintro e w' ⟨rfl,rfl⟩) | (go_at_call 120;refine HL.out.mono ?_;rintro e w' ⟨rfl,rfl⟩))
  go_ret
  exact⟨by rw[hR.out];rfl,HB.out⟩
 | true=>
  by_cases h0:1≤len
  case neg=>
   have hR:=MI (show R=false by rw[HD.out,decide_eq_false h0];rfl)
   have g0:¬(1≤(len:Int)):=by omega
   clear HD
   go_enter Tryz.func81,Tryz.ntmps81
   go_wp2_with (first | (go_at_call 119;refine HI.out.mono ?_;rintro e w' ⟨rfl,rfl⟩) | (go_at_call 120;refine HL.out.mono ?_;rintro e w' ⟨rfl,rfl⟩))
   go_ret
   exact⟨by rw[hR.out];rfl,HB.out⟩
  case pos=>
   have g0:1≤(len:Int):=by omega
   by_cases h1:len≤1048576
   case neg=>
    have hR:=MI (show R=false by rw[HD.out,decide_eq_true h0,decide_eq_false h1];rfl)
    have g1:¬((len:Int)≤1048576):=by omega
    clear HD
    go_enter Tryz.func81,Tryz.ntmps81
    go_wp2_with (first | (go_at_call 119;refine HI.out.mono ?_;rintro e w' ⟨rfl,rfl⟩) | (go_at_call 120;refine HL.out.mono ?_;rintro e w' ⟨rfl,rfl⟩))
    go_ret
    exact⟨by rw[hR.out];rfl,HB.out⟩
   case pos=>
    have g1:(len:Int)≤1048576:=by omega
    by_cases h2:1≤rate
    case neg=>
     have hR:=MI (show R=false by rw[HD.out,decide_eq_true h0,decide_eq_true h1,decide_eq_false h2];rfl)
     have g2:¬(1≤(rate:Int)):=by omega
     clear HD
     go_enter Tryz.func81,Tryz.ntmps81
     go_wp2_with (first | (go_at_call 119;refine HI.out.mono ?_;rintro e w' ⟨rfl,rfl⟩) | (go_at_call 120;refine HL.out.mono ?_;rintro e w' ⟨rfl,rfl⟩))
     go_ret
     exact⟨by rw[hR.out];rfl,HB.out⟩
    case pos=>
     have g2:1≤(rate:Int):=by omega
     by_cases h3:rate≤192000
     case neg=>
      have hR:=MI (show R=false by rw[HD.out,decide_eq_true h0,decide_eq_true h1,decide_eq_true h2,decide_eq_false h3];rfl)
      have g3:¬((rate:Int)≤192000):=by omega
      clear HD
      go_enter Tryz.func81,Tryz.ntmps81
      go_wp2_with (first | (go_at_call 119;refine HI.out.mono ?_;rintro e w' ⟨rfl,rfl⟩) | (go_at_call 120;refine HL.out.mono ?_;rintro e w' ⟨rfl,rfl⟩))
      go_ret
      exact⟨by rw[hR.out];rfl,HB.out⟩
     case pos=>
      have g3:(rate:Int)≤192000:=by omega
      by_cases h5:ch=1
      case pos=>
       have hR:=MI (show R=bL by rw[HD.out,decide_eq_true h0,decide_eq_true h1,decide_eq_true h2,decide_eq_true h3,decide_eq_true (.inl h5)];rfl)
       subst h5
       clear HD
       go_enter Tryz.func81,Tryz.ntmps81
       go_wp2_with (first | (go_at_call 119;refine HI.out.mono ?_;rintro e w' ⟨rfl,rfl⟩) | (go_at_call 120;refine HL.out.mono ?_;rintro e w' ⟨rfl,rfl⟩))
       go_ret
       exact⟨by rw[hR.out];rfl,HB.out⟩
      case neg=>
       have n5:((ch:Int)==1)=false:=by simp;omega
       by_cases h6:ch=2
       case pos=>
        have hR:=MI (show R=bL by rw[HD.out,decide_eq_true h0,decide_eq_true h1,decide_eq_true h2,decide_eq_true h3,decide_eq_true (.inr h6)];rfl)
        subst h6
        clear HD
        go_enter Tryz.func81,Tryz.ntmps81
        go_wp2_with (first | (go_at_call 119;refine HI.out.mono ?_;rintro e w' ⟨rfl,rfl⟩) | (go_at_call 120;refine HL.out.mono ?_;rintro e w' ⟨rfl,rfl⟩))
        go_ret
        exact⟨by rw[hR.out];rfl,HB.out⟩
       case neg=>
        have hR:=MI (show R=false by rw[HD.out,decide_eq_true h0,decide_eq_true h1,decide_eq_true h2,decide_eq_true h3,decide_eq_false (fun h=>h.elim h5 h6)];rfl)
        have n6:((ch:Int)==2)=false:=by simp;omega
        clear HD
        go_enter Tryz.func81,Tryz.ntmps81
        go_wp2_with (first | (go_at_call 119;refine HI.out.mono ?_;rintro e w' ⟨rfl,rfl⟩) | (go_at_call 120;refine HL.out.mono ?_;rintro e w' ⟨rfl,rfl⟩))
        go_ret
        exact⟨by rw[hR.out];rfl,HB.out⟩
end Go.Proofs.YtnicjahcgnhogaaGreatDoor
