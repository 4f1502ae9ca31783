/- Part 8 of the walk: contracts of the program's functions, each for every input. No condition. -/
import Derived.Test.YtnicjahcgnhogaaGreatDoorQ06
import Derived.Test.YtnicjahcgnhogaaGreatDoorQ01
import Derived.Deep.RegionWith
set_option linter.unusedVariables false
set_option linter.unusedSimpArgs false
set_option maxRecDepth 100000
set_option maxHeartbeats 8000000
namespace Go.Proofs.YtnicjahcgnhogaaGreatDoor
open Go Go.RowKit Go.Calli
attribute [local irreducible] wpStill wpAnyH wpAnyS wpList Code.wp
def vF(w:World)(B o:Nat)(L:List Int):Prop:=∀k,k<16→w.cell? ⟨B,o+k,none⟩=some (.int .i64 (L.getD k 0))
def tP(k:Nat):Int:=aI.getD (2*k) 0
def tU(k:Nat):Int:=aI.getD (2*k+1) 0
def JD(L:List Int)(O:Option (List Int))(i:Nat):Int:=
 match O with
 | none=>L.getD i 0
 | some M=>if i<8 then(kX (tP (min i (15 - i))) (tU (min i (15 - i))) (M.getD (15 - i) 0) (L.getD i 0)).2 else(kX (tP (min i (15 - i))) (tU (min i (15 - i))) (L.getD i 0) (M.getD (15 - i) 0)).1
def lN(L:List Int)(O:Option (List Int))(g:List Int)(i:Nat):Int:=rnd (JD L O i) (atZ g i).toNat
theorem EL(g:List Int)(hg:g.length=4)(i:Nat)(hi:i<16):atZ g i=((atZ g i).toNat:Int)∧(atZ g i).toNat≤62:=by
 unfold atZ
 split
 ·rename_i h
  unfold inB at h
  rw[List.all_eq_true] at h
  have:=h (g.getD (i/4) 0) (by rw[List.getD,List.getElem?_eq_getElem (by omega)];exact List.getElem_mem _)
  simp only[decide_eq_true_eq] at this
  omega
 ·exact⟨rfl,by decide⟩
theorem zK(B o:Nat)(L g:List Int)(hg:g.length=4)(i:Nat)(hi:i<16)(w:World)(hL:vF w B o L)(hB:B<w.heap.size):
  Calls Tryz.prog 210 #[.agg (iA cO),.pointer (some ⟨B,o,none⟩),.pointer none,.agg (iA g),.int .i64 (i:Int)] w (fun e w'=>e= .returned (.int .i64 (lN L none g i))∧Below w.heap.size w w'):=by
 have hb1:=ae w (.cells (iA cO) 178)
 have hb2:=ae (w.alloc (.cells (iA cO) 178)) (.cells (iA g) 191)
 have hz2:=L9 (w.alloc (.cells (iA cO) 178)) (.cells (iA g) 191)
 have hc:=hL i hi
 have hbb:=hb1.trans (hb2.mono hb1.size)
 have hc2:=(hbb.cell (p:=⟨B,o+i,none⟩) hB).trans hc
 have hg4:(Tryz.prog.info? 191).map (·.size)=some (iA g).size:=by rw[az,hg];kernel_rfl
 have HG:=MI (fun w=>yF g hg i hi w)
 obtain⟨hn1,hn2⟩:=EL g hg i hi
 have HR:=MI (fun w=>jA (JD L none i) (atZ g i).toNat hn2 w)
 have hi0:¬(i:Int)<0:=by omega
 have hi1:¬16≤(i:Int):=by omega
 have hi2:(i:Int)<16:=by omega
 have hm:JD L none i=L.getD i 0:=rfl
 rw[hm] at HR
 have HO:Hid (lN L none g i=rnd (L.getD i 0) (atZ g i).toNat):=rfl
 rw[hn1] at HG
 clear hc hb1 hb2 hm hn1 hn2
 generalize (atZ g i).toNat=p at*
 generalize L.getD i 0=v at*
 rw[World.size_alloc] at hz2
 go_enter Tryz.func210,Tryz.ntmps210
 go_upto_region 1 with fail
 generalize (w.alloc (.cells (iA cO) 178)).alloc (.cells (iA g) 191)=W at*
 go_wp2_with (first
  | (with_reducible refine MC 191 8 ?_;refine wpList_load_row rfl 191 (.tmp 8) rfl _ rfl 191 (iA g) (0,0) _ hz2 Tryz.underlying191 rfl hg4 ?_)
  | (go_at_call 192;refine(HG.out _).mono ?_;rintro e w1 ⟨rfl,hb1⟩)
  | (go_at_call 138;refine(HR.out _).mono ?_;rintro e w2 ⟨rfl,m,rfl⟩))
 go_ret
 exact⟨aX HO.out.symm,below_drewN (hbb.trans (hb1.mono hbb.size)) _⟩
theorem zJ(B o C q:Nat)(L M g:List Int)(hg:g.length=4)(i:Nat)(hi:i<16)(w:World)(hL:vF w B o L)(hB:B<w.heap.size)(hM:vF w C q M)(hC:C<w.heap.size):
  Calls Tryz.prog 210 #[.agg (iA cO),.pointer (some ⟨B,o,none⟩),.pointer (some ⟨C,q,none⟩),.agg (iA g),.int .i64 (i:Int)] w (fun e w'=>e= .returned (.int .i64 (lN L (some M) g i))∧Below w.heap.size w w'):=by
 have hb1:=ae w (.cells (iA cO) 178)
 have hb2:=ae (w.alloc (.cells (iA cO) 178)) (.cells (iA g) 191)
 have hz2:=L9 (w.alloc (.cells (iA cO) 178)) (.cells (iA g) 191)
 have hbb:=hb1.trans (hb2.mono hb1.size)
 have hc2:=(hbb.cell (p:=⟨B,o+i,none⟩) hB).trans (hL i hi)
 have hd2:=(hbb.cell (p:=⟨C,q+(15 - i),none⟩) hC).trans (hM (15 - i) (by omega))
 have hg4:(Tryz.prog.info? 191).map (·.size)=some (iA g).size:=by rw[az,hg];kernel_rfl
 have HG:=MI (fun w=>yF g hg i hi w)
 obtain⟨hn1,hn2⟩:=EL g hg i hi
 have hi0:¬(i:Int)<0:=by omega
 have hi1:¬16≤(i:Int):=by omega
 have hi2:(i:Int)<16:=by omega
 have hj:IntKind.i64.wrap (15 - (i:Int))=((15 - i:Nat):Int):=by rw[show(15:Int) - (i:Int)=((15 - i:Nat):Int) by omega];exact IntWalk.i64_in _ (by omega)
 have hj2:((15 - i:Nat):Int)<16:=by omega
 have HT:=MI (fun w=>yT (min i (15 - i)) (by omega) w)
 have HR:=MI (fun v w=>jA v (atZ g i).toNat hn2 w)
 rw[hn1] at HG
 clear hb1 hb2 hn1 hn2
 rw[World.size_alloc] at hz2
 have HC:=MI hbb
 have hBW:B<(((w.alloc (.cells (iA cO) 178)).alloc (.cells (iA g) 191))).heap.size:=Nat.lt_of_lt_of_le hB hbb.size
 have hCW:C<(((w.alloc (.cells (iA cO) 178)).alloc (.cells (iA g) 191))).heap.size:=Nat.lt_of_lt_of_le hC hbb.size
 clear hbb
 by_cases h8:i<8
 ·have h8':(i:Int)<8:=by omega
  have hmn:min i (15 - i)=i:=by omega
  rw[hmn] at HT
  have HO:Hid (lN L (some M) g i=rnd (kX (tP i) (tU i) (M.getD (15 - i) 0) (L.getD i 0)).2 (atZ g i).toNat):=by
   unfold Hid lN JD
   simp only
   rw[if_pos h8,hmn]
  have hX:=MI (fun w=>vw (tP i) (tU i) (M.getD (15 - i) 0) (L.getD i 0) w)
  unfold Bc at hX
  have e0:aI.getD (2*i) 0=tP i:=rfl
  have e1:aI.getD (2*i+1) 0=tU i:=rfl
  rw[e0,e1] at HT
  clear e0 e1
  generalize (atZ g i).toNat=p at*
  generalize L.getD i 0=a at*
  generalize hn:(15 - i:Nat)=n at*
  generalize M.getD n 0=b at*
  generalize kX (tP i) (tU i) b a=Y at*
  generalize tP i=tp at*
  generalize tU i=tu at*
  obtain⟨y0,y1⟩:=Y
  simp only at HO hX
  have hnl:(i:Int)≤(n:Int):=by omega
  go_enter Tryz.func210,Tryz.ntmps210
  go_upto_region 1 with fail
  generalize (w.alloc (.cells (iA cO) 178)).alloc (.cells (iA g) 191)=W at*
  go_upto_region 7 with(first
   | (go_at_call 145;refine(HT.out _).mono ?_;rintro e w1 ⟨rfl,hb1⟩))
  have hb3:=ae w1 (.cells #[.int .i64 tp,.int .i64 tu] 171)
  have hz3:=L9 w1 (.cells #[.int .i64 tp,.int .i64 tu] 171)
  have hb4:=hb1.trans (hb3.mono hb1.size)
  have c3:=(hb4.cell (p:=⟨B,o+i,none⟩) hBW).trans hc2
  have d3:=(hb4.cell (p:=⟨C,q+n,none⟩) hCW).trans hd2
  have hz4:=(hb4.block _ (L8 hz2)).trans hz2
  have HC4:=MI (HC.out.trans (hb4.mono HC.out.size))
  obtain⟨t0,t1⟩:=bD hz3
  clear hb1 hb3 hb4 hz3 hc2 hd2 hBW hCW HC hz2
  generalize w1.alloc (.cells #[.int .i64 tp,.int .i64 tu] 171)=W3 at*
  generalize w1.heap.size=tb at*
  have HZ:=MI hz4
  clear hz4
  go_region_with (go_at_call 231;refine(hX.out _).mono ?_;rintro e w5 ⟨rfl,hb5⟩;have hb6:Below W3.heap.size W3 w5:=((Below.refl _ W3).drew).trans hb5;have hb6:=MI hb6;clear hb5)
  all_goals (have hzz:=(hb6.out.block _ (L8 HZ.out)).trans HZ.out)
  all_goals (have HC5:=MI (HC4.out.trans (hb6.out.mono HC4.out.size)))
  all_goals go_wp2_with (first
   | (with_reducible refine MC 191 8 ?_;refine wpList_load_row rfl 191 (.tmp 8) rfl _ rfl 191 (iA g) (0,0) _ hzz Tryz.underlying191 rfl hg4 ?_)
   | (go_at_call 192;refine(HG.out _).mono ?_;rintro e w6 ⟨rfl,hb7⟩;have HC6:=MI (HC5.out.trans (hb7.mono HC5.out.size));clear hb7)
   | (go_at_call 138;refine(HR.out _ _).mono ?_;rintro e w7 ⟨rfl,m,rfl⟩))
  all_goals go_ret
  all_goals exact⟨aX HO.out.symm,below_drewN HC6.out _⟩
 ·have h8':¬(i:Int)<8:=by omega
  have hmn:min i (15 - i)=15 - i:=by omega
  rw[hmn] at HT
  have HO:Hid (lN L (some M) g i=rnd (kX (tP (15 - i)) (tU (15 - i)) (L.getD i 0) (M.getD (15 - i) 0)).1 (atZ g i).toNat):=by
   unfold Hid lN JD
   simp only
   rw[if_neg h8,hmn]
  have hX:=MI (fun w=>vw (tP (15 - i)) (tU (15 - i)) (L.getD i 0) (M.getD (15 - i) 0) w)
  unfold Bc at hX
  have e0:aI.getD (2*(15 - i)) 0=tP (15 - i):=rfl
  have e1:aI.getD (2*(15 - i)+1) 0=tU (15 - i):=rfl
  rw[e0,e1] at HT
  clear e0 e1
  generalize (atZ g i).toNat=p at*
  generalize L.getD i 0=a at*
  generalize hn:(15 - i:Nat)=n at*
  generalize M.getD n 0=b at*
  generalize kX (tP n) (tU n) a b=Y at*
  generalize tP n=tp at*
  generalize tU n=tu at*
  obtain⟨y0,y1⟩:=Y
  simp only at HO hX
  have hnl:¬(i:Int)≤(n:Int):=by omega
  have hnk:(n:Int)<(i:Int):=by omega
  go_enter Tryz.func210,Tryz.ntmps210
  go_upto_region 1 with fail
  generalize (w.alloc (.cells (iA cO) 178)).alloc (.cells (iA g) 191)=W at*
  go_upto_region 8 with(first
   | (go_at_call 145;refine(HT.out _).mono ?_;rintro e w1 ⟨rfl,hb1⟩))
  have hb3:=ae w1 (.cells #[.int .i64 tp,.int .i64 tu] 171)
  have hz3:=L9 w1 (.cells #[.int .i64 tp,.int .i64 tu] 171)
  have hb4:=hb1.trans (hb3.mono hb1.size)
  have c3:=(hb4.cell (p:=⟨B,o+i,none⟩) hBW).trans hc2
  have d3:=(hb4.cell (p:=⟨C,q+n,none⟩) hCW).trans hd2
  have hz4:=(hb4.block _ (L8 hz2)).trans hz2
  have HC4:=MI (HC.out.trans (hb4.mono HC.out.size))
  obtain⟨t0,t1⟩:=bD hz3
  clear hb1 hb3 hb4 hz3 hc2 hd2 hBW hCW HC hz2
  generalize w1.alloc (.cells #[.int .i64 tp,.int .i64 tu] 171)=W3 at*
  generalize w1.heap.size=tb at*
  have HZ:=MI hz4
  clear hz4
  go_region_with (go_at_call 231;refine(hX.out _).mono ?_;rintro e w5 ⟨rfl,hb5⟩;have hb6:Below W3.heap.size W3 w5:=((Below.refl _ W3).drew).trans hb5;have hb6:=MI hb6;clear hb5)
  all_goals (have hzz:=(hb6.out.block _ (L8 HZ.out)).trans HZ.out)
  all_goals (have HC5:=MI (HC4.out.trans (hb6.out.mono HC4.out.size)))
  all_goals go_wp2_with (first
   | (with_reducible refine MC 191 8 ?_;refine wpList_load_row rfl 191 (.tmp 8) rfl _ rfl 191 (iA g) (0,0) _ hzz Tryz.underlying191 rfl hg4 ?_)
   | (go_at_call 192;refine(HG.out _).mono ?_;rintro e w6 ⟨rfl,hb7⟩;have HC6:=MI (HC5.out.trans (hb7.mono HC5.out.size));clear hb7)
   | (go_at_call 138;refine(HR.out _ _).mono ?_;rintro e w7 ⟨rfl,m,rfl⟩))
  all_goals go_ret
  all_goals exact⟨aX HO.out.symm,below_drewN HC6.out _⟩
def iL(zs:List Int):List Value:=zs.map (Value.int .i64)
theorem xe(zs:List Int):iA zs=(iL zs).toArray:=rfl
theorem sU{P:Program}{o:Oper}{a:Act}{w:World}{K:Act→World→Prop}{Q:Exit→Act→World→Prop}(t:TypeId)(parts:Array (Nat×Operand))(ho:o.op= .build t parts)
  (cells:Array Value) (hc:P.built t (parts.map fun(i,x)=>(i,a.eval x)).toList=some cells) (h:K (a.put o.dst (.agg cells)) w):o.wp P a w K Q:=
 wp_build t parts ho (by rw[hc];rfl) (by rw[hc];exact h)
theorem fA.oZ{w:World}{b:Nat}{z:List Int}{tv:Value}(h:fA w b z tv):w.rangeAt b 0 ((gL z).map (Value.int .i64)):=by
 intro j v hv
 have hj:j<4:=by have:=(List.getElem?_eq_some_iff.1 hv).1;simpa[gL] using this
 rw[Nat.zero_add,h.lo hj,←hv]
 simp[gL,hj]
theorem uB{α:Type}{l:List α}(h:l.length=4): ∃a b c d,l=[a,b,c,d]:=by
 obtain⟨a,l,rfl⟩:=List.exists_cons_of_length_eq_add_one h
 obtain⟨b,l,rfl⟩:=List.exists_cons_of_length_eq_add_one (by simpa using h)
 obtain⟨c,l,rfl⟩:=List.exists_cons_of_length_eq_add_one (by simpa using h)
 obtain⟨d,l,rfl⟩:=List.exists_cons_of_length_eq_add_one (by simpa using h)
 exact⟨a,b,c,d,by simp at h;rw[h]⟩
theorem eP{α:Type}{l:List α}{n:Nat}(h:l.length=n+1): ∃a r,l=a::r∧r.length=n:=by
 obtain⟨a,r,rfl⟩:=List.exists_cons_of_length_eq_add_one h
 exact⟨a,r,rfl,by simpa using h⟩
theorem qU{α:Type}{l:List α}(h:l.length=16): ∃a0 a1 a2 a3 a4 a5 a6 a7 a8 a9 a10 a11 a12 a13 a14 a15,l=[a0,a1,a2,a3,a4,a5,a6,a7,a8,a9,a10,a11,a12,a13,a14,a15]:=by
 obtain⟨a0,l0,rfl,h0⟩:=eP h
 obtain⟨a1,l1,rfl,h1⟩:=eP h0
 obtain⟨a2,l2,rfl,h2⟩:=eP h1
 obtain⟨a3,l3,rfl,h3⟩:=eP h2
 obtain⟨a4,l4,rfl,h4⟩:=eP h3
 obtain⟨a5,l5,rfl,h5⟩:=eP h4
 obtain⟨a6,l6,rfl,h6⟩:=eP h5
 obtain⟨a7,l7,rfl,h7⟩:=eP h6
 obtain⟨a8,l8,rfl,h8⟩:=eP h7
 obtain⟨a9,l9,rfl,h9⟩:=eP h8
 obtain⟨a10,l10,rfl,h10⟩:=eP h9
 obtain⟨a11,l11,rfl,h11⟩:=eP h10
 obtain⟨a12,l12,rfl,h12⟩:=eP h11
 obtain⟨a13,l13,rfl,h13⟩:=eP h12
 obtain⟨a14,l14,rfl,h14⟩:=eP h13
 obtain⟨a15,l15,rfl,h15⟩:=eP h14
 obtain rfl:=List.length_eq_zero_iff.1 h15
 exact⟨_,_,_,_,_,_,_,_,_,_,_,_,_,_,_,_,rfl⟩
theorem KW(s g:List Int)(hs:s.length=16)(hg:g.length=4):Tryz.prog.built 205 [(0,.agg (iA s)),(1,.agg (iA g))]=some (iA (s++g)):=by
 obtain⟨a0,a1,a2,a3,a4,a5,a6,a7,a8,a9,a10,a11,a12,a13,a14,a15,rfl⟩:=qU hs
 obtain⟨b0,b1,b2,b3,rfl⟩:=uB hg
 kernel_rfl
def dN(z:List Int)(ts:List (Int×Int)):List Int:=tH z ts++gL z
theorem wC(z:List Int)(ts:List (Int×Int)):(tH z ts).length=16:=iY _
theorem gy(z:List Int)(ts:List (Int×Int)):(dN z ts).length=20:=by unfold dN;rw[List.length_append,wC,uP]
theorem Bz(z:List Int)(hz:z.length=28)(ao:Option Addr)(n cap:Nat)(ts:List (Int×Int))(w:World)(h:bH ed 2 (0,0) w ao n ts):Calls Tryz.prog 253 #[.agg (frC z (.slice ao n cap))] w (fun e w'=>e= .returned (.agg (iA (dN z ts)))∧Below w.heap.size w w'):=by
 have hb0:=ae w (.cells (frC z (.slice ao n cap)) 196)
 have hz0:fA (w.alloc (.cells (frC z (.slice ao n cap)) 196)) w.heap.size z (.slice ao n cap):=⟨L9 w _,hz⟩
 have hb1:=ae (w.alloc (.cells (frC z (.slice ao n cap)) 196)) (.cells #[(),(),(),(),(),(),(),(),(),(),(),(),(),(),(),(),(),(),(),()] 205)
 have hz1:=L9 (w.alloc (.cells (frC z (.slice ao n cap)) 196)) (.cells #[(),(),(),(),(),(),(),(),(),(),(),(),(),(),(),(),(),(),(),()] 205)
 have hz2:=hz0.ah hb1
 have hB:=hb0.trans (hb1.mono hb0.size)
 have hT:=(h.ah hb0).ah hb1
 rw[World.size_alloc] at hz1
 have hiF:(Tryz.prog.info? 196).map (·.size)=some (frC z (.slice ao n cap)).size:=by rw[bC _ _ hz];kernel_rfl
 have hi4:(Tryz.prog.info? 191).map (·.size)=some ((gL z).map (Value.int .i64)).length:=by rw[List.length_map,uP];kernel_rfl
 have hiP:(Tryz.prog.info? 205).map (·.size)=some (iA (dN z ts)).size:=by rw[az,gy];kernel_rfl
 have hszP:(#[(),(),(),(),(),(),(),(),(),(),(),(),(),(),(),(),(),(),(),()]:Array Value).size=(iA (dN z ts)).size:=by rw[az,gy];rfl
 have HBU:=MI (KW (tH z ts) (gL z) (wC z ts) (uP z))
 have HS:=MI (fun w h=>IU z hz ao n cap ts w h)
 have HP:Hid (dN z ts=tH z ts++gL z):=rfl
 clear hb0 hb1 hz0 h hz
 go_enter Tryz.func253,Tryz.ntmps253
 go_upto_region 1 with fail
 generalize (w.alloc (.cells (frC z (.slice ao n cap)) 196)).alloc (.cells #[(),(),(),(),(),(),(),(),(),(),(),(),(),(),(),(),(),(),(),()] 205)=W0 at*
 have hbd:Below W0.heap.size W0 W0.drew:=(Below.refl _ W0).drew
 have hT':=hT.ah hbd
 have hF:=hz2.ah hbd
 have hO:=(hbd.block _ (L8 hz1)).trans hz1
 have HBW:=MI (hB.trans (hbd.mono hB.size))
 clear hz2 hT hz1 hbd hB
 generalize tH z ts=S at*
 generalize hG:gL z=G at*
 refine wp_region_any (by kernel_rfl) ?_
 change wpAny _ _ _ _ _ _ _ (World.drew _)
 refine wpAny_take (i:=2) (v:=?_) rfl (by kernel_rfl) (by kernel_rfl) (by kernel_rfl) (fun _ _ _ h=>h) (Or.inl ⟨by rfl,?_⟩) ?_
 rotate_left
 ·intro w9
  first
   | (go_simp;done)
   | (go_simp;with_reducible rfl)
 refine wpAny_ready (rs:=[0,3]) (by kernel_rfl) (by simp) ?_
 refine BigFrame.allReady_want rfl (by kernel_rfl) (fun K hK=>?_) ?_
 ·refine wp_load_row 196 (.tmp 1) rfl _ rfl 196 (frC z (.slice ao n cap)) (0,0) _ hF.row Tryz.underlying196 rfl hiF ?_
  try go_simp
  refine hK _ _ ?_
  clear hK K
  refine wpAny_ready (rs:=[1,3]) (by kernel_rfl) (by simp) ?_
  refine BigFrame.allReady_want rfl (by kernel_rfl) (fun K hK=>?_) ?_
  ·go_simp
   go_at_call 261
   refine(HS.out _ hT').mono ?_
   rintro e w1 ⟨rfl,hb1⟩
   have hF1:=(hF.ah hb1).oZ
   rw[hG] at hF1
   have hO1:=(hb1.block _ (L8 hO)).trans hO
   have HBX:=MI (HBW.out.trans (hb1.mono HBW.out.size))
   try go_simp
   refine hK _ _ ?_
   clear hK K
   refine wpAny_ready (rs:=[3]) (by kernel_rfl) (by simp) ?_
   refine BigFrame.allReady_want rfl (by kernel_rfl) (fun K hK=>?_) ?_
   ·first
     | (refine wp_load_mid 191 (.tmp 5) rfl _ 0 rfl _ _ hF1 Tryz.underlying191 rfl hi4 ?_)
     | (have hF0:=hF.oZ;rw[hG] at hF0;refine wp_load_mid 191 (.tmp 5) rfl _ 0 rfl _ _ hF0 Tryz.underlying191 rfl hi4 ?_)
    try go_simp
    refine hK _ _ ?_
    clear hK K
    refine wpAny_ready (rs:=[4]) (by kernel_rfl) (by simp) ?_
    refine BigFrame.allReady_want rfl (by kernel_rfl) (fun K hK=>?_) ?_
    ·refine sU 205 _ rfl (iA (S++G)) (Eq.trans (b:=Tryz.prog.built 205 [(0,.agg (iA S)),(1,.agg (iA G))]) (by kernel_rfl) HBU.out) ?_
     try go_simp
     refine hK _ _ ?_
     clear hK K
     refine wpAny_ready (rs:=[5]) (by kernel_rfl) (by simp) ?_
     refine BigFrame.allReady_want rfl (by kernel_rfl) (fun K hK=>?_) ?_
     ·rw[HP.out] at hiP hszP
      refine wp_store_row 205 (.tmp 2) (.tmp 7) rfl _ (iA (S++G)) rfl rfl 205 _ hO1 hiP hszP (bP _) ?_
      try go_simp
      refine hK _ _ ?_
      clear hK K
      refine wpAny_done (by kernel_rfl) ?_ _
      go_wp2_with fail
      exact bodyPost_ret (results_cell_row (fn:=Tryz.f253) rfl _ _ _ _ _ _ _ rfl (setRow_heap _ _ _ _ _ _ hO1) Tryz.underlying205 rfl hiP) rfl ⟨by rw[HP.out],below_setRow HBX.out (by omega) _⟩
     exact AllReady.nil
    exact AllReady.nil
   exact AllReady.nil
  refine BigFrame.allReady_want rfl (by kernel_rfl) (fun K hK=>?_) ?_
  ·first
    | (refine wp_load_mid 191 (.tmp 5) rfl _ 0 rfl _ _ hF1 Tryz.underlying191 rfl hi4 ?_)
    | (have hF0:=hF.oZ;rw[hG] at hF0;refine wp_load_mid 191 (.tmp 5) rfl _ 0 rfl _ _ hF0 Tryz.underlying191 rfl hi4 ?_)
   try go_simp
   refine hK _ _ ?_
   clear hK K
   refine wpAny_ready (rs:=[1]) (by kernel_rfl) (by simp) ?_
   refine BigFrame.allReady_want rfl (by kernel_rfl) (fun K hK=>?_) ?_
   ·go_simp
    go_at_call 261
    refine(HS.out _ hT').mono ?_
    rintro e w1 ⟨rfl,hb1⟩
    have hF1:=(hF.ah hb1).oZ
    rw[hG] at hF1
    have hO1:=(hb1.block _ (L8 hO)).trans hO
    have HBX:=MI (HBW.out.trans (hb1.mono HBW.out.size))
    try go_simp
    refine hK _ _ ?_
    clear hK K
    refine wpAny_ready (rs:=[4]) (by kernel_rfl) (by simp) ?_
    refine BigFrame.allReady_want rfl (by kernel_rfl) (fun K hK=>?_) ?_
    ·refine sU 205 _ rfl (iA (S++G)) (Eq.trans (b:=Tryz.prog.built 205 [(0,.agg (iA S)),(1,.agg (iA G))]) (by kernel_rfl) HBU.out) ?_
     try go_simp
     refine hK _ _ ?_
     clear hK K
     refine wpAny_ready (rs:=[5]) (by kernel_rfl) (by simp) ?_
     refine BigFrame.allReady_want rfl (by kernel_rfl) (fun K hK=>?_) ?_
     ·rw[HP.out] at hiP hszP
      refine wp_store_row 205 (.tmp 2) (.tmp 7) rfl _ (iA (S++G)) rfl rfl 205 _ hO1 hiP hszP (bP _) ?_
      try go_simp
      refine hK _ _ ?_
      clear hK K
      refine wpAny_done (by kernel_rfl) ?_ _
      go_wp2_with fail
      exact bodyPost_ret (results_cell_row (fn:=Tryz.f253) rfl _ _ _ _ _ _ _ rfl (setRow_heap _ _ _ _ _ _ hO1) Tryz.underlying205 rfl hiP) rfl ⟨by rw[HP.out],below_setRow HBX.out (by omega) _⟩
     exact AllReady.nil
    exact AllReady.nil
   exact AllReady.nil
  exact AllReady.nil
 refine BigFrame.allReady_want rfl (by kernel_rfl) (fun K hK=>?_) ?_
 ·first
   | (refine wp_load_mid 191 (.tmp 5) rfl _ 0 rfl _ _ hF1 Tryz.underlying191 rfl hi4 ?_)
   | (have hF0:=hF.oZ;rw[hG] at hF0;refine wp_load_mid 191 (.tmp 5) rfl _ 0 rfl _ _ hF0 Tryz.underlying191 rfl hi4 ?_)
  try go_simp
  refine hK _ _ ?_
  clear hK K
  refine wpAny_ready (rs:=[0]) (by kernel_rfl) (by simp) ?_
  refine BigFrame.allReady_want rfl (by kernel_rfl) (fun K hK=>?_) ?_
  ·refine wp_load_row 196 (.tmp 1) rfl _ rfl 196 (frC z (.slice ao n cap)) (0,0) _ hF.row Tryz.underlying196 rfl hiF ?_
   try go_simp
   refine hK _ _ ?_
   clear hK K
   refine wpAny_ready (rs:=[1]) (by kernel_rfl) (by simp) ?_
   refine BigFrame.allReady_want rfl (by kernel_rfl) (fun K hK=>?_) ?_
   ·go_simp
    go_at_call 261
    refine(HS.out _ hT').mono ?_
    rintro e w1 ⟨rfl,hb1⟩
    have hF1:=(hF.ah hb1).oZ
    rw[hG] at hF1
    have hO1:=(hb1.block _ (L8 hO)).trans hO
    have HBX:=MI (HBW.out.trans (hb1.mono HBW.out.size))
    try go_simp
    refine hK _ _ ?_
    clear hK K
    refine wpAny_ready (rs:=[4]) (by kernel_rfl) (by simp) ?_
    refine BigFrame.allReady_want rfl (by kernel_rfl) (fun K hK=>?_) ?_
    ·refine sU 205 _ rfl (iA (S++G)) (Eq.trans (b:=Tryz.prog.built 205 [(0,.agg (iA S)),(1,.agg (iA G))]) (by kernel_rfl) HBU.out) ?_
     try go_simp
     refine hK _ _ ?_
     clear hK K
     refine wpAny_ready (rs:=[5]) (by kernel_rfl) (by simp) ?_
     refine BigFrame.allReady_want rfl (by kernel_rfl) (fun K hK=>?_) ?_
     ·rw[HP.out] at hiP hszP
      refine wp_store_row 205 (.tmp 2) (.tmp 7) rfl _ (iA (S++G)) rfl rfl 205 _ hO1 hiP hszP (bP _) ?_
      try go_simp
      refine hK _ _ ?_
      clear hK K
      refine wpAny_done (by kernel_rfl) ?_ _
      go_wp2_with fail
      exact bodyPost_ret (results_cell_row (fn:=Tryz.f253) rfl _ _ _ _ _ _ _ rfl (setRow_heap _ _ _ _ _ _ hO1) Tryz.underlying205 rfl hiP) rfl ⟨by rw[HP.out],below_setRow HBX.out (by omega) _⟩
     exact AllReady.nil
    exact AllReady.nil
   exact AllReady.nil
  exact AllReady.nil
 exact AllReady.nil
end Go.Proofs.YtnicjahcgnhogaaGreatDoor
namespace Go.Proofs.YtnicjahcgnhogaaGreatDoor
open Go Go.RowKit Go.Calli
theorem gK{w:World}{b T:Nat}{fr:Nat×Nat}(pre mid post:List Value)(h:w.heap[b]? =some (.cells (pre++(mid++post)).toArray T fr)):w.rangeAt b pre.length mid:=fun j v hv=>by
 have hj:j<mid.length:=(List.getElem?_eq_some_iff.1 hv).1
 rw[LZ h,List.getElem?_toArray,List.getElem?_append_right (by omega),List.getElem?_append_left (by omega),show pre.length+j - pre.length=j by omega]
 exact hv
theorem qM{w:World}{b T:Nat}{cs:List Value}(h:w.heap[b]? =some (.cells cs.toArray T (0,0)))(o n:Nat)(hn:o+n≤cs.length):w.there b o n:=fun j hj=>by
 refine⟨?_,L6 h⟩
 rw[LZ h,List.getElem?_toArray,List.getElem?_eq_getElem (by omega)]
 rfl
theorem qN{w:World}{b T:Nat}{fr:Nat×Nat}{cs:List Value}(h:w.heap[b]? =some (.cells cs.toArray T fr))(o:Nat){v:Value}(hv:cs[o]? =some v):w.cell? ⟨b,o,none⟩=some v:=by
 rw[LZ h,List.getElem?_toArray];exact hv
theorem spl_mid(pre old post new:List Value)(h:old.length=new.length):spl (pre++(old++post)).toArray pre.length new=(pre++(new++post)).toArray:=by
 apply Array.ext_getElem?
 intro j
 rw[su new _ _ _ (by simp;omega),List.getElem?_toArray,List.getElem?_toArray]
 by_cases h1:pre.length≤j
 ·by_cases h2:j<pre.length+new.length
  ·rw[if_pos ⟨h1,h2⟩,List.getElem?_append_right h1,List.getElem?_append_left (by omega)]
  ·rw[if_neg (by omega),List.getElem?_append_right h1,List.getElem?_append_right h1,List.getElem?_append_right (by omega),List.getElem?_append_right (by omega),h]
 ·rw[if_neg (by omega),List.getElem?_append_left (by omega),List.getElem?_append_left (by omega)]
theorem mf{w:World}{b T:Nat}(pre old post new:List Value)(h:w.heap[b]? =some (.cells (pre++(old++post)).toArray T (0,0)))(hl:old.length=new.length):
  (w.setCells b pre.length new).heap[b]? =some (.cells (pre++(new++post)).toArray T (0,0)):=by
 rw[iE _ _ _ _ _ _ h,spl_mid _ _ _ _ hl]
theorem jM{w:World}{b T:Nat}(pre post:List Value)(v v':Value)(h:w.heap[b]? =some (.cells (pre++v::post).toArray T (0,0))):
  (w.setCell ⟨b,pre.length,none⟩ v').heap[b]? =some (.cells (pre++v'::post).toArray T (0,0)):=by
 rw[Mc h]
 simp
theorem dA(zs:List Int):(iL zs).length=zs.length:=by simp[iL]
theorem JX(a b:List Int):iL (a++b)=iL a++iL b:=by simp[iL]
theorem Dj(zs:List Int): ∀v ∈ iL zs,v.oneCell'=true:=fun v hv=>by
 obtain⟨x,_,rfl⟩:=List.mem_map.1 hv
 rfl
theorem bT{w w':World}{n b:Nat}{o:Obj}(h:w.heap[b]? =some o)(hb:Below n w w')(hn:b<n):w'.heap[b]? =some o:=(hb.block b hn).trans h
end Go.Proofs.YtnicjahcgnhogaaGreatDoor
namespace Go.Proofs.YtnicjahcgnhogaaGreatDoor
open Go Go.RowKit Go.Calli
attribute [local irreducible] wpStill wpAnyH wpAnyS wpList Code.wp
structure Vo where
 m:Mt
 at_:Int
 dU:Int
 done:Bool
structure Vo.Ok(v:Vo):Prop where
 m:v.m.Ok
 a0:0≤v.at_
 a1:v.at_≤4611686052787126272
 a2:v.done=false→v.at_<4611686018427387904
 p0:0≤v.dU
 p1:v.dU≤34359738368
def dK(w:World)(vb:Nat)(co:Option Addr)(cap:Nat)(v:Vo):Prop:=w.heap[vb]? =some (.cells #[.string v.m.nm,.int .i64 v.m.len,.int .i64 v.m.rate,.int .i64 v.m.ch,.bool v.m.loop,.int .i64 v.m.ls,.int .i64 v.m.le,.int .i64 v.m.sums,.int .i64 v.m.first,.slice co v.m.ch cap,.int .i64 v.at_,.int .i64 v.dU,.bool v.done] 148 (0,0))
theorem dE{w:World}{vb:Nat}{co:Option Addr}{cap:Nat}{v:Vo}(h:dK w vb co cap v):
  w.cell? ⟨vb,0,none⟩=some (.string v.m.nm)∧w.cell? ⟨vb,1,none⟩=some (.int .i64 v.m.len)∧w.cell? ⟨vb,2,none⟩=some (.int .i64 v.m.rate)∧w.cell? ⟨vb,3,none⟩=some (.int .i64 v.m.ch)∧w.cell? ⟨vb,4,none⟩=some (.bool v.m.loop)∧w.cell? ⟨vb,5,none⟩=some (.int .i64 v.m.ls)∧w.cell? ⟨vb,6,none⟩=some (.int .i64 v.m.le)∧w.cell? ⟨vb,7,none⟩=some (.int .i64 v.m.sums)∧w.cell? ⟨vb,8,none⟩=some (.int .i64 v.m.first)∧w.cell? ⟨vb,9,none⟩=some (.slice co v.m.ch cap)∧w.cell? ⟨vb,10,none⟩=some (.int .i64 v.at_)∧w.cell? ⟨vb,11,none⟩=some (.int .i64 v.dU)∧w.cell? ⟨vb,12,none⟩=some (.bool v.done)∧w.frozen? ⟨vb,10,none⟩=false∧w.frozen? ⟨vb,11,none⟩=false∧w.frozen? ⟨vb,12,none⟩=false:=
 ⟨LY h rfl,LY h rfl,LY h rfl,LY h rfl,LY h rfl,LY h rfl,LY h rfl,LY h rfl,LY h rfl,LY h rfl,LY h rfl,LY h rfl,LY h rfl,L6 h,L6 h,L6 h⟩
theorem dK.setAt{w:World}{vb:Nat}{co:Option Addr}{cap:Nat}{v:Vo}(h:dK w vb co cap v)(a:Int):dK (w.setCell ⟨vb,10,none⟩ (.int .i64 a)) vb co cap {v with at_:=a}:=Mc h
theorem dK.IZ{w:World}{vb:Nat}{co:Option Addr}{cap:Nat}{v:Vo}(h:dK w vb co cap v)(a:Int):dK (w.setCell ⟨vb,11,none⟩ (.int .i64 a)) vb co cap {v with dU:=a}:=Mc h
theorem dK.D9{w:World}{vb:Nat}{co:Option Addr}{cap:Nat}{v:Vo}(h:dK w vb co cap v)(d:Bool):dK (w.setCell ⟨vb,12,none⟩ (.bool d)) vb co cap {v with done:=d}:=Mc h
theorem dK.mtx{w:World}{vb:Nat}{co:Option Addr}{cap:Nat}{v:Vo}(h:dK w vb co cap v):w.rangeAt vb 0 (aP v.m):=gK [] (aP v.m) [.slice co v.m.ch cap,.int .i64 v.at_,.int .i64 v.dU,.bool v.done] h
theorem dK.load{w:World}{vb:Nat}{co:Option Addr}{cap:Nat}{v:Vo}(h:dK w vb co cap v):(Instr.loadAt 54 (.pointer (some ⟨vb,0,none⟩))).run Tryz.prog w= .ok (.agg (aB v.m)) w:=run_loadAt_mid w vb 0 54 (aP v.m) _ h.mtx Tryz.underlying54 rfl (by kernel_rfl)
theorem dK.keep{w w':World}{vb:Nat}{co:Option Addr}{cap:Nat}{v:Vo}(h:dK w vb co cap v){n:Nat}(hb:Below n w w')(hn:vb<n):dK w' vb co cap v:=bT h hb hn
theorem dK.lt{w:World}{vb:Nat}{co:Option Addr}{cap:Nat}{v:Vo}(h:dK w vb co cap v):vb<w.heap.size:=L8 h
theorem lG(vb:Nat)(co:Option Addr)(cap:Nat)(v:Vo)(hv:v.Ok)(w:World)(h:dK w vb co cap v):Calls Tryz.prog 109 #[.pointer (some ⟨vb,0,none⟩)] w (fun e w'=>e= .returned (.bool false)∧w=w'):=by
 have h0:=hv.m.c0
 have hne:((v.m.ch:Int)==0)=false:=by simp;omega
 obtain⟨c0,c1,c2,c3,c4,c5,c6,c7,c8,c9,c10,c11,c12,f10,f11,f12⟩:=dE h
 go_enter Tryz.func109,Tryz.ntmps109
 go_wp2_with fail
 go_ret
 exact⟨rfl,rfl⟩
theorem wo(vb:Nat)(co:Option Addr)(cap:Nat)(v:Vo)(hv:v.Ok)(w:World)(h:dK w vb co cap v):Calls Tryz.prog 111 #[.pointer (some ⟨vb,0,none⟩)] w (fun e w'=>e= .returned (.bool v.done)∧w=w'):=by
 have hN:=lG vb co cap v hv w h
 obtain⟨c0,c1,c2,c3,c4,c5,c6,c7,c8,c9,c10,c11,c12,f10,f11,f12⟩:=dE h
 go_enter Tryz.func111,Tryz.ntmps111
 go_wp2_with (go_at_call 109;refine hN.mono ?_;rintro e w' ⟨rfl,rfl⟩)
 go_ret
 exact⟨rfl,rfl⟩
theorem Bo(vb:Nat)(co:Option Addr)(cap:Nat)(v:Vo)(hv:v.Ok)(w:World)(h:dK w vb co cap v):Calls Tryz.prog 85 #[.pointer (some ⟨vb,0,none⟩)] w (fun e w'=>e= .returned (.int .i64 v.at_)∧w=w'):=by
 have hN:=lG vb co cap v hv w h
 obtain⟨c0,c1,c2,c3,c4,c5,c6,c7,c8,c9,c10,c11,c12,f10,f11,f12⟩:=dE h
 go_enter Tryz.func85,Tryz.ntmps85
 go_wp2_with (go_at_call 109;refine hN.mono ?_;rintro e w' ⟨rfl,rfl⟩)
 go_ret
 exact⟨rfl,rfl⟩
def dJ(v:Vo)(a:Int):Int×Vo:=if a<0∨(v.m.len:Int)≤a then(5,v) else(0,{v with at_:=a*4294967296,done:=false})
theorem I5{v:Vo}(h:v.Ok)(a:Int):(dJ v a).2.Ok:=by
 have h1:=h.m.l1
 unfold dJ
 split
 ·exact h
 ·exact⟨h.m,by simp only;omega,by simp only;omega,fun _=>by simp only;omega,h.p0,h.p1⟩
def VoP(vb:Nat)(co:Option Addr)(cap:Nat)(x:Int×Vo)(w:World)(e:Ending)(w':World):Prop:=e= .returned (.int .i64 x.1)∧dK w' vb co cap x.2∧af (fun k=>k=vb) w w'
theorem EU(vb:Nat)(co:Option Addr)(cap:Nat)(v:Vo)(hv:v.Ok)(a:Int)(w:World)(h:dK w vb co cap v):Calls Tryz.prog 98 #[.pointer (some ⟨vb,0,none⟩),.int .i64 a] w (VoP vb co cap (dJ v a) w):=by
 have hN:=lG vb co cap v hv w h
 have h1:=hv.m.l1
 obtain⟨c0,c1,c2,c3,c4,c5,c6,c7,c8,c9,c10,c11,c12,f10,f11,f12⟩:=dE h
 have HX:=MI h
 clear h
 unfold dJ VoP
 by_cases h2:a<0
 ·rw[if_pos (.inl h2)]
  go_enter Tryz.func98,Tryz.ntmps98
  go_wp2_with (go_at_call 109;refine hN.mono ?_;rintro e w' ⟨rfl,rfl⟩)
  go_ret
  exact⟨rfl,HX.out,af.refl _ _⟩
 ·by_cases h3:(v.m.len:Int)≤a
  ·rw[if_pos (.inr h3)]
   go_enter Tryz.func98,Tryz.ntmps98
   go_wp2_with (go_at_call 109;refine hN.mono ?_;rintro e w' ⟨rfl,rfl⟩)
   go_ret
   exact⟨rfl,HX.out,af.refl _ _⟩
  ·rw[if_neg (by omega)]
   have e1:IntKind.i64.wrap (a*4294967296)=a*4294967296:=IntWalk.i64_in _ (by omega)
   go_enter Tryz.func98,Tryz.ntmps98
   go_wp2_with (go_at_call 109;refine hN.mono ?_;rintro e w' ⟨rfl,rfl⟩)
   go_ret
   exact⟨rfl,(HX.out.setAt _).D9 _,((af.refl (fun k=>k=vb) w).setCell (p:=⟨vb,10,none⟩) (.inr rfl) _).setCell (p:=⟨vb,12,none⟩) (.inr rfl) _⟩
def dI(v:Vo)(p:Int):Int×Vo:=if p<0∨34359738368<p then(5,v) else(0,{v with dU:=p})
theorem Ip{v:Vo}(h:v.Ok)(a:Int):(dI v a).2.Ok:=by
 unfold dI
 split
 ·exact h
 ·exact⟨h.m,h.a0,h.a1,h.a2,by simp only;omega,by simp only;omega⟩
theorem ET(vb:Nat)(co:Option Addr)(cap:Nat)(v:Vo)(hv:v.Ok)(a:Int)(w:World)(h:dK w vb co cap v):Calls Tryz.prog 99 #[.pointer (some ⟨vb,0,none⟩),.int .i64 a] w (VoP vb co cap (dI v a) w):=by
 have hN:=lG vb co cap v hv w h
 obtain⟨c0,c1,c2,c3,c4,c5,c6,c7,c8,c9,c10,c11,c12,f10,f11,f12⟩:=dE h
 have HX:=MI h
 clear h
 unfold dI VoP
 by_cases h2:a<0
 ·rw[if_pos (.inl h2)]
  go_enter Tryz.func99,Tryz.ntmps99
  go_wp2_with (go_at_call 109;refine hN.mono ?_;rintro e w' ⟨rfl,rfl⟩)
  go_ret
  exact⟨rfl,HX.out,af.refl _ _⟩
 ·by_cases h3:34359738368<a
  ·rw[if_pos (.inr h3)]
   go_enter Tryz.func99,Tryz.ntmps99
   go_wp2_with (go_at_call 109;refine hN.mono ?_;rintro e w' ⟨rfl,rfl⟩)
   go_ret
   exact⟨rfl,HX.out,af.refl _ _⟩
  ·rw[if_neg (by omega)]
   go_enter Tryz.func99,Tryz.ntmps99
   go_wp2_with (go_at_call 109;refine hN.mono ?_;rintro e w' ⟨rfl,rfl⟩)
   go_ret
   exact⟨rfl,HX.out.IZ _,(af.refl (fun k=>k=vb) w).setCell (p:=⟨vb,11,none⟩) (.inr rfl) _⟩
def mQ(v:Vo):Vo:=if v.m.loop=false then{v with at_:=v.at_+v.dU,done:=decide ((v.m.len:Int)≤(v.at_+v.dU)/4294967296)} else if 1073741824≤(v.at_+v.dU)/4294967296 then{v with at_:=pY v.m (v.at_+v.dU)} else{v with at_:=v.at_+v.dU}
theorem IK{v:Vo}(h:v.Ok)(hd:v.done=false):(mQ v).Ok:=by
 have h1:=h.m.l1;have h2:=h.a0;have h3:=h.a2 hd;have h4:=h.p0;have h5:=h.p1
 unfold mQ
 split
 ·refine⟨h.m,by simp only;omega,by simp only;omega,fun hd'=>?_,h.p0,h.p1⟩
  simp only[decide_eq_false_iff_not] at hd'
  simp only
  omega
 ·rename_i hl
  split
  ·have hb:=Af h.m (by simpa using hl) (a:=v.at_+v.dU) (by omega) (by omega)
   exact⟨h.m,hb.1,by simp only;omega,fun _=>by simp only;omega,h.p0,h.p1⟩
  ·exact⟨h.m,by simp only;omega,by simp only;omega,fun _=>by simp only;omega,h.p0,h.p1⟩
theorem vZ(vb:Nat)(co:Option Addr)(cap:Nat)(v:Vo)(hv:v.Ok)(hd:v.done=false)(w:World)(h:dK w vb co cap v):Calls Tryz.prog 137 #[.pointer (some ⟨vb,0,none⟩)] w (fun e w'=>e= .returned (.tuple #[])∧dK w' vb co cap (mQ v)∧af (fun k=>k=vb) w w'):=by
 have h1:=hv.m.l1;have h2:=hv.a0;have h3:=hv.a2 hd;have h4:=hv.p0;have h5:=hv.p1
 have HM:=MI hv.m
 obtain⟨c0,c1,c2,c3,c4,c5,c6,c7,c8,c9,c10,c11,c12,f10,f11,f12⟩:=dE h
 have hx:=MI (h.setAt (v.at_+v.dU));have hk1:=MI ((af.refl (fun k=>k=vb) w).setCell (p:=⟨vb,10,none⟩) (.inr rfl) (.int .i64 (v.at_+v.dU)))
 have e1:IntKind.i64.wrap (v.at_+v.dU)=v.at_+v.dU:=IntWalk.i64_in _ (by omega)
 obtain⟨v',hv'⟩: ∃v',mQ v=v':=⟨_,rfl⟩
 rw[hv']
 unfold mQ at hv'
 clear h hd hv
 cases hl:v.m.loop with
 | false=>
  rw[if_pos hl] at hv'
  have HV:=MI hv'
  rw[hl] at c4
  have HLO:=MI hl
  clear hv' hl
  go_enter Tryz.func137,Tryz.ntmps137
  go_wp2_with fail
  go_still_tail 11,(by kernel_rfl)
  repeat still_step
  try refine wpStill_nil ?_
  change wpList _ _ _ _ _ w.drew
  go_upto_region 1 with fail
  have hx2:dK (w.setCell ⟨vb,10,none⟩ (.int .i64 (v.at_+v.dU))).drew vb co cap {v with at_:=v.at_+v.dU}:=hx.out
  have hk2:=MI ((af.refl (fun k=>k=vb) w).setCell (p:=⟨vb,10,none⟩) (.inr rfl) (.int .i64 (v.at_+v.dU))).drew
  clear hx c0 c1 c2 c3 c4 c5 c6 c7 c8 c9 c10 c11 c12 f10 f11 f12 hk1
  generalize (w.setCell ⟨vb,10,none⟩ (.int .i64 (v.at_+v.dU))).drew=W at*
  obtain⟨c0,c1,c2,c3,c4,c5,c6,c7,c8,c9,c10,c11,c12,f10,f11,f12⟩:=dE hx2
  simp only at c0 c1 c2 c3 c4 c5 c6 c7 c8 c9 c10 c11 c12
  rw[HLO.out] at c4
  have HX2:=MI hx2
  clear hx2
  generalize v.at_+v.dU=a at*
  go_wp2_with fail
  go_still_tail 14,(by kernel_rfl)
  repeat still_step
  try refine wpStill_nil ?_
  change wpList _ _ _ _ _ W.drew
  go_wp2_with fail
  exact bodyPost_ret (results_none rfl _ _ _) rfl ⟨rfl,by rw[←HV.out];exact HX2.out.D9 _,(hk2.out.drew).setCell (p:=⟨vb,12,none⟩) (.inr rfl) _⟩
 | true=>
  rw[if_neg (by rw[hl];decide)] at hv'
  have HLO:=MI hl
  by_cases hfar:1073741824≤(v.at_+v.dU)/4294967296
  ·rw[if_pos hfar] at hv'
   have HV:=MI hv'
   have HH:=fun w=>JZ v.m HM.out HLO.out (v.at_+v.dU) (by omega) (by omega) w
   have hmA:aB v.m=#[.string v.m.nm,.int .i64 v.m.len,.int .i64 v.m.rate,.int .i64 v.m.ch,.bool true,.int .i64 v.m.ls,.int .i64 v.m.le,.int .i64 v.m.sums,.int .i64 v.m.first]:=by unfold aB;rw[hl]
   simp only[hmA] at HH
   clear hmA
   clear hv' hl
   go_enter Tryz.func137,Tryz.ntmps137
   go_wp2_with fail
   go_still_tail 11,(by kernel_rfl)
   repeat still_step
   try refine wpStill_nil ?_
   change wpList _ _ _ _ _ w.drew
   go_upto_region 1 with fail
   have hx2:dK (w.setCell ⟨vb,10,none⟩ (.int .i64 (v.at_+v.dU))).drew vb co cap {v with at_:=v.at_+v.dU}:=hx.out
   have hk2:=MI ((af.refl (fun k=>k=vb) w).setCell (p:=⟨vb,10,none⟩) (.inr rfl) (.int .i64 (v.at_+v.dU))).drew
   clear hx c0 c1 c2 c3 c4 c5 c6 c7 c8 c9 c10 c11 c12 f10 f11 f12 hk1
   generalize (w.setCell ⟨vb,10,none⟩ (.int .i64 (v.at_+v.dU))).drew=W at*
   obtain⟨c0,c1,c2,c3,c4,c5,c6,c7,c8,c9,c10,c11,c12,f10,f11,f12⟩:=dE hx2
   simp only at c0 c1 c2 c3 c4 c5 c6 c7 c8 c9 c10 c11 c12
   rw[HLO.out] at c4
   have hx4:dK W.drew vb co cap {v with at_:=v.at_+v.dU}:=hx2
   clear hx2
   generalize v.at_+v.dU=a at*
   go_upto_region 4 with fail
   go_region_with (go_at_call 180;refine(HH _).mono ?_;rintro e w3 ⟨rfl,hb3⟩;obtain⟨d0,d1,d2,d3,d4,d5,d6,d7,d8,d9,d10,d11,d12,g10,g11,g12⟩:=dE (hx4.keep hb3 hx4.lt);have hx5:=MI ((hx4.keep hb3 hx4.lt).setAt (pY v.m a));have hk5:=MI (((hk2.out.drew).below hb3 (by have:=hk2.out.size;exact this)).setCell (p:=⟨vb,10,none⟩) (.inr rfl) (.int .i64 (pY v.m a))))
   all_goals go_wp2_with fail
   all_goals go_end0
   all_goals exact⟨rfl,by rw[←HV.out];exact hx5.out,hk5.out⟩
  ·rw[if_neg hfar] at hv'
   have HV:=MI hv'
   clear hv' hl
   go_enter Tryz.func137,Tryz.ntmps137
   go_wp2_with fail
   go_still_tail 11,(by kernel_rfl)
   repeat still_step
   try refine wpStill_nil ?_
   change wpList _ _ _ _ _ w.drew
   go_upto_region 1 with fail
   have hx2:dK (w.setCell ⟨vb,10,none⟩ (.int .i64 (v.at_+v.dU))).drew vb co cap {v with at_:=v.at_+v.dU}:=hx.out
   have hk2:=MI ((af.refl (fun k=>k=vb) w).setCell (p:=⟨vb,10,none⟩) (.inr rfl) (.int .i64 (v.at_+v.dU))).drew
   clear hx c0 c1 c2 c3 c4 c5 c6 c7 c8 c9 c10 c11 c12 f10 f11 f12 hk1
   generalize (w.setCell ⟨vb,10,none⟩ (.int .i64 (v.at_+v.dU))).drew=W at*
   obtain⟨c0,c1,c2,c3,c4,c5,c6,c7,c8,c9,c10,c11,c12,f10,f11,f12⟩:=dE hx2
   simp only at c0 c1 c2 c3 c4 c5 c6 c7 c8 c9 c10 c11 c12
   rw[HLO.out] at c4
   have HX2:=MI hx2
   clear hx2
   generalize v.at_+v.dU=a at*
   go_wp2_with fail
   go_end0
   exact⟨rfl,by rw[←HV.out];exact HX2.out,hk2.out⟩
end Go.Proofs.YtnicjahcgnhogaaGreatDoor
