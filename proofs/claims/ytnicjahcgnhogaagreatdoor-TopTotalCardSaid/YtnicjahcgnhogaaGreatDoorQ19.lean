/- Part 20 of the walk: contracts of the program's functions, each for every input. No condition. -/
import Derived.Test.YtnicjahcgnhogaaGreatDoorQ18
import Derived.Test.YtnicjahcgnhogaaGreatDoorQ06
import Derived.Test.YtnicjahcgnhogaaGreatDoorQ07
import Derived.Test.YtnicjahcgnhogaaGreatDoorQ01
import Derived.Test.YtnicjahcgnhogaaGreatDoorQ00
import Derived.Test.YtnicjahcgnhogaaGreatDoorQ03
set_option linter.unusedVariables false
set_option linter.unusedSimpArgs false
set_option maxRecDepth 100000
set_option maxHeartbeats 8000000
namespace Go.Proofs.YtnicjahcgnhogaaGreatDoor
open Go Go.RowKit Go.Calli
attribute [local irreducible] wpStill wpAnyH wpAnyS wpList Code.wp
def rQ(v:Int)(k:Nat):Nat:=(v%2^k).toNat
theorem D8(v:Int)(k:Nat):rQ v k<2^k:=by
 unfold rQ
 have h0:(0:Int)<2^k:=Int.pow_pos (by decide)
 have h1:=Int.emod_lt_of_pos v h0
 have h2:=Int.emod_nonneg v (Int.ne_of_gt h0)
 have h3:((2:Int)^k)=((2^k:Nat):Int):=by simp
 omega
theorem Ik(v:Int)(k:Nat)(hk:k≤57):bits .and .u64 (IntKind.u64.wrap v) (2^k - 1)=(rQ v k:Int):=by
 have hp:2^k≤2^57:=Nat.pow_le_pow_right (by decide) hk
 have hp1:1≤2^k:=Nat.one_le_two_pow
 have e:((2:Int)^k)=((2^k:Nat):Int):=by simp
 have h127:(BitVec.ofInt 64 ((2:Int)^k - 1)).toNat=2^k - 1:=by
  rw[BitVec.toNat_ofInt,e];omega
 have key:(BitVec.ofInt 64 (IntKind.u64.wrap v)&&&BitVec.ofInt 64 ((2:Int)^k - 1)).toNat=((IntKind.u64.wrap v)%((2^64:Nat):Int)).toNat%2^k:=by
  rw[BitVec.toNat_and,BitVec.toNat_ofInt,h127,Nat.and_two_pow_sub_one_eq_mod]
 show IntKind.u64.wrap ((BitVec.ofInt 64 (IntKind.u64.wrap v)&&&BitVec.ofInt 64 ((2:Int)^k - 1)).toNat:Nat)=_
 rw[key,IntKind.wrap_u64,IntKind.wrap_u64]
 unfold rQ
 have hd:((2:Int)^k)∣18446744073709551616:=by
  refine⟨2^(64 - k),?_⟩
  rw[←Int.pow_add,show k+(64 - k)=64 by omega];rfl
 have h1:v%18446744073709551616%(2:Int)^k=v%2^k:=Int.emod_emod_of_dvd v hd
 have h2:=Int.emod_nonneg v (show(18446744073709551616:Int)≠0 by decide)
 have h3:=Int.emod_lt_of_pos v (show(0:Int)<18446744073709551616 by decide)
 have h4:((v%18446744073709551616%((2^64:Nat):Int)).toNat%2^k:Nat)=(v%2^k).toNat:=by
  rw[←h1]
  generalize v%18446744073709551616=x at*
  have h5:x%((2^64:Nat):Int)=x:=Int.emod_eq_of_lt h2 (by simpa using h3)
  rw[h5,e]
  obtain⟨y,rfl⟩: ∃y:Nat,x=(y:Int):=⟨x.toNat,by omega⟩
  rw[←Int.natCast_emod,Int.toNat_natCast,Int.toNat_natCast]
 rw[h4]
 have h6:=D8 v k
 unfold rQ at h6
 omega
theorem D7(wb:Nat)(bv:Value)(x:Wr)(v:Int)(k:Nat)(hx:x.e=0)(hn:x.n≤100000)(hk:k≤57)(hf:dQ v k=true)(w:World)(h:qA w wb bv x):Calls Tryz.prog 172 #[.pointer (some ⟨wb,0,none⟩),.int .i64 v,.int .i64 (k:Int)] w (PutP wb bv (iV x (rQ v k) k) w):=by
 have hF:=MI (fun w=>fits_any v k hk w)
 rw[hf] at hF
 have hP:=MI (put_any wb bv x (rQ v k) k hx hn hk (D8 v k) w h)
 have hk1:¬(k:Int)<0:=by omega
 have hk2:¬57<(k:Int):=by omega
 have hmk:min k 64=k:=by omega
 have hp:(2:Nat)^k≤2^57:=Nat.pow_le_pow_right (by decide) hk
 have hp1:1≤(2:Nat)^k:=Nat.one_le_two_pow
 have e:((2:Int)^k)=((2^k:Nat):Int):=by simp
 have hw1:IntKind.u64.wrap ((2:Int)^k)=2^k:=by rw[IntKind.wrap_u64,e];omega
 have hw2:IntKind.u64.wrap ((2:Int)^k - 1)=2^k - 1:=by rw[IntKind.wrap_u64,e];omega
 have hm:=Ik v k hk
 clear h hx hn hf e hp hp1
 generalize rQ v k=sv at*
 go_enter Tryz.func172,Tryz.ntmps172
 go_wp2_with (first
  | (go_at_call 207;refine(hF.out _).mono ?_;rintro e w1 ⟨rfl,rfl⟩)
  | (go_at_call 171;refine hP.out.mono ?_;rintro e w1 ⟨rfl,h1⟩))
 go_end0
 exact⟨rfl,h1⟩
def cdA(size:Int):Array Value:=(iL cO++[Value.int .i64 size]).toArray
structure mY(w:World)(cb:Nat)(size:Int):Prop where
 row:w.heap[cb]? =some (.cells (cdA size) 181 (0,0))
theorem mY.ah{w w':World}{cb:Nat}{size:Int}(h:mY w cb size)(hb:Below w.heap.size w w'):mY w' cb size:=⟨(hb.block _ (L8 h.row)).trans h.row⟩
theorem mY.size{w:World}{cb:Nat}{size:Int}(h:mY w cb size):w.cell? ⟨cb,32,none⟩=some (.int .i64 size):=(LZ h.row).trans rfl
def CdP(size:Int)(w:World)(e:Ending)(w':World):Prop:=Below w.heap.size w w'∧(((size<24∨96<size)∧e= .returned (.tuple #[.pointer none,.int .i64 12]))∨(24≤size∧size≤96∧∃cb,e= .returned (.tuple #[.pointer (some ⟨cb,0,none⟩),()])∧w.heap.size≤cb∧mY w' cb size))
theorem AB(size:Int)(w:World):Calls Tryz.prog 54 #[.int .i64 size] w (CdP size w):=by
 by_cases h1:size<24
 ·go_enter Tryz.func54,Tryz.ntmps54
  go_wp2_with fail
  go_ret2
  exact⟨Below.refl _ _,.inl ⟨.inl h1,rfl⟩⟩
 ·by_cases h2:96<size
  ·go_enter Tryz.func54,Tryz.ntmps54
   go_wp2_with fail
   go_ret2
   exact⟨Below.refl _ _,.inl ⟨.inr h2,rfl⟩⟩
  ·have hL:=fun w=>uD w
   have hbu:Tryz.prog.built 181 [(0,.agg (iA cO)),(1,.int .i64 size)]=some (cdA size):=by kernel_rfl
   go_enter Tryz.func54,Tryz.ntmps54
   go_wp2_with (first
    | (go_at_call 86;refine(hL _).mono ?_;rintro e w1 ⟨rfl,hb1⟩)
    | (with_reducible show wpList _ _ _ (Oper.mk _ (Op.build 181 _) _ _ _ _::_) _ _;refine aV rfl 181 _ rfl (cdA size) hbu ?_))
   go_ret2
   exact⟨hb1.trans ((ae _ _).mono hb1.size),.inr ⟨by omega,by omega,_,rfl,hb1.size,⟨(L9 _ _).trans (congrArg (fun x=>some (Obj.cells x 181 (0,0))) (by kernel_rfl))⟩⟩⟩
theorem qp(cb:Nat)(size:Int)(w:World)(h:mY w cb size):Calls Tryz.prog 95 #[.pointer (some ⟨cb,0,none⟩)] w (fun e w'=>e= .returned (.int .i64 size)∧w'=w):=by
 have hc:=h.size
 go_enter Tryz.func95,Tryz.ntmps95
 go_wp2_with fail
 go_ret
 exact⟨rfl,rfl⟩
theorem GV(cb:Nat)(size:Int)(w:World)(h:mY w cb size):Calls Tryz.prog 159 #[.pointer (some ⟨cb,0,none⟩)] w (fun e w'=>e= .returned (.bool (decide (55≤size)))∧w'=w):=by
 have hS:=qp cb size w h
 go_enter Tryz.func159,Tryz.ntmps159
 go_wp2_with (go_at_call 95;refine hS.mono ?_;rintro e w1 ⟨rfl,rfl⟩)
 go_ret
 exact⟨rfl,rfl⟩
theorem zS(cs:Array Value)(v:Value)(h0:0<cs.size)(h: ∀i,i<cs.size→cs[i]? =some v)(n:Nat):(madeCells cs n).toList=List.replicate n v:=by
 apply List.ext_getElem
 ·simp[madeCells]
 ·intro i h1 h2
  have hm:i%cs.size<cs.size:=Nat.mod_lt _ h0
  have h3:=h _ hm
  rw[Array.getElem?_eq_getElem hm] at h3
  injection h3 with h3
  simp only[madeCells,Array.toList_map,List.getElem_map,List.getElem_replicate,Array.toList_range,List.getElem_range]
  rw[getElem!_pos cs _ hm,h3]
theorem zG{w:World}{base g n e size:Nat}{xs:List Value}(h:w.ownsRow base e size (.slice (some ⟨g,0,none⟩) n n) n xs):w.heap[g]? =some (.cells xs.toArray e (0,0)):=by
 rcases h.2 with⟨h1,_⟩ | ⟨g',cap,cur,h1,hbg,hg,hnc,hcm,hcs,htake⟩
 ·cases h1
 ·cases h1
  rw[hg]
  congr 2
  apply Array.toList_inj.1
  rw[←htake,List.take_of_length_le (by simpa using Nat.le_of_eq hcs)]
theorem uA{w:World}{base g n e:Nat}{k:IntKind}(h:w.ownsRow base e 1 (.slice (some ⟨g,0,none⟩) n n) n (madeCells (Value.int k 0).cells (n*1)).toList):Blk k w g e (List.replicate n 0):=by
 have h2:=zG h
 rw[zS (Value.int k 0).cells (.int k 0) Nat.one_pos (fun i hi=>by
  have hi0:i<1:=hi
  have:i=0:=by omega
  subst this;rfl),Nat.mul_one] at h2
 unfold Blk
 rw[List.map_replicate]
 exact h2
theorem hu5: ∃i5:TypeInfo,Tryz.prog.info? 5=some i5∧i5.zero=some (.int .u8 0)∧i5.size=1∧i5.bytes=1:=⟨_,rfl,rfl,rfl,rfl⟩
theorem Blk.splice{k:IntKind}{w:World}{b t:Nat}{zs xs:List Int}{off:Nat}(h:w.heap[b]? =some (.cells (Go.splice (zs.map (Value.int k)) off (xs.map (Value.int k))).toArray t (0,0))):Blk k w b t (Go.splice zs off xs):=by
 unfold Blk
 rw[h]
 simp[Go.splice,List.map_take,List.map_drop]
def WbP(x:Wr)(size:Nat)(w:World)(e:Ending)(w':World):Prop:=Below w.heap.size w w'∧((size<x.bs.length∧e= .returned (.tuple #[.slice none 0 0,.int .i64 3]))∨(x.bs.length≤size∧∃g,e= .returned (.tuple #[.slice (some ⟨g,0,none⟩) size size,()])∧w.heap.size≤g∧Blk .u8 w' g 5 (x.bs++List.replicate (size - x.bs.length) 0)))
theorem Bj(wb:Nat)(bv:Value)(x:Wr)(size:Nat)(hs:size≤96)(hx:x.e=0)(w:World)(h:qA w wb bv x):Calls Tryz.prog 174 #[.pointer (some ⟨wb,0,none⟩),.int .i64 (size:Int)] w (WbP x size w):=by
 have hrow:=h.row
 rw[hx] at hrow
 obtain⟨c0,c1,c2⟩:=aW hrow
 obtain⟨ao,cap,rfl⟩:=bV h.own
 have hO:=MI h.own
 have HROW:=MI hrow
 have hs0:¬(size:Int)<0:=by omega
 have hE:Hid (∀w' e,Below w.heap.size w w'→size<x.bs.length→e= .returned (.tuple #[.slice none 0 0,.int .i64 3])→WbP x size w e w'):=fun w' e h1 h2 h3=>⟨h1,.inl ⟨h2,h3⟩⟩
 have hG:Hid (∀w' e g,Below w.heap.size w w'→x.bs.length≤size→e= .returned (.tuple #[.slice (some ⟨g,0,none⟩) size size,()])→w.heap.size≤g→Blk .u8 w' g 5 (Go.splice (List.replicate size 0) 0 x.bs)→WbP x size w e w'):=fun w' e g h1 h2 h3 h4 h5=>⟨h1,.inr ⟨h2,g,h3,h4,by
  rw[show Go.splice (List.replicate size (0:Int)) 0 x.bs=x.bs++List.replicate (size - x.bs.length) 0 by simp[Go.splice]] at h5
  exact h5⟩⟩
 obtain⟨i5,hu51,hu52,hu53,hu54⟩:=hu5
 obtain⟨bs,n,e⟩:=x
 simp only at hO hE hG c0 c1 c2 hrow HROW
 clear h hx hrow
 by_cases hl:size<bs.length
 ·have hli:(size:Int)<(bs.length:Int):=by omega
  go_enter Tryz.func174,Tryz.ntmps174
  go_wp2_with fail
  go_ret2
  exact hE.out _ _ MB hl rfl
 ·have hli:¬(size:Int)<(bs.length:Int):=by omega
  have hw1:IntKind.i64.wrap (size:Int)=(size:Int):=IntWalk.i64_in _ (by omega)
  go_enter Tryz.func174,Tryz.ntmps174
  go_upto_region 8 with(at_make;refine wpList_make_full _ rfl _ _ 63 rfl w.heap.size 5 _ _ _ Tryz.underlying63 hu51 hu52 hu53 _ _ _ _ size rfl rfl rfl rfl (by rw[hu54];omega) (by unfold maxLen;omega) Me ?_;intro w3 hown hgrow)
  have hb3:Below w.heap.size w w3:=((af.refl (fun _=>False) w).grown hgrow (fun k hk=>by cases hk)).bg Me (fun _ _ e=>e.elim)
  have hB3:=MI (uA hown)
  have hO3:=MI (dF hO.out hb3)
  have hrow3:=(hb3.block _ (L8 HROW.out)).trans HROW.out
  obtain⟨q0,q1,q2⟩:=aW hrow3
  have hps:Hid (0<(bs.map (Value.int .u8)).length→(some ⟨w.heap.size,0,none⟩:Option Addr)=some ⟨w.heap.size,0,none⟩∧∃ad,ao=some ad∧∀j v,(bs.map (Value.int .u8))[j]? =some v→w3.cell? (ad.add j)=some v):=fun hp=>by
   refine⟨rfl,?_⟩
   obtain⟨g,cap',hq⟩:=iF hO3.out (by simpa using hp)
   cases hq
   exact⟨_,rfl,fun j v hj=>hO3.out.cells rfl j v hj⟩
  clear c0 c1 c2 hgrow hown hrow3
  go_wp2_with ((with_reducible show wpList _ _ _ (Oper.mk (some 35) _ _ _ _ _::_) _ _);refine wpList_copy_splice rfl _ _ 63 63 rfl 5 Tryz.underlying63 (by kernel_rfl) _ _ _ _ _ _ rfl rfl w.heap.size 0 ((List.replicate size (0:Int)).map (Value.int .u8)) 5 hB3.out (bs.map (Value.int .u8)) (by rw[List.length_map];exact(Nat.min_eq_left (by omega)).symm) hps.out (by simp;omega) (kL _ _) w.heap.size w3 MB (by have:=hb3.size;omega) ?_;intro w4 HG4 hb4)
  go_ret2
  exact hG.out _ _ _ (hb3.trans hb4) (by omega) rfl Me (Blk.splice HG4.out)
def ni(q s:List Int):List Int:=(List.range 16).map (fun i=>pR (q.getD i 0) (s.getD (i/4) 0).toNat)
theorem iC(q s:List Int):(ni q s).length=16:=by simp[ni]
theorem IC(q s:List Int)(i:Nat)(h:i<16):(ni q s).getD i 0=pR (q.getD i 0) (s.getD (i/4) 0).toNat:=by simp[ni,List.getD,h]
def gX(q s:List Int):List Int:=if inB 23 s=true then ni q s else z16
theorem Fb(q s:List Int)(hq:q.length=16)(hs:s.length=4)(w:World):Calls Tryz.prog 227 #[.agg (iA q),.agg (iA s)] w (fun e w'=>e= .returned (.agg (iA (gX q s)))∧Below w.heap.size w w'):=by
 have hb0:=ae w (.cells (iA q) 194)
 have hz0:=L9 w (.cells (iA q) 194)
 have hb1:=ae (w.alloc (.cells (iA q) 194)) (.cells (iA s) 306)
 have hz1:=L9 (w.alloc (.cells (iA q) 194)) (.cells (iA s) 306)
 have hb2:=ae ((w.alloc (.cells (iA q) 194)).alloc (.cells (iA s) 306)) (.cells #[(),(),(),(),(),(),(),(),(),(),(),(),(),(),(),()] 194)
 have hz2:=L9 ((w.alloc (.cells (iA q) 194)).alloc (.cells (iA s) 306)) (.cells #[(),(),(),(),(),(),(),(),(),(),(),(),(),(),(),()] 194)
 have hz1:=(hb2.block _ (L8 hz1)).trans hz1
 have hz0:=((hb1.trans (hb2.mono hb1.size)).block _ (L8 hz0)).trans hz0
 have hB:=(hb0.trans (hb1.mono hb0.size)).trans (hb2.mono (hb0.trans (hb1.mono hb0.size)).size)
 simp only[World.size_alloc] at hz1 hz2
 clear hb0 hb1 hb2
 have hi0:(Tryz.prog.info? 194).map (·.size)=some (iA q).size:=by rw[az,hq];kernel_rfl
 have hi1:(Tryz.prog.info? 306).map (·.size)=some (iA s).size:=by rw[az,hs];kernel_rfl
 have hi2:(Tryz.prog.info? 194).map (·.size)=some (iA (ni q s)).size:=by rw[az,iC];kernel_rfl
 have hi3:(Tryz.prog.info? 194).map (·.size)=some (iA z16).size:=by kernel_rfl
 have HR:=MI (fun w=>oV s hs w)
 have HV:Hid (gX q s=if inB 23 s=true then ni q s else z16):=rfl
 have HIN:=MI (fun h k hk=>uJ (m:=23) (zs:=s) h k hk)
 have HM:=MI (fun j (hj:j<16)=>pU (ni q s) q j (by rw[iC,hq]) (by rw[iC];exact hj))
 have HG:=MI (fun j (hj:j<16)=>zN (ni q s) q j (by rw[iC,hq]) (by rw[iC];exact hj))
 have HL:=MI (fun j=>pV (ni q s) q j (by rw[iC,hq]))
 have HX:=MI (fun i hi=>IC q s i hi)
 have HA:Hid (jT (ni q s) q 16=ni q s):=by have:=pW (ni q s) q (by rw[iC,hq]);rwa [iC] at this
 have HVL:=MI (iC q s)
 have HQ0:Hid (jT (ni q s) q 0=q):=qQ _ _
 have HS:=MI hs
 have hq16:(iA q).size=(iA (ni q s)).size:=by rw[az,az,iC,hq]
 go_enter Tryz.func227,Tryz.ntmps227
 go_upto_region 1 with fail
 generalize ((w.alloc (.cells (iA q) 194)).alloc (.cells (iA s) 306)).alloc (.cells #[(),(),(),(),(),(),(),(),(),(),(),(),(),(),(),()] 194)=W at*
 generalize hvl:ni q s=vl at*
 go_upto_if 8 with(first | (with_reducible refine MC 306 3 ?_;refine wpList_load_row rfl 306 (.tmp 3) rfl _ rfl 306 (iA s) (0,0) _ hz1 Tryz.underlying306 rfl hi1 ?_) | (go_at_call 206;refine(HR.out _).mono ?_;rintro e w1 ⟨rfl,hb1⟩))
 have hy0:=(hb1.block _ (L8 hz0)).trans hz0
 have hy1:=(hb1.block _ (L8 hz1)).trans hz1
 have hy2:=(hb1.block _ (L8 hz2)).trans hz2
 have hB1:=hB.trans (hb1.mono hB.size)
 clear hz0 hz1 hz2 hB hb1 HR hq hs hvl hq16 hi0 hi1
 by_cases hr:inB 23 s=true
 ·have hin:=MI (HIN.out hr)
  have hv:=HV.out
  rw[if_pos hr] at hv
  rw[hr]
  simp only[Bool.not_true]
  have HV2:=MI hv
  clear hv HV HIN hr
  have HY0:=MI hy0
  have HY1:=MI hy1
  have HY2:=MI hy2
  have HB1:=MI hB1
  clear hy0 hy1 hy2 hB1
  go_upto_region 4 with fail
  go_loopw [10] (fun v10 wr=>∃j:Nat,j≤16∧v10= .int .i64 (j:Int)∧wr.heap[w.heap.size]? =some (.cells (iA (jT vl q j)) 194 (0,0))∧wr.heap[w.heap.size+1]? =some (.cells (iA s) 306 (0,0))∧wr.heap[w.heap.size+1+1]? =some (.cells #[(),(),(),(),(),(),(),(),(),(),(),(),(),(),(),()] 194 (0,0))∧Below w.heap.size w wr) (fun v10 _=>16 - aG v10)
  case atStart=>exact⟨0,by omega,rfl,by rw[HQ0.out];exact HY0.out,HY1.out,HY2.out,HB1.out⟩
  case round=>
   clear HY0 HY1 HY2 HB1
   obtain⟨j,hj,rfl,h0,h1,h2,hb⟩:=hrel
   by_cases hj16:j<16
   ·have hsb:=hin.out (j/4) (by rw[HS.out];omega)
    have hX:=HX.out j hj16
    obtain⟨sk,hsk⟩: ∃sk:Nat,s.getD (j/4) 0=(sk:Int):=⟨(s.getD (j/4) 0).toNat,by omega⟩
    rw[hsk] at hsb hX
    rw[Int.toNat_natCast] at hX
    have hcs:=aH (k:=j/4) h1 (by rw[HS.out];omega)
    rw[hsk] at hcs
    have hcq:=aH (k:=j) h0 (by rw[HL.out,HVL.out];exact hj16)
    rw[HG.out j hj16] at hcq
    have hfq:=aj h0 j
    have hset:=bJ h0 j (vl.getD j 0)
    rw[HM.out j hj16,hX] at hset
    have hst:=MI (fun w=>JC (q.getD j 0) sk (by omega) w)
    have hbd:=MI (lX j hj16)
    have hjb:j/4<4:=by omega
    have hjb2:((j/4:Nat):Int)<4:=by omega
    generalize j/4=jb at*
    have HSET:=MI hset
    have H1:=MI h1
    have H2:=MI h2
    have HB:=MI hb
    generalize q.getD j 0=qj at*
    clear h0 h1 h2 hb hset hX hsk hsb
    go_upto_region 6 with fail
    go_region_law (first | (go_simp;go_at_call 173;refine(hbd.out _).mono ?_;rintro e w' ⟨rfl,rfl⟩) | (go_simp;go_at_call 236;refine(hst.out _).mono ?_;rintro e w1 ⟨rfl,m1,rfl⟩))
    all_goals go_wp2_with fail
    all_goals refine⟨⟨j+1,by omega,by go_num,HSET.out,(heap_setCell_other _ _ _ _ (by show w.heap.size+1≠w.heap.size;omega)).trans H1.out,(heap_setCell_other _ _ _ _ (by show w.heap.size+1+1≠w.heap.size;omega)).trans H2.out,(below_drewN HB.out _).setCell (p:=⟨w.heap.size,_,none⟩) Me _⟩,by simp[aG];omega⟩
   ·obtain rfl:j=16:=by omega
    have h0':wr.heap[w.heap.size]? =some (.cells (iA vl) 194 (0,0)):=by rw[←HA.out];exact h0
    clear h0
    go_wp2_with (first | (with_reducible refine MC 194 2 ?_;refine wpList_load_row rfl 194 (.tmp 2) rfl _ rfl 194 (iA vl) (0,0) _ h0' Tryz.underlying194 rfl hi2 ?_) | (with_reducible refine MF 194 4 24 ?_;refine wpList_store_row rfl 194 (.tmp 4) (.tmp 24) rfl _ (iA vl) rfl rfl 194 (iA z16) h2 hi2 (by rw[az vl,az z16,HVL.out];simp[z16]) (bP _) ?_))
    exact bodyPost_ret (results_cell_row (fn:=Tryz.f227) rfl _ _ _ _ _ _ _ rfl (setRow_heap _ _ _ _ _ _ h2) Tryz.underlying194 rfl hi2) rfl ⟨by rw[HV2.out],below_setRow hb (by omega) _⟩
 ·have hv:=HV.out
  rw[if_neg hr] at hv
  have hr2:inB 23 s=false:=by simpa using hr
  rw[hr2]
  simp only[Bool.not_false]
  have HV2:=MI hv
  have hbu:Tryz.prog.built 194 []=some (iA z16):=by kernel_rfl
  have hy2':w1.heap[w.heap.size+1+1]? =some (.cells (iA z16) 194 (0,0)):=hy2
  clear hv HV HIN hr hr2 hy0 hy1 hy2
  go_wp2_with (first | (refine aV rfl 194 #[] rfl [] ?hl (iA z16) hbu ?_) | (with_reducible refine MF 194 4 9 ?_;refine wpList_store_row rfl 194 (.tmp 4) (.tmp 9) rfl _ (iA z16) rfl rfl 194 (iA z16) hy2' hi3 rfl (bP _) ?_))
  exact bodyPost_ret (results_cell_row (fn:=Tryz.f227) rfl _ _ _ _ _ _ _ rfl (setRow_heap _ _ _ _ _ _ hy2') Tryz.underlying194 rfl hi3) rfl ⟨by rw[HV2.out],below_setRow hB1 (by omega) _⟩
theorem near_wf(v:Int)(p:Nat):(Lit.int .i64 (pR v p)).wf=true:=by
 unfold pR
 split
 ·exact wrap64_wf _
 ·split
  ·exact wrap64_wf _
  ·split<;>exact wrap64_wf _
theorem IG(b s:List Int): ∀z ∈ gX b s,(Lit.int .i64 z).wf=true:=by
 unfold gX
 split
 ·intro z hz
  unfold ni at hz
  obtain⟨i,_,rfl⟩:=List.mem_map.1 hz
  exact near_wf _ _
 ·intro z hz
  unfold z16 at hz
  simp at hz
  subst hz;rfl
theorem qJ(b s:List Int):(gX b s).length=16:=by
 unfold gX
 split
 ·exact iC _ _
 ·rfl
def wdS(q:List Int):Nat→List Int
 | 0=>[0,0,0,0]
 | k+1=>(wdS q k).set (k/4) (max ((wdS q k).getD (k/4) 0) (jL (q.getD k 0)))
def kY(q:List Int):List Int:=wdS q 16
theorem pz(q:List Int): ∀k,(wdS q k).length=4:=by
 intro k
 induction k with
 | zero=>rfl
 | succ k ih=>simp only[wdS,List.length_set,ih]
theorem Bi(q:List Int)(hq:q.length=16)(hwf: ∀z ∈ q,(Lit.int .i64 z).wf=true)(w:World):Calls Tryz.prog 228 #[.agg (iA q)] w (fun e w'=>e= .returned (.agg (iA (kY q)))∧Below w.heap.size w w'):=by
 have hb0:=ae w (.cells (iA q) 194)
 have hz0:=L9 w (.cells (iA q) 194)
 have hb1:=ae (w.alloc (.cells (iA q) 194)) (.cells #[(),(),(),()] 191)
 have hz1:=L9 (w.alloc (.cells (iA q) 194)) (.cells #[(),(),(),()] 191)
 have hb2:=ae ((w.alloc (.cells (iA q) 194)).alloc (.cells #[(),(),(),()] 191)) (.cells #[(),(),(),()] 191)
 have hz2:=L9 ((w.alloc (.cells (iA q) 194)).alloc (.cells #[(),(),(),()] 191)) (.cells #[(),(),(),()] 191)
 have hz1:=(hb2.block _ (L8 hz1)).trans hz1
 have hz0:=((hb1.trans (hb2.mono hb1.size)).block _ (L8 hz0)).trans hz0
 have hB:=(hb0.trans (hb1.mono hb0.size)).trans (hb2.mono (hb0.trans (hb1.mono hb0.size)).size)
 simp only[World.size_alloc] at hz1 hz2
 clear hb0 hb1 hb2
 have hi0:(Tryz.prog.info? 194).map (·.size)=some (iA q).size:=by rw[az,hq];kernel_rfl
 have hi1:(Tryz.prog.info? 191).map (·.size)=some (iA (kY q)).size:=by rw[az,kY,pz];kernel_rfl
 have HL:=MI (pz q)
 have HS:=MI (fun k=>show wdS q (k+1)=(wdS q k).set (k/4) (max ((wdS q k).getD (k/4) 0) (jL (q.getD k 0))) from rfl)
 have HW:=MI (fun k w=>vX (q.getD k 0) (bounds_i64 (sK hwf (by decide) k)).1 (bounds_i64 (sK hwf (by decide) k)).2 w)
 have H0:Hid (wdS q 0=[0,0,0,0]):=rfl
 have HE:Hid (kY q=wdS q 16):=rfl
 have HQ:=MI hq
 have HIX:=MI (fun k (hk:k<16) w=>iG (P:=Tryz.prog) 194 2 16 Tryz.underlying194 Tryz.underlying2 (by kernel_rfl) q hq k hk w)
 have HB:=MI hB
 have HZ1:=MI hz1
 have HZ2:=MI hz2
 clear hwf hq hB
 go_enter Tryz.func228,Tryz.ntmps228
 go_upto_region 2 with fail
 have hw1:w.heap.size<(((w.alloc (.cells (iA q) 194)).alloc (.cells #[(),(),(),()] 191)).alloc (.cells #[(),(),(),()] 191)).heap.size:=L8 hz0
 generalize ((w.alloc (.cells (iA q) 194)).alloc (.cells #[(),(),(),()] 191)).alloc (.cells #[(),(),(),()] 191)=W at*
 clear hz1 hz2
 go_upto_region 3 with(with_reducible refine MC 194 1 ?_;refine wpList_load_row rfl 194 (.tmp 1) rfl _ rfl 194 (iA q) (0,0) _ hz0 Tryz.underlying194 rfl hi0 ?_)
 clear hz0 hi0
 go_loopw [7] (fun v7 wr=>∃j:Nat,j≤16∧v7= .int .i64 (j:Int)∧wr.heap[w.heap.size+1+1]? =some (.cells (iA (wdS q j)) 191 (0,0))∧wr.heap[w.heap.size+1]? =some (.cells #[(),(),(),()] 191 (0,0))∧Below w.heap.size w wr) (fun v7 _=>16 - aG v7)
 case atStart=>exact⟨0,by omega,rfl,by rw[H0.out];exact HZ2.out,HZ1.out,HB.out⟩
 case round=>
  clear HZ1 HZ2 HB
  obtain⟨j,hj,rfl,h2,h1,hb⟩:=hrel
  by_cases hj16:j<16
  ·have hix:=HIX.out j hj16
   have hcs:=aH (k:=j/4) h2 (by rw[HL.out];omega)
   have hfs:=aj h2 (j/4)
   have hset:=bJ h2 (j/4) (max ((wdS q j).getD (j/4) 0) (jL (q.getD j 0)))
   rw[←HS.out j] at hset
   have hmx: ∀a b:Int,max a b=if a<b then b else a:=fun a b=>by rw[Int.max_def];split<;>split<;>omega
   rw[hmx] at hset
   clear hmx
   have hbd:=MI (lX j hj16)
   have hwd:=MI (HW.out j)
   have hjb:j/4<4:=by omega
   have hjb2:((j/4:Nat):Int)<4:=by omega
   have HSET:=MI hset
   have H1:=MI h1
   have H2:=MI h2
   have HBb:=MI hb
   clear h1 hb hset
   generalize (wdS q j).getD (j/4) 0=o at*
   generalize j/4=jb at*
   generalize jL (q.getD j 0)=u at*
   generalize q.getD j 0=qj at*
   go_upto_region 5 with fail
   go_region_law (first | (go_simp;go_at_call 173;refine(hbd.out _).mono ?_;rintro e w' ⟨rfl,rfl⟩) | (go_simp;go_at_call 165;refine(hwd.out _).mono ?_;rintro e w1 ⟨rfl,m1,rfl⟩))
   all_goals go_wp2_with fail
   all_goals refine⟨⟨j+1,by omega,by go_num,HSET.out,(heap_setCell_other _ _ _ _ (by show w.heap.size+1≠w.heap.size+1+1;omega)).trans H1.out,(below_drewN HBb.out _).setCell (p:=⟨w.heap.size+1+1,_,none⟩) (by show w.heap.size≤w.heap.size+1+1;omega) _⟩,by simp[aG];omega⟩
  ·obtain rfl:j=16:=by omega
   rw[←HE.out] at h2
   generalize hL:kY q=L at*
   have hsz:(#[Value.int .i64 0,Value.int .i64 0,Value.int .i64 0,Value.int .i64 0]:Array Value).size=(iA L).size:=by rw[az,←hL];show 4=(wdS q 16).length;rw[HL.out]
   have HLq:=MI hL
   clear hL
   go_wp2_with (first | (with_reducible refine MC 191 3 ?_;refine wpList_load_row rfl 191 (.tmp 3) rfl _ rfl 191 (iA L) (0,0) _ h2 Tryz.underlying191 rfl hi1 ?_) | (with_reducible refine MF 191 2 22 ?_;refine wpList_store_row rfl 191 (.tmp 2) (.tmp 22) rfl _ (iA L) rfl rfl 191 #[(),(),(),()] h1 hi1 hsz (bP _) ?_))
   exact bodyPost_ret (results_cell_row (fn:=Tryz.f228) rfl _ _ _ _ _ _ _ rfl (setRow_heap _ _ _ _ _ _ h1) Tryz.underlying191 rfl hi1) rfl ⟨by rw[HLq.out],below_setRow hb (by omega) _⟩
def oP(z:List Int):Nat→Int
 | 0=>0
 | k+1=>wrap64 (oP z k+wrap64 (4*z.getD k 0))
theorem KO(z:List Int)(hz:z.length=4)(w:World):Calls Tryz.prog 229 #[.agg (iA z)] w (fun e w'=>e= .returned (.int .i64 (oP z 4))∧Below w.heap.size w w'):=by
 have hb0:=ae w (.cells (iA z) 191)
 have hz0:=L9 w (.cells (iA z) 191)
 have hi0:(Tryz.prog.info? 191).map (·.size)=some (iA z).size:=by rw[az,hz];kernel_rfl
 have HIX:=MI (fun k (hk:k<4) w=>iG (P:=Tryz.prog) 191 3 4 Tryz.underlying191 Tryz.underlying3 (by kernel_rfl) z hz k hk w)
 have HS:=MI (fun k=>show oP z (k+1)=wrap64 (oP z k+wrap64 (4*z.getD k 0)) from rfl)
 have H0:Hid (oP z 0=0):=rfl
 have HB:=MI hb0
 clear hb0 hz
 go_enter Tryz.func229,Tryz.ntmps229
 go_upto_region 2 with fail
 generalize w.alloc (.cells (iA z) 191)=W at*
 go_upto_region 3 with(with_reducible refine MC 191 1 ?_;refine wpList_load_row rfl 191 (.tmp 1) rfl _ rfl 191 (iA z) (0,0) _ hz0 Tryz.underlying191 rfl hi0 ?_)
 clear hz0 hi0
 generalize hC:oP z=C at*
 have HC:=MI hC
 clear hC
 go_loop [3,7] (fun v3 v7=>∃j:Nat,j≤4∧v7= .int .i64 (j:Int)∧v3= .int .i64 (C j)) (fun _ v7=>4 - aG v7)
 case atStart=>exact⟨0,by omega,rfl,by rw[H0.out]⟩
 case round=>
  obtain⟨j,hj,rfl,rfl⟩:=hrel
  by_cases hj4:j<4
  ·have hix:=HIX.out j hj4
   have hs:=MI (HS.out j)
   generalize z.getD j 0=x at*
   generalize C j=c at*
   go_wp2_with fail
   go_round
   case rel=>exact⟨j+1,by omega,by go_num,by rw[hs.out]⟩
   case measure=>simp[aG];omega
  ·obtain rfl:j=4:=by omega
   go_wp2_with fail
   go_ret
   exact⟨by rw[HC.out];rfl,HB.out⟩
def mn2(a b:Int):Int:=if b<a then b else a
def mx2(a b:Int):Int:=if a<b then b else a
theorem Jb{P:Program}(a b c d:Int)(ats:Array TypeId)(ty:TypeId)(w:World):(Builtin.min_ ats ty #[.int .i64 a,.int .i64 b,.int .i64 c,.int .i64 d]).run P w= .ok (.int .i64 (mn2 (mn2 (mn2 a b) c) d)) w:=rfl
theorem Jc{P:Program}(a b c d:Int)(ats:Array TypeId)(ty:TypeId)(w:World):(Builtin.max_ ats ty #[.int .i64 a,.int .i64 b,.int .i64 c,.int .i64 d]).run P w= .ok (.int .i64 (mx2 (mx2 (mx2 a b) c) d)) w:=rfl
theorem gok_any(a b c d:Int)(w:World):Calls Tryz.prog 167 #[.agg #[.int .i64 a,.int .i64 b,.int .i64 c,.int .i64 d]] w (fun e w'=>e= .returned (.bool (inB 3 [a,b,c,d]))∧Below w.heap.size w w'):=by
 have hb0:=ae w (.cells #[.int .i64 a,.int .i64 b,.int .i64 c,.int .i64 d] 191)
 obtain⟨c0,c1,c2,c3⟩:=bi (L9 w (.cells #[.int .i64 a,.int .i64 b,.int .i64 c,.int .i64 d] 191))
 have h1:=fun ats ty w=>Jb (P:=Tryz.prog) a b c d ats ty w
 have h2:=fun ats ty w=>Jc (P:=Tryz.prog) a b c d ats ty w
 have hE:Hid (inB 3 [a,b,c,d]=(decide (0≤mn2 (mn2 (mn2 a b) c) d)&&decide (mx2 (mx2 (mx2 a b) c) d≤3))):=by
  unfold Hid inB mn2 mx2
  rw[Bool.eq_iff_iff]
  simp only[List.all_cons,List.all_nil,Bool.and_true,Bool.and_eq_true,decide_eq_true_eq]
  constructor
  ·intro h;constructor<;>(repeat' split)<;>omega
  ·intro h
   obtain⟨h1,h2⟩:=h
   (repeat' split at h1)<;>(repeat' split at h2)<;>omega
 generalize mn2 (mn2 (mn2 a b) c) d=m at*
 generalize mx2 (mx2 (mx2 a b) c) d=x at*
 go_enter Tryz.func167,Tryz.ntmps167
 go_upto_region 1 with fail
 generalize w.alloc (.cells #[.int .i64 a,.int .i64 b,.int .i64 c,.int .i64 d] 191)=W at*
 by_cases hm:0≤m
 ·by_cases hx:x≤3
  ·go_wp2_with fail
   go_ret
   exact⟨aN (by rw[hE.out];simp[hm,hx]),hb0⟩
  ·go_wp2_with fail
   go_ret
   exact⟨aN (by rw[hE.out];simp[hm,hx]),hb0⟩
 ·go_wp2_with fail
  go_ret
  exact⟨aN (by rw[hE.out,decide_eq_false (Int.not_le.2 hm)];rfl),hb0⟩
def outT(b:List Int)(t:Int×Int):List Int:=if 0≤t.1∧t.1<16 then b.set t.1.toNat (wrap64 (b.getD t.1.toNat 0 - t.2)) else b
def ut(b:List Int)(ts:List (Int×Int)):Nat→List Int
 | 0=>b
 | k+1=>outT (ut b ts k) (ts.getD k (0,0))
def jZ(b:List Int)(ts:List (Int×Int)):List Int:=ut b ts ts.length
theorem Ju(b:List Int)(t:Int×Int):(outT b t).length=b.length:=by unfold outT;split<;>simp
theorem zH(b:List Int)(ts:List (Int×Int)): ∀k,(ut b ts k).length=b.length:=by
 intro k
 induction k with
 | zero=>rfl
 | succ k ih=>simp only[ut,Ju,ih]
theorem outT_wf{b:List Int}(h: ∀z ∈ b,(Lit.int .i64 z).wf=true)(t:Int×Int): ∀z ∈ outT b t,(Lit.int .i64 z).wf=true:=by
 unfold outT
 split
 ·intro z hz
  rcases List.mem_or_eq_of_mem_set hz with h1 | h1
  ·exact h z h1
  ·rw[h1];exact wrap64_wf _
 ·exact h
theorem outL_wf{b:List Int}(h: ∀z ∈ b,(Lit.int .i64 z).wf=true)(ts:List (Int×Int)): ∀z ∈ jZ b ts,(Lit.int .i64 z).wf=true:=by
 unfold jZ
 induction ts.length with
 | zero=>exact h
 | succ k ih=>exact outT_wf ih _
theorem zI(b:List Int)(ts:List (Int×Int)):(jZ b ts).length=b.length:=zH b ts _
theorem yU(b:List Int)(hb:b.length=16)(ao:Option Addr)(n cap:Nat)(ts:List (Int×Int))(w:World)(h:bH ed 2 (0,0) w ao n ts):Calls Tryz.prog 200 #[.agg (iA b),.slice ao n cap] w (fun e w'=>e= .returned (.agg (iA (jZ b ts)))∧Below w.heap.size w w'):=by
 have hb0:=ae w (.cells (iA b) 194)
 have hz0:=L9 w (.cells (iA b) 194)
 have hb1:=ae (w.alloc (.cells (iA b) 194)) (.cells #[(),(),(),(),(),(),(),(),(),(),(),(),(),(),(),()] 194)
 have hz1:=L9 (w.alloc (.cells (iA b) 194)) (.cells #[(),(),(),(),(),(),(),(),(),(),(),(),(),(),(),()] 194)
 have hz0:=(hb1.block _ (L8 hz0)).trans hz0
 have hB:=hb0.trans (hb1.mono hb0.size)
 rw[World.size_alloc] at hz1
 clear hb0 hb1
 have hlm:=h.lim
 unfold maxLen at hlm
 have HR:=MI h
 have HLn:=MI h.hlen
 have HL:=MI (fun k=>(zH b ts k).trans hb)
 have HS:=MI (fun k=>show ut b ts (k+1)=outT (ut b ts k) (ts.getD k (0,0)) from rfl)
 have H0:Hid (ut b ts 0=b):=rfl
 have HE:Hid (jZ b ts=ut b ts ts.length):=rfl
 have HB:=MI hB
 have HZ0:=MI hz0
 have HZ1:=MI hz1
 clear h hB hz0 hz1 hb
 go_enter Tryz.func200,Tryz.ntmps200
 go_upto_region 2 with fail
 generalize (w.alloc (.cells (iA b) 194)).alloc (.cells #[(),(),(),(),(),(),(),(),(),(),(),(),(),(),(),()] 194)=W at*
 go_loopw [9] (fun v9 wr=>∃j:Nat,j≤n∧v9= .int .i64 (j:Int)∧wr.heap[w.heap.size]? =some (.cells (iA (ut b ts j)) 194 (0,0))∧wr.heap[w.heap.size+1]? =some (.cells #[(),(),(),(),(),(),(),(),(),(),(),(),(),(),(),()] 194 (0,0))∧Below w.heap.size w wr) (fun v9 _=>n - aG v9)
 case atStart=>exact⟨0,by omega,rfl,by rw[H0.out];exact HZ0.out,HZ1.out,HB.out⟩
 case round=>
  clear HZ0 HZ1 HB
  obtain⟨j,hj,rfl,h0,h1,hb⟩:=hrel
  by_cases hjn:j<n
  ·have hs:=MI (HS.out j)
   obtain⟨a,rfl,c0,c1⟩:=wz (HR.out.ah hb) hjn
   have hl:=HL.out j
   generalize hN:ut b ts (j+1)=nx at*
   have HN:=MI hN
   generalize hC:ut b ts j=cu at*
   clear hN hC
   generalize ts.getD j (0,0)=t at*
   obtain⟨ix,vl⟩:=t
   simp only at c0 c1 hs
   have H1:=MI h1
   have H0':=MI h0
   have HBb:=MI hb
   clear h1 h0 hb
   go_upto_region 4 with fail
   have hba:=ae wr (.cells #[.int .i64 ix,.int .i64 vl] 282)
   obtain⟨d0,d1⟩:=bD (L9 wr (.cells #[.int .i64 ix,.int .i64 vl] 282))
   have h0:=(hba.block _ (L8 H0'.out)).trans H0'.out
   have h1:=(hba.block _ (L8 H1.out)).trans H1.out
   have hb:=HBb.out.trans (hba.mono HBb.out.size)
   clear c0 c1 H1 H0' HBb hba
   generalize wr.heap.size=xb at*
   generalize wr.alloc (.cells #[.int .i64 ix,.int .i64 vl] 282)=V at*
   by_cases hin:0≤ix∧ix<16
   ·obtain⟨i,rfl⟩: ∃i:Nat,ix=(i:Int):=⟨ix.toNat,by omega⟩
    obtain⟨g1,g2⟩:=hin
    have hi16:i<16:=by omega
    have hcv:=aH (k:=i) h0 (by rw[hl];exact hi16)
    have hfv:=aj h0 i
    have hset:=bJ h0 i (wrap64 (cu.getD i 0 - vl))
    have hnx:Hid (nx=cu.set i (wrap64 (cu.getD i 0 - vl))):=by unfold Hid;rw[hs.out];unfold outT;rw[if_pos ⟨g1,g2⟩,Int.toNat_natCast]
    rw[←hnx.out] at hset
    have HSET:=MI hset
    have H1:=MI h1
    have HBb:=MI hb
    generalize cu.getD i 0=ci at*
    clear h0 h1 hb hset hs
    go_upto_region 5 with fail
    go_still_tail 8,(by kernel_rfl)
    repeat still_step
    try refine wpStill_nil ?_
    change wpList _ _ _ _ _ V.drew
    go_wp2_with fail
    refine⟨⟨j+1,by omega,by go_num,by rw[HN.out];exact HSET.out,(heap_setCell_other _ _ _ _ (by show w.heap.size+1≠w.heap.size;omega)).trans H1.out,HBb.out.drew.setCell (p:=⟨w.heap.size,_,none⟩) Me _⟩,by simp[aG];omega⟩
   ·have hnx:Hid (nx=cu):=by unfold Hid;rw[hs.out];unfold outT;rw[if_neg hin]
    have H1:=MI h1
    have H0':=MI h0
    have HBb:=MI hb
    clear h0 h1 hb
    by_cases g1:0≤ix
    ·have g2:¬ix<16:=fun e=>hin ⟨g1,e⟩
     go_wp2_with fail
     exact⟨⟨j+1,by omega,by go_num,by rw[HN.out,hnx.out];exact H0'.out,H1.out,HBb.out⟩,by simp[aG];omega⟩
    ·go_wp2_with fail
     exact⟨⟨j+1,by omega,by go_num,by rw[HN.out,hnx.out];exact H0'.out,H1.out,HBb.out⟩,by simp[aG];omega⟩
  ·obtain rfl:j=n:=by omega
   have hE:=HE.out
   rw[HLn.out] at hE
   rw[←hE] at h0
   have hl:=HL.out j
   rw[←hE] at hl
   have HE2:Hid (jZ b ts=jZ b ts):=rfl
   generalize hX:jZ b ts=X at*
   have HX:=MI hX
   have hi2:(Tryz.prog.info? 194).map (·.size)=some (iA X).size:=by rw[az,hl];kernel_rfl
   have hsz:(#[(),(),(),(),(),(),(),(),(),(),(),(),(),(),(),()]:Array Value).size=(iA X).size:=by rw[az,hl];rfl
   clear hX hE HE2 HE
   go_wp2_with (first | (with_reducible refine MC 194 2 ?_;refine wpList_load_row rfl 194 (.tmp 2) rfl _ rfl 194 (iA X) (0,0) _ h0 Tryz.underlying194 rfl hi2 ?_) | (with_reducible refine MF 194 4 30 ?_;refine wpList_store_row rfl 194 (.tmp 4) (.tmp 30) rfl _ (iA X) rfl rfl 194 _ h1 hi2 hsz (bP _) ?_))
   exact bodyPost_ret (results_cell_row (fn:=Tryz.f200) rfl _ _ _ _ _ _ _ rfl (setRow_heap _ _ _ _ _ _ h1) Tryz.underlying194 rfl hi2) rfl ⟨by rw[HX.out],below_setRow hb (by omega) _⟩
end Go.Proofs.YtnicjahcgnhogaaGreatDoor
