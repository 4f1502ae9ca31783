/- Part 9 of the walk: contracts of the program's functions, each for every input. No condition. -/
import Derived.Test.YtnicjahcgnhogaaGreatDoorRows
import Derived.Test.YtnicjahcgnhogaaGreatDoorQ00
import Derived.Test.YtnicjahcgnhogaaGreatDoorQ07
import Derived.Test.YtnicjahcgnhogaaGreatDoorQ02
import Derived.Laws.Bits128
import Derived.Deep.QuietTactic
import Derived.BigQuiet
set_option linter.unusedVariables false
set_option linter.unusedSimpArgs false
set_option maxRecDepth 100000
set_option maxHeartbeats 8000000
namespace Go.Proofs.YtnicjahcgnhogaaGreatDoor
open Go.RowKit Go.Calli
def kV(x:Nat):Nat:=if x%2=1 then(x/2)^^^3988292384 else x/2
def aO:Nat→Nat→Nat | 0,x=>x | k+1,x=>kV (aO k x)
theorem AA(x:Nat)(h:x<4294967296):kV x<4294967296:=by
 unfold kV;split
 ·exact Nat.xor_lt_two_pow (n:=32) (by omega) (by omega)
 ·omega
theorem xy(k x:Nat)(h:x<4294967296):aO k x<4294967296:=by
 induction k with
 | zero=>exact h
 | succ k ih=>exact AA _ ih
theorem and1(x:Nat)(h:x<4294967296):bits BinOp.and IntKind.u32 (x:Int) 1=((x%2:Nat):Int):=by
 have:=u32_and_nat x 1 h (by omega)
 rw[nat_mask1] at this;exact this
theorem II(x:Nat)(h:x<4294967296)(h1:(bits BinOp.and IntKind.u32 (x:Int) 1==1)=true):
   bits BinOp.xor IntKind.u32 ((x:Int)/2) 3988292384=(kV x:Nat):=by
  rw[and1 x h] at h1
  have h1 : x % 2 = 1 := by have : ((x % 2 : Nat) : Int) = 1 := by simpa using h1
                            omega
  have:=u32_xor_nat (x/2) 3988292384 (by omega) (by omega)
  unfold kV;rw[if_pos h1];rw[←this];rfl
theorem Ff(x:Nat)(h:x<4294967296)(h1:(bits BinOp.and IntKind.u32 (x:Int) 1==1)=false):
   ((x:Int)/2)=(kV x:Nat):=by
  rw[and1 x h] at h1
  have h1:¬x%2=1:=by
    intro h2;rw[h2] at h1;simp at h1
  unfold kV;rw[if_neg h1];rfl
theorem Ia(a b:Nat):(a^^^b)/2=a/2^^^b/2:=by
 have:=Nat.shiftRight_xor_distrib (a:=a) (b:=b) (i:=1)
 simpa[Nat.shiftRight_eq_div_pow] using this
theorem H8(a b:Nat):(a^^^b)%2=(a%2+b%2)%2:=by
 have:=Nat.xor_mod_two_pow (a:=a) (b:=b) (n:=1)
 simp only[Nat.pow_one] at this
 rw[this]
 rcases Nat.mod_two_eq_zero_or_one a with ha | ha<;>rcases Nat.mod_two_eq_zero_or_one b with hb | hb<;>rw[ha,hb]<;>rfl
theorem G7(a b:Nat):kV (a^^^b)=kV a^^^kV b:=by
 unfold kV
 rw[Ia,H8]
 rcases Nat.mod_two_eq_zero_or_one a with ha | ha<;>rcases Nat.mod_two_eq_zero_or_one b with hb | hb<;>rw[ha,hb]<;>simp
 ·rw[Nat.xor_assoc]
 ·rw[Nat.xor_assoc,Nat.xor_assoc,Nat.xor_comm (b/2)]
 ·rw[Nat.xor_assoc,Nat.xor_comm 3988292384,Nat.xor_assoc (b/2),Nat.xor_self,Nat.xor_zero]
theorem Dy(k a b:Nat):aO k (a^^^b)=aO k a^^^aO k b:=by
 induction k with
 | zero=>rfl
 | succ k ih=>show kV (aO k (a^^^b))=_;rw[ih,G7];rfl
theorem Az(k y:Nat):aO k (2^k*y)=y:=by
 induction k generalizing y with
 | zero=>simp[aO]
 | succ k ih=>
  show kV (aO k (2^(k+1)*y))=y
  rw[Nat.pow_succ,Nat.mul_assoc,ih]
  unfold kV;rw[if_neg (by omega)];omega
theorem BG(x:Nat):x=(x%256)^^^(2^8*(x/256)):=by
 apply Nat.eq_of_testBit_eq
 intro i
 rw[Nat.testBit_xor,show 256=2^8 from rfl,Nat.testBit_mod_two_pow,Nat.testBit_two_pow_mul,Nat.testBit_div_two_pow]
 by_cases h:i<8
 ·simp[h,show ¬8≤i by omega]
 ·simp[h,show 8≤i by omega,show i - 8+8=i by omega]
theorem pushed(x c:Nat):aO 8 ((x%256)^^^c)^^^(x/256)=aO 8 (x^^^c):=by
 have h:x^^^c=((x%256)^^^c)^^^(2^8*(x/256)):=by
  have e:=BG x
  generalize x%256=lo at*
  generalize 2^8*(x/256)=hi at*
  rw[e,Nat.xor_assoc,Nat.xor_comm hi c,←Nat.xor_assoc]
 rw[h,Dy 8 _ (2^8*(x/256)),Az]
theorem GZ(c:Nat)(hc:c<256)(w:World):Calls Tryz.prog 79 #[.int .u8 c] w fun e w'=>e= .returned (.int .u32 (aO 8 c:Nat))∧w=w':=by
 go_enter Tryz.func79,Tryz.ntmps79
 go_wp2
 go_loop [3,6] (fun x i=>∃k:Nat,k≤8∧i= .int .i64 k∧aO k c<4294967296∧x= .int .u32 (aO k c:Nat)) (fun _ i=>(8 - intOf i).toNat)
 case atStart=>exact⟨0,by omega,rfl,by simp[aO];omega,rfl⟩
 case round=>
  obtain⟨k,hk,rfl,hb,rfl⟩:=hrel
  have hb':=AA _ hb
  go_wp2
  ·go_round
   case rel=>exact⟨k+1,by omega,by go_num,hb',by rw[II _ hb ‹_›];rfl⟩
   case measure=>simp[intOf];omega
  ·go_round
   case rel=>exact⟨k+1,by omega,by go_num,hb',by rw[Ff _ hb ‹_›];rfl⟩
   case measure=>simp[intOf];omega
  ·go_ret
   obtain rfl:k=8:=by omega
   exact⟨rfl,rfl⟩
def reg(l:List Int):Nat:=l.foldl (fun x c=>aO 8 (x^^^c.toNat)) 4294967295
theorem Je(zs:List Int)(k:Nat)(h:k<zs.length):reg (zs.take (k+1))=aO 8 (reg (zs.take k)^^^(zs.getD k 0).toNat):=by
 rw[fU zs k h];unfold reg;rw[List.foldl_append];rfl
theorem H9{x c:Nat}(hx:x<4294967296)(hc:c<4294967296):x^^^c<4294967296:=Nat.xor_lt_two_pow (n:=32) hx hc
theorem BX(l:List Int)(h: ∀c ∈ l,(Lit.int .u8 c).wf=true)(x:Nat)(hx:x<4294967296):l.foldl (fun x c=>aO 8 (x^^^c.toNat)) x<4294967296:=by
 induction l generalizing x with
 | nil=>exact hx
 | cons c l ih=>
  have:=bounds_u8 (h c (by simp))
  exact ih (fun c hc=>h c (by simp[hc])) _ (xy _ _ (H9 hx (by omega)))
theorem Jf(l:List Int)(h: ∀c ∈ l,(Lit.int .u8 c).wf=true):reg l<4294967296:=BX l h _ (by omega)
def fH(l:List Int):Int:=4294967295 - reg l
theorem not32(x:Nat)(h:x<4294967296):bits BinOp.xor IntKind.u32 IntKind.u32.max (x:Int)=4294967295 - (x:Int):=by
 have h1:=u32_xor_nat 4294967295 x (by omega) h
 have h2:4294967295^^^x=2^32 - (x+1):=by
  apply Nat.eq_of_testBit_eq
  intro i
  rw[Nat.testBit_two_pow_sub_succ (by omega),Nat.testBit_xor,show 4294967295=2^32 - (0+1) from rfl,Nat.testBit_two_pow_sub_succ (by omega)]
  by_cases hi:i<32
  ·simp[hi]
  ·have:x.testBit i=false:=Nat.testBit_lt_two_pow (Nat.lt_of_lt_of_le (show x<2^32 from h) (Nat.pow_le_pow_right (by decide) (Nat.le_of_not_lt hi)))
   simp[hi,this]
 show bits BinOp.xor IntKind.u32 ((4294967295:Nat):Int) x=_
 rw[h1,h2];omega
theorem div256(x:Nat):(x:Int)/256=((x/256:Nat):Int):=rfl
theorem mod256(x:Nat):(x:Int)%256=((x%256:Nat):Int):=rfl
theorem u8_lt{x c:Nat}(hc:c<256):x%256^^^c<256:=Nat.xor_lt_two_pow (n:=8) (by omega) hc
theorem sum_any(ao:Option Addr)(len cap:Nat)(zs:List Int)(w:World)(h:Ints .u8 w ao len zs):Calls Tryz.prog 46 #[.slice ao len cap] w fun e w'=>e= .returned (.int .u32 (fH zs))∧w=w':=by
 have hm:=h.lim
 unfold maxLen at hm
 have hz:=MI h.hlen
 go_enter Tryz.func46,Tryz.ntmps46
 go_wp2
 go_loop [3,8] (fun x i=>∃k:Nat,k≤len∧i= .int .i64 k∧x= .int .u32 (reg (zs.take k):Nat)) (fun _ i=>(len - intOf i).toNat)
 case atStart=>exact⟨0,by omega,rfl,by simp[reg]⟩
 case round=>
  obtain⟨k,hk,rfl,rfl⟩:=hrel
  have hb:reg (zs.take k)<4294967296:=Jf _ (fun c hc=>h.wf c (List.mem_of_mem_take hc))
  by_cases hlt:k<len
  ·obtain⟨a,c,rfl,hcv,hc0,hc1⟩:=h.byte hlt
   have hs:=MI (Je zs k (by rw[hz.out];exact hlt))
   generalize hr:reg (zs.take k)=x at*
   have hx:=MI (u8_xor_nat (x%256) c (by omega) hc1)
   have hy:=MI (u32_xor_nat (aO 8 (x%256^^^c)) (x/256) (xy _ _ (by have:=u8_lt (x:=x) hc1;omega)) (by omega))
   clear hr
   have hp:=MI (pushed x c)
   go_wp2_with (go_at_call 79;rw[mod256,hx.out];refine(GZ _ (u8_lt hc1) _).mono ?_;rintro e w' ⟨rfl,rfl⟩)
   go_round
   case rel=>exact⟨k+1,by omega,by go_num,by rw[hs.out,hcv.out,div256,hy.out,hp.out];rfl⟩
   case measure=>simp[intOf];omega
  ·go_wp2
   go_ret
   obtain rfl:k=len:=by omega
   refine⟨aX ?_,rfl⟩
   rw[List.take_of_length_le (by rw[hz.out];omega)] at hb⊢
   rw[not32 _ hb];rfl
end Go.Proofs.YtnicjahcgnhogaaGreatDoor
namespace Go.Proofs.YtnicjahcgnhogaaGreatDoor
open Go Go.RowKit Go.Calli
attribute [local irreducible] wpStill wpAnyH wpAnyS wpList Code.wp
theorem or8(x y:Int)(h0:0≤x)(h1:x<1099511627776)(h2:x%256=0)(h3:0≤y)(h4:y<256):bits .or .i64 x y=x+y:=
 bits_join .i64 40 (by decide) (fun n h h'=>IntWalk.i64_in _ (by omega)) 8 x y h0 (by simpa using h2) (by simpa using h1) h3 (by simpa using h4) (by omega)
def aZ(bs:List Int)(at_:Nat):Nat→Nat
 | 0=>0
 | k+1=>aZ bs at_ k*256+(bs.getD (at_+k) 0).toNat
theorem ug(bs:List Int)(hb: ∀z ∈ bs,(Lit.int .u8 z).wf=true)(at_:Nat): ∀k,aZ bs at_ k<256^k:=by
 intro k
 induction k with
 | zero=>simp[aZ]
 | succ k ih=>
  have h2:(bs.getD (at_+k) 0).toNat<256:=by
   have:=bounds_u8 (sK hb (by decide) (at_+k))
   omega
  simp only[aZ]
  rw[Nat.pow_succ]
  omega
theorem ru(ao:Option Addr)(n cap:Nat)(bs:List Int)(at_ k:Nat)(hk:k≤4)(hat:at_+k≤n)(hn:n≤60000)(w:World)(h:Ints .u8 w ao n bs):Calls Tryz.prog 45 #[.slice ao n cap,.int .i64 at_,.int .i64 k] w (fun e w'=>e= .returned (.int .i64 (aZ bs at_ k:Nat))∧w=w'):=by
 have hwf:=MI h.wf
 go_enter Tryz.func45,Tryz.ntmps45
 go_wp2_with fail
 go_loop [7,10] (fun v i=>∃j:Nat,j≤k∧i= .int .i64 (j:Int)∧v= .int .i64 (aZ bs at_ j:Nat)) (fun _ i=>(k - intOf i).toNat)
 case atStart=>exact⟨0,by omega,rfl,rfl⟩
 case round=>
  obtain⟨j,hj,rfl,rfl⟩:=hrel
  by_cases hlt:j<k
  ·obtain⟨a,c,rfl,hcv,hc0,hc1⟩:=h.byte (i:=at_+j) (by omega)
   have hb:=ug bs hwf.out at_ j
   have hb2:aZ bs at_ j<16777216:=Nat.lt_of_lt_of_le hb (by have:=Nat.pow_le_pow_right (show 0<256 by omega) (show j≤3 by omega);exact this)
   have hs:=MI (show aZ bs at_ (j+1)=aZ bs at_ j*256+(bs.getD (at_+j) 0).toNat from rfl)
   clear hb
   generalize aZ bs at_ j=x at*
   have ho:=or8 ((x:Int)*256) (c:Int) (by omega) (by omega) (by omega) (by omega) (by omega)
   have e1:IntKind.i64.wrap ((x:Int)*256)=(x:Int)*256:=IntWalk.i64_in _ (by omega)
   have hi:IntKind.i64.wrap ((at_:Int)+(j:Int))=((at_+j:Nat):Int):=by rw[IntWalk.i64_in _ (by omega)];omega
   have hlt2:at_+j<n:=by omega
   go_wp2_with fail
   go_round
   case rel=>exact⟨j+1,by omega,by go_num,by rw[hs.out,hcv.out];simp⟩
   case measure=>simp[intOf];omega
  ·obtain rfl:j=k:=by omega
   go_wp2_with fail
   go_ret
   exact⟨rfl,rfl⟩
def xK(b T:Nat)(rest:List Value)(q:List Int)(k:Int)(ret:List Int)(w:World)(e:Ending)(w':World):Prop:=
 e= .returned (.agg (iA ret))∧w'.heap[b]? =some (.cells (iL q++ .int .i64 k::rest).toArray T (0,0))∧af (fun j=>j=b) w w'
theorem J5(b T:Nat)(p:List Int)(hp:p.length=20)(k:Int)(rest:List Value)(z:List Int)(hz:z.length=28)(ao:Option Addr)(n cap:Nat)(ts:List (Int×Int))(w:World)(h:bH ed 2 (0,0) w ao n ts)
  (hr:w.heap[b]? =some (.cells (iL p++ .int .i64 k::rest).toArray T (0,0))):
  Calls Tryz.prog 238 #[.pointer (some ⟨b,0,none⟩),.agg (frC z (.slice ao n cap))] w (xK b T rest (dN z ts) 0 (dN z ts) w):=by
 have hb0:=ae w (.cells (frC z (.slice ao n cap)) 196)
 have hz0:fA (w.alloc (.cells (frC z (.slice ao n cap)) 196)) w.heap.size z (.slice ao n cap):=⟨L9 w _,hz⟩
 have hb1:=ae (w.alloc (.cells (frC z (.slice ao n cap)) 196)) (.cells #[(),(),(),(),(),(),(),(),(),(),(),(),(),(),(),(),(),(),(),()] 205)
 have hz1:=L9 (w.alloc (.cells (frC z (.slice ao n cap)) 196)) (.cells #[(),(),(),(),(),(),(),(),(),(),(),(),(),(),(),(),(),(),(),()] 205)
 have hz2:=hz0.ah hb1
 have hB:=hb0.trans (hb1.mono hb0.size)
 have hT:=(h.ah hb0).ah hb1
 rw[World.size_alloc] at hz1
 have hiF:(Tryz.prog.info? 196).map (·.size)=some (frC z (.slice ao n cap)).size:=by rw[bC _ _ hz];kernel_rfl
 have hiP:(Tryz.prog.info? 205).map (·.size)=some (iA (dN z ts)).size:=by rw[az,gy];kernel_rfl
 have hiL:(Tryz.prog.info? 205).map (·.size)=some (iL (dN z ts)).length:=by rw[dA,gy];kernel_rfl
 have hszP:(#[(),(),(),(),(),(),(),(),(),(),(),(),(),(),(),(),(),(),(),()]:Array Value).size=(iA (dN z ts)).size:=by rw[az,gy];rfl
 have HO:=MI (fun w h=>Bz z hz ao n cap ts w h)
 have hPl:(iL (dN z ts)).length=20:=by rw[dA,gy]
 have hbw:=L8 hr
 have hr0:=bT hr hB hbw
 have hpl:(iL p).length=20:=by rw[dA,hp]
 have HB:=MI hB
 clear hb0 hb1 hz0 h hz hr hB
 unfold xK
 generalize dN z ts=P at*
 go_enter Tryz.func238,Tryz.ntmps238
 go_upto_region 3 with fail
 generalize (w.alloc (.cells (frC z (.slice ao n cap)) 196)).alloc (.cells #[(),(),(),(),(),(),(),(),(),(),(),(),(),(),(),(),(),(),(),()] 205)=W0 at*
 have hb0:b<W0.heap.size:=Nat.lt_of_lt_of_le hbw HB.out.size
 have hFr:=hz2.row
 go_wp2_with (first
  | (with_reducible refine MC 196 3 ?_;refine wpList_load_row rfl 196 (.tmp 3) rfl _ rfl 196 (frC z (.slice ao n cap)) (0,0) _ hFr Tryz.underlying196 rfl hiF ?_)
  | (go_at_call 253;refine(HO.out _ hT).mono ?_;rintro e w1 ⟨rfl,hb1⟩;have hr1:=bT hr0 hb1 hb0;have hq1:=bT hz1 hb1 (L8 hz1);have ht1:=qM hr1 0 (iA P).size (by rw[az,←dA,hPl,List.length_append,hpl];omega);have HB1:=MI (HB.out.trans (hb1.mono HB.out.size));clear hr0 hz1 hb1)
  | (with_reducible refine MF 205 13 11 ?_;refine wpList_store_mid rfl 205 (.tmp 13) (.tmp 11) rfl b 0 (iA P) rfl rfl ht1 hiP (bP _) ?_;have hr2:=mf [] (iL p) (.int .i64 k::rest) (iL P) hr1 (by rw[hpl,hPl]);have hq2:=(fZ (iL P) w1 b 0 (w.heap.size+1) (by omega)).trans hq1;have hk2:=MI ((af.au (S:=fun j=>j=b) HB1.out Me).setCells (iL P) (b:=b) (.inr rfl) 0);rw[xe,List.toList_toArray];simp only[List.length_nil,List.nil_append] at hr2;generalize w1.setCells b 0 (iL P)=w2 at*;have c20:=qN hr2 20 (v:=.int .i64 k) (by rw[←hPl];simp);have f20:=frozen_of_row _ b 20 _ _ hr2;have hr3:=jM (iL P) rest (.int .i64 k) (.int .i64 0) hr2;rw[hPl] at hr3;have hg3:=gK [] (iL P) (.int .i64 0::rest) hr3;have hq3:=(heap_setCell_other w2 ⟨b,20,none⟩ (w.heap.size+1) (.int .i64 0) (by show w.heap.size+1≠b;omega)).trans hq2)
  | (with_reducible refine MC 205 18 ?_;refine wpList_load_mid rfl 205 (.tmp 18) rfl _ 0 rfl _ _ hg3 Tryz.underlying205 rfl hiL ?_;rw[←xe])
  | (with_reducible refine MF 205 4 19 ?_;refine wpList_store_row rfl 205 (.tmp 4) (.tmp 19) rfl _ (iA P) rfl rfl 205 _ hq3 hiP hszP (bP _) ?_))
 exact bodyPost_ret (results_cell_row (fn:=Tryz.f238) rfl _ _ _ _ _ _ _ rfl (setRow_heap _ _ _ _ _ _ hq3) Tryz.underlying205 rfl hiP) rfl ⟨rfl,(setRow_other _ _ _ _ (by omega)).trans hr3,(hk2.out.setCell (p:=⟨b,20,none⟩) (.inr rfl) _).andThen (aJ _ _ _) (fun i hi e=>by omega)⟩
def KN(v k:Int):Int:=if k<0 then 0 else cutZ v k.toNat
theorem KL(v k:Int)(h1:k≤62)(w:World):Calls Tryz.prog 254 #[.int .i64 v,.int .i64 k] w (Qt (.int .i64 (KN v k)) w):=by
 by_cases hk:k<0
 ·go_enter Tryz.func254,Tryz.ntmps254
  go_wp2_with fail
  go_ret
  exact⟨aX (if_pos hk).symm,0,rfl⟩
 ·have e:k=(k.toNat:Int):=by omega
  have hc:KN v k=cutZ v k.toNat:=if_neg hk
  rw[hc]
  have:=cut_any v k.toNat (by omega) w
  rwa [←e] at this
def rf(p:List Int)(k:Int)(j:Nat):List Int:=(p.take j).map (fun v=>KN v k)++p.drop j
theorem ql(p:List Int)(k:Int)(j:Nat)(hj:j≤p.length):(rf p k j).length=p.length:=by simp[rf];omega
theorem KJ(p:List Int)(k:Int)(j:Nat)(hj:j<p.length):(rf p k j).getD j 0=p.getD j 0:=by
 unfold rf
 rw[List.getD,List.getElem?_append_right (by simp;omega),List.getD]
 simp
 rw[show j - min j p.length=0 by omega]
 simp
theorem KI(p:List Int)(k:Int)(j:Nat)(hj:j<p.length):(rf p k j).set j (KN (p.getD j 0) k)=rf p k (j+1):=by
 apply List.ext_getElem?
 intro i
 unfold rf
 rw[List.getElem?_set]
 by_cases hi:j=i
 ·subst hi
  rw[if_pos rfl,if_pos (by simp;omega),List.getElem?_append_left (by simp;omega)]
  simp[List.getD,hj]
 ·rw[if_neg hi]
  by_cases hlt:i<j
  ·rw[List.getElem?_append_left (by simp;omega),List.getElem?_append_left (by simp;omega)]
   simp[List.getElem?_take,hlt,show i<j+1 by omega]
  ·rw[List.getElem?_append_right (by simp;omega),List.getElem?_append_right (by simp;omega)]
   simp only[List.length_map,List.length_take,List.getElem?_drop]
   rw[show min j p.length=j by omega,show min (j+1) p.length=j+1 by omega,show j+(i - j)=i by omega,show j+1+(i - (j+1))=i by omega]
def oN(p:List Int)(k:Int):List Int:=if 4<k then List.replicate 20 0 else rf p k 16
theorem wW(p:List Int)(hp:p.length=20)(k:Int):(oN p k).length=20:=by
 unfold oN
 split
 ·simp
 ·rw[ql _ _ _ (by omega),hp]
theorem JJ(b T:Nat)(p:List Int)(hp:p.length=20)(k:Int)(rest:List Value)(w:World)
  (hr:w.heap[b]? =some (.cells (iL p++ .int .i64 k::rest).toArray T (0,0))):
  Calls Tryz.prog 239 #[.pointer (some ⟨b,0,none⟩)] w (xK b T rest p (wrap64 (k+1)) (oN p (wrap64 (k+1))) w):=by
 have hb1:=ae w (.cells #[(),(),(),(),(),(),(),(),(),(),(),(),(),(),(),(),(),(),(),()] 205)
 have hz1:=L9 w (.cells #[(),(),(),(),(),(),(),(),(),(),(),(),(),(),(),(),(),(),(),()] 205)
 have hpl:(iL p).length=20:=by rw[dA,hp]
 have hbw:=L8 hr
 have hr0:=bT hr hb1 hbw
 have c0:=qN hr0 20 (v:=.int .i64 k) (by rw[←hpl];simp)
 have f0:=frozen_of_row _ b 20 _ _ hr0
 have hll:=wW p hp (wrap64 (k+1))
 unfold xK
 have hLdef:oN p (wrap64 (k+1))=if 4<wrap64 (k+1) then List.replicate 20 0 else rf p (wrap64 (k+1)) 16:=rfl
 have HB:=MI hb1
 have HR0:=MI hr0
 have hiL:(Tryz.prog.info? 205).map (·.size)=some (iL p).length:=by rw[hpl];kernel_rfl
 have hbW:b≠w.heap.size:=by omega
 clear hb1 hr0
 generalize hK:wrap64 (k+1)=K at*
 by_cases h4:4<K
 ·rw[if_pos h4] at hLdef
  rw[hLdef]
  have hiP:(Tryz.prog.info? 205).map (·.size)=some (iA (List.replicate 20 0)).size:=by kernel_rfl
  clear hLdef hll
  go_enter Tryz.func239,Tryz.ntmps239
  go_upto_region 3 with fail
  generalize w.alloc (.cells #[(),(),(),(),(),(),(),(),(),(),(),(),(),(),(),(),(),(),(),()] 205)=W0 at*
  have hr2:=jM (iL p) rest (.int .i64 k) (.int .i64 K) HR0.out
  rw[hpl] at hr2
  have hk2:=MI ((af.au (S:=fun j=>j=b) HB.out Me).setCell (p:=⟨b,20,none⟩) (.inr rfl) (.int .i64 K))
  have hz2:=(heap_setCell_other W0 ⟨b,20,none⟩ w.heap.size (.int .i64 K) (by exact Ne.symm hbW)).trans hz1
  have c2:=qN hr2 20 (v:=.int .i64 K) (by rw[←hpl];simp)
  have HR2:=MI hr2
  clear hr2 HR0
  go_wp2_with (first
   | (with_reducible show wpList _ _ _ (Oper.mk _ (Op.build 205 _) _ _ _ _::_) _ _;refine aV rfl 205 _ rfl (iA (List.replicate 20 0)) (by kernel_rfl) ?_)
   | (with_reducible refine MF 205 2 20 ?_;refine wpList_store_row rfl 205 (.tmp 2) (.tmp 20) rfl _ (iA (List.replicate 20 0)) rfl rfl 205 _ hz2 hiP rfl (bP _) ?_))
  exact bodyPost_ret (results_cell_row (fn:=Tryz.f239) rfl _ _ _ _ _ _ _ rfl (setRow_heap _ _ _ _ _ _ hz2) Tryz.underlying205 rfl hiP) rfl ⟨rfl,(setRow_other _ _ _ _ hbW).trans HR2.out,hk2.out.andThen (aJ _ _ _) (fun i hi e=>by omega)⟩
 ·rw[if_neg h4] at hLdef
  have h4':K≤4:=by omega
  have HL:=MI hLdef
  have HCU:=MI (fun v w=>KL v K (by omega) w)
  have HLL:=MI hll
  clear hLdef hll
  go_enter Tryz.func239,Tryz.ntmps239
  go_upto_region 3 with fail
  generalize w.alloc (.cells #[(),(),(),(),(),(),(),(),(),(),(),(),(),(),(),(),(),(),(),()] 205)=W0 at*
  have hr2:=jM (iL p) rest (.int .i64 k) (.int .i64 K) HR0.out
  rw[hpl] at hr2
  have hk2:=MI ((af.au (S:=fun j=>j=b) HB.out Me).setCell (p:=⟨b,20,none⟩) (.inr rfl) (.int .i64 K))
  have hz2:=MI ((heap_setCell_other W0 ⟨b,20,none⟩ w.heap.size (.int .i64 K) (by exact Ne.symm hbW)).trans hz1)
  have c2:=qN hr2 20 (v:=.int .i64 K) (by rw[←hpl];simp)
  have HR2:=MI hr2
  have hg2:=gK [] (iL p) (.int .i64 K::rest) hr2
  clear hr2 HR0 hz1
  have hss:(W0.setCell ⟨b,20,none⟩ (.int .i64 K)).heap.size=W0.heap.size:=by simp[World.setCell]
  have hz5:=L9 (W0.setCell ⟨b,20,none⟩ (.int .i64 K)) (.cells #[(),(),(),(),(),(),(),(),(),(),(),(),(),(),(),(),(),(),(),()] 205)
  have hb5:=ae (W0.setCell ⟨b,20,none⟩ (.int .i64 K)) (.cells #[(),(),(),(),(),(),(),(),(),(),(),(),(),(),(),(),(),(),(),()] 205)
  rw[hss] at hz5 hb5
  have hW0:w.heap.size<W0.heap.size:=by have:=L8 hz2.out;omega
  clear hss
  have HZ5:=MI hz5
  have hA1:(Tryz.prog.info? 205).map (·.size)=some (iA p).size:=hiL
  have hA2:(#[(),(),(),(),(),(),(),(),(),(),(),(),(),(),(),(),(),(),(),()]:Array Value).size=(iA p).size:=by rw[az,hp];rfl
  clear hz5
  go_upto_region 7 with(first
   | (with_reducible refine MC 205 23 ?_;refine wpList_load_mid rfl 205 (.tmp 23) rfl _ 0 rfl _ _ hg2 Tryz.underlying205 rfl hiL ?_;rw[←xe])
   | (with_reducible refine MF 205 3 24 ?_;refine wpList_store_row rfl 205 (.tmp 3) (.tmp 24) rfl _ (iA p) rfl rfl 205 #[(),(),(),(),(),(),(),(),(),(),(),(),(),(),(),(),(),(),(),()] HZ5.out hA1 hA2 (bP _) ?_))
  have hz6:=Md (iA p) HZ5.out
  have hz7:=(setRow_other _ W0.heap.size w.heap.size (iA p) (by omega)).trans ((hb5.block _ hW0).trans hz2.out)
  have hr7:=(setRow_other _ W0.heap.size b (iA p) (by omega)).trans ((hb5.block _ (by omega)).trans HR2.out)
  have hk7:=hk2.out.andThen (((af.au (S:=fun j=>j=W0.heap.size) hb5 (by simp[World.setCell])).trans (aJ _ _ (iA p)))) (fun i hi e=>by omega)
  clear HZ5 hz2 HR2 hb5 c2 c0 f0 hg2 hk2
  generalize (((W0.setCell ⟨b,20,none⟩ (.int .i64 K)).alloc (.cells #[(),(),(),(),(),(),(),(),(),(),(),(),(),(),(),(),(),(),(),()] 205)).setRow W0.heap.size (iA p))=W7 at*
  generalize W0.heap.size=pb at*
  have HZ6:=MI hz6
  have HZ7:=MI hz7
  have HR7:=MI hr7
  have HK7:=MI hk7
  clear hz6 hz7 hr7 hk7 HB
  go_upto_region 8 with fail
  go_loopw [25] (fun v25 wr=>∃j:Nat,j≤16∧v25= .int .i64 (j:Int)∧wr.heap[pb]? =some (.cells (iA (rf p K j)) 205 (0,0))∧af (fun k=>k=pb) W7 wr) (fun v25 _=>16 - aG v25)
  case atStart=>exact⟨0,by omega,rfl,HZ6.out,af.refl _ _⟩
  case round=>
   clear HZ6
   obtain⟨j,hj,rfl,hv,hk⟩:=hrel
   by_cases hj16:j<16
   ·have hlj:=ql p K j (by omega)
    have cj:=aH (k:=j) hv (by omega)
    have fj:=aj hv j
    have c20:=qN (hk.heap HR7.out (by omega)) 20 (v:=.int .i64 K) (by rw[←hpl];simp)
    rw[KJ p K j (by omega)] at cj
    have hst:=KI p K j (by omega)
    have hjj:(j:Int)<16:=by omega
    have HC:=MI (HCU.out (p.getD j 0))
    have HST:=MI hst
    have HV:=MI hv
    have HKK:=MI hk
    clear hst hv hk
    generalize p.getD j 0=x at*
    go_upto_region 10 with fail
    go_region_with (go_at_call 254;refine(HC.out _).mono ?_;rintro e w2 ⟨rfl,m,rfl⟩)
    all_goals go_wp2_with fail
    all_goals (have hs:=bJ (w:=wr.drewN (1+m)) (T:=205) HV.out j (KN x K))
    all_goals rw[HST.out] at hs
    all_goals refine⟨⟨j+1,by omega,by go_num,hs,(HKK.out.drewN _).setCell (p:=⟨pb,j,none⟩) (.inr rfl) _⟩,?_⟩
    all_goals (simp[aG];omega)
   ·obtain rfl:j=16:=by omega
    have hz8:=hk.heap HZ7.out (by omega)
    have hr8:=hk.heap HR7.out (by omega)
    have hl8:=HL.out
    have hiP:(Tryz.prog.info? 205).map (·.size)=some (iA (rf p K 16)).size:=by rw[az,ql p K 16 (by omega),hp];kernel_rfl
    have hsz:(#[(),(),(),(),(),(),(),(),(),(),(),(),(),(),(),(),(),(),(),()]:Array Value).size=(iA (rf p K 16)).size:=by rw[az,ql p K 16 (by omega),hp];rfl
    have HK8:=MI (HK7.out.andThen hk (fun i hi e=>by have:=L8 HZ7.out;omega))
    have HR8:=MI hr8
    clear hr8 hk HK7
    generalize rf p K 16=C at*
    go_wp2_with (first
     | (with_reducible refine MC 205 3 ?_;refine wpList_load_row rfl 205 (.tmp 3) rfl _ rfl 205 (iA C) (0,0) _ hv Tryz.underlying205 rfl hiP ?_)
     | (with_reducible refine MF 205 2 41 ?_;refine wpList_store_row rfl 205 (.tmp 2) (.tmp 41) rfl _ (iA C) rfl rfl 205 _ hz8 hiP hsz (bP _) ?_))
    exact bodyPost_ret (results_cell_row (fn:=Tryz.f239) rfl _ _ _ _ _ _ _ rfl (setRow_heap _ _ _ _ _ _ hz8) Tryz.underlying205 rfl hiP) rfl ⟨by rw[HL.out],(setRow_other _ _ _ _ hbW).trans HR8.out,HK8.out.andThen (aJ _ _ _) (fun i hi e=>by omega)⟩
def m0:Mt:=⟨ByteArray.empty,0,0,0,false,0,0,0,0⟩
structure Bk where
 img:List Int
 size:Nat
 dir:List Mt
structure Bk.Ok(B:Bk):Prop where
 s0:24≤B.size
 s1:B.size≤96
 i1:B.img.length≤60000
 d1:B.dir.length≤64
 m: ∀i,i<B.dir.length→(B.dir.getD i m0).Ok
 f: ∀i,i<B.dir.length→(B.dir.getD i m0).first+B.size*(bu (B.dir.getD i m0).len*(B.dir.getD i m0).ch)≤B.img.length
 z: ∀i,i<B.dir.length→(B.dir.getD i m0).sums+4*(bu (B.dir.getD i m0).len*(B.dir.getD i m0).ch)≤B.img.length
structure Bd where
 bb:Nat
 ib:Nat
 icap:Nat
 dv:Option Addr
 Dw:Nat
def Bd.T(D:Bd)(k:Nat):Prop:=k=D.bb∨k=D.ib∨∃a,D.dv=some a∧k=a.block
structure jX(D:Bd)(w:World)(B:Bk):Prop where
 row:w.heap[D.bb]? =some (.cells #[.slice (some ⟨D.ib,0,none⟩) B.img.length D.icap,.int .i64 B.size,.slice D.dv B.dir.length D.Dw] 89 (0,0))
 img:Ints .u8 w (some ⟨D.ib,0,none⟩) B.img.length B.img
 icap:B.img.length≤D.icap
 dir:bH aP 9 m0 w D.dv B.dir.length B.dir
 Dw:B.dir.length≤D.Dw
 dv0: ∀a,D.dv=some a→a.off=0∧a.spot=none
 ok:B.Ok
theorem jX.kept{D:Bd}{w w':World}{B:Bk}{S:Nat→Prop}(h:jX D w B)(hk:af S w w')(hS: ∀k,D.T k→¬S k):jX D w' B:=
 ⟨hk.heap h.row (hS _ (.inl rfl)),h.img.kept hk (fun a ha=>by cases ha;exact hS _ (.inr (.inl rfl))),h.icap,h.dir.kept hk (fun a ha=>hS _ (.inr (.inr ⟨a,ha,rfl⟩))),h.Dw,h.dv0,h.ok⟩
theorem jX.ah{D:Bd}{w w':World}{B:Bk}(h:jX D w B)(hb:Below w.heap.size w w'):jX D w' B:=h.kept (S:=fun _=>False) (af.au hb Me) (fun _ _ e=>e)
theorem jX.at_{D:Bd}{w:World}{B:Bk}(h:jX D w B){i:Nat}(hi:i<B.dir.length): ∃db,D.dv=some ⟨db,0,none⟩∧w.rangeAt db (i*9) (aP (B.dir.getD i m0)):=by
 obtain⟨a,ha,hc⟩:=h.dir.cell i hi
 obtain⟨h0,h1⟩:=h.dv0 a ha
 obtain⟨b,o,sp⟩:=a
 simp only at h0 h1
 subst h0 h1
 refine⟨b,ha,fun j v hv=>?_⟩
 have:=hc j v hv
 rwa [add0,add0,Nat.zero_add] at this
theorem dB{w:World}{b T:Nat}{u0 u1 u2:Value}(h:w.heap[b]? =some (.cells #[u0,u1,u2] T (0,0))):w.cell? ⟨b,0,none⟩=some u0∧w.cell? ⟨b,1,none⟩=some u1∧w.cell? ⟨b,2,none⟩=some u2:=
 ⟨LY h rfl,LY h rfl,LY h rfl⟩
theorem ry(D:Bd)(B:Bk)(w:World)(h:jX D w B):Calls Tryz.prog 28 #[.pointer (some ⟨D.bb,0,none⟩)] w (fun e w'=>e= .returned (.bool false)∧w=w'):=by
 have h0:=h.ok.s0
 have hne:((B.size:Int)==0)=false:=by simp;omega
 obtain⟨c0,c1,c2⟩:=dB h.row
 clear h
 go_enter Tryz.func28,Tryz.ntmps28
 go_wp2_with fail
 go_ret
 exact⟨rfl,rfl⟩
theorem xC(D:Bd)(B:Bk)(w:World)(h:jX D w B):Calls Tryz.prog 78 #[.pointer (some ⟨D.bb,0,none⟩)] w (fun e w'=>e= .returned (.int .i64 B.size)∧w=w'):=by
 have hN:=ry D B w h
 obtain⟨c0,c1,c2⟩:=dB h.row
 clear h
 go_enter Tryz.func78,Tryz.ntmps78
 go_wp2_with (go_at_call 28;refine hN.mono ?_;rintro e w' ⟨rfl,rfl⟩)
 go_ret
 exact⟨rfl,rfl⟩
theorem jc(m:Mt):(aB m).all (·.oneCell')=true:=all_oneCell_toArray (cs:=aP m) (fun v hv=>by simp[aP] at hv;rcases hv with rfl | rfl | rfl | rfl | rfl | rfl | rfl | rfl | rfl<;>rfl)
theorem rC(D:Bd)(B:Bk)(i:Nat)(hi:i<B.dir.length)(w:World)(h:jX D w B):Calls Tryz.prog 12 #[.pointer (some ⟨D.bb,0,none⟩),.int .i64 i] w (fun e w'=>e= .returned (.tuple #[.agg (aB (B.dir.getD i m0)),()])∧Below w.heap.size w w'):=by
 have hba:=ae w (.cells #[.string ⟨#[]⟩,(),(),(),.bool false,(),(),(),()] 54)
 have hz:=L9 w (.cells #[.string ⟨#[]⟩,(),(),(),.bool false,(),(),(),()] 54)
 obtain⟨db,hdv,hr⟩:=(h.ah hba).at_ hi
 have hN:=ry D B _ (h.ah hba)
 obtain⟨c0,c1,c2⟩:=dB (h.ah hba).row
 rw[hdv] at c2
 have hlt:i<B.dir.length:=hi
 have h64:=h.ok.d1
 have hsz:(Tryz.prog.info? 54).map (·.size)=some (aP (B.dir.getD i m0)).length:=by kernel_rfl
 have hsz2:(Tryz.prog.info? 54).map (·.size)=some (aB (B.dir.getD i m0)).size:=by kernel_rfl
 have hBa:=MI hba
 have hold:(#[.string ⟨#[]⟩,(),(),(),.bool false,(),(),(),()]:Array Value).size=(aB (B.dir.getD i m0)).size:=rfl
 clear h hi hba hdv
 generalize B.dir.getD i m0=m at*
 go_enter Tryz.func12,Tryz.ntmps12
 go_upto_region 1 with fail
 generalize w.alloc (.cells #[.string ⟨#[]⟩,(),(),(),.bool false,(),(),(),()] 54)=W at*
 go_wp2_with (first
  | (go_at_call 28;refine hN.mono ?_;rintro e w' ⟨rfl,rfl⟩)
  | (with_reducible refine MC 54 28 ?_;refine wpList_load_mid rfl 54 (.tmp 28) rfl db (i*9) rfl (aP m) _ hr Tryz.underlying54 rfl hsz ?_;rw[show(aP m).toArray=aB m from rfl])
  | (with_reducible refine MF 54 4 29 ?_;refine wpList_store_row rfl 54 (.tmp 4) (.tmp 29) rfl _ (aB m) rfl rfl 54 _ hz hsz2 hold (jc m) ?_))
 exact bodyPost_ret (results_cell_tmp (fn:=Tryz.f12) (p:=4) (q:=5) (ty:=54) rfl _ _ _ _ _ _ _ rfl (setRow_heap _ _ _ _ _ _ hz) Tryz.underlying54 rfl hsz2) rfl ⟨rfl,below_setRow hBa.out (by omega) _⟩
def Mt.num(m:Mt)(ch blk:Nat):Nat:=blk*m.ch+ch
theorem Jw{m:Mt}{ch blk:Nat}(hc:ch<m.ch)(hb:blk<bu m.len):m.num ch blk<bu m.len*m.ch:=by
 unfold Mt.num
 have:(blk+1)*m.ch≤bu m.len*m.ch:=Nat.mul_le_mul_right _ hb
 rw[Nat.succ_mul] at this
 omega
theorem fK{w:World}{b:Nat}{m:Mt}(h:w.heap[b]? =some (.cells (aB m) 54 (0,0))):w.cell? ⟨b,0,none⟩=some (.string m.nm)∧w.cell? ⟨b,1,none⟩=some (.int .i64 m.len)∧w.cell? ⟨b,2,none⟩=some (.int .i64 m.rate)∧w.cell? ⟨b,3,none⟩=some (.int .i64 m.ch)∧w.cell? ⟨b,4,none⟩=some (.bool m.loop)∧w.cell? ⟨b,5,none⟩=some (.int .i64 m.ls)∧w.cell? ⟨b,6,none⟩=some (.int .i64 m.le)∧w.cell? ⟨b,7,none⟩=some (.int .i64 m.sums)∧w.cell? ⟨b,8,none⟩=some (.int .i64 m.first):=
 ⟨LY h rfl,LY h rfl,LY h rfl,LY h rfl,LY h rfl,LY h rfl,LY h rfl,LY h rfl,LY h rfl⟩
def Z54:Array Value:=#[.string ⟨#[]⟩,(),(),(),.bool false,(),(),(),()]
def WhP(B:Bk)(m:Mt)(ch blk:Nat)(w:World)(e:Ending)(w':World):Prop:=e= .returned (.tuple #[.int .i64 (m.first+m.num ch blk*B.size:Nat),.int .u32 (aZ B.img (m.sums+4*m.num ch blk) 4:Nat),()])∧Below w.heap.size w w'
theorem xq{P:Program}{F:FuncId}{args:Array Value}{w:World}{v:Value}(h:Calls P F args w fun e w'=>e= .returned v∧w=w'):Calls P F args w fun e w'=>e= .returned v∧w'=w:=h.mono fun _ _ ⟨a,b⟩=>⟨a,b.symm⟩
theorem vY(D:Bd)(B:Bk)(i ch blk:Nat)(hi:i<B.dir.length)(hc:ch<(B.dir.getD i m0).ch)(hb:blk<bu (B.dir.getD i m0).len)(w:World)(h:jX D w B):Calls Tryz.prog 251 #[.pointer (some ⟨D.bb,0,none⟩),.int .i64 i,.int .i64 ch,.int .i64 blk] w (WhP B (B.dir.getD i m0) ch blk w):=by
 have hM:=rC D B i hi w h
 have hmo:=h.ok.m i hi
 have hf:=h.ok.f i hi
 have hz:=h.ok.z i hi
 have hnl:=Jw hc hb
 have hs0:=h.ok.s0;have hs1:=h.ok.s1;have hi1:=h.ok.i1
 have hl1:=hmo.l1;have hc0:=hmo.c0;have hc1:=hmo.c1
 have HH:=MI h
 clear h
 generalize B.dir.getD i m0=m at*
 have hCt:=fun w=>count_any m.len (by omega) w
 have hsz2:(Tryz.prog.info? 54).map (·.size)=some (aB m).size:=by kernel_rfl
 have hone:=jc m
 have hnn:m.num ch blk=blk*m.ch+ch:=rfl
 have hcl:bu m.len≤65537:=by unfold bu;omega
 have hmul:B.size*m.num ch blk≤B.size*(bu m.len*m.ch):=Nat.mul_le_mul_left _ (by omega)
 have hmul2:m.num ch blk*B.size=B.size*m.num ch blk:=Nat.mul_comm _ _
 unfold WhP
 have hb2:blk*m.ch≤bu m.len*m.ch:=Nat.mul_le_mul_right _ (by omega)
 have e1:IntKind.i64.wrap ((blk:Int)*(m.ch:Int))=((blk*m.ch:Nat):Int):=by rw[Int.natCast_mul];exact IntWalk.i64_in _ (by omega)
 have e2:IntKind.i64.wrap (((blk*m.ch:Nat):Int)+(ch:Int))=((m.num ch blk:Nat):Int):=by rw[hnn,Int.natCast_add];exact IntWalk.i64_in _ (by omega)
 have e3:IntKind.i64.wrap (((m.num ch blk:Nat):Int)*(B.size:Int))=((m.num ch blk*B.size:Nat):Int):=by rw[Int.natCast_mul];exact IntWalk.i64_in _ (by omega)
 have e4:IntKind.i64.wrap ((m.first:Int)+((m.num ch blk*B.size:Nat):Int))=((m.first+m.num ch blk*B.size:Nat):Int):=by rw[Int.natCast_add];exact IntWalk.i64_in _ (by omega)
 have e5:IntKind.i64.wrap (4*((m.num ch blk:Nat):Int))=((4*m.num ch blk:Nat):Int):=by rw[Int.natCast_mul];exact IntWalk.i64_in _ (by omega)
 have e6:IntKind.i64.wrap ((m.sums:Int)+((4*m.num ch blk:Nat):Int))=((m.sums+4*m.num ch blk:Nat):Int):=by rw[Int.natCast_add];exact IntWalk.i64_in _ (by omega)
 have hrl:=ug B.img HH.out.img.wf (m.sums+4*m.num ch blk) 4
 have e7:IntKind.u32.wrap ((aZ B.img (m.sums+4*m.num ch blk) 4:Nat):Int)=((aZ B.img (m.sums+4*m.num ch blk) 4:Nat):Int):=by rw[IntKind.wrap_u32];omega
 have hrd:=MI (fun w (h:jX D w B)=>ru (some ⟨D.ib,0,none⟩) B.img.length D.icap B.img (m.sums+4*m.num ch blk) 4 (by omega) (by omega) hi1 w h.img)
 generalize aZ B.img (m.sums+4*m.num ch blk) 4=R at*
 generalize m.sums+4*m.num ch blk=P at*
 generalize 4*m.num ch blk=Q at*
 generalize m.first+m.num ch blk*B.size=A at*
 generalize m.num ch blk*B.size=S at*
 generalize m.num ch blk=N at*
 generalize blk*m.ch=K at*
 have t1:¬(ch:Int)<0:=by omega
 have t2:¬(m.ch:Int)≤(ch:Int):=by omega
 have t3:¬(blk:Int)<0:=by omega
 have t4:¬((bu m.len:Nat):Int)≤(blk:Int):=by omega
 have T:=MI (show ch<m.ch∧blk<bu m.len from⟨hc,hb⟩)
 clear hnn hmul hmul2 hb2 hf hz hnl hrl hcl hmo hc0 hc1 hl1 hi hs0 hs1 hi1
 go_enter Tryz.func251,Tryz.ntmps251
 go_upto_region 2 with(first
  | (go_at_call 12;refine hM.mono ?_;rintro e w1 ⟨rfl,hb1⟩)
  | (with_reducible refine MF 54 11 18 ?_;refine wpList_store_row rfl 54 (.tmp 11) (.tmp 18) rfl _ (aB m) rfl rfl 54 _ (L9 _ _) hsz2 rfl hone ?_))
 have hrow:=Md (aB m) (L9 w1 (.cells Z54 54))
 have HBW:=MI (below_setRow (hb1.trans ((ae w1 (.cells Z54 54)).mono hb1.size)) (show w.heap.size≤w1.heap.size from hb1.size) (aB m))
 change Code.wp _ _ _ _ ((w1.alloc (.cells Z54 54)).setRow w1.heap.size (aB m))
 generalize (w1.alloc (.cells Z54 54)).setRow w1.heap.size (aB m)=W at*
 have HBk:=HH.out.ah HBW.out
 obtain⟨b0,b1,b2⟩:=dB HBk.row
 obtain⟨d0,d1,d2,d3,d4,d5,d6,d7,d8⟩:=fK hrow
 have HBH:=MI HBk
 clear HBk hrow hb1 hM hsz2 hone
 generalize w1.heap.size=mb at*
 go_upto_region 7 with(go_at_call 121;refine(hCt _).mono ?_;rintro e w2 ⟨rfl,rfl⟩)
 go_quiet ((go_at_call 45;exact Calls.quiet_of_same (xq (hrd.out _ (HBH.out.ah (below_drewN MB _))))))
 go_wp2_with fail
 go_ret3
 exact⟨rfl,below_drewN HBW.out _⟩
end Go.Proofs.YtnicjahcgnhogaaGreatDoor
