/- Part 3 of the walk: contracts of the program's functions, each for every input. No condition. -/
import Derived.Test.YtnicjahcgnhogaaGreatDoorQ01
import Derived.Test.YtnicjahcgnhogaaGreatDoorQ00
import Derived.Laws.BytesArg
import Derived.Deep.RegionLaw
set_option linter.unusedVariables false
set_option linter.unusedSimpArgs false
set_option maxRecDepth 100000
set_option maxHeartbeats 8000000
namespace Go.Proofs.YtnicjahcgnhogaaGreatDoor
open Go Go.RowKit Go.Calli
attribute [local irreducible] wpStill wpAnyH wpAnyS wpList Code.wp
theorem u64_or(v b:Nat)(hv:v<2^62)(hb:b<2):bits .or .u64 ((2*v:Nat):Int) (b:Int)=((2*v+b:Nat):Int):=by
 have h1:(BitVec.ofInt 64 ((2*v:Nat):Int)).toNat=2*v:=by
  rw[BitVec.toNat_ofInt];omega
 have h2:(BitVec.ofInt 64 (b:Int)).toNat=b:=by
  rw[BitVec.toNat_ofInt];omega
 have key:(BitVec.ofInt 64 ((2*v:Nat):Int)|||BitVec.ofInt 64 (b:Int)).toNat=2*v+b:=by
  rw[BitVec.toNat_or,h1,h2]
  have:=Nat.two_pow_add_eq_or_of_lt (i:=1) (b:=b) (by omega) v
  simpa using this.symm
 show IntKind.u64.wrap ((BitVec.ofInt 64 ((2*v:Nat):Int)|||BitVec.ofInt 64 (b:Int)).toNat:Nat)=_
 rw[key,IntKind.wrap_u64]
 omega
theorem u8_and1(n:Int)(h0:0≤n)(h1:n<256):bits .and .u8 n 1=n%2:=by
 have h127:(BitVec.ofInt 8 1).toNat=2^1 - 1:=by decide
 have key:(BitVec.ofInt 8 n&&&BitVec.ofInt 8 1).toNat=(n%((2^8:Nat):Int)).toNat%2^1:=by
  rw[BitVec.toNat_and,BitVec.toNat_ofInt,h127,Nat.and_two_pow_sub_one_eq_mod]
 show IntKind.u8.wrap ((BitVec.ofInt 8 n&&&BitVec.ofInt 8 1).toNat:Nat)=n%2
 rw[key,IntKind.wrap_u8]
 omega
def xG(bs:List Int)(p:Nat):Nat:=(bs.getD (p/8) 0).toNat/2^(7 - p%8)%2
def qX(bs:List Int)(p:Nat):Nat→Nat
 | 0=>0
 | k+1=>2*qX bs p k+xG bs (p+k)
theorem Ld(bs:List Int)(p:Nat):xG bs p<2:=Nat.mod_lt _ (by decide)
theorem yE(bs:List Int)(p k:Nat):qX bs p k<2^k:=by
 induction k with
 | zero=>exact Nat.one_pos
 | succ k ih=>
  have:=Ld bs (p+k)
  rw[qX,Nat.pow_succ]
  omega
structure Rd where
 p:Nat
 e:Int
def bF(bs:List Int)(r:Rd)(k:Nat):Nat×Rd:=
 if r.e≠0 then(0,r) else if 57<k then(0,⟨r.p,1⟩) else if 8*bs.length<r.p+k then(0,⟨r.p,2⟩) else(qX bs r.p k,⟨r.p+k,0⟩)
def kH(bs:List Int)(r:Rd):Int:=if r.e≠0 then 0 else 8*bs.length - r.p
def uh(r:Rd)(e:Int):Rd:=if r.e=0 then⟨r.p,e⟩ else r
def o5(bs:List Int)(r:Rd)(k:Nat):Int×Rd:=
 let x:=bF bs r k
 (if x.2.e≠0∨k=0 then 0 else if x.1/2^(k - 1)=1 then(x.1:Int) - 2^k else x.1,x.2)
structure jW(w:World)(rb:Nat)(bo:Option Addr)(n cap:Nat)(bs:List Int)(r:Rd):Prop where
 row:w.heap[rb]? =some (.cells #[.slice bo n cap,.int .i64 (r.p:Int),.int .i64 r.e] 367 (0,0))
 bytes:Ints .u8 w bo n bs
 lim:n≤1000
 at_:r.p≤8*n
 apart: ∀a,bo=some a→a.block≠rb
theorem aW{w:World}{b:Nat}{v0 v1 v2:Value}{T:Nat}(h:w.heap[b]? =some (.cells #[v0,v1,v2] T (0,0))):w.cell? ⟨b,0,none⟩=some v0∧w.cell? ⟨b,1,none⟩=some v1∧w.cell? ⟨b,2,none⟩=some v2:=
 ⟨LY h rfl,LY h rfl,LY h rfl⟩
theorem zV(rb:Nat)(bo:Option Addr)(n cap:Nat)(bs:List Int)(r:Rd)(w:World)(h:jW w rb bo n cap bs r):Calls Tryz.prog 276 #[.pointer (some ⟨rb,0,none⟩)] w (Qt (.int .i64 (kH bs r)) w):=by
 obtain⟨c0,c1,c2⟩:=aW h.row
 have hn:=h.lim
 have hp:=h.at_
 have hl:=h.bytes.hlen
 have HL:Hid (kH bs r=if r.e≠0 then 0 else 8*(bs.length:Int) - r.p):=rfl
 obtain⟨p,e⟩:=r
 simp only at c1 c2 hp HL
 clear h
 by_cases he:e=0
 ·subst he
  have h1:IntKind.i64.wrap (8*(n:Int))=8*(n:Int):=IntWalk.i64_in _ (by omega)
  have h2:IntKind.i64.wrap (8*(n:Int) - (p:Int))=8*(n:Int) - (p:Int):=IntWalk.i64_in _ (by omega)
  rw[if_neg (by simp),hl] at HL
  go_enter Tryz.func276,Tryz.ntmps276
  go_upto_region 3 with fail
  go_quiet (fail)
  go_wp2_with fail
  go_ret
  exact⟨aX HL.out.symm,nq,rfl⟩
 ·rw[if_pos (by simpa using he)] at HL
  go_enter Tryz.func276,Tryz.ntmps276
  go_wp2_with fail
  go_ret
  exact⟨aX HL.out.symm,0,rfl⟩
theorem jW.put{w:World}{rb:Nat}{bo:Option Addr}{n cap:Nat}{bs:List Int}{r:Rd}(h:jW w rb bo n cap bs r){w':World}(hk:af (fun k=>k=rb) w w')(r':Rd)(hp:r'.p≤8*n)(hr:w'.heap[rb]? =some (.cells #[.slice bo n cap,.int .i64 (r'.p:Int),.int .i64 r'.e] 367 (0,0))):jW w' rb bo n cap bs r':=
 ⟨hr,h.bytes.kept hk h.apart,h.lim,hp,h.apart⟩
def RdP(rb:Nat)(bo:Option Addr)(n cap:Nat)(bs:List Int)(r':Rd)(v:Value)(w:World)(e:Ending)(w':World):Prop:=e= .returned v∧jW w' rb bo n cap bs r'∧af (fun k=>k=rb) w w'
theorem dV(w:World)(b o:Nat)(v:Value):af (fun k=>k=b) w (w.setCell ⟨b,o,none⟩ v):=(af.refl (fun k=>k=b) w).setCell (p:=⟨b,o,none⟩) (.inr rfl) v
theorem qg(rb:Nat)(bo:Option Addr)(n cap:Nat)(bs:List Int)(r:Rd)(E:Int)(w:World)(h:jW w rb bo n cap bs r):Calls Tryz.prog 271 #[.pointer (some ⟨rb,0,none⟩),.int .i64 E] w (RdP rb bo n cap bs (uh r E) (.tuple #[]) w):=by
 have HH:=MI h
 have hrow:=h.row
 obtain⟨c0,c1,c2⟩:=aW hrow
 have f2:=aj hrow 2
 have hp:=MI h.at_
 have HL:Hid (uh r E=if r.e=0 then⟨r.p,E⟩ else r):=rfl
 have HROW:=MI hrow
 obtain⟨p,e⟩:=r
 simp only at c1 c2 HL HROW hp
 clear h hrow
 by_cases he:e=0
 ·subst he
  rw[if_pos rfl] at HL
  go_enter Tryz.func271,Tryz.ntmps271
  go_wp2_with fail
  go_end0
  refine⟨rfl,?_,dV _ _ _ _⟩
  rw[HL.out]
  exact HH.out.put (dV _ _ _ _) ⟨p,E⟩ hp.out (Mc HROW.out)
 ·rw[if_neg he] at HL
  go_enter Tryz.func271,Tryz.ntmps271
  go_wp2_with fail
  go_end0
  exact⟨rfl,by rw[HL.out];exact HH.out,af.refl _ _⟩
theorem jW.drewN{w:World}{rb:Nat}{bo:Option Addr}{n cap:Nat}{bs:List Int}{r:Rd}(h:jW w rb bo n cap bs r)(m:Nat):jW (w.drewN m) rb bo n cap bs r:=
 ⟨h.row,h.bytes.ah ⟨rfl,rfl,rfl,Me,fun _ _=>rfl⟩,h.lim,h.at_,h.apart⟩
theorem jC(S:Nat→Prop)(w:World)(m:Nat):af S w (w.drewN m):=(af.refl S w).drewN m
theorem get_any(rb:Nat)(bo:Option Addr)(n cap:Nat)(bs:List Int)(r:Rd)(k:Nat)(w:World)(h:jW w rb bo n cap bs r):Calls Tryz.prog 270 #[.pointer (some ⟨rb,0,none⟩),.int .i64 (k:Int)] w (RdP rb bo n cap bs (bF bs r k).2 (.int .u64 ((bF bs r k).1:Int)) w):=by
 have HH:=MI h
 have hrow:=h.row
 obtain⟨c0,c1,c2⟩:=aW hrow
 have f2:=aj hrow 2
 have hp:=MI h.at_
 have hl:=h.bytes.hlen
 have hlm:=h.lim
 have HLF:=MI (zV rb bo n cap bs r w h)
 have HL:Hid (bF bs r k=if r.e≠0 then(0,r) else if 57<k then(0,⟨r.p,1⟩) else if 8*bs.length<r.p+k then(0,⟨r.p,2⟩) else(qX bs r.p k,⟨r.p+k,0⟩)):=rfl
 have HROW:=MI hrow
 obtain⟨p,e⟩:=r
 simp only at c1 c2 HL HROW hp
 clear h hrow
 have hk0:¬(k:Int)<0:=by omega
 by_cases he:e=0
 ·subst he
  rw[if_neg (by simp)] at HL
  by_cases hk:57<k
  ·rw[if_pos hk] at HL
   go_enter Tryz.func270,Tryz.ntmps270
   go_wp2_with fail
   go_ret
   rw[HL.out]
   exact⟨rfl,HH.out.put (dV _ _ _ _) ⟨p,1⟩ hp.out (Mc HROW.out),dV _ _ _ _⟩
  ·rw[if_neg hk] at HL
   have HF:Hid (kH bs ⟨p,0⟩=8*(n:Int) - p):=by unfold Hid kH;rw[if_neg (by simp),hl]
   rw[HF.out] at HLF
   by_cases hs:8*n<p+k
   ·rw[if_pos (by rw[hl];exact hs)] at HL
    have hs2:8*(n:Int) - (p:Int)<(k:Int):=by omega
    clear HF
    go_enter Tryz.func270,Tryz.ntmps270
    go_wp2_with (go_at_call 276;refine HLF.out.mono ?_;rintro e w1 ⟨rfl,n1,rfl⟩)
    go_ret
    rw[HL.out]
    exact⟨rfl,(HH.out.drewN n1).put (dV _ _ _ _) ⟨p,2⟩ hp.out (Mc HROW.out),(jC _ _ _).trans (dV _ _ _ _)⟩
   ·rw[if_neg (by rw[hl];exact hs)] at HL
    have hs2:¬8*(n:Int) - (p:Int)<(k:Int):=by omega
    clear HF
    go_enter Tryz.func270,Tryz.ntmps270
    go_upto_region 11 with(go_at_call 276;refine HLF.out.mono ?_;rintro e w1 ⟨rfl,n1,rfl⟩)
    have HH1:=MI (HH.out.drewN n1)
    have HK1:=MI (jC (fun k=>k=rb) w n1)
    clear c0 c1 c2 f2 HROW HH HLF hs2
    generalize w.drewN n1=W at*
    go_loopw [5,31] (fun v5 v31 wr=>∃j:Nat,j≤k∧v31= .int .i64 (j:Int)∧v5= .int .u64 ((qX bs p j:Nat):Int)∧jW wr rb bo n cap bs ⟨p+j,0⟩∧af (fun k=>k=rb) w wr) (fun _ v31 _=>k - aG v31)
    case atStart=>exact⟨0,by omega,rfl,rfl,HH1.out,HK1.out⟩
    case round=>
     clear HH1 HK1
     obtain⟨j,hj,rfl,rfl,hR,hK⟩:=hrel
     by_cases hjk:j<k
     ·obtain⟨a,x,rfl,hx,hc,hx5⟩:=hR.bytes.byte (i:=(p+j)/8) (by omega)
      have hrow:=hR.row
      simp only at hrow
      obtain⟨c0,c1,c2⟩:=aW hrow
      have f1:=aj hrow 1
      have hgv:qX bs p (j+1)=2*qX bs p j+xG bs (p+j):=rfl
      have hb:xG bs (p+j)=x/2^(7 - (p+j)%8)%2:=by unfold xG;rw[hx.out,Int.toNat_natCast]
      have hgl:=yE bs p j
      have hpw:2^j≤2^57:=Nat.pow_le_pow_right (by decide) (by omega)
      have hor:=u64_or (qX bs p j) (x/2^(7 - (p+j)%8)%2) (by omega) (Nat.mod_lt _ (by decide))
      rw[←hb,←hgv] at hor
      have HB:=MI hb
      have hP:((p+j:Nat):Int)=(p:Int)+(j:Int):=by omega
      have hd1:((p+j:Nat):Int)/8=(((p+j)/8:Nat):Int):=by omega
      have hd2:((p+j:Nat):Int)%8=(((p+j)%8:Nat):Int):=by omega
      have hd3:(p+j)/8<n:=by omega
      have hd4:(p+j)%8<8:=Nat.mod_lt _ (by decide)
      have hP1:IntKind.i64.wrap (((p+j:Nat):Int)+1)=((p+(j+1):Nat):Int):=by rw[show((p+j:Nat):Int)+1=((p+(j+1):Nat):Int) by omega];exact IntWalk.i64_in _ (by have:=hp.out;omega)
      have HPJ:Hid (p+(j+1)≤8*n):=by unfold Hid;omega
      clear hx hb hgv hP
      generalize hgv2:qX bs p (j+1)=gv2 at*
      have HGV2:=MI hgv2
      clear hgv2
      generalize qX bs p j=gv at*
      generalize xG bs (p+j)=bt at*
      generalize hq8:(p+j)/8=d at*
      generalize hm8:(p+j)%8=m at*
      generalize hP2:p+(j+1)=P2 at*
      have HP2:=MI hP2
      clear hP2
      generalize p+j=P at*
      have hw7:IntKind.i64.wrap (7 - (m:Int))=((7 - m:Nat):Int):=by rw[show 7 - (m:Int)=((7 - m:Nat):Int) by omega];exact IntWalk.i64_in _ (by omega)
      have hmin:min (7 - m) 8=7 - m:=by omega
      have hd5:(d:Int)<(n:Int):=by omega
      have hw2:IntKind.u64.wrap ((gv:Int)*2)=((2*gv:Nat):Int):=by rw[show(gv:Int)*2=((2*gv:Nat):Int) by omega,IntKind.wrap_u64];omega
      have hx8:(x:Int)/2^(7 - m)=((x/2^(7 - m):Nat):Int):=by simp
      have hxl:x/2^(7 - m)≤255:=Nat.le_trans (Nat.div_le_self _ _) (Nat.le_of_lt_succ hx5)
      generalize x/2^(7 - m)=y at*
      have hand:bits .and .u8 (y:Int) 1=(bt:Int):=by rw[u8_and1 _ (by omega) (by omega),HB.out];omega
      have hbt2:bt<2:=by rw[HB.out];exact Nat.mod_lt _ (by decide)
      have hwb:IntKind.u64.wrap (bt:Int)=(bt:Int):=by rw[IntKind.wrap_u64];omega
      have hor2:bits .or .u64 (2*(gv:Int)) (bt:Int)=(gv2:Int):=by rw[←hor];congr 1
      have HOR:=MI hor2
      clear hor hor2 hbt2
      have HR:=MI hR
      have HROW:=MI hrow
      clear hq8 hm8 hgl hpw hxl hR hrow hl hs hx5 hd3 hd4 HB HL hp
      go_upto_region 12 with fail
      go_quiet (fail)
      go_wp2_with fail
      refine⟨⟨j+1,by omega,by go_num,by rw[HGV2.out,HOR.out],by rw[HP2.out];exact(HR.out.drewN nq).put (dV _ _ _ _) ⟨P2,0⟩ HPJ.out (heap_setCell_same (wr.drewN nq) _ _ _ _ _ HROW.out),(hK.trans (jC _ _ _)).trans (dV _ _ _ _)⟩,?_⟩
      simp[aG];omega
     ·obtain rfl:j=k:=by omega
      go_wp2_with fail
      go_ret
      rw[HL.out]
      exact⟨rfl,hR,hK⟩
 ·rw[if_pos (by simpa using he)] at HL
  go_enter Tryz.func270,Tryz.ntmps270
  go_wp2_with fail
  go_ret
  rw[HL.out]
  exact⟨rfl,HH.out,af.refl _ _⟩
theorem BN(rb:Nat)(bo:Option Addr)(n cap:Nat)(bs:List Int)(r:Rd)(k:Nat)(w:World)(h:jW w rb bo n cap bs r):Calls Tryz.prog 272 #[.pointer (some ⟨rb,0,none⟩),.int .i64 (k:Int)] w (RdP rb bo n cap bs (o5 bs r k).2 (.int .i64 (o5 bs r k).1) w):=by
 have hG:=get_any rb bo n cap bs r k w h
 have HS:Hid (o5 bs r k=(if(bF bs r k).2.e≠0∨k=0 then 0 else if(bF bs r k).1/2^(k - 1)=1 then((bF bs r k).1:Int) - 2^k else(bF bs r k).1,(bF bs r k).2)):=rfl
 have hv:(bF bs r k).2.e=0→(bF bs r k).1<2^k∧k≤57∨r.e≠0:=fun he=>by
  unfold bF at he⊢
  by_cases h1:r.e≠0
  ·exact .inr h1
  ·rw[if_neg h1] at he⊢
   by_cases h2:57<k
   ·rw[if_pos h2] at he;cases he
   ·rw[if_neg h2] at he⊢
    by_cases h3:8*bs.length<r.p+k
    ·rw[if_pos h3] at he;cases he
    ·rw[if_neg h3]
     exact .inl ⟨yE _ _ _,by omega⟩
 have hv2:(bF bs r k).2.e=0→(bF bs r k).1<2^k∧k≤57:=fun he=>by
  rcases hv he with h1 | h1
  ·exact h1
  ·exfalso
   unfold bF at he
   rw[if_pos h1] at he
   exact h1 he
 clear hv
 generalize bF bs r k=x at*
 obtain⟨v,r'⟩:=x
 simp only at HS hv2 hG
 have HG:=MI hG
 clear hG h
 by_cases he:r'.e=0
 ·obtain⟨hvl,hk⟩:=hv2 he
  have hpk:2^k≤2^57:=Nat.pow_le_pow_right (by decide) hk
  clear hv2
  by_cases h0:k=0
  ·subst h0
   rw[if_pos (Or.inr rfl)] at HS
   go_enter Tryz.func272,Tryz.ntmps272
   go_wp2_with (go_at_call 270;refine HG.out.mono ?_;rintro e w1 ⟨rfl,hR,hK⟩;obtain⟨c0,c1,c2⟩:=aW hR.row;rw[he] at c2)
   go_ret
   rw[HS.out]
   exact⟨rfl,hR,hK⟩
  ·rw[if_neg (by rintro(h | h);exact h he;exact h0 h)] at HS
   have hne:¬(k:Int)=0:=by omega
   have hwp:IntKind.i64.wrap ((k:Int) - 1)=((k - 1:Nat):Int):=by rw[show(k:Int) - 1=((k - 1:Nat):Int) by omega];exact IntWalk.i64_in _ (by omega)
   have hm1:min (k - 1) 64=k - 1:=by omega
   have hm:min k 64=k:=by omega
   have hq:(v:Int)/2^(k - 1)=((v/2^(k - 1):Nat):Int):=by simp
   have hwv:IntKind.i64.wrap (v:Int)=(v:Int):=IntWalk.i64_in _ (by omega)
   have hpc:((2:Int)^k)=((2^k:Nat):Int):=by simp
   have hwk:IntKind.i64.wrap (2^k)=2^k:=IntWalk.i64_in _ (by omega)
   have hws:IntKind.i64.wrap ((v:Int) - 2^k)=(v:Int) - 2^k:=IntWalk.i64_in _ (by omega)
   clear hpc
   by_cases h1:v/2^(k - 1)=1
   ·rw[if_pos h1] at HS
    have h1':((v/2^(k - 1):Nat):Int)=1:=by omega
    generalize v/2^(k - 1)=y at*
    go_enter Tryz.func272,Tryz.ntmps272
    go_wp2_with (go_at_call 270;refine HG.out.mono ?_;rintro e w1 ⟨rfl,hR,hK⟩;obtain⟨c0,c1,c2⟩:=aW hR.row;rw[he] at c2)
    go_ret
    rw[HS.out]
    exact⟨rfl,hR,hK⟩
   ·rw[if_neg h1] at HS
    have h1':¬((v/2^(k - 1):Nat):Int)=1:=by omega
    generalize v/2^(k - 1)=y at*
    go_enter Tryz.func272,Tryz.ntmps272
    go_wp2_with (go_at_call 270;refine HG.out.mono ?_;rintro e w1 ⟨rfl,hR,hK⟩;obtain⟨c0,c1,c2⟩:=aW hR.row;rw[he] at c2)
    go_ret
    rw[HS.out]
    exact⟨rfl,hR,hK⟩
 ·rw[if_pos (Or.inl he)] at HS
  go_enter Tryz.func272,Tryz.ntmps272
  go_wp2_with (go_at_call 270;refine HG.out.mono ?_;rintro e w1 ⟨rfl,hR,hK⟩;obtain⟨c0,c1,c2⟩:=aW hR.row)
  go_ret
  rw[HS.out]
  exact⟨rfl,hR,hK⟩
theorem uf(bo:Option Addr)(n cap:Nat)(bs:List Int)(hn:n≤1000)(w:World)(h:Ints .u8 w bo n bs)(hb: ∀a,bo=some a→a.block<w.heap.size):Calls Tryz.prog 269 #[.slice bo n cap] w (fun e w'=>∃rb,e= .returned (.pointer (some ⟨rb,0,none⟩))∧jW w' rb bo n cap bs ⟨0,0⟩∧w.heap.size≤rb∧Below w.heap.size w w'):=by
 have hba:=ae w (.cells #[.slice bo n cap,(),()] 367)
 have hz:=L9 w (.cells #[.slice bo n cap,(),()] 367)
 have HH:=MI h
 clear h
 go_enter Tryz.func269,Tryz.ntmps269
 go_wp2_with fail
 go_ret
 exact⟨w.heap.size,rfl,⟨hz,HH.out.ah hba,hn,Nat.zero_le _,fun a ha e=>by have:=hb a ha;omega⟩,Me,hba⟩
def qO(bs:List Int):Nat→Rd→Rd
 | 0,r=>r
 | f+1,r=>if kH bs r≤0 then r else qO bs f (if(bF bs r 1).1≠0 then uh (bF bs r 1).2 4 else(bF bs r 1).2)
def cellNat(w:World)(a:Addr):Nat:=match w.cell? a with
 | some (.int _ z)=>z.toNat
 | _=>0
theorem FY(bs:List Int)(f:Nat)(r:Rd)(h:kH bs r≤0):qO bs f r=r:=by
 cases f with
 | zero=>rfl
 | succ f=>show(if kH bs r≤0 then r else _)=r;rw[if_pos h]
theorem zy(bs:List Int)(r:Rd):kH bs r≤8*bs.length - r.p∨kH bs r=0:=by
 unfold kH
 split
 ·exact .inr rfl
 ·exact .inl (Int.le_refl _)
theorem get_one(bs:List Int)(r:Rd)(h:0<kH bs r):bF bs r 1=(qX bs r.p 1,⟨r.p+1,0⟩):=by
 unfold kH at h
 by_cases he:r.e≠0
 ·rw[if_pos he] at h;omega
 ·rw[if_neg he] at h
  unfold bF
  rw[if_neg he,if_neg (by omega),if_neg (by omega)]
theorem jW.cellNat{w:World}{rb:Nat}{bo:Option Addr}{n cap:Nat}{bs:List Int}{r:Rd}(h:jW w rb bo n cap bs r):cellNat w ⟨rb,1,none⟩=r.p:=by
 unfold Go.Proofs.YtnicjahcgnhogaaGreatDoor.cellNat
 rw[(aW h.row).2.1]
 simp
theorem end_any(rb:Nat)(bo:Option Addr)(n cap:Nat)(bs:List Int)(r:Rd)(w:World)(h:jW w rb bo n cap bs r):Calls Tryz.prog 273 #[.pointer (some ⟨rb,0,none⟩)] w (fun e w'=>e= .returned (.int .i64 (qO bs (8*n) r).e)∧jW w' rb bo n cap bs (qO bs (8*n) r)∧af (fun k=>k=rb) w w'):=by
 have HH:=MI h
 have hl:=MI h.bytes.hlen
 have HP:=MI h.at_
 clear h
 generalize hE:qO bs (8*n) r=E at*
 have HE:Hid (E=qO bs (8*n) r):=hE.symm
 clear hE
 go_enter Tryz.func273,Tryz.ntmps273
 go_upto_region 1 with fail
 go_loopw [] (fun wr=>∃(f:Nat)(r1:Rd),Hid (E=qO bs f r1∧8*n≤r1.p+f)∧jW wr rb bo n cap bs r1∧af (fun k=>k=rb) w wr) (fun wr=>8*n - cellNat wr ⟨rb,1,none⟩)
 case atStart=>exact⟨8*n,r,⟨HE.out,by omega⟩,HH.out,af.refl _ _⟩
 case round=>
  clear HE HH HP
  obtain⟨f,r1,hQ,hR,hK⟩:=hrel
  have hLf:=MI (zV rb bo n cap bs r1 wr hR)
  by_cases h0:0<kH bs r1
  ·have hg1:=get_one bs r1 h0
   have hp1:=hR.at_
   have hcn:=hR.cellNat
   obtain⟨f',rfl⟩: ∃f',f=f'+1:=⟨f - 1,by
    have:=hQ.out.2
    have h2:=zy bs r1
    rw[hl.out] at h2
    omega⟩
   have hlt:r1.p<8*n:=by
    have h2:=zy bs r1
    rw[hl.out] at h2
    omega
   have hQ1:=hQ.out.1
   rw[qO,if_neg (by omega),hg1] at hQ1
   simp only at hQ1
   have hQ2:=hQ.out.2
   have hGt:=MI (fun w h=>get_any rb bo n cap bs r1 1 w h)
   rw[hg1] at hGt
   simp only at hGt
   have HR:=MI hR
   have HK:=MI hK
   clear hR hK hQ hg1
   generalize kH bs r1=L at*
   obtain⟨V,hV⟩: ∃V,V=qX bs r1.p 1:=⟨_,rfl⟩
   rw[←hV] at hGt hQ1
   clear hV
   by_cases hv:V=0
   ·subst hv
    rw[if_neg (by simp)] at hQ1
    have HQ:Hid (E=qO bs f' ⟨r1.p+1,0⟩∧8*n≤r1.p+1+f'):=⟨hQ1,by omega⟩
    have HCN:=MI (show 8*n - (r1.p+1)<8*n - cellNat wr ⟨rb,1,none⟩ by rw[hcn];omega)
    clear hQ1 hQ2 hp1 hcn hlt
    go_wp2_with (first | (go_at_call 276;refine hLf.out.mono ?_;rintro e w1 ⟨rfl,n1,rfl⟩) | (go_at_call 270;refine(hGt.out _ (HR.out.drewN n1)).mono ?_;rintro e w2 ⟨rfl,hR2,hK2⟩))
    refine⟨⟨f',_,HQ.out,hR2,(HK.out.trans (jC _ _ _)).trans hK2⟩,?_⟩
    rw[hR2.cellNat]
    exact HCN.out
   ·rw[if_pos hv] at hQ1
    have HQ:Hid (E=qO bs f' ⟨r1.p+1,4⟩∧8*n≤r1.p+1+f'):=⟨hQ1,by omega⟩
    have HCN:=MI (show 8*n - (r1.p+1)<8*n - cellNat wr ⟨rb,1,none⟩ by rw[hcn];omega)
    have hFl:=MI (fun w h=>qg rb bo n cap bs ⟨r1.p+1,0⟩ 4 w h)
    have hv2:¬(V:Int)=0:=by omega
    clear hQ1 hQ2 hp1 hcn hlt
    go_wp2_with (first | (go_at_call 276;refine hLf.out.mono ?_;rintro e w1 ⟨rfl,n1,rfl⟩) | (go_at_call 270;refine(hGt.out _ (HR.out.drewN n1)).mono ?_;rintro e w2 ⟨rfl,hR2,hK2⟩) | (go_at_call 271;refine(hFl.out _ hR2).mono ?_;rintro e w3 ⟨rfl,hR3,hK3⟩))
    refine⟨⟨f',_,HQ.out,hR3,((HK.out.trans (jC _ _ _)).trans hK2).trans hK3⟩,?_⟩
    rw[hR3.cellNat]
    exact HCN.out
  ·have hst:=FY bs f r1 (by omega)
   have hQ2:=hQ.out.1
   rw[hst] at hQ2
   subst hQ2
   obtain⟨c0,c1,c2⟩:=aW hR.row
   have HR:=MI hR
   have HK:=MI hK
   clear hR hK hQ
   generalize kH bs E=L at*
   go_wp2_with (go_at_call 276;refine hLf.out.mono ?_;rintro e w1 ⟨rfl,n1,rfl⟩)
   go_ret
   exact⟨rfl,HR.out.drewN n1,HK.out.trans (jC _ _ _)⟩
end Go.Proofs.YtnicjahcgnhogaaGreatDoor
namespace Go.Calli
open Go.RowKit
theorem yc(w:World)(us:List Value)(t:TypeId): ∀j u,us[j]? =some u→(w.alloc (.cells us.toArray t)).cell? ((⟨w.heap.size,0,none⟩:Addr).add j)=some u:=by
 intro j u hu
 rw[add0,LZ (L9 _ _)]
 simpa using hu
theorem pq{P:Program}{w:World}{ops:Array Oper}{rest:List Oper}{o:Oper}{a:Act}{Q:Exit→Act→World→Prop}(hgd:o.guard=none)(s x:Operand)(t e:TypeId)(size:Nat)
  (ho:o.op= .call {callee:=.builtin .append,args:=#[s,x],argTypes:=#[t,t]}) (hu:P.underlying t=some (.slice e))
  {z:Value} {bytes:Nat} (hinfo:(P.info? e).map (fun i=>(i.zero,i.size,i.bytes))=some (some z,size,bytes)) (hz1:z.cells.size=size) (hs0:0<size)
  (B:Nat) (v:Value) (n:Nat) (xs:List Value) (hs:a.eval s=v) (hown:w.ownsRow B e size v n xs) (us:List Value) (hus:us.length=size) (hx:a.eval x= .slice (some ⟨w.heap.size,0,none⟩) 1 1) (h1: ∀u ∈ us,u.oneCell'=true)
  (hbd:(n+1)*bytes≤140737488355328) (hn:n+1≤maxLen) (hB:B≤w.heap.size)
  (h: ∀v' w',w'.ownsRow B e size v' (n+1) (xs++us)→af (fun k=>v.ownBlock=some k) w w'→wpList P ops Q rest (a.put o.dst v') w'):wpList P ops Q (o::rest) a (w.alloc (.cells us.toArray e)):=by
 obtain⟨i,hi,hz,hsz,hby⟩:=info_parts hinfo
 refine wpList_append_own _ hgd s x t ho B e i z size bytes hu hi hz hsz hby hz1 hs0 v n xs hs (hown.alloc _) ⟨w.heap.size,0,none⟩ 1 1 us hx (by rw[hus];omega) (yc _ _ _) h1 hn hbd (by simp;omega) ?_
 intro v' w' hown' hg _
 exact h v' w' hown' (((af.refl _ w).alloc _).grown hg fun k hk=>.inr hk)
theorem iD{P:Program}{w w':World}{ops:Array Oper}{o:Oper}{a:Act}{K:Act→World→Prop}{Q:Exit→Act→World→Prop}{E:Prop}(hgd:o.guard=none)(s x:Operand)(t u:TypeId)
  (ho:o.op= .call {callee:=.builtin .append,args:=#[s,x],argTypes:=#[t,u]}) {v v' z:Value} (hs:a.eval s=v) (hx:a.eval x=z) (hr:(Builtin.append_ #[t,u] o.type #[v,z]).run P w= .ok v' w')
  (hK:K (a.put o.dst v') w'):if Region.wanted o (yielded ops a.tmps)=true then Oper.wp P o a w K Q else E:=by
 have hw:Region.wanted o (yielded ops a.tmps)=true:=by simp[Region.wanted,hgd]
 rw[if_pos hw]
 unfold Oper.wp
 simp[execOp,ho,resolve,invoke,builtin,hs,hx,hr,Result.andThen]
 exact hK
theorem EI{α:Type}(f:α→List Value)(size:Nat)(hf: ∀x,(f x).length=size)(d:α)(ms:List α): ∀(i j:Nat),i<ms.length→j<size→(ms.flatMap f)[i*size+j]? =(f (ms.getD i d))[j]? :=by
 induction ms with
 | nil=>intro i j hi;simp at hi
 | cons m r ih=>
  intro i j hi hj
  have hl:=hf m
  rw[List.flatMap_cons]
  cases i with
  | zero=>
   rw[Nat.zero_mul,Nat.zero_add,List.getElem?_append_left (by omega)]
   simp
  | succ i=>
   have e:(i+1)*size=i*size+size:=Nat.succ_mul i size
   rw[List.getElem?_append_right (by omega),hl,show(i+1)*size+j - size=i*size+j by omega,ih i j (by simpa using hi) hj]
   simp
theorem flat_length{α:Type}(f:α→List Value)(size:Nat)(hf: ∀x,(f x).length=size)(ms:List α):(ms.flatMap f).length=ms.length*size:=by
 induction ms with
 | nil=>simp
 | cons m r ih=>rw[List.flatMap_cons,List.length_append,ih,hf,List.length_cons,Nat.succ_mul];omega
structure bH{α:Type}(f:α→List Value)(size:Nat)(d:α)(w:World)(ao:Option Addr)(n:Nat)(ms:List α):Prop where
 hlen:ms.length=n
 lim:n≤maxLen
 cell: ∀i,i<n→∃a,ao=some a∧∀j u,(f (ms.getD i d))[j]? =some u→w.cell? ((a.add (i*size)).add j)=some u
theorem bH.nil{α:Type}(f:α→List Value)(size:Nat)(d:α)(w:World)(ao:Option Addr):bH f size d w ao 0 []:=⟨rfl,by unfold maxLen;omega,fun i hi=>by omega⟩
theorem bH.ah{α:Type}{f:α→List Value}{size:Nat}{d:α}{w w':World}{ao:Option Addr}{n:Nat}{ms:List α}(h:bH f size d w ao n ms)(hb:Below w.heap.size w w'):bH f size d w' ao n ms:=
 ⟨h.hlen,h.lim,fun i hi=>by
  obtain⟨a,ha,hc⟩:=h.cell i hi
  exact⟨a,ha,fun j u hu=>by rw[hb.cell (World.block_lt_of_cell? w _ (hc j u hu))];exact hc j u hu⟩⟩
theorem bH.kept{α:Type}{f:α→List Value}{size:Nat}{d:α}{S:Nat→Prop}{w w':World}{ao:Option Addr}{n:Nat}{ms:List α}(h:bH f size d w ao n ms)(hk:af S w w')(hS: ∀a,ao=some a→¬S a.block):bH f size d w' ao n ms:=
 ⟨h.hlen,h.lim,fun i hi=>by
  obtain⟨a,ha,hc⟩:=h.cell i hi
  exact⟨a,ha,fun j u hu=>hk.cell (hc j u hu) (by rw[Addr.add_block,Addr.add_block];exact hS a ha)⟩⟩
theorem jO{α:Type}{f:α→List Value}{size:Nat}(d:α)(hf: ∀x,(f x).length=size)(hs0:0<size){w:World}{base e:Nat}{v:Value}{n:Nat}{ms:List α}(h:w.ownsRow base e size v n (ms.flatMap f)):
  ∃ao cap,v= .slice ao n cap∧n≤cap∧bH f size d w ao n ms∧(∀a,ao=some a→base≤a.block∧a.off=0∧a.spot=none∧v.ownBlock=some a.block):=by
 have hx:=h.1
 rw[flat_length f size hf] at hx
 have hml:ms.length=n:=Nat.eq_of_mul_eq_mul_right hs0 hx
 rcases h.2 with⟨rfl,rfl⟩ | ⟨g,cap,cur,rfl,hb,hg,hn,hc,hs,ht⟩
 ·have:ms=[]:=List.eq_nil_of_length_eq_zero hml
  subst this
  exact⟨none,0,rfl,by omega,bH.nil _ _ _ _ _,fun a ha=>by cases ha⟩
 ·refine⟨_,cap,rfl,hn,⟨hml,by omega,fun i hi=>⟨_,rfl,fun j u hu=>?_⟩⟩,fun a ha=>by cases ha;exact⟨hb,rfl,rfl,rfl⟩⟩
  have hj:j<size:=by
   have:=(List.getElem?_eq_some_iff.1 hu).1
   rw[hf] at this;exact this
  have:=h.cells (g:=g) rfl (i*size+j) u (by rw[EI f size hf d ms i j (by omega) hj];exact hu)
  rw[add0] at this
  rw[add0,add0,Nat.zero_add]
  rwa [Nat.zero_add] at this
theorem dF{w w':World}{B e size n:Nat}{v:Value}{xs:List Value}(h:w.ownsRow B e size v n xs)(hb:Below w.heap.size w w'):w'.ownsRow B e size v n xs:=ay (S:=fun _=>False) h (af.au hb Me) (fun _ _ h=>h)
end Go.Calli
namespace Go.Proofs.YtnicjahcgnhogaaGreatDoor
open Go Go.RowKit Go.Calli
attribute [local irreducible] wpStill wpAnyH wpAnyS wpList Code.wp
def dQ(v:Int)(k:Nat):Bool:=if k=0 then decide (v=0) else decide (-2^(k - 1)≤v∧v<2^(k - 1))
theorem fits_any(v:Int)(k:Nat)(hk:k≤57)(w:World):Calls Tryz.prog 207 #[.int .i64 v,.int .i64 (k:Int)] w (fun e w'=>e= .returned (.bool (dQ v k))∧w'=w):=by
 by_cases h0:k=0
 ·subst h0
  by_cases hv:v=0
  ·subst hv
   go_enter Tryz.func207,Tryz.ntmps207
   go_wp2_with fail
   go_ret
   exact⟨rfl,rfl⟩
  ·go_enter Tryz.func207,Tryz.ntmps207
   go_wp2_with fail
   go_ret
   exact⟨aN (by unfold dQ;simp[hv]),rfl⟩
 ·have hne:¬(k:Int)≤0:=by omega
  have h63:¬63<(k:Int):=by omega
  have hwp:IntKind.i64.wrap ((k:Int) - 1)=((k - 1:Nat):Int):=by rw[show(k:Int) - 1=((k - 1:Nat):Int) by omega];exact IntWalk.i64_in _ (by omega)
  have hm1:min (k - 1) 64=k - 1:=by omega
  obtain⟨a1,a2⟩:=uk (k - 1) (by omega)
  have hw1:IntKind.i64.wrap (2^(k - 1))=2^(k - 1):=IntWalk.i64_in _ (by omega)
  have hw2:IntKind.i64.wrap (-2^(k - 1))= -2^(k - 1):=IntWalk.i64_in _ (by omega)
  have HF:Hid (dQ v k=decide (-2^(k - 1)≤v∧v<2^(k - 1))):=if_neg h0
  by_cases h1: -2^(k - 1)≤v
  ·by_cases h2:v<2^(k - 1)
   ·have HF2:Hid (dQ v k=true):=by rw[HF.out];exact decide_eq_true ⟨h1,h2⟩
    go_enter Tryz.func207,Tryz.ntmps207
    go_wp2_with fail
    go_ret
    exact⟨aN HF2.out.symm,rfl⟩
   ·have HF2:Hid (dQ v k=false):=by rw[HF.out];exact decide_eq_false (fun h=>h2 h.2)
    go_enter Tryz.func207,Tryz.ntmps207
    go_wp2_with fail
    go_ret
    exact⟨aN HF2.out.symm,rfl⟩
  ·have HF2:Hid (dQ v k=false):=by rw[HF.out];exact decide_eq_false (fun h=>h1 h.1)
   go_enter Tryz.func207,Tryz.ntmps207
   go_wp2_with fail
   go_ret
   exact⟨aN HF2.out.symm,rfl⟩
def ed(t:Int×Int):List Value:=[.int .i64 t.1,.int .i64 t.2]
theorem wz{w:World}{A:Option Addr}{n:Nat}{ms:List (Int×Int)}(h:bH ed 2 (0,0) w A n ms){k:Nat}(hk:k<n): ∃a,A=some a∧w.cell? (a.add (k*2))=some (.int .i64 (ms.getD k (0,0)).1)∧w.cell? ⟨(a.add (k*2)).block,(a.add (k*2)).off+1,none⟩=some (.int .i64 (ms.getD k (0,0)).2):=by
 obtain⟨a,ha,hc⟩:=h.cell k hk
 exact⟨a,ha,hc 0 _ rfl,hc 1 _ rfl⟩
def okT(ts:List (Int×Int))(k:Nat):Bool:=decide (0≤(ts.getD k (0,0)).1)&&decide ((ts.getD k (0,0)).1<16)&&(decide (k=0)||decide ((ts.getD (k - 1) (0,0)).1<(ts.getD k (0,0)).1))&&dQ (ts.getD k (0,0)).2 24
def rtB(ts:List (Int×Int)):Bool:=(List.range ts.length).all (okT ts)&&decide (ts.length≤2)
theorem rtB_no{ts:List (Int×Int)}{k:Nat}(hk:k<ts.length)(h:okT ts k=false):rtB ts=false:=by
 unfold rtB
 rw[Bool.and_eq_false_iff]
 exact .inl (List.all_eq_false.2 ⟨k,List.mem_range.2 hk,by simp[h]⟩)
theorem rtB_end{ts:List (Int×Int)}(h: ∀k,k<ts.length→okT ts k=true):rtB ts=decide (ts.length≤2):=by
 unfold rtB
 rw[List.all_eq_true.2 (fun k hk=>h k (List.mem_range.1 hk)),Bool.true_and]
def RtP(ts:List (Int×Int))(w:World)(e:Ending)(w':World):Prop:=e= .returned (.bool (rtB ts))∧Below w.heap.size w w'
theorem BP(ao:Option Addr)(n cap:Nat)(ts:List (Int×Int))(w:World)(h:bH ed 2 (0,0) w ao n ts):Calls Tryz.prog 205 #[.slice ao n cap] w (RtP ts w):=by
 have hno:=fun k hk h=>rtB_no (ts:=ts) (k:=k) hk h
 have hend:=rtB_end (ts:=ts)
 rw[h.hlen] at hno hend
 have HNO:=MI hno
 have HEND:=MI hend
 clear hno hend
 have HOK:=MI (fun k=>show okT ts k=(decide (0≤(ts.getD k (0,0)).1)&&decide ((ts.getD k (0,0)).1<16)&&(decide (k=0)||decide ((ts.getD (k - 1) (0,0)).1<(ts.getD k (0,0)).1))&&dQ (ts.getD k (0,0)).2 24) from rfl)
 have hlm:=h.lim
 unfold maxLen at hlm
 have HR:=MI h
 clear h
 go_enter Tryz.func205,Tryz.ntmps205
 go_upto_region 2 with fail
 go_loopw [7] (fun v7 wr=>∃j:Nat,j≤n∧v7= .int .i64 (j:Int)∧Hid (∀k,k<j→okT ts k=true)∧Below w.heap.size w wr) (fun v7 _=>n - aG v7)
 case atStart=>exact⟨0,by omega,rfl,fun k hk=>by omega,Below.refl _ _⟩
 case round=>
  obtain⟨j,hj,rfl,hok,hb⟩:=hrel
  by_cases hjn:j<n
  ·have hR:=HR.out.ah hb
   have hokj:=HOK.out j
   have hnoj:=HNO.out j hjn
   have hst:okT ts j=true→Hid (∀k,k<j+1→okT ts k=true):=fun h k hk=>by
    by_cases hkj:k=j
    ·subst hkj;exact h
    ·exact hok.out k (by omega)
   have hprev:0<j→∃a,ao=some a∧wr.cell? (a.add ((j - 1)*2))=some (.int .i64 (ts.getD (j - 1) (0,0)).1):=fun h0=>by
    obtain⟨a,ha,h1,_⟩:=wz hR (k:=j - 1) (by omega)
    exact⟨a,ha,h1⟩
   obtain⟨a,rfl,c0,c1⟩:=wz hR hjn
   generalize ts.getD j (0,0)=tj at*
   generalize (ts.getD (j - 1) (0,0)).1=px at*
   obtain⟨ix,vl⟩:=tj
   simp only at c0 c1 hokj
   generalize okT ts j=ok at*
   have HF:=MI (fun w=>fits_any vl 24 (by decide) w)
   have HOKJ:=MI hokj
   have HNJ:=MI hnoj
   have HST:=MI hst
   clear hR hokj hnoj hst hok
   go_upto_region 4 with fail
   have hba:=ae wr (.cells #[.int .i64 ix,.int .i64 vl] 282)
   have hz:=L9 wr (.cells #[.int .i64 ix,.int .i64 vl] 282)
   have hb1:=hb.trans (hba.mono hb.size)
   have hp2:0<j→(wr.alloc (.cells #[.int .i64 ix,.int .i64 vl] 282)).cell? (a.add ((j - 1)*2))=some (.int .i64 px):=fun h0=>by
    obtain⟨a',ha,h1⟩:=hprev h0
    cases ha
    exact(hba.cell (World.block_lt_of_cell? wr _ h1)).trans h1
   clear hprev c0 c1 hb hba
   generalize wr.alloc (.cells #[.int .i64 ix,.int .i64 vl] 282)=W at*
   generalize wr.heap.size=xb at*
   obtain⟨d0,d1⟩:=bD hz
   clear hz
   by_cases h0:ix<0
   ·have g0:decide (ix<0)=true:=decide_eq_true h0
    go_quiet (first | (go_at_call 207;exact Calls.quiet_of_same (HF.out _)))
    go_wp2_with fail
    go_ret
    exact⟨aN (HNJ.out (by rw[HOKJ.out];simp_all;try omega)).symm,hb1.trans ⟨rfl,rfl,rfl,Me,fun _ _=>rfl⟩⟩
   have g0:decide (ix<0)=false:=decide_eq_false h0
   by_cases h16:16≤ix
   ·have g1:decide (16≤ix)=true:=decide_eq_true h16
    go_quiet (first | (go_at_call 207;exact Calls.quiet_of_same (HF.out _)))
    go_wp2_with fail
    go_ret
    exact⟨aN (HNJ.out (by rw[HOKJ.out];simp_all;try omega)).symm,hb1.trans ⟨rfl,rfl,rfl,Me,fun _ _=>rfl⟩⟩
   have g1:decide (16≤ix)=false:=decide_eq_false h16
   by_cases hj0:j=0
   ·subst hj0
    clear hp2
    cases hf:dQ vl 24 with
    | true=>
     rw[hf] at HF
     go_quiet (first | (go_at_call 207;exact Calls.quiet_of_same (HF.out _)))
     go_wp2_with fail
     refine⟨⟨0+1,by omega,by go_num,HST.out (by rw[HOKJ.out];simp_all;try omega),hb1.trans ⟨rfl,rfl,rfl,Me,fun _ _=>rfl⟩⟩,?_⟩
     simp[aG];omega
    | false=>
     rw[hf] at HF
     go_quiet (first | (go_at_call 207;exact Calls.quiet_of_same (HF.out _)))
     go_wp2_with fail
     go_ret
     exact⟨aN (HNJ.out (by rw[HOKJ.out];simp_all;try omega)).symm,hb1.trans ⟨rfl,rfl,rfl,Me,fun _ _=>rfl⟩⟩
   ·have hx:=hp2 (by omega)
    clear hp2
    have hj1:0<j:=by omega
    have gj:(0:Int)<(j:Int):=by omega
    have hwj:IntKind.i64.wrap ((j:Int) - 1)=((j - 1:Nat):Int):=by rw[show(j:Int) - 1=((j - 1:Nat):Int) by omega];exact IntWalk.i64_in _ (by omega)
    have hjb:((j - 1:Nat):Int)<(n:Int):=by omega
    have hjb0:(0:Int)≤((j - 1:Nat):Int):=by omega
    by_cases hxi:ix≤px
    ·have g2:decide (ix≤px)=true:=decide_eq_true hxi
     go_quiet (first | (go_at_call 207;exact Calls.quiet_of_same (HF.out _)))
     go_wp2_with fail
     go_ret
     exact⟨aN (HNJ.out (by rw[HOKJ.out];simp_all;try omega)).symm,hb1.trans ⟨rfl,rfl,rfl,Me,fun _ _=>rfl⟩⟩
    ·have g2:decide (ix≤px)=false:=decide_eq_false hxi
     cases hf:dQ vl 24 with
     | true=>
      rw[hf] at HF
      go_quiet (first | (go_at_call 207;exact Calls.quiet_of_same (HF.out _)))
      go_wp2_with fail
      refine⟨⟨j+1,by omega,by go_num,HST.out (by rw[HOKJ.out];simp_all;try omega),hb1.trans ⟨rfl,rfl,rfl,Me,fun _ _=>rfl⟩⟩,?_⟩
      simp[aG];omega
     | false=>
      rw[hf] at HF
      go_quiet (first | (go_at_call 207;exact Calls.quiet_of_same (HF.out _)))
      go_wp2_with fail
      go_ret
      exact⟨aN (HNJ.out (by rw[HOKJ.out];simp_all;try omega)).symm,hb1.trans ⟨rfl,rfl,rfl,Me,fun _ _=>rfl⟩⟩
  ·obtain rfl:j=n:=by omega
   go_wp2_with fail
   go_ret
   exact⟨aN (by rw[HEND.out hok.out];simp;omega),hb⟩
def frC(z:List Int)(tv:Value):Array Value:=((z.take 4).map (Value.int .i64)++tv::(z.drop 4).map (Value.int .i64)).toArray
theorem bC(z:List Int)(tv:Value)(h:z.length=28):(frC z tv).size=29:=by simp[frC,h]
theorem frC_lo(z:List Int)(tv:Value)(h:z.length=28)(k:Nat)(hk:k<4):(frC z tv)[k]? =some (.int .i64 (z.getD k 0)):=by
 unfold frC
 rw[List.getElem?_toArray,List.getElem?_append_left (by simp[h];omega),List.getElem?_map,List.getElem?_take_of_lt hk]
 simp[List.getD,show k<z.length by omega]
theorem frC_mid(z:List Int)(tv:Value)(h:z.length=28):(frC z tv)[4]? =some tv:=by
 unfold frC
 rw[List.getElem?_toArray,List.getElem?_append_right (by simp[h])]
 simp[h]
theorem frC_hi(z:List Int)(tv:Value)(h:z.length=28)(k:Nat)(hk:k<24):(frC z tv)[5+k]? =some (.int .i64 (z.getD (4+k) 0)):=by
 unfold frC
 rw[List.getElem?_toArray,List.getElem?_append_right (by simp[h];omega)]
 simp only[List.length_map,List.length_take,h]
 rw[show 5+k - min 4 28=k+1 by omega,List.getElem?_cons_succ,List.getElem?_map,List.getElem?_drop]
 simp[List.getD,show 4+k<z.length by omega]
theorem set_lo(z:List Int)(tv:Value)(h:z.length=28)(k:Nat)(hk:k<4)(v:Int):(frC z tv).setIfInBounds k (.int .i64 v)=frC (z.set k v) tv:=by
 unfold frC
 apply Array.ext'
 simp only[Array.toList_setIfInBounds]
 rw[List.set_append_left _ _ (by simp[h];omega)]
 have e1:(z.set k v).take 4=(z.take 4).set k v:=by rw[List.take_set]
 have e2:(z.set k v).drop 4=z.drop 4:=by rw[List.drop_set_of_lt (by omega)]
 rw[e1,e2,List.map_set]
theorem set_mid(z:List Int)(tv tv':Value)(h:z.length=28):(frC z tv).setIfInBounds 4 tv'=frC z tv':=by
 unfold frC
 apply Array.ext'
 simp only[Array.toList_setIfInBounds]
 rw[List.set_append_right _ _ (by simp[h])]
 simp[h]
theorem set_hi(z:List Int)(tv:Value)(h:z.length=28)(k:Nat)(hk:k<24)(v:Int):(frC z tv).setIfInBounds (5+k) (.int .i64 v)=frC (z.set (4+k) v) tv:=by
 unfold frC
 apply Array.ext'
 simp only[Array.toList_setIfInBounds]
 rw[List.set_append_right _ _ (by simp[h];omega)]
 have e1:(z.set (4+k) v).take 4=z.take 4:=by rw[List.take_set_of_le (by omega)]
 have e2:(z.set (4+k) v).drop 4=(z.drop 4).set k v:=by rw[List.drop_set,if_neg (by omega)];congr 1;omega
 rw[e1,e2,List.map_set]
 simp only[List.length_map,List.length_take,h]
 rw[show 5+k - min 4 28=k+1 by omega,List.set_cons_succ]
end Go.Proofs.YtnicjahcgnhogaaGreatDoor
