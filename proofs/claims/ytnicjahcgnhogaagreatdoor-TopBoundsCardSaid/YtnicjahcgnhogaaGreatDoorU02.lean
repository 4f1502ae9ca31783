/- Part 3 of the walk: contracts of the program's functions, each for every input. No condition. -/
import Derived.Test.YtnicjahcgnhogaaGreatDoorU01
set_option linter.unusedVariables false
set_option linter.unusedSimpArgs false
set_option maxRecDepth 100000
set_option maxHeartbeats 8000000
namespace Go.Proofs.YtnicjahcgnhogaaGreatDoor
open Go Go.RowKit Go.Calli
attribute [local irreducible] wpStill wpAnyH wpAnyS wpList Code.wp
theorem u64_or(v b:Nat)(hv:v<2^62)(hb:b<2):bits .or .u64 ((2*v:Nat):Int) (b:Int)=((2*v+b:Nat):Int):=by
 have h1:(BitVec.ofInt 64 ((2*v:Nat):Int)).toNat=2*v:=by
  rw[BitVec.toNat_ofInt];omega
 have h2:(BitVec.ofInt 64 (b:Int)).toNat=b:=by
  rw[BitVec.toNat_ofInt];omega
 have key:(BitVec.ofInt 64 ((2*v:Nat):Int)|||BitVec.ofInt 64 (b:Int)).toNat=2*v+b:=by
  rw[BitVec.toNat_or,h1,h2]
  have:=Nat.two_pow_add_eq_or_of_lt (i:=1) (b:=b) aa v
  simpa using this.symm
 show IntKind.u64.wrap ((BitVec.ofInt 64 ((2*v:Nat):Int)|||BitVec.ofInt 64 (b:Int)).toNat:Nat)=_
 rw[key,IntKind.wrap_u64]
 omega
theorem u8_and1(n:Int)(h0:0≤n)(h1:n<256):bits .and .u8 n 1=n%2:=by
 have I:(BitVec.ofInt 8 1).toNat=2^1 - 1:=aq
 have key:(BitVec.ofInt 8 n&&&BitVec.ofInt 8 1).toNat=(n%((2^8:Nat):Int)).toNat%2^1:=by
  rw[BitVec.toNat_and,BitVec.toNat_ofInt,I,Nat.and_two_pow_sub_one_eq_mod]
 show IntKind.u8.wrap ((BitVec.ofInt 8 n&&&BitVec.ofInt 8 1).toNat:Nat)=n%2
 rw[key,IntKind.wrap_u8]
 omega
def yQ(bs:List Int)(p:Nat):Nat:=(bs.getD (p/8) 0).toNat/2^(7 - p%8)%2
def sF(bs:List Int)(p:Nat):Nat→Nat
 | 0=>0
 | k+1=>2*sF bs p k+yQ bs (p+k)
theorem OJ(bs:List Int)(p:Nat):yQ bs p<2:=Nat.mod_lt _ aq
theorem zU(bs:List Int)(p k:Nat):sF bs p k<2^k:=by
 induction k with
 | zero=>exact Nat.one_pos
 | succ k ih=>
  have:=OJ bs (p+k)
  rw[sF,Nat.pow_succ]
  omega
structure Rd where
 p:Nat
 e:Int
def bT(bs:List Int)(r:Rd)(k:Nat):Nat×Rd:=
 if r.e≠0 then(0,r) else if 57<k then(0,⟨r.p,1⟩) else if 8*bs.length<r.p+k then(0,⟨r.p,2⟩) else(sF bs r.p k,⟨r.p+k,0⟩)
def lq(bs:List Int)(r:Rd):Int:=if r.e≠0 then 0 else 8*bs.length - r.p
def vk(r:Rd)(e:Int):Rd:=if r.e=0 then⟨r.p,e⟩ else r
def qf(bs:List Int)(r:Rd)(k:Nat):Int×Rd:=
 let x:=bT bs r k
 (if x.2.e≠0∨k=0 then 0 else if x.1/2^(k - 1)=1 then(x.1:Int) - 2^k else x.1,x.2)
structure kQ(w:World)(rb:Nat)(bo:Option Addr)(n cap:Nat)(bs:List Int)(r:Rd):Prop where
 row:w.heap[rb]? =some (.cells #[.slice bo n cap,.int .i64 (r.p:Int),.int .i64 r.e] 367 (0,0))
 bytes:Ints .u8 w bo n bs
 lim:n≤1000
 at_:r.p≤8*n
 apart: ∀a,bo=some a→a.block≠rb
theorem bu{w:World}{b:Nat}{v0 v1 v2:Value}{T:Nat}(h:w.heap[b]? =some (.cells #[v0,v1,v2] T (0,0))):w.cell? ⟨b,0,none⟩=some v0∧w.cell? ⟨b,1,none⟩=some v1∧w.cell? ⟨b,2,none⟩=some v2:=
 ⟨LY h rfl,LY h rfl,LY h rfl⟩
theorem BM(rb:Nat)(bo:Option Addr)(n cap:Nat)(bs:List Int)(r:Rd)(w:World)(h:kQ w rb bo n cap bs r):Calls Tryz.prog 276 #[.pointer (some ⟨rb,0,none⟩)] w (Qt (.int .i64 (lq bs r)) w):=by
 obtain⟨c0,c1,c2⟩:=bu h.row
 have hn:=h.lim
 have hp:=h.at_
 have hl:=h.bytes.hlen
 have HL:Hid (lq bs r=if r.e≠0 then 0 else 8*(bs.length:Int) - r.p):=rfl
 obtain⟨p,e⟩:=r
 simp only at c1 c2 hp HL
 clear h
 by_cases he:e=0
 ·subst he
  have h1:IntKind.i64.wrap (8*(n:Int))=8*(n:Int):=IntWalk.i64_in _ aa
  have h2:IntKind.i64.wrap (8*(n:Int) - (p:Int))=8*(n:Int) - (p:Int):=IntWalk.i64_in _ aa
  rw[if_neg ar,hl] at HL
  go_enter Tryz.func276,Tryz.ntmps276
  go_upto_region 3 with fail
  go_quiet (fail)
  go_wp2_with fail
  go_ret
  exact⟨bg HL.out.symm,nq,rfl⟩
 ·rw[if_pos (by simpa using he)] at HL
  go_enter Tryz.func276,Tryz.ntmps276
  go_wp2_with fail
  go_ret
  exact⟨bg HL.out.symm,0,rfl⟩
theorem kQ.put{w:World}{rb:Nat}{bo:Option Addr}{n cap:Nat}{bs:List Int}{r:Rd}(h:kQ w rb bo n cap bs r){w':World}(hk:ag (fun k=>k=rb) w w')(r':Rd)(hp:r'.p≤8*n)(hr:w'.heap[rb]? =some (.cells #[.slice bo n cap,.int .i64 (r'.p:Int),.int .i64 r'.e] 367 (0,0))):kQ w' rb bo n cap bs r':=
 ⟨hr,h.bytes.kept hk h.apart,h.lim,hp,h.apart⟩
def RdP(rb:Nat)(bo:Option Addr)(n cap:Nat)(bs:List Int)(r':Rd)(v:Value)(w:World)(e:Ending)(w':World):Prop:=e= .returned v∧kQ w' rb bo n cap bs r'∧ag (fun k=>k=rb) w w'
theorem eG(w:World)(b o:Nat)(v:Value):ag (fun k=>k=b) w (w.setCell ⟨b,o,none⟩ v):=(ag.refl (fun k=>k=b) w).setCell (p:=⟨b,o,none⟩) (.inr rfl) v
theorem qU(rb:Nat)(bo:Option Addr)(n cap:Nat)(bs:List Int)(r:Rd)(E:Int)(w:World)(h:kQ w rb bo n cap bs r):Calls Tryz.prog 271 #[.pointer (some ⟨rb,0,none⟩),.int .i64 E] w (RdP rb bo n cap bs (vk r E) (.tuple #[]) w):=by
 have HH:=MI h
 have I:=h.row
 obtain⟨c0,c1,c2⟩:=bu I
 have f2:=ay I 2
 have hp:=MI h.at_
 have HL:Hid (vk r E=if r.e=0 then⟨r.p,E⟩ else r):=rfl
 have J:=MI I
 obtain⟨p,e⟩:=r
 simp only at c1 c2 HL J hp
 clear h I
 by_cases he:e=0
 ·subst he
  rw[if_pos rfl] at HL
  go_enter Tryz.func271,Tryz.ntmps271
  go_wp2_with fail
  go_end0
  refine⟨rfl,?_,eG _ _ _ _⟩
  rw[HL.out]
  exact HH.out.put (eG _ _ _ _) ⟨p,E⟩ hp.out (Mc J.out)
 ·rw[if_neg he] at HL
  go_enter Tryz.func271,Tryz.ntmps271
  go_wp2_with fail
  go_end0
  exact⟨rfl,by rw[HL.out];exact HH.out,ag.refl _ _⟩
theorem kQ.drewN{w:World}{rb:Nat}{bo:Option Addr}{n cap:Nat}{bs:List Int}{r:Rd}(h:kQ w rb bo n cap bs r)(m:Nat):kQ (w.drewN m) rb bo n cap bs r:=
 ⟨h.row,h.bytes.aj ⟨rfl,rfl,rfl,Me,fun _ _=>rfl⟩,h.lim,h.at_,h.apart⟩
theorem jS(S:Nat→Prop)(w:World)(m:Nat):ag S w (w.drewN m):=(ag.refl S w).drewN m
theorem get_any(rb:Nat)(bo:Option Addr)(n cap:Nat)(bs:List Int)(r:Rd)(k:Nat)(w:World)(h:kQ w rb bo n cap bs r):Calls Tryz.prog 270 #[.pointer (some ⟨rb,0,none⟩),.int .i64 (k:Int)] w (RdP rb bo n cap bs (bT bs r k).2 (.int .u64 ((bT bs r k).1:Int)) w):=by
 have HH:=MI h
 have I:=h.row
 obtain⟨c0,c1,c2⟩:=bu I
 have f2:=ay I 2
 have hp:=MI h.at_
 have hl:=h.bytes.hlen
 have C0:=h.lim
 have R:=MI (BM rb bo n cap bs r w h)
 have HL:Hid (bT bs r k=if r.e≠0 then(0,r) else if 57<k then(0,⟨r.p,1⟩) else if 8*bs.length<r.p+k then(0,⟨r.p,2⟩) else(sF bs r.p k,⟨r.p+k,0⟩)):=rfl
 have J:=MI I
 obtain⟨p,e⟩:=r
 simp only at c1 c2 HL J hp
 clear h I
 have C1:¬(k:Int)<0:=aa
 by_cases he:e=0
 ·subst he
  rw[if_neg ar] at HL
  by_cases hk:57<k
  ·rw[if_pos hk] at HL
   go_enter Tryz.func270,Tryz.ntmps270
   go_wp2_with fail
   go_ret
   rw[HL.out]
   exact⟨rfl,HH.out.put (eG _ _ _ _) ⟨p,1⟩ hp.out (Mc J.out),eG _ _ _ _⟩
  ·rw[if_neg hk] at HL
   have HF:Hid (lq bs ⟨p,0⟩=8*(n:Int) - p):=by unfold Hid lq;rw[if_neg ar,hl]
   rw[HF.out] at R
   by_cases hs:8*n<p+k
   ·rw[if_pos (by rw[hl];exact hs)] at HL
    have A1:8*(n:Int) - (p:Int)<(k:Int):=aa
    clear HF
    go_enter Tryz.func270,Tryz.ntmps270
    go_wp2_with (go_at_call 276;refine R.out.mono ?_;rintro e w1 ⟨rfl,n1,rfl⟩)
    go_ret
    rw[HL.out]
    exact⟨rfl,(HH.out.drewN n1).put (eG _ _ _ _) ⟨p,2⟩ hp.out (Mc J.out),(jS _ _ _).trans (eG _ _ _ _)⟩
   ·rw[if_neg (by rw[hl];exact hs)] at HL
    have A1:¬8*(n:Int) - (p:Int)<(k:Int):=aa
    clear HF
    go_enter Tryz.func270,Tryz.ntmps270
    go_upto_region 11 with(go_at_call 276;refine R.out.mono ?_;rintro e w1 ⟨rfl,n1,rfl⟩)
    have A2:=MI (HH.out.drewN n1)
    have A3:=MI (jS (fun k=>k=rb) w n1)
    clear c0 c1 c2 f2 J HH R A1
    generalize w.drewN n1=W at*
    go_loopw [5,31] (fun v5 v31 wr=>∃j:Nat,j≤k∧v31= .int .i64 (j:Int)∧v5= .int .u64 ((sF bs p j:Nat):Int)∧kQ wr rb bo n cap bs ⟨p+j,0⟩∧ag (fun k=>k=rb) w wr) (fun _ v31 _=>k - aC v31)
    case atStart=>exact⟨0,aa,rfl,rfl,A2.out,A3.out⟩
    case round=>
     clear A2 A3
     obtain⟨j,hj,rfl,rfl,hR,hK⟩:=hrel
     by_cases C2:j<k
     ·obtain⟨a,x,rfl,hx,hc,A4⟩:=hR.bytes.byte (i:=(p+j)/8) aa
      have I:=hR.row
      simp only at I
      obtain⟨c0,c1,c2⟩:=bu I
      have f1:=ay I 1
      have A5:sF bs p (j+1)=2*sF bs p j+yQ bs (p+j):=rfl
      have hb:yQ bs (p+j)=x/2^(7 - (p+j)%8)%2:=by unfold yQ;rw[hx.out,Int.toNat_natCast]
      have A9:=zU bs p j
      have B0:2^j≤2^57:=Nat.pow_le_pow_right aq aa
      have U:=u64_or (sF bs p j) (x/2^(7 - (p+j)%8)%2) aa (Nat.mod_lt _ aq)
      rw[←hb,←A5] at U
      have HB:=MI hb
      have hP:((p+j:Nat):Int)=(p:Int)+(j:Int):=aa
      have C3:((p+j:Nat):Int)/8=(((p+j)/8:Nat):Int):=aa
      have C4:((p+j:Nat):Int)%8=(((p+j)%8:Nat):Int):=aa
      have B1:(p+j)/8<n:=aa
      have B2:(p+j)%8<8:=Nat.mod_lt _ aq
      have C5:IntKind.i64.wrap (((p+j:Nat):Int)+1)=((p+(j+1):Nat):Int):=by rw[show((p+j:Nat):Int)+1=((p+(j+1):Nat):Int) by omega];exact IntWalk.i64_in _ (by have:=hp.out;omega)
      have B3:Hid (p+(j+1)≤8*n):=by unfold Hid;omega
      clear hx hb A5 hP
      generalize o:sF bs p (j+1)=gv2 at*
      have A7:=MI o
      clear o
      generalize sF bs p j=gv at*
      generalize yQ bs (p+j)=bt at*
      generalize B4:(p+j)/8=d at*
      generalize B5:(p+j)%8=m at*
      generalize A6:p+(j+1)=P2 at*
      have B6:=MI A6
      clear A6
      generalize p+j=P at*
      have C6:IntKind.i64.wrap (7 - (m:Int))=((7 - m:Nat):Int):=by rw[show 7 - (m:Int)=((7 - m:Nat):Int) by omega];exact IntWalk.i64_in _ aa
      have B9:min (7 - m) 8=7 - m:=aa
      have C7:(d:Int)<(n:Int):=aa
      have C8:IntKind.u64.wrap ((gv:Int)*2)=((2*gv:Nat):Int):=by rw[show(gv:Int)*2=((2*gv:Nat):Int) by omega,IntKind.wrap_u64];omega
      have C9:(x:Int)/2^(7 - m)=((x/2^(7 - m):Nat):Int):=ar
      have B7:x/2^(7 - m)≤255:=Nat.le_trans (Nat.div_le_self _ _) (Nat.le_of_lt_succ A4)
      generalize x/2^(7 - m)=y at*
      have hand:bits .and .u8 (y:Int) 1=(bt:Int):=by rw[u8_and1 _ aa aa,HB.out];omega
      have A8:bt<2:=by rw[HB.out];exact Nat.mod_lt _ aq
      have D0:IntKind.u64.wrap (bt:Int)=(bt:Int):=by rw[IntKind.wrap_u64];omega
      have A0:bits .or .u64 (2*(gv:Int)) (bt:Int)=(gv2:Int):=by rw[←U];congr 1
      have B8:=MI A0
      clear U A0 A8
      have HR:=MI hR
      have J:=MI I
      clear B4 B5 A9 B0 B7 hR I hl hs A4 B1 B2 HB HL hp
      go_upto_region 12 with fail
      go_quiet (fail)
      go_wp2_with fail
      refine⟨⟨j+1,aa,aD,by rw[A7.out,B8.out],by rw[B6.out];exact(HR.out.drewN nq).put (eG _ _ _ _) ⟨P2,0⟩ B3.out (heap_setCell_same (wr.drewN nq) _ _ _ _ _ J.out),(hK.trans (jS _ _ _)).trans (eG _ _ _ _)⟩,?_⟩
      simp[aC];omega
     ·obtain rfl:j=k:=aa
      go_wp2_with fail
      go_ret
      rw[HL.out]
      exact⟨rfl,hR,hK⟩
 ·rw[if_pos (by simpa using he)] at HL
  go_enter Tryz.func270,Tryz.ntmps270
  go_wp2_with fail
  go_ret
  rw[HL.out]
  exact⟨rfl,HH.out,ag.refl _ _⟩
theorem DU(rb:Nat)(bo:Option Addr)(n cap:Nat)(bs:List Int)(r:Rd)(k:Nat)(w:World)(h:kQ w rb bo n cap bs r):Calls Tryz.prog 272 #[.pointer (some ⟨rb,0,none⟩),.int .i64 (k:Int)] w (RdP rb bo n cap bs (qf bs r k).2 (.int .i64 (qf bs r k).1) w):=by
 have hG:=get_any rb bo n cap bs r k w h
 have HS:Hid (qf bs r k=(if(bT bs r k).2.e≠0∨k=0 then 0 else if(bT bs r k).1/2^(k - 1)=1 then((bT bs r k).1:Int) - 2^k else(bT bs r k).1,(bT bs r k).2)):=rfl
 have hv:(bT bs r k).2.e=0→(bT bs r k).1<2^k∧k≤57∨r.e≠0:=fun he=>by
  unfold bT at he⊢
  by_cases h1:r.e≠0
  ·exact .inr h1
  ·rw[if_neg h1] at he⊢
   by_cases h2:57<k
   ·rw[if_pos h2] at he;cases he
   ·rw[if_neg h2] at he⊢
    by_cases h3:8*bs.length<r.p+k
    ·rw[if_pos h3] at he;cases he
    ·rw[if_neg h3]
     exact .inl ⟨zU _ _ _,aa⟩
 have I:(bT bs r k).2.e=0→(bT bs r k).1<2^k∧k≤57:=fun he=>by
  rcases hv he with h1 | h1
  ·exact h1
  ·exfalso
   unfold bT at he
   rw[if_pos h1] at he
   exact h1 he
 clear hv
 generalize bT bs r k=x at*
 obtain⟨v,r'⟩:=x
 simp only at HS I hG
 have HG:=MI hG
 clear hG h
 by_cases he:r'.e=0
 ·obtain⟨U,hk⟩:=I he
  have j:2^k≤2^57:=Nat.pow_le_pow_right aq hk
  clear I
  by_cases h0:k=0
  ·subst h0
   rw[if_pos (Or.inr rfl)] at HS
   go_enter Tryz.func272,Tryz.ntmps272
   go_wp2_with (go_at_call 270;refine HG.out.mono ?_;rintro e w1 ⟨rfl,hR,hK⟩;obtain⟨c0,c1,c2⟩:=bu hR.row;rw[he] at c2)
   go_ret
   rw[HS.out]
   exact⟨rfl,hR,hK⟩
  ·rw[if_neg (by rintro(h | h);exact h he;exact h0 h)] at HS
   have o:¬(k:Int)=0:=aa
   have A0:IntKind.i64.wrap ((k:Int) - 1)=((k - 1:Nat):Int):=by rw[show(k:Int) - 1=((k - 1:Nat):Int) by omega];exact IntWalk.i64_in _ aa
   have A1:min (k - 1) 64=k - 1:=aa
   have hm:min k 64=k:=aa
   have hq:(v:Int)/2^(k - 1)=((v/2^(k - 1):Nat):Int):=ar
   have A2:IntKind.i64.wrap (v:Int)=(v:Int):=IntWalk.i64_in _ aa
   have J:((2:Int)^k)=((2^k:Nat):Int):=ar
   have A3:IntKind.i64.wrap (2^k)=2^k:=IntWalk.i64_in _ aa
   have A4:IntKind.i64.wrap ((v:Int) - 2^k)=(v:Int) - 2^k:=IntWalk.i64_in _ aa
   clear J
   by_cases h1:v/2^(k - 1)=1
   rotate_right
   focus
    rw[if_neg h1] at HS
    have R:¬((v/2^(k - 1):Nat):Int)=1:=aa
   rotate_right
   focus
    rw[if_pos h1] at HS
    have R:((v/2^(k - 1):Nat):Int)=1:=aa
   all_goals
    generalize v/2^(k - 1)=y at*
    go_enter Tryz.func272,Tryz.ntmps272
    go_wp2_with (go_at_call 270;refine HG.out.mono ?_;rintro e w1 ⟨rfl,hR,hK⟩;obtain⟨c0,c1,c2⟩:=bu hR.row;rw[he] at c2)
    go_ret
    rw[HS.out]
    exact⟨rfl,hR,hK⟩
 ·rw[if_pos (Or.inl he)] at HS
  go_enter Tryz.func272,Tryz.ntmps272
  go_wp2_with (go_at_call 270;refine HG.out.mono ?_;rintro e w1 ⟨rfl,hR,hK⟩;obtain⟨c0,c1,c2⟩:=bu hR.row)
  go_ret
  rw[HS.out]
  exact⟨rfl,hR,hK⟩
theorem ve(bo:Option Addr)(n cap:Nat)(bs:List Int)(hn:n≤1000)(w:World)(h:Ints .u8 w bo n bs)(hb: ∀a,bo=some a→a.block<w.heap.size):Calls Tryz.prog 269 #[.slice bo n cap] w (fun e w'=>∃rb,e= .returned (.pointer (some ⟨rb,0,none⟩))∧kQ w' rb bo n cap bs ⟨0,0⟩∧w.heap.size≤rb∧Below w.heap.size w w'):=by
 have I:=ae w (.cells #[.slice bo n cap,(),()] 367)
 have hz:=L9 w (.cells #[.slice bo n cap,(),()] 367)
 have HH:=MI h
 clear h
 go_enter Tryz.func269,Tryz.ntmps269
 go_wp2_with fail
 go_ret
 exact⟨w.heap.size,rfl,⟨hz,HH.out.aj I,hn,Nat.zero_le _,fun a ha e=>by have:=hb a ha;omega⟩,Me,I⟩
def rW(bs:List Int):Nat→Rd→Rd
 | 0,r=>r
 | f+1,r=>if lq bs r≤0 then r else rW bs f (if(bT bs r 1).1≠0 then vk (bT bs r 1).2 4 else(bT bs r 1).2)
def cellNat(w:World)(a:Addr):Nat:=match w.cell? a with
 | some (.int _ z)=>z.toNat
 | _=>0
theorem IC(bs:List Int)(f:Nat)(r:Rd)(h:lq bs r≤0):rW bs f r=r:=by
 cases f with
 | zero=>rfl
 | succ f=>show(if lq bs r≤0 then r else _)=r;rw[if_pos h]
theorem Bf(bs:List Int)(r:Rd):lq bs r≤8*bs.length - r.p∨lq bs r=0:=by
 unfold lq
 split
 ·exact .inr rfl
 ·exact .inl (Int.le_refl _)
theorem get_one(bs:List Int)(r:Rd)(h:0<lq bs r):bT bs r 1=(sF bs r.p 1,⟨r.p+1,0⟩):=by
 unfold lq at h
 by_cases he:r.e≠0
 ·rw[if_pos he] at h;omega
 ·rw[if_neg he] at h
  unfold bT
  rw[if_neg he,if_neg aa,if_neg aa]
theorem kQ.cellNat{w:World}{rb:Nat}{bo:Option Addr}{n cap:Nat}{bs:List Int}{r:Rd}(h:kQ w rb bo n cap bs r):cellNat w ⟨rb,1,none⟩=r.p:=by
 unfold Go.Proofs.YtnicjahcgnhogaaGreatDoor.cellNat
 rw[(bu h.row).2.1]
 simp
theorem end_any(rb:Nat)(bo:Option Addr)(n cap:Nat)(bs:List Int)(r:Rd)(w:World)(h:kQ w rb bo n cap bs r):Calls Tryz.prog 273 #[.pointer (some ⟨rb,0,none⟩)] w (fun e w'=>e= .returned (.int .i64 (rW bs (8*n) r).e)∧kQ w' rb bo n cap bs (rW bs (8*n) r)∧ag (fun k=>k=rb) w w'):=by
 have HH:=MI h
 have hl:=MI h.bytes.hlen
 have HP:=MI h.at_
 clear h
 generalize hE:rW bs (8*n) r=E at*
 have HE:Hid (E=rW bs (8*n) r):=hE.symm
 clear hE
 go_enter Tryz.func273,Tryz.ntmps273
 go_upto_region 1 with fail
 go_loopw [] (fun wr=>∃(f:Nat)(r1:Rd),Hid (E=rW bs f r1∧8*n≤r1.p+f)∧kQ wr rb bo n cap bs r1∧ag (fun k=>k=rb) w wr) (fun wr=>8*n - cellNat wr ⟨rb,1,none⟩)
 case atStart=>exact⟨8*n,r,⟨HE.out,aa⟩,HH.out,ag.refl _ _⟩
 case round=>
  clear HE HH HP
  obtain⟨f,r1,hQ,hR,hK⟩:=hrel
  have o:=MI (BM rb bo n cap bs r1 wr hR)
  by_cases h0:0<lq bs r1
  ·have A0:=get_one bs r1 h0
   have A3:=hR.at_
   have U:=hR.cellNat
   obtain⟨f',rfl⟩: ∃f',f=f'+1:=⟨f - 1,by
    have:=hQ.out.2
    have h2:=Bf bs r1
    rw[hl.out] at h2
    omega⟩
   have A4:r1.p<8*n:=by
    have h2:=Bf bs r1
    rw[hl.out] at h2
    omega
   have I:=hQ.out.1
   rw[rW,if_neg aa,A0] at I
   simp only at I
   have J:=hQ.out.2
   have R:=MI (fun w h=>get_any rb bo n cap bs r1 1 w h)
   rw[A0] at R
   simp only at R
   have HR:=MI hR
   have HK:=MI hK
   clear hR hK hQ A0
   generalize lq bs r1=L at*
   obtain⟨V,hV⟩: ∃V,V=sF bs r1.p 1:=⟨_,rfl⟩
   rw[←hV] at R I
   clear hV
   by_cases hv:V=0
   ·subst hv
    rw[if_neg ar] at I
    have HQ:Hid (E=rW bs f' ⟨r1.p+1,0⟩∧8*n≤r1.p+1+f'):=⟨I,aa⟩
    have A1:=MI (show 8*n - (r1.p+1)<8*n - cellNat wr ⟨rb,1,none⟩ by rw[U];omega)
    clear I J A3 U A4
    go_wp2_with (first | (go_at_call 276;refine o.out.mono ?_;rintro e w1 ⟨rfl,n1,rfl⟩) | (go_at_call 270;refine(R.out _ (HR.out.drewN n1)).mono ?_;rintro e w2 ⟨rfl,j,A2⟩))
    refine⟨⟨f',_,HQ.out,j,(HK.out.trans (jS _ _ _)).trans A2⟩,?_⟩
    rw[j.cellNat]
    exact A1.out
   ·rw[if_pos hv] at I
    have HQ:Hid (E=rW bs f' ⟨r1.p+1,4⟩∧8*n≤r1.p+1+f'):=⟨I,aa⟩
    have A1:=MI (show 8*n - (r1.p+1)<8*n - cellNat wr ⟨rb,1,none⟩ by rw[U];omega)
    have A6:=MI (fun w h=>qU rb bo n cap bs ⟨r1.p+1,0⟩ 4 w h)
    have A9:¬(V:Int)=0:=aa
    clear I J A3 U A4
    go_wp2_with (first | (go_at_call 276;refine o.out.mono ?_;rintro e w1 ⟨rfl,n1,rfl⟩) | (go_at_call 270;refine(R.out _ (HR.out.drewN n1)).mono ?_;rintro e w2 ⟨rfl,j,A2⟩) | (go_at_call 271;refine(A6.out _ j).mono ?_;rintro e w3 ⟨rfl,A5,A7⟩))
    refine⟨⟨f',_,HQ.out,A5,((HK.out.trans (jS _ _ _)).trans A2).trans A7⟩,?_⟩
    rw[A5.cellNat]
    exact A1.out
  ·have A8:=IC bs f r1 aa
   have J:=hQ.out.1
   rw[A8] at J
   subst J
   obtain⟨c0,c1,c2⟩:=bu hR.row
   have HR:=MI hR
   have HK:=MI hK
   clear hR hK hQ
   generalize lq bs E=L at*
   go_wp2_with (go_at_call 276;refine o.out.mono ?_;rintro e w1 ⟨rfl,n1,rfl⟩)
   go_ret
   exact⟨rfl,HR.out.drewN n1,HK.out.trans (jS _ _ _)⟩
end Go.Proofs.YtnicjahcgnhogaaGreatDoor
namespace Go.Calli
open Go.RowKit
theorem zG(w:World)(us:List Value)(t:TypeId): ∀j u,us[j]? =some u→(w.alloc (.cells us.toArray t)).cell? ((⟨w.heap.size,0,none⟩:Addr).add j)=some u:=by
 intro j u hu
 rw[add0,LZ (L9 _ _)]
 simpa using hu
theorem iI{P:Program}{w:World}{ops:Array Oper}{rest:List Oper}{o:Oper}{a:Act}{Q:Exit→Act→World→Prop}(U:o.guard=none)(s x:Operand)(t e:TypeId)(size:Nat)
  (ho:o.op= .call {callee:=.builtin .append,args:=#[s,x],argTypes:=#[t,t]}) (hu:P.underlying t=some (.slice e))
  {z:Value} {bytes:Nat} (I:(P.info? e).map (fun i=>(i.zero,i.size,i.bytes))=some (some z,size,bytes)) (j:z.cells.size=size) (A0:0<size)
  (B:Nat) (v:Value) (n:Nat) (xs:List Value) (hs:a.eval s=v) (R:w.ownsRow B e size v n xs) (us:List Value) (A1:us.length=size) (hx:a.eval x= .slice (some ⟨w.heap.size,0,none⟩) 1 1) (h1: ∀u ∈ us,u.oneCell'=true)
  (A2:(n+1)*bytes≤140737488355328) (hn:n+1≤maxLen) (hB:B≤w.heap.size)
  (h: ∀v' w',w'.ownsRow B e size v' (n+1) (xs++us)→ag (fun k=>v.ownBlock=some k) w w'→wpList P ops Q rest (a.put o.dst v') w'):wpList P ops Q (o::rest) a (w.alloc (.cells us.toArray e)):=by
 obtain⟨i,hi,hz,A3,A4⟩:=info_parts I
 refine wpList_append_own _ U s x t ho B e i z size bytes hu hi hz A3 A4 j A0 v n xs hs (R.alloc _) ⟨w.heap.size,0,none⟩ 1 1 us hx (by rw[A1];omega) (zG _ _ _) h1 hn A2 (by simp;omega) ?_
 intro v' w' J hg _
 exact h v' w' J (((ag.refl _ w).alloc _).grown hg fun k hk=>.inr hk)
theorem iQ{P:Program}{w w':World}{ops:Array Oper}{o:Oper}{a:Act}{K:Act→World→Prop}{Q:Exit→Act→World→Prop}{E:Prop}(I:o.guard=none)(s x:Operand)(t u:TypeId)
  (ho:o.op= .call {callee:=.builtin .append,args:=#[s,x],argTypes:=#[t,u]}) {v v' z:Value} (hs:a.eval s=v) (hx:a.eval x=z) (hr:(Builtin.append_ #[t,u] o.type #[v,z]).run P w= .ok v' w')
  (hK:K (a.put o.dst v') w'):if Region.wanted o (yielded ops a.tmps)=true then Oper.wp P o a w K Q else E:=by
 have hw:Region.wanted o (yielded ops a.tmps)=true:=by simp[Region.wanted,I]
 rw[if_pos hw]
 unfold Oper.wp
 simp[execOp,ho,resolve,invoke,builtin,hs,hx,hr,Result.andThen]
 exact hK
theorem GU{α:Type}(f:α→List Value)(size:Nat)(hf: ∀x,(f x).length=size)(d:α)(ms:List α): ∀(i j:Nat),i<ms.length→j<size→(ms.flatMap f)[i*size+j]? =(f (ms.getD i d))[j]? :=by
 induction ms with
 | nil=>intro i j hi;simp at hi
 | cons m r ih=>
  intro i j hi hj
  have hl:=hf m
  rw[List.flatMap_cons]
  cases i with
  | zero=>
   rw[Nat.zero_mul,Nat.zero_add,List.getElem?_append_left aa]
   simp
  | succ i=>
   have e:(i+1)*size=i*size+size:=Nat.succ_mul i size
   rw[List.getElem?_append_right aa,hl,show(i+1)*size+j - size=i*size+j by omega,ih i j (by simpa using hi) hj]
   simp
theorem flat_length{α:Type}(f:α→List Value)(size:Nat)(hf: ∀x,(f x).length=size)(ms:List α):(ms.flatMap f).length=ms.length*size:=by
 induction ms with
 | nil=>simp
 | cons m r ih=>rw[List.flatMap_cons,List.length_append,ih,hf,List.length_cons,Nat.succ_mul];omega
structure bP{α:Type}(f:α→List Value)(size:Nat)(d:α)(w:World)(ao:Option Addr)(n:Nat)(ms:List α):Prop where
 hlen:ms.length=n
 lim:n≤maxLen
 cell: ∀i,i<n→∃a,ao=some a∧∀j u,(f (ms.getD i d))[j]? =some u→w.cell? ((a.add (i*size)).add j)=some u
theorem bP.nil{α:Type}(f:α→List Value)(size:Nat)(d:α)(w:World)(ao:Option Addr):bP f size d w ao 0 []:=⟨rfl,aE,fun i hi=>aa⟩
theorem bP.aj{α:Type}{f:α→List Value}{size:Nat}{d:α}{w w':World}{ao:Option Addr}{n:Nat}{ms:List α}(h:bP f size d w ao n ms)(hb:Below w.heap.size w w'):bP f size d w' ao n ms:=
 ⟨h.hlen,h.lim,fun i hi=>by
  obtain⟨a,ha,hc⟩:=h.cell i hi
  exact⟨a,ha,fun j u hu=>by rw[hb.cell (World.block_lt_of_cell? w _ (hc j u hu))];exact hc j u hu⟩⟩
theorem bP.kept{α:Type}{f:α→List Value}{size:Nat}{d:α}{S:Nat→Prop}{w w':World}{ao:Option Addr}{n:Nat}{ms:List α}(h:bP f size d w ao n ms)(hk:ag S w w')(hS: ∀a,ao=some a→¬S a.block):bP f size d w' ao n ms:=
 ⟨h.hlen,h.lim,fun i hi=>by
  obtain⟨a,ha,hc⟩:=h.cell i hi
  exact⟨a,ha,fun j u hu=>hk.cell (hc j u hu) (by rw[Addr.add_block,Addr.add_block];exact hS a ha)⟩⟩
theorem jG{α:Type}{f:α→List Value}{size:Nat}(d:α)(hf: ∀x,(f x).length=size)(J:0<size){w:World}{base e:Nat}{v:Value}{n:Nat}{ms:List α}(h:w.ownsRow base e size v n (ms.flatMap f)):
  ∃ao cap,v= .slice ao n cap∧n≤cap∧bP f size d w ao n ms∧(∀a,ao=some a→base≤a.block∧a.off=0∧a.spot=none∧v.ownBlock=some a.block):=by
 have hx:=h.1
 rw[flat_length f size hf] at hx
 have I:ms.length=n:=Nat.eq_of_mul_eq_mul_right J hx
 rcases h.2 with⟨rfl,rfl⟩ | ⟨g,cap,cur,rfl,hb,hg,hn,hc,hs,ht⟩
 ·have:ms=[]:=List.eq_nil_of_length_eq_zero I
  subst this
  exact⟨none,0,rfl,aa,bP.nil _ _ _ _ _,fun a ha=>by cases ha⟩
 ·refine⟨_,cap,rfl,hn,⟨I,aa,fun i hi=>⟨_,rfl,fun j u hu=>?_⟩⟩,fun a ha=>by cases ha;exact⟨hb,rfl,rfl,rfl⟩⟩
  have hj:j<size:=by
   have:=(List.getElem?_eq_some_iff.1 hu).1
   rw[hf] at this;exact this
  have:=h.cells (g:=g) rfl (i*size+j) u (by rw[GU f size hf d ms i j aa hj];exact hu)
  rw[add0] at this
  rw[add0,add0,Nat.zero_add]
  rwa [Nat.zero_add] at this
theorem aQ{w w':World}{B e size n:Nat}{v:Value}{xs:List Value}(h:w.ownsRow B e size v n xs)(hb:Below w.heap.size w w'):w'.ownsRow B e size v n xs:=aB (S:=fun _=>False) h (ag.au hb Me) (fun _ _ h=>h)
end Go.Calli
namespace Go.Proofs.YtnicjahcgnhogaaGreatDoor
open Go Go.RowKit Go.Calli
attribute [local irreducible] wpStill wpAnyH wpAnyS wpList Code.wp
def dX(v:Int)(k:Nat):Bool:=if k=0 then decide (v=0) else decide (-2^(k - 1)≤v∧v<2^(k - 1))
theorem fits_any(v:Int)(k:Nat)(hk:k≤57)(w:World):Calls Tryz.prog 207 #[.int .i64 v,.int .i64 (k:Int)] w (fun e w'=>e= .returned (.bool (dX v k))∧w'=w):=by
 by_cases h0:k=0
 ·subst h0
  by_cases hv:v=0
  ·subst hv
   go_enter Tryz.func207,Tryz.ntmps207
   go_wp2_with fail
   go_ret
   exact⟨rfl,rfl⟩
  ·go_enter Tryz.func207,Tryz.ntmps207
   go_wp2_with fail
   go_ret
   exact⟨aP (by unfold dX;simp[hv]),rfl⟩
 ·have J:¬(k:Int)≤0:=aa
  have R:¬63<(k:Int):=aa
  have U:IntKind.i64.wrap ((k:Int) - 1)=((k - 1:Nat):Int):=by rw[show(k:Int) - 1=((k - 1:Nat):Int) by omega];exact IntWalk.i64_in _ aa
  have j:min (k - 1) 64=k - 1:=aa
  obtain⟨a1,a2⟩:=vC (k - 1) aa
  have o:IntKind.i64.wrap (2^(k - 1))=2^(k - 1):=IntWalk.i64_in _ aa
  have A0:IntKind.i64.wrap (-2^(k - 1))= -2^(k - 1):=IntWalk.i64_in _ aa
  have HF:Hid (dX v k=decide (-2^(k - 1)≤v∧v<2^(k - 1))):=if_neg h0
  by_cases h1: -2^(k - 1)≤v
  ·by_cases h2:v<2^(k - 1)
   ·have I:Hid (dX v k=true):=by rw[HF.out];exact decide_eq_true ⟨h1,h2⟩
    go_enter Tryz.func207,Tryz.ntmps207
    go_wp2_with fail
    go_ret
    exact⟨aP I.out.symm,rfl⟩
   ·have I:Hid (dX v k=false):=by rw[HF.out];exact decide_eq_false (fun h=>h2 h.2)
    go_enter Tryz.func207,Tryz.ntmps207
    go_wp2_with fail
    go_ret
    exact⟨aP I.out.symm,rfl⟩
  ·have I:Hid (dX v k=false):=by rw[HF.out];exact decide_eq_false (fun h=>h1 h.1)
   go_enter Tryz.func207,Tryz.ntmps207
   go_wp2_with fail
   go_ret
   exact⟨aP I.out.symm,rfl⟩
def eY(t:Int×Int):List Value:=[.int .i64 t.1,.int .i64 t.2]
theorem xO{w:World}{A:Option Addr}{n:Nat}{ms:List (Int×Int)}(h:bP eY 2 (0,0) w A n ms){k:Nat}(hk:k<n): ∃a,A=some a∧w.cell? (a.add (k*2))=some (.int .i64 (ms.getD k (0,0)).1)∧w.cell? ⟨(a.add (k*2)).block,(a.add (k*2)).off+1,none⟩=some (.int .i64 (ms.getD k (0,0)).2):=by
 obtain⟨a,ha,hc⟩:=h.cell k hk
 exact⟨a,ha,hc 0 _ rfl,hc 1 _ rfl⟩
def okT(ts:List (Int×Int))(k:Nat):Bool:=decide (0≤(ts.getD k (0,0)).1)&&decide ((ts.getD k (0,0)).1<16)&&(decide (k=0)||decide ((ts.getD (k - 1) (0,0)).1<(ts.getD k (0,0)).1))&&dX (ts.getD k (0,0)).2 24
def rtB(ts:List (Int×Int)):Bool:=(List.range ts.length).all (okT ts)&&decide (ts.length≤2)
theorem rtB_no{ts:List (Int×Int)}{k:Nat}(hk:k<ts.length)(h:okT ts k=false):rtB ts=false:=by
 unfold rtB
 rw[Bool.and_eq_false_iff]
 exact .inl (List.all_eq_false.2 ⟨k,List.mem_range.2 hk,by simp[h]⟩)
theorem rtB_end{ts:List (Int×Int)}(h: ∀k,k<ts.length→okT ts k=true):rtB ts=decide (ts.length≤2):=by
 unfold rtB
 rw[List.all_eq_true.2 (fun k hk=>h k (List.mem_range.1 hk)),Bool.true_and]
def RtP(ts:List (Int×Int))(w:World)(e:Ending)(w':World):Prop:=e= .returned (.bool (rtB ts))∧Below w.heap.size w w'
theorem DW(ao:Option Addr)(n cap:Nat)(ts:List (Int×Int))(w:World)(h:bP eY 2 (0,0) w ao n ts):Calls Tryz.prog 205 #[.slice ao n cap] w (RtP ts w):=by
 have A1:=fun k hk h=>rtB_no (ts:=ts) (k:=k) hk h
 have U:=rtB_end (ts:=ts)
 rw[h.hlen] at A1 U
 have B2:=MI A1
 have B1:=MI U
 clear A1 U
 have B3:=MI (fun k=>show okT ts k=(decide (0≤(ts.getD k (0,0)).1)&&decide ((ts.getD k (0,0)).1<16)&&(decide (k=0)||decide ((ts.getD (k - 1) (0,0)).1<(ts.getD k (0,0)).1))&&dX (ts.getD k (0,0)).2 24) from rfl)
 have B4:=h.lim
 unfold maxLen at B4
 have HR:=MI h
 clear h
 go_enter Tryz.func205,Tryz.ntmps205
 go_upto_region 2 with fail
 go_loopw [7] (fun v7 wr=>∃j:Nat,j≤n∧v7= .int .i64 (j:Int)∧Hid (∀k,k<j→okT ts k=true)∧Below w.heap.size w wr) (fun v7 _=>n - aC v7)
 case atStart=>exact⟨0,aa,rfl,fun k hk=>aa,Below.refl _ _⟩
 case round=>
  obtain⟨j,hj,rfl,A2,hb⟩:=hrel
  by_cases A6:j<n
  ·have hR:=HR.out.aj hb
   have o:=B3.out j
   have A3:=B2.out j A6
   have A7:okT ts j=true→Hid (∀k,k<j+1→okT ts k=true):=fun h k hk=>by
    by_cases B5:k=j
    ·subst B5;exact h
    ·exact A2.out k aa
   have A0:0<j→∃a,ao=some a∧wr.cell? (a.add ((j - 1)*2))=some (.int .i64 (ts.getD (j - 1) (0,0)).1):=fun h0=>by
    obtain⟨a,ha,h1,_⟩:=xO hR (k:=j - 1) aa
    exact⟨a,ha,h1⟩
   obtain⟨a,rfl,c0,c1⟩:=xO hR A6
   generalize ts.getD j (0,0)=tj at*
   generalize (ts.getD (j - 1) (0,0)).1=px at*
   obtain⟨ix,vl⟩:=tj
   simp only at c0 c1 o
   generalize okT ts j=ok at*
   have HF:=MI (fun w=>fits_any vl 24 aq w)
   have I:=MI o
   have R:=MI A3
   have A8:=MI A7
   clear hR o A3 A7 A2
   go_upto_region 4 with fail
   have A4:=ae wr (.cells #[.int .i64 ix,.int .i64 vl] 282)
   have hz:=L9 wr (.cells #[.int .i64 ix,.int .i64 vl] 282)
   have J:=hb.trans (A4.mono hb.size)
   have A5:0<j→(wr.alloc (.cells #[.int .i64 ix,.int .i64 vl] 282)).cell? (a.add ((j - 1)*2))=some (.int .i64 px):=fun h0=>by
    obtain⟨a',ha,h1⟩:=A0 h0
    cases ha
    exact(A4.cell (World.block_lt_of_cell? wr _ h1)).trans h1
   clear A0 c0 c1 hb A4
   generalize wr.alloc (.cells #[.int .i64 ix,.int .i64 vl] 282)=W at*
   generalize wr.heap.size=xb at*
   obtain⟨d0,d1⟩:=bW hz
   clear hz
   by_cases h0:ix<0
   ·have g0:decide (ix<0)=true:=decide_eq_true h0
    go_quiet (first | (go_at_call 207;exact Calls.quiet_of_same (HF.out _)))
    go_wp2_with fail
    go_ret
    exact⟨aP (R.out (by rw[I.out];simp_all;try omega)).symm,J.trans ⟨rfl,rfl,rfl,Me,fun _ _=>rfl⟩⟩
   have g0:decide (ix<0)=false:=decide_eq_false h0
   by_cases A9:16≤ix
   ·have g1:decide (16≤ix)=true:=decide_eq_true A9
    go_quiet (first | (go_at_call 207;exact Calls.quiet_of_same (HF.out _)))
    go_wp2_with fail
    go_ret
    exact⟨aP (R.out (by rw[I.out];simp_all;try omega)).symm,J.trans ⟨rfl,rfl,rfl,Me,fun _ _=>rfl⟩⟩
   have g1:decide (16≤ix)=false:=decide_eq_false A9
   by_cases B6:j=0
   ·subst B6
    clear A5
    cases hf:dX vl 24 with
    | true=>
     rw[hf] at HF
     go_quiet (first | (go_at_call 207;exact Calls.quiet_of_same (HF.out _)))
     go_wp2_with fail
     refine⟨⟨0+1,aa,aD,A8.out (by rw[I.out];simp_all;try omega),J.trans ⟨rfl,rfl,rfl,Me,fun _ _=>rfl⟩⟩,?_⟩
     simp[aC];omega
    | false=>
     rw[hf] at HF
     go_quiet (first | (go_at_call 207;exact Calls.quiet_of_same (HF.out _)))
     go_wp2_with fail
     go_ret
     exact⟨aP (R.out (by rw[I.out];simp_all;try omega)).symm,J.trans ⟨rfl,rfl,rfl,Me,fun _ _=>rfl⟩⟩
   ·have hx:=A5 aa
    clear A5
    have B8:0<j:=aa
    have gj:(0:Int)<(j:Int):=aa
    have B9:IntKind.i64.wrap ((j:Int) - 1)=((j - 1:Nat):Int):=by rw[show(j:Int) - 1=((j - 1:Nat):Int) by omega];exact IntWalk.i64_in _ aa
    have C0:((j - 1:Nat):Int)<(n:Int):=aa
    have B7:(0:Int)≤((j - 1:Nat):Int):=aa
    by_cases B0:ix≤px
    ·have g2:decide (ix≤px)=true:=decide_eq_true B0
     go_quiet (first | (go_at_call 207;exact Calls.quiet_of_same (HF.out _)))
     go_wp2_with fail
     go_ret
     exact⟨aP (R.out (by rw[I.out];simp_all;try omega)).symm,J.trans ⟨rfl,rfl,rfl,Me,fun _ _=>rfl⟩⟩
    ·have g2:decide (ix≤px)=false:=decide_eq_false B0
     cases hf:dX vl 24 with
     | true=>
      rw[hf] at HF
      go_quiet (first | (go_at_call 207;exact Calls.quiet_of_same (HF.out _)))
      go_wp2_with fail
      refine⟨⟨j+1,aa,aD,A8.out (by rw[I.out];simp_all;try omega),J.trans ⟨rfl,rfl,rfl,Me,fun _ _=>rfl⟩⟩,?_⟩
      simp[aC];omega
     | false=>
      rw[hf] at HF
      go_quiet (first | (go_at_call 207;exact Calls.quiet_of_same (HF.out _)))
      go_wp2_with fail
      go_ret
      exact⟨aP (R.out (by rw[I.out];simp_all;try omega)).symm,J.trans ⟨rfl,rfl,rfl,Me,fun _ _=>rfl⟩⟩
  ·obtain rfl:j=n:=aa
   go_wp2_with fail
   go_ret
   exact⟨aP (by rw[B1.out A2.out];simp;omega),hb⟩
def frC(z:List Int)(tv:Value):Array Value:=((z.take 4).map (Value.int .i64)++tv::(z.drop 4).map (Value.int .i64)).toArray
theorem bM(z:List Int)(tv:Value)(h:z.length=28):(frC z tv).size=29:=by simp[frC,h]
theorem frC_lo(z:List Int)(tv:Value)(h:z.length=28)(k:Nat)(hk:k<4):(frC z tv)[k]? =some (.int .i64 (z.getD k 0)):=by
 unfold frC
 rw[List.getElem?_toArray,List.getElem?_append_left (by simp[h];omega),List.getElem?_map,List.getElem?_take_of_lt hk]
 simp[List.getD,show k<z.length by omega]
theorem frC_mid(z:List Int)(tv:Value)(h:z.length=28):(frC z tv)[4]? =some tv:=by
 unfold frC
 rw[List.getElem?_toArray,List.getElem?_append_right (by simp[h])]
 simp[h]
theorem frC_hi(z:List Int)(tv:Value)(h:z.length=28)(k:Nat)(hk:k<24):(frC z tv)[5+k]? =some (.int .i64 (z.getD (4+k) 0)):=by
 unfold frC
 rw[List.getElem?_toArray,List.getElem?_append_right (by simp[h];omega)]
 simp only[List.length_map,List.length_take,h]
 rw[show 5+k - min 4 28=k+1 by omega,List.getElem?_cons_succ,List.getElem?_map,List.getElem?_drop]
 simp[List.getD,show 4+k<z.length by omega]
theorem set_lo(z:List Int)(tv:Value)(h:z.length=28)(k:Nat)(hk:k<4)(v:Int):(frC z tv).setIfInBounds k (.int .i64 v)=frC (z.set k v) tv:=by
 unfold frC
 apply Array.ext'
 simp only[Array.toList_setIfInBounds]
 rw[List.set_append_left _ _ (by simp[h];omega)]
 have e1:(z.set k v).take 4=(z.take 4).set k v:=by rw[List.take_set]
 have e2:(z.set k v).drop 4=z.drop 4:=by rw[List.drop_set_of_lt aa]
 rw[e1,e2,List.map_set]
theorem set_mid(z:List Int)(tv tv':Value)(h:z.length=28):(frC z tv).setIfInBounds 4 tv'=frC z tv':=by
 unfold frC
 apply Array.ext'
 simp only[Array.toList_setIfInBounds]
 rw[List.set_append_right _ _ (by simp[h])]
 simp[h]
theorem set_hi(z:List Int)(tv:Value)(h:z.length=28)(k:Nat)(hk:k<24)(v:Int):(frC z tv).setIfInBounds (5+k) (.int .i64 v)=frC (z.set (4+k) v) tv:=by
 unfold frC
 apply Array.ext'
 simp only[Array.toList_setIfInBounds]
 rw[List.set_append_right _ _ (by simp[h];omega)]
 have e1:(z.set (4+k) v).take 4=z.take 4:=by rw[List.take_set_of_le aa]
 have e2:(z.set (4+k) v).drop 4=(z.drop 4).set k v:=by rw[List.drop_set,if_neg aa];congr 1;omega
 rw[e1,e2,List.map_set]
 simp only[List.length_map,List.length_take,h]
 rw[show 5+k - min 4 28=k+1 by omega,List.set_cons_succ]
end Go.Proofs.YtnicjahcgnhogaaGreatDoor
