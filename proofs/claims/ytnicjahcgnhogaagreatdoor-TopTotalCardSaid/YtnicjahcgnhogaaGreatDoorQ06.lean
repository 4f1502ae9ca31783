/- Part 7 of the walk: contracts of the program's functions, each for every input. No condition. -/
import Derived.Test.YtnicjahcgnhogaaGreatDoorQ05
set_option linter.unusedVariables false
set_option linter.unusedSimpArgs false
set_option maxRecDepth 100000
set_option maxHeartbeats 8000000
namespace Go.Proofs.YtnicjahcgnhogaaGreatDoor
open Go Go.RowKit Go.Calli Go.Shelf
attribute [local go_sem] Oper.semAt_some
def je:Code→Option Code
 | .loop c=>some c
 | .seq a b=>match je a with
  | some c=>some c
  | none=>je b
 | .block _ c=>je c
 | .scope c=>je c
 | .cond _ a b=>match je a with
  | some c=>some c
  | none=>je b
 | _=>none
theorem iv_next{w W:World}{A:List Int}{Rc:Nat}{r:Int}(h:Iv w W A Rc r)(r':Int):Iv w (W.alloc (.cells #[.int .i64 r'] 3)) A W.heap.size r':=by
 have h2:=h.below (ae W (.cells #[.int .i64 r'] 3))
 exact⟨h2.net,h2.blk,h2.out,L9 _ _,h2.low,by have:=L8 h.rnd;have:=h.hrc;omega⟩
structure Iw(w0 W:World)(bk:List Int):Prop where
 net:W.heap[w0.heap.size]? =some (.cells (iA aI) 176 (0,0))
 blk:W.heap[w0.heap.size+1]? =some (.cells (iA bk) 194 (0,0))
 out:W.heap[w0.heap.size+2]? =some (.cells #[(),(),(),(),(),(),(),(),(),(),(),(),(),(),(),()] 194 (0,0))
 low:Below w0.heap.size w0 W
theorem Iv.iw{w W:World}{A:List Int}{Rc:Nat}{r:Int}(h:Iv w W A Rc r):Iw w W A:=⟨h.net,h.blk,h.out,h.low⟩
theorem Iw.iv{w W:World}{A:List Int}(h:Iw w W A)(r:Int):Iv w (W.alloc (.cells #[.int .i64 r] 3)) A W.heap.size r:=by
 have hb:=ae W (.cells #[.int .i64 r] 3)
 exact⟨(hb.block _ (L8 h.net)).trans h.net,(hb.block _ (L8 h.blk)).trans h.blk,(hb.block _ (L8 h.out)).trans h.out,L9 _ _,h.low.trans (hb.mono h.low.size),L8 h.out⟩
noncomputable def invLoop:Code:=(Tryz.f240.body.bind je).getD .skip
noncomputable def fwdLoop:Code:=(Tryz.f164.body.bind je).getD .skip
def valsP(r:Nat)(x:Pr r):Array Value:=#[.int .i64 (tpZ r x.1),.int .i64 (tuZ r x.1)]
def dm(r:Nat)(b:List Int)(xs:List (Pr r)):List Int:=xs.foldl (jo r) b
theorem gQ(r:Nat)(xs:List (Pr r)): ∀b:List Int,(dm r b xs).length=b.length:=by
 induction xs with
 | nil=>intro b;rfl
 | cons x l ih=>intro b;show(dm r (jo r b x) l).length=_;rw[ih];simp[jo]
theorem tX(r:Nat)(b:List Int)(xs:List (Pr r))(x:Pr r):dm r b (xs++[x])=jo r (dm r b xs) x:=by simp[dm]
theorem KH{β:Type}(B:Nat)(Ds:List Nat)(hlt: ∀D,D ∈ Ds→D<B):OwnFrom B (fun(_:β) W=>∀D,D ∈ Ds→W.heap[D]? =some (.deferred (some []))):=fun s W W' row hs hg hr D hD=>by
 refine(hg.block D (L8 (hs D hD)) ?_).trans (hs D hD)
 intro e
 have:=(hr D e.symm).1
 have:=hlt D hD
 omega
theorem nY(r:Nat)(hr:r<4)(w W:World)(A:List Int)(hA:A.length=16)(Rc:Nat)(hi:Iv w W A Rc r)(Ds:List Nat)(hDs: ∀D,D ∈ Ds→W.heap[D]? =some (.deferred (some [])))(ds:List Deferred)(x0 x1 x6 x7 x8 x9 x10 x11 x12 x13 x14 x15 x16 x17 x18 x19 x20 x21 x22 x23 x24 x25 x26 x27 x28 x29 x30 x31 x32 x33 x34 x35 x36 x37 x38:Value)(K:Act→World→Prop)(Q:Exit→Act→World→Prop)
  (hK: ∀(D Rc':Nat)(W':World)(y9 y10 y11 y12 y13 y14 y15 y37:Value),Iv w W' (dD r A (prs r 16)) Rc' ((r:Int) - 1)→(∀D',D' ∈ D::Ds→W'.heap[D']? =some (.deferred (some [])))→(∀D',D' ∈ Ds→D'≠D)→w.heap.size≤D→K ⟨#[x0,x1,.pointer (some ⟨w.heap.size,0,none⟩),.pointer (some ⟨w.heap.size+1,0,none⟩),.pointer (some ⟨w.heap.size+2,0,none⟩),.pointer (some ⟨Rc',0,none⟩),x6,x7,x8,y9,y10,y11,y12,y13,y14,y15,x16,x17,x18,x19,x20,x21,x22,x23,x24,x25,x26,x27,x28,x29,x30,x31,x32,x33,x34,x35,x36,y37,x38],{target:=.collected D,args:=#[]}::ds⟩ W'):
  Code.wpIn Fence.wide 9 Tryz.prog invLoop (Exit.then K Q) ⟨#[x0,x1,.pointer (some ⟨w.heap.size,0,none⟩),.pointer (some ⟨w.heap.size+1,0,none⟩),.pointer (some ⟨w.heap.size+2,0,none⟩),.pointer (some ⟨Rc,0,none⟩),x6,x7,x8,x9,x10,x11,x12,x13,x14,x15,x16,x17,x18,x19,x20,x21,x22,x23,x24,x25,x26,x27,x28,x29,x30,x31,x32,x33,x34,x35,x36,x37,x38],ds⟩ W:=by
 have hi1:(Tryz.prog.info? 176).map (·.size)=some (iA aI).size:=by kernel_rfl
 have hnet:=hi.net
 have hc3:W.cell? ⟨Rc,0,none⟩=some (.int .i64 (r:Int)):=(LZ hi.rnd).trans rfl
 have hpr:=wK r W
 have h0:(0:Int)≤r:=by omega
 conv=>arg 4;whnf
 gi_wp2_with (first
  | (with_reducible show wpListIn _ _ _ _ _ (Oper.mk _ (Op.load 176 (Operand.tmp 2)) _ _ _ _::_) _ _;refine ig rfl 176 (.tmp 2) rfl _ rfl 176 (iA aI) (0,0) _ hnet Tryz.underlying176 rfl hi1 ?_)
  | (refine⟨trivial,?_⟩;gi_at_call 195;refine(callsIn_wide.2 hpr).mono ?_;rintro e w1 ⟨rfl,rfl⟩))
 have hR2:=L9 (W.alloc (.cells (iA aI) 176)) (.cells #[.int .i64 (r:Int)] 3)
 have hB2:=ae (W.alloc (.cells (iA aI) 176)) (.cells #[.int .i64 (r:Int)] 3)
 have hN1:=L9 W (.cells (iA aI) 176)
 have hN2:=(hB2.block _ (L8 hN1)).trans hN1
 have hB1:=ae W (.cells (iA aI) 176)
 have hI2:=hi.below (hB1.trans (hB2.mono hB1.size))
 have hd2: ∀D,D ∈ Ds→((W.alloc (.cells (iA aI) 176)).alloc (.cells #[.int .i64 (r:Int)] 3)).heap[D]? =some (.deferred (some [])):=fun D h=>((hB1.trans (hB2.mono hB1.size)).block D (L8 (hDs D h))).trans (hDs D h)
 have hdlt: ∀D,D ∈ Ds→D<((W.alloc (.cells (iA aI) 176)).alloc (.cells #[.int .i64 (r:Int)] 3)).heap.size:=fun D h=>L8 (hd2 D h)
 have hnb:w.heap.size+2<W.heap.size:=by have:=L8 hi.rnd;have:=hi.hrc;omega
 rw[World.size_alloc] at hR2
 have hsz:W.heap.size+1<((W.alloc (.cells (iA aI) 176)).alloc (.cells #[.int .i64 (r:Int)] 3)).heap.size:=L8 hR2
 clear hB1 hB2 hN1 hi hc3 hnet hpr hDs
 generalize (W.alloc (.cells (iA aI) 176)).alloc (.cells #[.int .i64 (r:Int)] 3)=W2 at*
 generalize W.heap.size=nb at*
 refine rG (Kp:=Kq (nb+1) nb) rfl (by decide) (gf:=219) (lb:=#[.pointer (some ⟨nb+1,0,none⟩),.pointer (some ⟨nb,0,none⟩)]) rfl trivial (enters_of Tryz.func219 (by kernel_rfl) rfl)
  (pairs_stops 8 (by decide) (nb+1) nb r hr W2 hR2 hN2) (fun h k=>h.trans k) (JL hsz (by omega)) MB (fun _=>rfl)
  (fun pre W'=>Iv w W' (dD r A pre) Rc r∧∀D,D ∈ Ds→W'.heap[D]? =some (.deferred (some []))) (OwnFrom.and (JO w _ _ _ _ hI2.low.size) (KH W2.heap.size Ds hdlt)) ⟨hI2,hd2⟩ 171 (valsP r) (fun T x Bx=>(((T.setIfInBounds 16 (.int .i64 (x.1:Int))).setIfInBounds 17 (.agg #[.int .i64 (tpZ r x.1),.int .i64 (tuZ r x.1)])).setIfInBounds 6 (.int .i64 (x.1:Int))).setIfInBounds 7 (.pointer (some ⟨Bx,0,none⟩))) ?assign ?body ?done
 case assign=>
  intro l pre x W3 K' hi hK'
  obtain⟨hi,hdd⟩:=hi
  simp only[KD]
  gi_wp2
  exact hK' W3.heap.size _ ((KeepsOthers.alloc _ _).from _) (zW _ _ _ _) ⟨hi.below (ae _ _),fun D h=>((ae W3 _).block D (L8 (hdd D h))).trans (hdd D h)⟩ (L9 _ _)
 case body=>
  intro l pre x Bx W3 hi hc hlen
  obtain⟨hi,hdd⟩:=hi
  obtain⟨i,hi16,hbit⟩:=x
  have hLA:(dD r A pre).length=16:=by rw[gU];exact hA
  refine Code.wpIn_mono ?_ (JP r hr l Rc (nb+1) nb Bx i _ hi16 hbit w W3 (dD r A pre) hLA hi hc (by omega) (by omega) _ _ _ _ _ _ _ _ _ _ _ _ _ _ _ _ _ _ _ _ _ _ _ _ _ _ _ _ _ _ _ _ _ _ _
   (fun W'=>KeepsOthers W3 W'∧Kq (nb+1) nb W3 W'∧Iv w W' (kK r (dD r A pre) ⟨i,hi16,hbit⟩) Rc r) (fun W' h1 h2 h3=>⟨h1,h2,h3⟩))
  intro e a' W' hq
  cases e with
  | normal=>
   obtain⟨h1,h2,h3⟩:=hq
   refine⟨h1.from _,h2,?_,fun D h=>h1.same D _ (hdd D h) rfl⟩
   exact(congrArg (fun z=>Iv w W' z Rc r) (tY r A pre ⟨i,hi16,hbit⟩)).mpr h3
  | _=>exact hq.elim
 case done=>
  intro D xs W3 hD hxs hI hKD
  subst hxs
  obtain⟨hI,hdd⟩:=hI
  have hc5:W3.cell? ⟨Rc,0,none⟩=some (.int .i64 (r:Int)):=(LZ hI.rnd).trans rfl
  have hw1:IntKind.i64.wrap ((r:Int) - 1)=(r:Int) - 1:=IntWalk.i64_in _ (by omega)
  have HF:=MI hI
  have HK:=MI hK
  clear hI hK
  have hne: ∀D',D' ∈ Ds→D'≠D:=fun D' h e=>by have:=hdlt D' h;omega
  have hle:w.heap.size≤D:=Nat.le_trans hI2.low.size hD
  gi_wp2
  exact HK.out D W3.heap.size _ _ _ _ _ _ _ _ _ (iv_next HF.out _) (fun D' h=>(List.mem_cons.1 h).elim (fun e=>e▸((ae W3 _).block D (L8 hKD)).trans hKD) (fun h=>((ae W3 _).block D' (L8 (hdd D' h))).trans (hdd D' h))) hne hle
theorem nZ(r:Nat)(hr:r<4)(w W':World)(A:List Int)(hA:A.length=16)(hw':Iw w W' A)(Ds:List Nat)(hDs': ∀D,D ∈ Ds→W'.heap[D]? =some (.deferred (some [])))(ds:List Deferred)(x0 x1 x5 x6 x7 x8 x10 x11 x12 x13 x14 x15 x16 x17 x18 x19 x20 x21 x22 x23 x24 x25 x26 x27 x28 x29 x30 x31 x32 x33 x34 x35 x36 x37:Value)(K:Act→World→Prop)(Q:Exit→Act→World→Prop)
  (hK: ∀(D:Nat)(W':World)(y5 y10 y11 y12 y13 y14 y36:Value),Iw w W' (dm r A (prs r 16))→(∀D',D' ∈ D::Ds→W'.heap[D']? =some (.deferred (some [])))→(∀D',D' ∈ Ds→D'≠D)→w.heap.size≤D→K ⟨#[x0,x1,.pointer (some ⟨w.heap.size,0,none⟩),.pointer (some ⟨w.heap.size+1,0,none⟩),.pointer (some ⟨w.heap.size+2,0,none⟩),y5,x6,x7,x8,.int .i64 ((r:Int)+1),y10,y11,y12,y13,y14,x15,x16,x17,x18,x19,x20,x21,x22,x23,x24,x25,x26,x27,x28,x29,x30,x31,x32,x33,x34,x35,y36,x37],{target:=.collected D,args:=#[]}::ds⟩ W'):
  Code.wpIn Fence.wide 9 Tryz.prog fwdLoop (Exit.then K Q) ⟨#[x0,x1,.pointer (some ⟨w.heap.size,0,none⟩),.pointer (some ⟨w.heap.size+1,0,none⟩),.pointer (some ⟨w.heap.size+2,0,none⟩),x5,x6,x7,x8,.int .i64 (r:Int),x10,x11,x12,x13,x14,x15,x16,x17,x18,x19,x20,x21,x22,x23,x24,x25,x26,x27,x28,x29,x30,x31,x32,x33,x34,x35,x36,x37],ds⟩ W':=by
 have hi1:(Tryz.prog.info? 176).map (·.size)=some (iA aI).size:=by kernel_rfl
 have hi:=hw'.iv (r:Int)
 have hDs: ∀D,D ∈ Ds→(W'.alloc (.cells #[.int .i64 (r:Int)] 3)).heap[D]? =some (.deferred (some [])):=fun D h=>((ae W' _).block D (L8 (hDs' D h))).trans (hDs' D h)
 obtain⟨W,hW⟩: ∃W,W=W'.alloc (.cells #[.int .i64 (r:Int)] 3):=⟨_,rfl⟩
 rw[←hW] at hi hDs
 generalize hRc:W'.heap.size=Rc at*
 clear hw' hDs'
 have hnet:=hi.net
 have hc3:W.cell? ⟨Rc,0,none⟩=some (.int .i64 (r:Int)):=(LZ hi.rnd).trans rfl
 have hpr:=wK r W
 have h4:(r:Int)<4:=by omega
 conv=>arg 4;whnf
 gi_wp2_with (first
  | (with_reducible show wpListIn _ _ _ _ _ (Oper.mk _ (Op.load 176 (Operand.tmp 2)) _ _ _ _::_) _ _;rw[←hW];clear hW;refine ig rfl 176 (.tmp 2) rfl _ rfl 176 (iA aI) (0,0) _ hnet Tryz.underlying176 rfl hi1 ?_)
  | (refine⟨trivial,?_⟩;gi_at_call 195;refine(callsIn_wide.2 hpr).mono ?_;rintro e w1 ⟨rfl,rfl⟩))
 have hR2:=L9 (W.alloc (.cells (iA aI) 176)) (.cells #[.int .i64 (r:Int)] 3)
 have hB2:=ae (W.alloc (.cells (iA aI) 176)) (.cells #[.int .i64 (r:Int)] 3)
 have hN1:=L9 W (.cells (iA aI) 176)
 have hN2:=(hB2.block _ (L8 hN1)).trans hN1
 have hB1:=ae W (.cells (iA aI) 176)
 have hI2:=hi.below (hB1.trans (hB2.mono hB1.size))
 have hd2: ∀D,D ∈ Ds→((W.alloc (.cells (iA aI) 176)).alloc (.cells #[.int .i64 (r:Int)] 3)).heap[D]? =some (.deferred (some [])):=fun D h=>((hB1.trans (hB2.mono hB1.size)).block D (L8 (hDs D h))).trans (hDs D h)
 have hdlt: ∀D,D ∈ Ds→D<((W.alloc (.cells (iA aI) 176)).alloc (.cells #[.int .i64 (r:Int)] 3)).heap.size:=fun D h=>L8 (hd2 D h)
 have hnb:w.heap.size+2<W.heap.size:=by have:=L8 hi.rnd;have:=hi.hrc;omega
 rw[World.size_alloc] at hR2
 have hsz:W.heap.size+1<((W.alloc (.cells (iA aI) 176)).alloc (.cells #[.int .i64 (r:Int)] 3)).heap.size:=L8 hR2
 clear hRc
 clear hB1 hB2 hN1 hi hc3 hnet hpr hDs
 generalize (W.alloc (.cells (iA aI) 176)).alloc (.cells #[.int .i64 (r:Int)] 3)=W2 at*
 generalize W.heap.size=nb at*
 refine rG (Kp:=Kq (nb+1) nb) rfl (by decide) (gf:=219) (lb:=#[.pointer (some ⟨nb+1,0,none⟩),.pointer (some ⟨nb,0,none⟩)]) rfl trivial (enters_of Tryz.func219 (by kernel_rfl) rfl)
  (pairs_stops 8 (by decide) (nb+1) nb r hr W2 hR2 hN2) (fun h k=>h.trans k) (JL hsz (by omega)) MB (fun _=>rfl)
  (fun pre W'=>Iv w W' (dm r A pre) Rc r∧∀D,D ∈ Ds→W'.heap[D]? =some (.deferred (some []))) (OwnFrom.and (JO w _ _ _ _ hI2.low.size) (KH W2.heap.size Ds hdlt)) ⟨hI2,hd2⟩ 171 (valsP r) (fun T x Bx=>(((T.setIfInBounds 15 (.int .i64 (x.1:Int))).setIfInBounds 16 (.agg #[.int .i64 (tpZ r x.1),.int .i64 (tuZ r x.1)])).setIfInBounds 6 (.int .i64 (x.1:Int))).setIfInBounds 7 (.pointer (some ⟨Bx,0,none⟩))) ?assign ?body ?done
 case assign=>
  intro l pre x W3 K' hi hK'
  obtain⟨hi,hdd⟩:=hi
  simp only[KD]
  gi_wp2
  exact hK' W3.heap.size _ ((KeepsOthers.alloc _ _).from _) (zW _ _ _ _) ⟨hi.below (ae _ _),fun D h=>((ae W3 _).block D (L8 (hdd D h))).trans (hdd D h)⟩ (L9 _ _)
 case body=>
  intro l pre x Bx W3 hi hc hlen
  obtain⟨hi,hdd⟩:=hi
  obtain⟨i,hi16,hbit⟩:=x
  have hLA:(dm r A pre).length=16:=by rw[gQ];exact hA
  refine Code.wpIn_mono ?_ (J7 r hr l Rc (nb+1) nb Bx i _ hi16 hbit w W3 (dm r A pre) hLA hi hc (by omega) (by omega) _ _ _ _ _ _ _ _ _ _ _ _ _ _ _ _ _ _ _ _ _ _ _ _ _ _ _ _ _ _ _ _ _ _
   (fun W'=>KeepsOthers W3 W'∧Kq (nb+1) nb W3 W'∧Iv w W' (jo r (dm r A pre) ⟨i,hi16,hbit⟩) Rc r) (fun W' h1 h2 h3=>⟨h1,h2,h3⟩))
  intro e a' W' hq
  cases e with
  | normal=>
   obtain⟨h1,h2,h3⟩:=hq
   refine⟨h1.from _,h2,?_,fun D h=>h1.same D _ (hdd D h) rfl⟩
   exact(congrArg (fun z=>Iv w W' z Rc r) (tX r A pre ⟨i,hi16,hbit⟩)).mpr h3
  | _=>exact hq.elim
 case done=>
  intro D xs W3 hD hxs hI hKD
  subst hxs
  obtain⟨hI,hdd⟩:=hI
  have hw1:IntKind.i64.wrap ((r:Int)+1)=(r:Int)+1:=IntWalk.i64_in _ (by omega)
  have HF:=MI hI
  have HK:=MI hK
  clear hI hK
  have hne: ∀D',D' ∈ Ds→D'≠D:=fun D' h e=>by have:=hdlt D' h;omega
  have hle:w.heap.size≤D:=Nat.le_trans hI2.low.size hD
  gi_wp2
  exact HK.out D W3 _ _ _ _ _ _ _ HF.out.iw (fun D' h=>(List.mem_cons.1 h).elim (fun e=>e▸hKD) (fun h=>hdd D' h)) hne hle
end Go.Proofs.YtnicjahcgnhogaaGreatDoor
namespace Go.Proofs.YtnicjahcgnhogaaGreatDoor
open Go Go.RowKit Go.Calli Go.Shelf
attribute [local go_sem] Oper.semAt_some
def iH(b:List Int):List Int:=dm 3 (dm 2 (dm 1 (dm 0 b (prs 0 16)) (prs 1 16)) (prs 2 16)) (prs 3 16)
theorem zY(w:World)(b:List Int):Iw w (((w.alloc (.cells (iA aI) 176)).alloc (.cells (iA b) 194)).alloc (.cells #[(),(),(),(),(),(),(),(),(),(),(),(),(),(),(),()] 194)) b:=by
 have hb1:=ae w (.cells (iA aI) 176)
 have hz1:=L9 w (.cells (iA aI) 176)
 have e1:(w.alloc (.cells (iA aI) 176)).heap.size=w.heap.size+1:=World.size_alloc _ _
 generalize w.alloc (.cells (iA aI) 176)=W1 at*
 have hb2:=ae W1 (.cells (iA b) 194)
 have hz2:=L9 W1 (.cells (iA b) 194)
 have e2:(W1.alloc (.cells (iA b) 194)).heap.size=W1.heap.size+1:=World.size_alloc _ _
 generalize W1.alloc (.cells (iA b) 194)=W2 at*
 have hb3:=ae W2 (.cells #[(),(),(),(),(),(),(),(),(),(),(),(),(),(),(),()] 194)
 have hz3:=L9 W2 (.cells #[(),(),(),(),(),(),(),(),(),(),(),(),(),(),(),()] 194)
 rw[e1] at hz2 e2
 rw[e2] at hz3
 have h12:=hb2.block _ (L8 hz1)
 have k1:=(hb3.block _ (L8 (h12.trans hz1))).trans (h12.trans hz1)
 have k2:=(hb3.block _ (L8 hz2)).trans hz2
 exact⟨k1,k2,hz3,(hb1.trans (hb2.mono hb1.size)).trans (hb3.mono (hb1.trans (hb2.mono hb1.size)).size)⟩
theorem zZ(b:List Int)(hb:b.length=16)(w:World):Calls Tryz.prog 240 #[.agg (iA aI),.agg (iA b)] w (fun e w'=>e= .returned (.agg (iA (nI b)))∧Below w.heap.size w w'):=by
 refine(callsIn_wide (n:=9)).1 ?_
 refine callsIn_of_wp_marks Tryz.func240 rfl trivial ?_ rfl
 simp only[Tryz.ntmps240,List.size_toArray,List.length_cons,List.length_nil,Nat.reduceAdd,Nat.reduceSub,Array.replicate_succ,Array.replicate_zero,List.push_toArray,List.append_toArray,List.nil_append,List.cons_append]
 have hsT:(iA aI).size=16:=by kernel_rfl
 have hb4:(Tryz.prog.info? 194).map (·.size)=some 16:=by kernel_rfl
 gi_wp2
 have hI:=zY w b
 have hsz:(((w.alloc (.cells (iA aI) 176)).alloc (.cells (iA b) 194)).alloc (.cells #[(),(),(),(),(),(),(),(),(),(),(),(),(),(),(),()] 194)).heap.size=w.heap.size+3:=by simp[World.size_alloc]
 generalize (((w.alloc (.cells (iA aI) 176)).alloc (.cells (iA b) 194)).alloc (.cells #[(),(),(),(),(),(),(),(),(),(),(),(),(),(),(),()] 194))=W at*
 have hiv:=hI.iv 3
 rw[hsz] at hiv
 clear hI hsz
 refine wpIn_loop_rounds 5 ?_
 rw[roundsIn_succ]
 refine nY 3 (by decide) w _ b hb _ hiv [] (fun D h=>by cases h) _ _ _ _ _ _ _ _ _ _ _ _ _ _ _ _ _ _ _ _ _ _ _ _ _ _ _ _ _ _ _ _ _ _ _ _ _ _ ?_
 intro D0 R0 W0 y9 y10 y11 y12 y13 y14 y15 y37 hi0 hD0 hn0 hl0
 rw[roundsIn_succ]
 refine nY 2 (by decide) w _ _ (by simp only[gU];exact hb) _ hi0 _ hD0 _ _ _ _ _ _ _ _ _ _ _ _ _ _ _ _ _ _ _ _ _ _ _ _ _ _ _ _ _ _ _ _ _ _ _ _ _ _ ?_
 clear hD0 hi0
 intro D1 R1 W1 y9 y10 y11 y12 y13 y14 y15 y37 hi1 hD1 hn1 hl1
 rw[roundsIn_succ]
 refine nY 1 (by decide) w _ _ (by simp only[gU];exact hb) _ hi1 _ hD1 _ _ _ _ _ _ _ _ _ _ _ _ _ _ _ _ _ _ _ _ _ _ _ _ _ _ _ _ _ _ _ _ _ _ _ _ _ _ ?_
 clear hD1 hi1
 intro D2 R2 W2 y9 y10 y11 y12 y13 y14 y15 y37 hi2 hD2 hn2 hl2
 rw[roundsIn_succ]
 refine nY 0 (by decide) w _ _ (by simp only[gU];exact hb) _ hi2 _ hD2 _ _ _ _ _ _ _ _ _ _ _ _ _ _ _ _ _ _ _ _ _ _ _ _ _ _ _ _ _ _ _ _ _ _ _ _ _ _ ?_
 clear hD2 hi2
 intro D3 R3 W3 y9 y10 y11 y12 y13 y14 y15 y37 hi3 hD3 hn3 hl3
 have hc3:W3.cell? ⟨R3,0,none⟩=some (.int .i64 (-1)):=(LZ hi3.rnd).trans rfl
 rw[roundsIn_succ]
 have hX:(dD 0 (dD 1 (dD 2 (dD 3 b (prs 3 16)) (prs 2 16)) (prs 1 16)) (prs 0 16))=nI b:=rfl
 rw[hX] at hi3
 have hL:(nI b).length=16:=by rw[←hX];simp only[gU];exact hb
 clear hX
 have hk:=hi3.blk
 have ho:=hi3.out
 have hlo:=hi3.low
 have hii:(Tryz.prog.info? 194).map (·.size)=some (iA (nI b)).size:=by rw[hb4];unfold iA;rw[List.size_toArray,List.length_map,hL]
 have h1:(iA (nI b)).all (·.oneCell')=true:=by unfold iA;simp[Value.oneCell']
 have hos:(#[(),(),(),(),(),(),(),(),(),(),(),(),(),(),(),()]:Array Value).size=(iA (nI b)).size:=by rw[hb4] at hii;injection hii
 have hkk:W3.heap[w.heap.size+1]? =some (.cells (iA (nI b)) 194 (0,0)):=hk
 clear hi3 hb4 hsT
 generalize hXX:nI b=X at*
 gi_wp2_with (first
  | (with_reducible show wpListIn _ _ _ _ _ (Oper.mk _ (Op.load 194 (Operand.tmp 3)) _ _ _ _::_) _ _;refine ig rfl 194 (.tmp 3) rfl _ rfl 194 (iA X) (0,0) _ hkk Tryz.underlying194 rfl hii ?_)
  | (with_reducible show wpListIn _ _ _ _ _ (Oper.mk _ (Op.store 194 (Operand.tmp 4) (Operand.tmp _)) _ _ _ _::_) _ _;refine kE rfl 194 (.tmp 4) (.tmp _) rfl _ (iA X) rfl rfl 194 _ ho hii hos h1 ?_))
 have g3:=hD3 D3 (by simp)
 have g2:=hD3 D2 (by simp)
 have g1:=hD3 D1 (by simp)
 have g0:=hD3 D0 (by simp)
 have n32:D2≠D3:=hn3 D2 (by simp)
 have n31:D1≠D3:=hn3 D1 (by simp)
 have n30:D0≠D3:=hn3 D0 (by simp)
 have n21:D1≠D2:=hn2 D1 (by simp)
 have n20:D0≠D2:=hn2 D0 (by simp)
 have n10:D0≠D1:=hn1 D0 (by simp)
 have hs: ∀D,W3.heap[D]? =some (Obj.deferred (some []))→(W3.setRow (w.heap.size+2) (iA X)).heap[D]? =some (Obj.deferred (some [])):=fun D h=>(setRow_other _ _ _ _ (fun e=>by rw[e,ho] at h;cases h)).trans h
 have ho2:=setRow_heap W3 (w.heap.size+2) _ (iA X) 194 _ ho
 have hlo2:Below w.heap.size w (W3.setRow (w.heap.size+2) (iA X)):=below_setRow hlo (by omega) _
 replace g3:=hs _ g3
 replace g2:=hs _ g2
 replace g1:=hs _ g1
 replace g0:=hs _ g0
 generalize W3.setRow (w.heap.size+2) (iA X)=V at*
 simp only[bodyPostM]
 have hp: ∀(V:World)(D j:Nat)(o:Obj),V.heap[j]? =some o→j≠D→(V.putObj D (Obj.deferred none)).heap[j]? =some o:=fun V D j o h hn=>((grownBy_putObj' V D (Obj.deferred none)).block j (L8 h) (fun e=>by cases e;exact hn rfl)).trans h
 have hbel: ∀(V:World)(D:Nat),Below w.heap.size w V→w.heap.size≤D→V.heap[D]? =some (Obj.deferred (some []))→Below w.heap.size w (V.putObj D (Obj.deferred none)):=fun V D h hd hK=>h.trans (belowK_b (w:=w) Me V D _ _ hd hK rfl rfl)
 have e3:w.heap.size+2≠D3:=fun e=>by rw[e,g3] at ho2;cases ho2
 have e2:w.heap.size+2≠D2:=fun e=>by rw[e,g2] at ho2;cases ho2
 have e1:w.heap.size+2≠D1:=fun e=>by rw[e,g1] at ho2;cases ho2
 have e0:w.heap.size+2≠D0:=fun e=>by rw[e,g0] at ho2;cases ho2
 refine⟨by simp,.inl ⟨_,_,rfl,run_takeDeferred g3,?_⟩⟩
 replace g2:=hp _ D3 _ _ g2 n32
 replace g1:=hp _ D3 _ _ g1 n31
 replace g0:=hp _ D3 _ _ g0 n30
 replace ho2:=hp _ D3 _ _ ho2 e3
 replace hlo2:=hbel _ _ hlo2 hl3 g3
 generalize V.putObj D3 (Obj.deferred none)=V3 at*
 refine⟨by simp,.inl ⟨_,_,rfl,run_takeDeferred g2,?_⟩⟩
 replace g1:=hp _ D2 _ _ g1 n21
 replace g0:=hp _ D2 _ _ g0 n20
 replace ho2:=hp _ D2 _ _ ho2 e2
 replace hlo2:=hbel _ _ hlo2 hl2 g2
 generalize V3.putObj D2 (Obj.deferred none)=V2 at*
 refine⟨by simp,.inl ⟨_,_,rfl,run_takeDeferred g1,?_⟩⟩
 replace g0:=hp _ D1 _ _ g0 n10
 replace ho2:=hp _ D1 _ _ ho2 e1
 replace hlo2:=hbel _ _ hlo2 hl1 g1
 generalize V2.putObj D1 (Obj.deferred none)=V1 at*
 refine⟨by simp,.inl ⟨_,_,rfl,run_takeDeferred g0,?_⟩⟩
 replace ho2:=hp _ D0 _ _ ho2 e0
 replace hlo2:=hbel _ _ hlo2 hl0 g0
 refine⟨_,results_cell_row (fn:=Tryz.f240) rfl _ _ _ _ _ _ _ rfl ho2 Tryz.underlying194 rfl hii,?_⟩
 exact⟨by rw[hXX],hlo2⟩
theorem Ai(b:List Int)(hb:b.length=16)(w:World):Calls Tryz.prog 164 #[.agg (iA aI),.agg (iA b)] w (fun e w'=>e= .returned (.agg (iA (iH b)))∧Below w.heap.size w w'):=by
 refine(callsIn_wide (n:=9)).1 ?_
 refine callsIn_of_wp_marks Tryz.func164 rfl trivial ?_ rfl
 simp only[Tryz.ntmps164,List.size_toArray,List.length_cons,List.length_nil,Nat.reduceAdd,Nat.reduceSub,Array.replicate_succ,Array.replicate_zero,List.push_toArray,List.append_toArray,List.nil_append,List.cons_append]
 have hsT:(iA aI).size=16:=by kernel_rfl
 have hb4:(Tryz.prog.info? 194).map (·.size)=some 16:=by kernel_rfl
 gi_wp2
 have hI:=zY w b
 have hsz:(((w.alloc (.cells (iA aI) 176)).alloc (.cells (iA b) 194)).alloc (.cells #[(),(),(),(),(),(),(),(),(),(),(),(),(),(),(),()] 194)).heap.size=w.heap.size+3:=by simp[World.size_alloc]
 generalize (((w.alloc (.cells (iA aI) 176)).alloc (.cells (iA b) 194)).alloc (.cells #[(),(),(),(),(),(),(),(),(),(),(),(),(),(),(),()] 194))=W at*
 clear hsz
 refine wpIn_loop_rounds 5 ?_
 rw[roundsIn_succ]
 refine nZ 0 (by decide) w _ b hb hI [] (fun D h=>by cases h) _ _ _ _ _ _ _ _ _ _ _ _ _ _ _ _ _ _ _ _ _ _ _ _ _ _ _ _ _ _ _ _ _ _ _ _ _ ?_
 intro D0 W0 y5 y10 y11 y12 y13 y14 y36 hi0 hD0 hn0 hl0
 rw[roundsIn_succ]
 refine nZ 1 (by decide) w _ _ (by simp only[gQ];exact hb) hi0 _ hD0 _ _ _ _ _ _ _ _ _ _ _ _ _ _ _ _ _ _ _ _ _ _ _ _ _ _ _ _ _ _ _ _ _ _ _ _ _ ?_
 clear hD0 hi0
 intro D1 W1 y5 y10 y11 y12 y13 y14 y36 hi1 hD1 hn1 hl1
 rw[roundsIn_succ]
 refine nZ 2 (by decide) w _ _ (by simp only[gQ];exact hb) hi1 _ hD1 _ _ _ _ _ _ _ _ _ _ _ _ _ _ _ _ _ _ _ _ _ _ _ _ _ _ _ _ _ _ _ _ _ _ _ _ _ ?_
 clear hD1 hi1
 intro D2 W2 y5 y10 y11 y12 y13 y14 y36 hi2 hD2 hn2 hl2
 rw[roundsIn_succ]
 refine nZ 3 (by decide) w _ _ (by simp only[gQ];exact hb) hi2 _ hD2 _ _ _ _ _ _ _ _ _ _ _ _ _ _ _ _ _ _ _ _ _ _ _ _ _ _ _ _ _ _ _ _ _ _ _ _ _ ?_
 clear hD2 hi2
 intro D3 W3 y5 y10 y11 y12 y13 y14 y36 hi3 hD3 hn3 hl3
 rw[roundsIn_succ]
 have hX:(dm 3 (dm 2 (dm 1 (dm 0 b (prs 0 16)) (prs 1 16)) (prs 2 16)) (prs 3 16))=iH b:=rfl
 rw[hX] at hi3
 have hL:(iH b).length=16:=by rw[←hX];simp only[gQ];exact hb
 clear hX
 have hk:=hi3.blk
 have ho:=hi3.out
 have hlo:=hi3.low
 have hii:(Tryz.prog.info? 194).map (·.size)=some (iA (iH b)).size:=by rw[hb4];unfold iA;rw[List.size_toArray,List.length_map,hL]
 have h1:(iA (iH b)).all (·.oneCell')=true:=by unfold iA;simp[Value.oneCell']
 have hos:(#[(),(),(),(),(),(),(),(),(),(),(),(),(),(),(),()]:Array Value).size=(iA (iH b)).size:=by rw[hb4] at hii;injection hii
 have hkk:W3.heap[w.heap.size+1]? =some (.cells (iA (iH b)) 194 (0,0)):=hk
 clear hi3 hb4 hsT
 generalize hXX:iH b=X at*
 gi_wp2_with (first
  | (with_reducible show wpListIn _ _ _ _ _ (Oper.mk _ (Op.load 194 (Operand.tmp 3)) _ _ _ _::_) _ _;refine ig rfl 194 (.tmp 3) rfl _ rfl 194 (iA X) (0,0) _ hkk Tryz.underlying194 rfl hii ?_)
  | (with_reducible show wpListIn _ _ _ _ _ (Oper.mk _ (Op.store 194 (Operand.tmp 4) (Operand.tmp _)) _ _ _ _::_) _ _;refine kE rfl 194 (.tmp 4) (.tmp _) rfl _ (iA X) rfl rfl 194 _ ho hii hos h1 ?_))
 have g3:=hD3 D3 (by simp)
 have g2:=hD3 D2 (by simp)
 have g1:=hD3 D1 (by simp)
 have g0:=hD3 D0 (by simp)
 have n32:D2≠D3:=hn3 D2 (by simp)
 have n31:D1≠D3:=hn3 D1 (by simp)
 have n30:D0≠D3:=hn3 D0 (by simp)
 have n21:D1≠D2:=hn2 D1 (by simp)
 have n20:D0≠D2:=hn2 D0 (by simp)
 have n10:D0≠D1:=hn1 D0 (by simp)
 have hs: ∀D,W3.heap[D]? =some (Obj.deferred (some []))→(W3.setRow (w.heap.size+2) (iA X)).heap[D]? =some (Obj.deferred (some [])):=fun D h=>(setRow_other _ _ _ _ (fun e=>by rw[e,ho] at h;cases h)).trans h
 have ho2:=setRow_heap W3 (w.heap.size+2) _ (iA X) 194 _ ho
 have hlo2:Below w.heap.size w (W3.setRow (w.heap.size+2) (iA X)):=below_setRow hlo (by omega) _
 replace g3:=hs _ g3
 replace g2:=hs _ g2
 replace g1:=hs _ g1
 replace g0:=hs _ g0
 generalize W3.setRow (w.heap.size+2) (iA X)=V at*
 simp only[bodyPostM]
 have hp: ∀(V:World)(D j:Nat)(o:Obj),V.heap[j]? =some o→j≠D→(V.putObj D (Obj.deferred none)).heap[j]? =some o:=fun V D j o h hn=>((grownBy_putObj' V D (Obj.deferred none)).block j (L8 h) (fun e=>by cases e;exact hn rfl)).trans h
 have hbel: ∀(V:World)(D:Nat),Below w.heap.size w V→w.heap.size≤D→V.heap[D]? =some (Obj.deferred (some []))→Below w.heap.size w (V.putObj D (Obj.deferred none)):=fun V D h hd hK=>h.trans (belowK_b (w:=w) Me V D _ _ hd hK rfl rfl)
 have e3:w.heap.size+2≠D3:=fun e=>by rw[e,g3] at ho2;cases ho2
 have e2:w.heap.size+2≠D2:=fun e=>by rw[e,g2] at ho2;cases ho2
 have e1:w.heap.size+2≠D1:=fun e=>by rw[e,g1] at ho2;cases ho2
 have e0:w.heap.size+2≠D0:=fun e=>by rw[e,g0] at ho2;cases ho2
 refine⟨by simp,.inl ⟨_,_,rfl,run_takeDeferred g3,?_⟩⟩
 replace g2:=hp _ D3 _ _ g2 n32
 replace g1:=hp _ D3 _ _ g1 n31
 replace g0:=hp _ D3 _ _ g0 n30
 replace ho2:=hp _ D3 _ _ ho2 e3
 replace hlo2:=hbel _ _ hlo2 hl3 g3
 generalize V.putObj D3 (Obj.deferred none)=V3 at*
 refine⟨by simp,.inl ⟨_,_,rfl,run_takeDeferred g2,?_⟩⟩
 replace g1:=hp _ D2 _ _ g1 n21
 replace g0:=hp _ D2 _ _ g0 n20
 replace ho2:=hp _ D2 _ _ ho2 e2
 replace hlo2:=hbel _ _ hlo2 hl2 g2
 generalize V3.putObj D2 (Obj.deferred none)=V2 at*
 refine⟨by simp,.inl ⟨_,_,rfl,run_takeDeferred g1,?_⟩⟩
 replace g0:=hp _ D1 _ _ g0 n10
 replace ho2:=hp _ D1 _ _ ho2 e1
 replace hlo2:=hbel _ _ hlo2 hl1 g1
 generalize V2.putObj D1 (Obj.deferred none)=V1 at*
 refine⟨by simp,.inl ⟨_,_,rfl,run_takeDeferred g0,?_⟩⟩
 replace ho2:=hp _ D0 _ _ ho2 e0
 replace hlo2:=hbel _ _ hlo2 hl0 g0
 refine⟨_,results_cell_row (fn:=Tryz.f164) rfl _ _ _ _ _ _ _ rfl ho2 Tryz.underlying194 rfl hii,?_⟩
 exact⟨by rw[hXX],hlo2⟩
end Go.Proofs.YtnicjahcgnhogaaGreatDoor
namespace Go.Proofs.YtnicjahcgnhogaaGreatDoor
open Go Go.RowKit Go.Calli
attribute [local irreducible] wpStill wpAnyH wpAnyS wpList Code.wp
theorem aV{P:Program}{ops:Array Oper}{rest:List Oper}{o:Oper}{a:Act}{w:World}{Q:Exit→Act→World→Prop}(hg:o.guard=none)(t:TypeId)(parts:Array (Nat×Operand))(ho:o.op= .build t parts)
  (cells:Array Value) (hc:P.built t (parts.map fun(i,x)=>(i,a.eval x)).toList=some cells) (h:wpList P ops Q rest (a.put o.dst (.agg cells)) w):wpList P ops Q (o::rest) a w:=
 wpList_build hg t parts ho (by rw[hc];rfl) (by rw[hc];exact h)
theorem Eb{a b c d:Int}(h:a=c)(k:b=d):Ending.returned (.tuple #[.int .i64 a,.int .i64 b])= .returned (.tuple #[.int .i64 c,.int .i64 d]):=by rw[h,k]
def cO:List Int:=aI++aI
theorem zU(w:World):Calls Tryz.prog 122 #[.agg (iA aI)] w (fun e w'=>e= .returned (.agg (iA aI))∧Below w.heap.size w w'):=by
 have hb0:=ae w (.cells (iA aI) 172)
 have hz0:=L9 w (.cells (iA aI) 172)
 have hb1:=ae (w.alloc (.cells (iA aI) 172)) (.cells (iA (List.replicate 16 0)) 174)
 have hz1:=L9 (w.alloc (.cells (iA aI) 172)) (.cells (iA (List.replicate 16 0)) 174)
 have h0:=(hb1.block _ (L8 hz0)).trans hz0
 have hi:(Tryz.prog.info? 172).map (·.size)=some (iA aI).size:=by kernel_rfl
 have hi2:(Tryz.prog.info? 174).map (·.size)=some (iA aI).size:=by kernel_rfl
 rw[World.size_alloc] at hz1
 have hB:=hb0.trans (hb1.mono hb0.size)
 go_enter Tryz.func122,Tryz.ntmps122
 go_upto_region 1 with fail
 have e:((w.alloc (.cells (iA aI) 172)).alloc (.cells (iA (List.replicate 16 0)) 174))=((w.alloc (.cells (iA aI) 172)).alloc (.cells #[(),(),(),(),(),(),(),(),(),(),(),(),(),(),(),()] 174)):=rfl
 rw[←e]
 clear e hb0 hb1 hz0
 generalize (w.alloc (.cells (iA aI) 172)).alloc (.cells (iA (List.replicate 16 0)) 174)=W at*
 go_wp2_with (first
  | (with_reducible refine MC 172 1 ?_;refine wpList_load_row rfl 172 (.tmp 1) rfl _ rfl 172 (iA aI) (0,0) _ h0 Tryz.underlying172 rfl hi ?_)
  | (with_reducible show wpList _ _ _ (Oper.mk _ (Op.build 174 _) _ _ _ _::_) _ _;refine aV rfl 174 _ rfl (iA aI) (by kernel_rfl) ?_)
  | (with_reducible refine MF 174 2 4 ?_;refine wpList_store_row rfl 174 (.tmp 2) (.tmp 4) rfl _ (iA aI) rfl rfl 174 _ hz1 hi2 (by kernel_rfl) (bP _) ?_))
 exact bodyPost_ret (results_cell_row (fn:=Tryz.f122) rfl _ _ _ _ _ _ _ rfl (setRow_heap _ _ _ _ _ _ hz1) Tryz.underlying174 rfl hi2) rfl ⟨rfl,below_setRow hB (by omega) _⟩
theorem CW(w:World):Calls Tryz.prog 124 #[] w (fun e w'=>e= .returned (.agg (iA aI))∧Below w.heap.size w w'):=by
 have hb1:=ae w (.cells (iA (List.replicate 16 0)) 176)
 have hz1:=L9 w (.cells (iA (List.replicate 16 0)) 176)
 have hi2:(Tryz.prog.info? 176).map (·.size)=some (iA aI).size:=by kernel_rfl
 go_enter Tryz.func124,Tryz.ntmps124
 go_upto_region 1 with fail
 have e:w.alloc (.cells (iA (List.replicate 16 0)) 176)=w.alloc (.cells #[(),(),(),(),(),(),(),(),(),(),(),(),(),(),(),()] 176):=rfl
 rw[←e]
 clear e
 generalize w.alloc (.cells (iA (List.replicate 16 0)) 176)=W at*
 have hT:=ww W
 go_wp2_with (first
  | (go_at_call 123;refine hT.mono ?_;rintro e w1 ⟨rfl,hb2⟩;have hz2:=(hb2.block _ (L8 hz1)).trans hz1)
  | (with_reducible show wpList _ _ _ (Oper.mk _ (Op.build 176 _) _ _ _ _::_) _ _;refine aV rfl 176 _ rfl (iA aI) (by kernel_rfl) ?_)
  | (with_reducible refine MF 176 0 2 ?_;refine wpList_store_row rfl 176 (.tmp 0) (.tmp 2) rfl _ (iA aI) rfl rfl 176 _ hz2 hi2 (by kernel_rfl) (bP _) ?_))
 exact bodyPost_ret (results_cell_row (fn:=Tryz.f124) rfl _ _ _ _ _ _ _ rfl (setRow_heap _ _ _ _ _ _ hz2) Tryz.underlying176 rfl hi2) rfl ⟨rfl,below_setRow (hb1.trans (hb2.mono hb1.size)) Me _⟩
theorem uD(w:World):Calls Tryz.prog 86 #[] w (fun e w'=>e= .returned (.agg (iA cO))∧Below w.heap.size w w'):=by
 have hb1:=ae w (.cells (iA (List.replicate 32 0)) 178)
 have hz1:=L9 w (.cells (iA (List.replicate 32 0)) 178)
 have hi2:(Tryz.prog.info? 178).map (·.size)=some (iA cO).size:=by kernel_rfl
 go_enter Tryz.func86,Tryz.ntmps86
 go_upto_region 1 with fail
 have e:w.alloc (.cells (iA (List.replicate 32 0)) 178)=w.alloc (.cells #[(),(),(),(),(),(),(),(),(),(),(),(),(),(),(),(),(),(),(),(),(),(),(),(),(),(),(),(),(),(),(),()] 178):=rfl
 rw[←e]
 clear e
 generalize w.alloc (.cells (iA (List.replicate 32 0)) 178)=W at*
 have hT:=ww W
 go_wp2_with (first
  | (go_at_call 123;refine hT.mono ?_;rintro e w1 ⟨rfl,hb2⟩;have hl:=zU w1)
  | (go_at_call 122;refine hl.mono ?_;rintro e w2 ⟨rfl,hb3⟩;have hn:=CW w2)
  | (go_at_call 124;refine hn.mono ?_;rintro e w3 ⟨rfl,hb4⟩;have hbb:=hb2.trans ((hb3.trans (hb4.mono hb3.size)).mono hb2.size);have hz2:=(hbb.block _ (L8 hz1)).trans hz1)
  | (with_reducible show wpList _ _ _ (Oper.mk _ (Op.build 178 _) _ _ _ _::_) _ _;refine aV rfl 178 _ rfl (iA cO) (by kernel_rfl) ?_)
  | (with_reducible refine MF 178 0 4 ?_;refine wpList_store_row rfl 178 (.tmp 0) (.tmp 4) rfl _ (iA cO) rfl rfl 178 _ hz2 hi2 (by kernel_rfl) (bP _) ?_))
 exact bodyPost_ret (results_cell_row (fn:=Tryz.f86) rfl _ _ _ _ _ _ _ rfl (setRow_heap _ _ _ _ _ _ hz2) Tryz.underlying178 rfl hi2) rfl ⟨rfl,below_setRow (hb1.trans (hbb.mono hb1.size)) Me _⟩
def bu(n:Nat):Nat:=(n+15)/16
theorem count_any(n:Nat)(hn:n<2^40)(w:World):Calls Tryz.prog 121 #[.int .i64 (n:Int)] w (fun e w'=>e= .returned (.int .i64 (bu n:Int))∧w'=w):=by
 by_cases h0:n=0
 ·subst h0
  go_enter Tryz.func121,Tryz.ntmps121
  go_wp2_with fail
  go_ret
  exact⟨rfl,rfl⟩
 ·have h1:¬(n:Int)<1:=by omega
  have e1:IntKind.i64.wrap ((n:Int) - 1)=((n - 1:Nat):Int):=by rw[show(n:Int) - 1=((n - 1:Nat):Int) by omega];exact IntWalk.i64_in _ (by omega)
  have e2:((n - 1:Nat):Int).tdiv 16=(((n - 1)/16:Nat):Int):=by rw[Int.tdiv_eq_ediv_of_nonneg (by omega)];omega
  have e3:IntKind.i64.wrap ((((n - 1)/16:Nat):Int))=(((n - 1)/16:Nat):Int):=IntWalk.i64_in _ (by omega)
  have e4:IntKind.i64.wrap ((((n - 1)/16:Nat):Int)+1)=(bu n:Int):=by unfold bu;rw[show((((n - 1)/16:Nat):Int)+1)=(((n+15)/16:Nat):Int) by omega];exact IntWalk.i64_in _ (by omega)
  go_enter Tryz.func121,Tryz.ntmps121
  go_wp2_with fail
  go_ret
  exact⟨aX (by unfold bu;omega),rfl⟩
def jQ(at' blocks:Nat):Nat×Nat:=if at'%16<8 then(at'/16 - 1,at'/16) else(at'/16,min (at'/16+1) (blocks - 1))
theorem JB(p k:Nat)(hk:k<2^36)(hp:p<16*k)(w:World):Calls Tryz.prog 208 #[.int .i64 (p:Int),.int .i64 (k:Int)] w (fun e w'=>e= .returned (.tuple #[.int .i64 ((jQ p k).1:Int),.int .i64 ((jQ p k).2:Int)])∧w'=w):=by
 have h0:¬(p:Int)<0:=by omega
 have e0:IntKind.i64.wrap (16*(k:Int))=16*(k:Int):=IntWalk.i64_in _ (by omega)
 have h1:¬16*(k:Int)≤(p:Int):=by omega
 have e1:(p:Int).tdiv 16=((p/16:Nat):Int):=by rw[Int.tdiv_eq_ediv_of_nonneg (by omega)];omega
 have e2:(p:Int).tmod 16=((p%16:Nat):Int):=by rw[Int.tmod_eq_emod_of_nonneg (by omega)];omega
 have e3:IntKind.i64.wrap ((p/16:Nat):Int)=((p/16:Nat):Int):=IntWalk.i64_in _ (by omega)
 have e4:IntKind.i64.wrap ((p%16:Nat):Int)=((p%16:Nat):Int):=IntWalk.i64_in _ (by omega)
 have e5:IntKind.i64.wrap (((p/16:Nat):Int) - 1)=((p/16:Nat):Int) - 1:=IntWalk.i64_in _ (by omega)
 have e6:IntKind.i64.wrap (((p/16:Nat):Int)+1)=((p/16:Nat):Int)+1:=IntWalk.i64_in _ (by omega)
 have e7:IntKind.i64.wrap ((k:Int) - 1)=(k:Int) - 1:=IntWalk.i64_in _ (by omega)
 by_cases h8:p%16<8
 ·have h8':((p%16:Nat):Int)<8:=by omega
  have e9:max (((p/16:Nat):Int) - 1) 0=((p/16 - 1:Nat):Int):=by omega
  have HN:Hid (jQ p k=(p/16 - 1,p/16)):=if_pos h8
  generalize p%16=m at*
  generalize p/16=q at*
  go_enter Tryz.func208,Tryz.ntmps208
  go_wp2_with fail
  all_goals go_ret2
  all_goals exact⟨Eb (by rw[HN.out];first | done | rfl | (simp only;omega) | omega) (by rw[HN.out];first | done | rfl | (simp only;omega) | omega),rfl⟩
 ·have h8':¬((p%16:Nat):Int)<8:=by omega
  have e9:min (((p/16:Nat):Int)+1) ((k:Int) - 1)=((min (p/16+1) (k - 1):Nat):Int):=by omega
  have HN:Hid (jQ p k=(p/16,min (p/16+1) (k - 1))):=if_neg h8
  generalize p%16=m at*
  generalize p/16=q at*
  go_enter Tryz.func208,Tryz.ntmps208
  go_wp2_with fail
  all_goals go_ret2
  all_goals exact⟨Eb (by rw[HN.out];first | done | rfl | (simp only;omega) | omega) (by rw[HN.out];first | done | rfl | (simp only;omega) | omega),rfl⟩
end Go.Proofs.YtnicjahcgnhogaaGreatDoor
