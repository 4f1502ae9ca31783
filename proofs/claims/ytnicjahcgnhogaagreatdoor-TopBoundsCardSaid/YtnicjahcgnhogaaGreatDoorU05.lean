/- Part 6 of the walk: contracts of the program's functions, each for every input. No condition. -/
import Derived.Test.YtnicjahcgnhogaaGreatDoorU04
set_option linter.unusedVariables false
set_option linter.unusedSimpArgs false
set_option maxRecDepth 100000
set_option maxHeartbeats 8000000
namespace Go.Proofs.YtnicjahcgnhogaaGreatDoor
open Go Go.RowKit Go.Calli Go.Shelf
attribute [local go_sem] Oper.semAt_some
def jA:Code→Option Code
 | .loop c=>some c
 | .seq a b=>match jA a with
  | some c=>some c
  | none=>jA b
 | .block _ c=>jA c
 | .scope c=>jA c
 | .cond _ a b=>match jA a with
  | some c=>some c
  | none=>jA b
 | _=>none
theorem iv_next{w W:World}{A:List Int}{Rc:Nat}{r:Int}(h:Iv w W A Rc r)(r':Int):Iv w (W.alloc (.cells #[.int .i64 r'] 3)) A W.heap.size r':=by
 have h2:=h.below (ae W (.cells #[.int .i64 r'] 3))
 exact⟨h2.net,h2.blk,h2.out,L9 _ _,h2.low,by have:=L8 h.rnd;have:=h.hrc;omega⟩
structure Iw(w0 W:World)(bk:List Int):Prop where
 net:W.heap[w0.heap.size]? =some (.cells (iA aJ) 176 (0,0))
 blk:W.heap[w0.heap.size+1]? =some (.cells (iA bk) 194 (0,0))
 out:W.heap[w0.heap.size+2]? =some (.cells #[(),(),(),(),(),(),(),(),(),(),(),(),(),(),(),()] 194 (0,0))
 low:Below w0.heap.size w0 W
theorem Iv.iw{w W:World}{A:List Int}{Rc:Nat}{r:Int}(h:Iv w W A Rc r):Iw w W A:=⟨h.net,h.blk,h.out,h.low⟩
theorem Iw.iv{w W:World}{A:List Int}(h:Iw w W A)(r:Int):Iv w (W.alloc (.cells #[.int .i64 r] 3)) A W.heap.size r:=by
 have hb:=ae W (.cells #[.int .i64 r] 3)
 exact⟨(hb.block _ (L8 h.net)).trans h.net,(hb.block _ (L8 h.blk)).trans h.blk,(hb.block _ (L8 h.out)).trans h.out,L9 _ _,h.low.trans (hb.mono h.low.size),L8 h.out⟩
noncomputable def invLoop:Code:=(Tryz.f240.body.bind jA).getD .skip
noncomputable def fwdLoop:Code:=(Tryz.f164.body.bind jA).getD .skip
def valsP(r:Nat)(x:Pr r):Array Value:=#[.int .i64 (tpZ r x.1),.int .i64 (tuZ r x.1)]
def dE(r:Nat)(b:List Int)(xs:List (Pr r)):List Int:=xs.foldl (jF r) b
theorem iq(r:Nat)(xs:List (Pr r)): ∀b:List Int,(dE r b xs).length=b.length:=by
 induction xs with
 | nil=>intro b;rfl
 | cons x l ih=>intro b;show(dE r (jF r b x) l).length=_;rw[ih];simp[jF]
theorem uU(r:Nat)(b:List Int)(xs:List (Pr r))(x:Pr r):dE r b (xs++[x])=jF r (dE r b xs) x:=by simp[dE]
theorem Ol{β:Type}(B:Nat)(Ds:List Nat)(I: ∀D,D ∈ Ds→D<B):OwnFrom B (fun(_:β) W=>∀D,D ∈ Ds→W.heap[D]? =some (.deferred (some []))):=fun s W W' row hs hg hr D hD=>by
 refine(hg.block D (L8 (hs D hD)) ?_).trans (hs D hD)
 intro e
 have:=(hr D e.symm).1
 have:=I D hD
 omega
theorem o7(r:Nat)(hr:r<4)(w W:World)(A:List Int)(hA:A.length=16)(Rc:Nat)(hi:Iv w W A Rc r)(Ds:List Nat)(o: ∀D,D ∈ Ds→W.heap[D]? =some (.deferred (some [])))(ds:List Deferred)(x0 x1 x6 x7 x8 x9 x10 x11 x12 x13 x14 x15 x16 x17 x18 x19 x20 x21 x22 x23 x24 x25 x26 x27 x28 x29 x30 x31 x32 x33 x34 x35 x36 x37 x38:Value)(K:Act→World→Prop)(Q:Exit→Act→World→Prop)
  (hK: ∀(D Rc':Nat)(W':World)(y9 y10 y11 y12 y13 y14 y15 y37:Value),Iv w W' (dI r A (prs r 16)) Rc' ((r:Int) - 1)→(∀D',D' ∈ D::Ds→W'.heap[D']? =some (.deferred (some [])))→(∀D',D' ∈ Ds→D'≠D)→w.heap.size≤D→K ⟨#[x0,x1,.pointer (some ⟨w.heap.size,0,none⟩),.pointer (some ⟨w.heap.size+1,0,none⟩),.pointer (some ⟨w.heap.size+2,0,none⟩),.pointer (some ⟨Rc',0,none⟩),x6,x7,x8,y9,y10,y11,y12,y13,y14,y15,x16,x17,x18,x19,x20,x21,x22,x23,x24,x25,x26,x27,x28,x29,x30,x31,x32,x33,x34,x35,x36,y37,x38],{target:=.collected D,args:=#[]}::ds⟩ W'):
  Code.wpIn Fence.wide 9 Tryz.prog invLoop (Exit.then K Q) ⟨#[x0,x1,.pointer (some ⟨w.heap.size,0,none⟩),.pointer (some ⟨w.heap.size+1,0,none⟩),.pointer (some ⟨w.heap.size+2,0,none⟩),.pointer (some ⟨Rc,0,none⟩),x6,x7,x8,x9,x10,x11,x12,x13,x14,x15,x16,x17,x18,x19,x20,x21,x22,x23,x24,x25,x26,x27,x28,x29,x30,x31,x32,x33,x34,x35,x36,x37,x38],ds⟩ W:=by
 have A8:(Tryz.prog.info? 176).map (·.size)=some (iA aJ).size:=af
 have A0:=hi.net
 have A9:W.cell? ⟨Rc,0,none⟩=some (.int .i64 (r:Int)):=(LZ hi.rnd).trans rfl
 have A5:=yf r W
 have h0:(0:Int)≤r:=aa
 conv=>arg 4;whnf
 gi_wp2_with (first
  | (with_reducible show wpListIn _ _ _ _ _ (Oper.mk _ (Op.load 176 (Operand.tmp 2)) _ _ _ _::_) _ _;refine iJ rfl 176 (.tmp 2) rfl _ rfl 176 (iA aJ) (0,0) _ A0 Tryz.underlying176 rfl A8 ?_)
  | (refine⟨trivial,?_⟩;gi_at_call 195;refine(callsIn_wide.2 A5).mono ?_;rintro e w1 ⟨rfl,rfl⟩))
 have A1:=L9 (W.alloc (.cells (iA aJ) 176)) (.cells #[.int .i64 (r:Int)] 3)
 have j:=ae (W.alloc (.cells (iA aJ) 176)) (.cells #[.int .i64 (r:Int)] 3)
 have A2:=L9 W (.cells (iA aJ) 176)
 have B0:=(j.block _ (L8 A2)).trans A2
 have J:=ae W (.cells (iA aJ) 176)
 have A3:=hi.below (J.trans (j.mono J.size))
 have A6: ∀D,D ∈ Ds→((W.alloc (.cells (iA aJ) 176)).alloc (.cells #[.int .i64 (r:Int)] 3)).heap[D]? =some (.deferred (some [])):=fun D h=>((J.trans (j.mono J.size)).block D (L8 (o D h))).trans (o D h)
 have A4: ∀D,D ∈ Ds→D<((W.alloc (.cells (iA aJ) 176)).alloc (.cells #[.int .i64 (r:Int)] 3)).heap.size:=fun D h=>L8 (A6 D h)
 have B6:w.heap.size+2<W.heap.size:=by have:=L8 hi.rnd;have:=hi.hrc;omega
 rw[World.size_alloc] at A1
 have B1:W.heap.size+1<((W.alloc (.cells (iA aJ) 176)).alloc (.cells #[.int .i64 (r:Int)] 3)).heap.size:=L8 A1
 clear J j A2 hi A9 A0 A5 o
 generalize (W.alloc (.cells (iA aJ) 176)).alloc (.cells #[.int .i64 (r:Int)] 3)=W2 at*
 generalize W.heap.size=nb at*
 refine tq (Kp:=Kq (nb+1) nb) rfl aq (gf:=219) (lb:=#[.pointer (some ⟨nb+1,0,none⟩),.pointer (some ⟨nb,0,none⟩)]) rfl trivial (enters_of Tryz.func219 af rfl)
  (pairs_stops 8 aq (nb+1) nb r hr W2 A1 B0) (fun h k=>h.trans k) (Np B1 aa) MB (fun _=>rfl)
  (fun pre W'=>Iv w W' (dI r A pre) Rc r∧∀D,D ∈ Ds→W'.heap[D]? =some (.deferred (some []))) (OwnFrom.and (Nr w _ _ _ _ A3.low.size) (Ol W2.heap.size Ds A4)) ⟨A3,A6⟩ 171 (valsP r) (fun T x Bx=>(((T.setIfInBounds 16 (.int .i64 (x.1:Int))).setIfInBounds 17 (.agg #[.int .i64 (tpZ r x.1),.int .i64 (tuZ r x.1)])).setIfInBounds 6 (.int .i64 (x.1:Int))).setIfInBounds 7 (.pointer (some ⟨Bx,0,none⟩))) ?assign ?body ?done
 case assign=>
  intro l pre x W3 K' hi B2
  obtain⟨hi,I⟩:=hi
  simp only[Og]
  gi_wp2
  exact B2 W3.heap.size _ ((KeepsOthers.alloc _ _).from _) (BN _ _ _ _) ⟨hi.below (ae _ _),fun D h=>((ae W3 _).block D (L8 (I D h))).trans (I D h)⟩ (L9 _ _)
 case body=>
  intro l pre x Bx W3 hi hc hlen
  obtain⟨hi,I⟩:=hi
  obtain⟨i,R,U⟩:=x
  have B3:(dI r A pre).length=16:=by rw[iy];exact hA
  refine Code.wpIn_mono ?_ ((Pj r hr l Rc (nb+1) nb Bx i _ R U w W3 (dI r A pre) B3 hi hc aa aa _ _ _ _ _ _ _ _ _ _ _ _ _ _ _ _ _ _ _ _ _ _ _ _ _ _ _ _ _ _ _ _ _ _ _
   (fun W'=>KeepsOthers W3 W'∧Kq (nb+1) nb W3 W'∧Iv w W' (lu r (dI r A pre) ⟨i,R,U⟩) Rc r)).1 (fun W' h1 h2 h3=>⟨h1,h2,h3⟩))
  intro e a' W' hq
  cases e with
  | normal=>
   obtain⟨h1,h2,h3⟩:=hq
   refine⟨h1.from _,h2,?_,fun D h=>h1.same D _ (I D h) rfl⟩
   exact(congrArg (fun z=>Iv w W' z Rc r) (uV r A pre ⟨i,R,U⟩)).mpr h3
  | _=>exact hq.elim
 case done=>
  intro D xs W3 hD B4 hI A7
  subst B4
  obtain⟨hI,I⟩:=hI
  have B7:W3.cell? ⟨Rc,0,none⟩=some (.int .i64 (r:Int)):=(LZ hI.rnd).trans rfl
  have B8:IntKind.i64.wrap ((r:Int) - 1)=(r:Int) - 1:=IntWalk.i64_in _ aa
  have HF:=MI hI
  have HK:=MI hK
  clear hI hK
  have B5: ∀D',D' ∈ Ds→D'≠D:=fun D' h e=>by have:=A4 D' h;omega
  have hle:w.heap.size≤D:=Nat.le_trans A3.low.size hD
  gi_wp2
  exact HK.out D W3.heap.size _ _ _ _ _ _ _ _ _ (iv_next HF.out _) (fun D' h=>(List.mem_cons.1 h).elim (fun e=>e▸((ae W3 _).block D (L8 A7)).trans A7) (fun h=>((ae W3 _).block D' (L8 (I D' h))).trans (I D' h))) B5 hle
theorem o9(r:Nat)(hr:r<4)(w W':World)(A:List Int)(hA:A.length=16)(A6:Iw w W' A)(Ds:List Nat)(R: ∀D,D ∈ Ds→W'.heap[D]? =some (.deferred (some [])))(ds:List Deferred)(x0 x1 x5 x6 x7 x8 x10 x11 x12 x13 x14 x15 x16 x17 x18 x19 x20 x21 x22 x23 x24 x25 x26 x27 x28 x29 x30 x31 x32 x33 x34 x35 x36 x37:Value)(K:Act→World→Prop)(Q:Exit→Act→World→Prop)
  (hK: ∀(D:Nat)(W':World)(y5 y10 y11 y12 y13 y14 y36:Value),Iw w W' (dE r A (prs r 16))→(∀D',D' ∈ D::Ds→W'.heap[D']? =some (.deferred (some [])))→(∀D',D' ∈ Ds→D'≠D)→w.heap.size≤D→K ⟨#[x0,x1,.pointer (some ⟨w.heap.size,0,none⟩),.pointer (some ⟨w.heap.size+1,0,none⟩),.pointer (some ⟨w.heap.size+2,0,none⟩),y5,x6,x7,x8,.int .i64 ((r:Int)+1),y10,y11,y12,y13,y14,x15,x16,x17,x18,x19,x20,x21,x22,x23,x24,x25,x26,x27,x28,x29,x30,x31,x32,x33,x34,x35,y36,x37],{target:=.collected D,args:=#[]}::ds⟩ W'):
  Code.wpIn Fence.wide 9 Tryz.prog fwdLoop (Exit.then K Q) ⟨#[x0,x1,.pointer (some ⟨w.heap.size,0,none⟩),.pointer (some ⟨w.heap.size+1,0,none⟩),.pointer (some ⟨w.heap.size+2,0,none⟩),x5,x6,x7,x8,.int .i64 (r:Int),x10,x11,x12,x13,x14,x15,x16,x17,x18,x19,x20,x21,x22,x23,x24,x25,x26,x27,x28,x29,x30,x31,x32,x33,x34,x35,x36,x37],ds⟩ W':=by
 have A9:(Tryz.prog.info? 176).map (·.size)=some (iA aJ).size:=af
 have hi:=A6.iv (r:Int)
 have o: ∀D,D ∈ Ds→(W'.alloc (.cells #[.int .i64 (r:Int)] 3)).heap[D]? =some (.deferred (some [])):=fun D h=>((ae W' _).block D (L8 (R D h))).trans (R D h)
 obtain⟨W,hW⟩: ∃W,W=W'.alloc (.cells #[.int .i64 (r:Int)] 3):=⟨_,rfl⟩
 rw[←hW] at hi o
 generalize B0:W'.heap.size=Rc at*
 clear A6 R
 have A1:=hi.net
 have B1:W.cell? ⟨Rc,0,none⟩=some (.int .i64 (r:Int)):=(LZ hi.rnd).trans rfl
 have A7:=yf r W
 have h4:(r:Int)<4:=aa
 conv=>arg 4;whnf
 gi_wp2_with (first
  | (with_reducible show wpListIn _ _ _ _ _ (Oper.mk _ (Op.load 176 (Operand.tmp 2)) _ _ _ _::_) _ _;rw[←hW];clear hW;refine iJ rfl 176 (.tmp 2) rfl _ rfl 176 (iA aJ) (0,0) _ A1 Tryz.underlying176 rfl A9 ?_)
  | (refine⟨trivial,?_⟩;gi_at_call 195;refine(callsIn_wide.2 A7).mono ?_;rintro e w1 ⟨rfl,rfl⟩))
 have A2:=L9 (W.alloc (.cells (iA aJ) 176)) (.cells #[.int .i64 (r:Int)] 3)
 have A0:=ae (W.alloc (.cells (iA aJ) 176)) (.cells #[.int .i64 (r:Int)] 3)
 have A3:=L9 W (.cells (iA aJ) 176)
 have B2:=(A0.block _ (L8 A3)).trans A3
 have J:=ae W (.cells (iA aJ) 176)
 have A4:=hi.below (J.trans (A0.mono J.size))
 have A8: ∀D,D ∈ Ds→((W.alloc (.cells (iA aJ) 176)).alloc (.cells #[.int .i64 (r:Int)] 3)).heap[D]? =some (.deferred (some [])):=fun D h=>((J.trans (A0.mono J.size)).block D (L8 (o D h))).trans (o D h)
 have A5: ∀D,D ∈ Ds→D<((W.alloc (.cells (iA aJ) 176)).alloc (.cells #[.int .i64 (r:Int)] 3)).heap.size:=fun D h=>L8 (A8 D h)
 have B9:w.heap.size+2<W.heap.size:=by have:=L8 hi.rnd;have:=hi.hrc;omega
 rw[World.size_alloc] at A2
 have B3:W.heap.size+1<((W.alloc (.cells (iA aJ) 176)).alloc (.cells #[.int .i64 (r:Int)] 3)).heap.size:=L8 A2
 clear B0
 clear J A0 A3 hi B1 A1 A7 o
 generalize (W.alloc (.cells (iA aJ) 176)).alloc (.cells #[.int .i64 (r:Int)] 3)=W2 at*
 generalize W.heap.size=nb at*
 refine tq (Kp:=Kq (nb+1) nb) rfl aq (gf:=219) (lb:=#[.pointer (some ⟨nb+1,0,none⟩),.pointer (some ⟨nb,0,none⟩)]) rfl trivial (enters_of Tryz.func219 af rfl)
  (pairs_stops 8 aq (nb+1) nb r hr W2 A2 B2) (fun h k=>h.trans k) (Np B3 aa) MB (fun _=>rfl)
  (fun pre W'=>Iv w W' (dE r A pre) Rc r∧∀D,D ∈ Ds→W'.heap[D]? =some (.deferred (some []))) (OwnFrom.and (Nr w _ _ _ _ A4.low.size) (Ol W2.heap.size Ds A5)) ⟨A4,A8⟩ 171 (valsP r) (fun T x Bx=>(((T.setIfInBounds 15 (.int .i64 (x.1:Int))).setIfInBounds 16 (.agg #[.int .i64 (tpZ r x.1),.int .i64 (tuZ r x.1)])).setIfInBounds 6 (.int .i64 (x.1:Int))).setIfInBounds 7 (.pointer (some ⟨Bx,0,none⟩))) ?assign ?body ?done
 case assign=>
  intro l pre x W3 K' hi B4
  obtain⟨hi,I⟩:=hi
  simp only[Og]
  gi_wp2
  exact B4 W3.heap.size _ ((KeepsOthers.alloc _ _).from _) (BN _ _ _ _) ⟨hi.below (ae _ _),fun D h=>((ae W3 _).block D (L8 (I D h))).trans (I D h)⟩ (L9 _ _)
 case body=>
  intro l pre x Bx W3 hi hc hlen
  obtain⟨hi,I⟩:=hi
  obtain⟨i,U,j⟩:=x
  have B5:(dE r A pre).length=16:=by rw[iq];exact hA
  refine Code.wpIn_mono ?_ ((Pj r hr l Rc (nb+1) nb Bx i _ U j w W3 (dE r A pre) B5 hi hc aa aa _ _ _ _ _ _ _ _ _ _ _ _ _ _ _ _ _ _ _ _ _ _ _ _ _ _ _ _ _ _ _ _ _ _ undef
   (fun W'=>KeepsOthers W3 W'∧Kq (nb+1) nb W3 W'∧Iv w W' (jF r (dE r A pre) ⟨i,U,j⟩) Rc r)).2 (fun W' h1 h2 h3=>⟨h1,h2,h3⟩))
  intro e a' W' hq
  cases e with
  | normal=>
   obtain⟨h1,h2,h3⟩:=hq
   refine⟨h1.from _,h2,?_,fun D h=>h1.same D _ (I D h) rfl⟩
   exact(congrArg (fun z=>Iv w W' z Rc r) (uU r A pre ⟨i,U,j⟩)).mpr h3
  | _=>exact hq.elim
 case done=>
  intro D xs W3 hD B6 hI B7
  subst B6
  obtain⟨hI,I⟩:=hI
  have C0:IntKind.i64.wrap ((r:Int)+1)=(r:Int)+1:=IntWalk.i64_in _ aa
  have HF:=MI hI
  have HK:=MI hK
  clear hI hK
  have B8: ∀D',D' ∈ Ds→D'≠D:=fun D' h e=>by have:=A5 D' h;omega
  have hle:w.heap.size≤D:=Nat.le_trans A4.low.size hD
  gi_wp2
  exact HK.out D W3 _ _ _ _ _ _ _ HF.out.iw (fun D' h=>(List.mem_cons.1 h).elim (fun e=>e▸B7) (fun h=>I D' h)) B8 hle
end Go.Proofs.YtnicjahcgnhogaaGreatDoor
namespace Go.Proofs.YtnicjahcgnhogaaGreatDoor
open Go Go.RowKit Go.Calli Go.Shelf
attribute [local go_sem] Oper.semAt_some
def iU(b:List Int):List Int:=dE 3 (dE 2 (dE 1 (dE 0 b (prs 0 16)) (prs 1 16)) (prs 2 16)) (prs 3 16)
theorem BP(w:World)(b:List Int):Iw w (((w.alloc (.cells (iA aJ) 176)).alloc (.cells (iA b) 194)).alloc (.cells #[(),(),(),(),(),(),(),(),(),(),(),(),(),(),(),()] 194)) b:=by
 have I:=ae w (.cells (iA aJ) 176)
 have J:=L9 w (.cells (iA aJ) 176)
 have e1:(w.alloc (.cells (iA aJ) 176)).heap.size=w.heap.size+1:=World.size_alloc _ _
 generalize w.alloc (.cells (iA aJ) 176)=W1 at*
 have R:=ae W1 (.cells (iA b) 194)
 have U:=L9 W1 (.cells (iA b) 194)
 have e2:(W1.alloc (.cells (iA b) 194)).heap.size=W1.heap.size+1:=World.size_alloc _ _
 generalize W1.alloc (.cells (iA b) 194)=W2 at*
 have j:=ae W2 (.cells #[(),(),(),(),(),(),(),(),(),(),(),(),(),(),(),()] 194)
 have o:=L9 W2 (.cells #[(),(),(),(),(),(),(),(),(),(),(),(),(),(),(),()] 194)
 rw[e1] at U e2
 rw[e2] at o
 have A0:=R.block _ (L8 J)
 have k1:=(j.block _ (L8 (A0.trans J))).trans (A0.trans J)
 have k2:=(j.block _ (L8 U)).trans U
 exact⟨k1,k2,o,(I.trans (R.mono I.size)).trans (j.mono (I.trans (R.mono I.size)).size)⟩
theorem both_any(b:List Int)(hb:b.length=16)(w:World):Calls Tryz.prog 240 #[.agg (iA aJ),.agg (iA b)] w (fun e w'=>e= .returned (.agg (iA (oH b)))∧Below w.heap.size w w')∧Calls Tryz.prog 164 #[.agg (iA aJ),.agg (iA b)] w (fun e w'=>e= .returned (.agg (iA (iU b)))∧Below w.heap.size w w'):=by
 refine⟨?_,?_⟩
 rotate_right
 focus
  refine(callsIn_wide (n:=9)).1 ?_
  refine callsIn_of_wp_marks Tryz.func164 rfl trivial ?_ rfl
  simp only[Tryz.ntmps164,List.size_toArray,List.length_cons,List.length_nil,Nat.reduceAdd,Nat.reduceSub,Array.replicate_succ,Array.replicate_zero,List.push_toArray,List.append_toArray,List.nil_append,List.cons_append]
  have B1:(iA aJ).size=16:=af
  have A0:(Tryz.prog.info? 194).map (·.size)=some 16:=af
  gi_wp2
  have hI:=BP w b
  have A9:(((w.alloc (.cells (iA aJ) 176)).alloc (.cells (iA b) 194)).alloc (.cells #[(),(),(),(),(),(),(),(),(),(),(),(),(),(),(),()] 194)).heap.size=w.heap.size+3:=by simp[World.size_alloc]
  generalize (((w.alloc (.cells (iA aJ) 176)).alloc (.cells (iA b) 194)).alloc (.cells #[(),(),(),(),(),(),(),(),(),(),(),(),(),(),(),()] 194))=W at*
  clear A9
  refine wpIn_loop_rounds 5 ?_
  rw[roundsIn_succ]
  refine o9 0 aq w _ b hb hI [] (fun D h=>by cases h) _ _ _ _ _ _ _ _ _ _ _ _ _ _ _ _ _ _ _ _ _ _ _ _ _ _ _ _ _ _ _ _ _ _ _ _ _ ?_
  intro D0 W0 y5 y10 y11 y12 y13 y14 y36 A2 A3 C3 B3
  rw[roundsIn_succ]
  refine o9 1 aq w _ _ (by simp only[iq];exact hb) A2 _ A3 _ _ _ _ _ _ _ _ _ _ _ _ _ _ _ _ _ _ _ _ _ _ _ _ _ _ _ _ _ _ _ _ _ _ _ _ _ ?_
  clear A3 A2
  intro D1 W1 y5 y10 y11 y12 y13 y14 y36 A4 A5 B4 B5
  rw[roundsIn_succ]
  refine o9 2 aq w _ _ (by simp only[iq];exact hb) A4 _ A5 _ _ _ _ _ _ _ _ _ _ _ _ _ _ _ _ _ _ _ _ _ _ _ _ _ _ _ _ _ _ _ _ _ _ _ _ _ ?_
  clear A5 A4
  intro D2 W2 y5 y10 y11 y12 y13 y14 y36 A6 A7 B2 B6
  rw[roundsIn_succ]
  refine o9 3 aq w _ _ (by simp only[iq];exact hb) A6 _ A7 _ _ _ _ _ _ _ _ _ _ _ _ _ _ _ _ _ _ _ _ _ _ _ _ _ _ _ _ _ _ _ _ _ _ _ _ _ ?_
  clear A7 A6
  intro D3 W3 y5 y10 y11 y12 y13 y14 y36 R A8 B0 B7
  rw[roundsIn_succ]
  have hX:(dE 3 (dE 2 (dE 1 (dE 0 b (prs 0 16)) (prs 1 16)) (prs 2 16)) (prs 3 16))=iU b:=rfl
  rw[hX] at R
  have hL:(iU b).length=16:=by rw[←hX];simp only[iq];exact hb
  clear hX
  have hk:=R.blk
  have ho:=R.out
  have B8:=R.low
  have U:(Tryz.prog.info? 194).map (·.size)=some (iA (iU b)).size:=by rw[A0];unfold iA;rw[List.size_toArray,List.length_map,hL]
  have h1:(iA (iU b)).all (·.oneCell')=true:=by unfold iA;simp[Value.oneCell']
  have B9:(#[(),(),(),(),(),(),(),(),(),(),(),(),(),(),(),()]:Array Value).size=(iA (iU b)).size:=by rw[A0] at U;injection U
  have C0:W3.heap[w.heap.size+1]? =some (.cells (iA (iU b)) 194 (0,0)):=hk
  clear R A0 B1
  generalize C1:iU b=X at*
 rotate_right
 focus
  refine(callsIn_wide (n:=9)).1 ?_
  refine callsIn_of_wp_marks Tryz.func240 rfl trivial ?_ rfl
  simp only[Tryz.ntmps240,List.size_toArray,List.length_cons,List.length_nil,Nat.reduceAdd,Nat.reduceSub,Array.replicate_succ,Array.replicate_zero,List.push_toArray,List.append_toArray,List.nil_append,List.cons_append]
  have B1:(iA aJ).size=16:=af
  have A0:(Tryz.prog.info? 194).map (·.size)=some 16:=af
  gi_wp2
  have hI:=BP w b
  have A9:(((w.alloc (.cells (iA aJ) 176)).alloc (.cells (iA b) 194)).alloc (.cells #[(),(),(),(),(),(),(),(),(),(),(),(),(),(),(),()] 194)).heap.size=w.heap.size+3:=by simp[World.size_alloc]
  generalize (((w.alloc (.cells (iA aJ) 176)).alloc (.cells (iA b) 194)).alloc (.cells #[(),(),(),(),(),(),(),(),(),(),(),(),(),(),(),()] 194))=W at*
  have C2:=hI.iv 3
  rw[A9] at C2
  clear hI A9
  refine wpIn_loop_rounds 5 ?_
  rw[roundsIn_succ]
  refine o7 3 aq w _ b hb _ C2 [] (fun D h=>by cases h) _ _ _ _ _ _ _ _ _ _ _ _ _ _ _ _ _ _ _ _ _ _ _ _ _ _ _ _ _ _ _ _ _ _ _ _ _ _ ?_
  intro D0 R0 W0 y9 y10 y11 y12 y13 y14 y15 y37 A2 A3 C3 B3
  rw[roundsIn_succ]
  refine o7 2 aq w _ _ (by simp only[iy];exact hb) _ A2 _ A3 _ _ _ _ _ _ _ _ _ _ _ _ _ _ _ _ _ _ _ _ _ _ _ _ _ _ _ _ _ _ _ _ _ _ _ _ _ _ ?_
  clear A3 A2
  intro D1 R1 W1 y9 y10 y11 y12 y13 y14 y15 y37 A4 A5 B4 B5
  rw[roundsIn_succ]
  refine o7 1 aq w _ _ (by simp only[iy];exact hb) _ A4 _ A5 _ _ _ _ _ _ _ _ _ _ _ _ _ _ _ _ _ _ _ _ _ _ _ _ _ _ _ _ _ _ _ _ _ _ _ _ _ _ ?_
  clear A5 A4
  intro D2 R2 W2 y9 y10 y11 y12 y13 y14 y15 y37 A6 A7 B2 B6
  rw[roundsIn_succ]
  refine o7 0 aq w _ _ (by simp only[iy];exact hb) _ A6 _ A7 _ _ _ _ _ _ _ _ _ _ _ _ _ _ _ _ _ _ _ _ _ _ _ _ _ _ _ _ _ _ _ _ _ _ _ _ _ _ ?_
  clear A7 A6
  intro D3 R3 W3 y9 y10 y11 y12 y13 y14 y15 y37 R A8 B0 B7
  have C4:W3.cell? ⟨R3,0,none⟩=some (.int .i64 (-1)):=(LZ R.rnd).trans rfl
  rw[roundsIn_succ]
  have hX:(dI 0 (dI 1 (dI 2 (dI 3 b (prs 3 16)) (prs 2 16)) (prs 1 16)) (prs 0 16))=oH b:=rfl
  rw[hX] at R
  have hL:(oH b).length=16:=by rw[←hX];simp only[iy];exact hb
  clear hX
  have hk:=R.blk
  have ho:=R.out
  have B8:=R.low
  have U:(Tryz.prog.info? 194).map (·.size)=some (iA (oH b)).size:=by rw[A0];unfold iA;rw[List.size_toArray,List.length_map,hL]
  have h1:(iA (oH b)).all (·.oneCell')=true:=by unfold iA;simp[Value.oneCell']
  have B9:(#[(),(),(),(),(),(),(),(),(),(),(),(),(),(),(),()]:Array Value).size=(iA (oH b)).size:=by rw[A0] at U;injection U
  have C0:W3.heap[w.heap.size+1]? =some (.cells (iA (oH b)) 194 (0,0)):=hk
  clear R A0 B1
  generalize C1:oH b=X at*
 all_goals
  gi_wp2_with (first
   | (with_reducible show wpListIn _ _ _ _ _ (Oper.mk _ (Op.load 194 (Operand.tmp 3)) _ _ _ _::_) _ _;refine iJ rfl 194 (.tmp 3) rfl _ rfl 194 (iA X) (0,0) _ C0 Tryz.underlying194 rfl U ?_)
   | (with_reducible show wpListIn _ _ _ _ _ (Oper.mk _ (Op.store 194 (Operand.tmp 4) (Operand.tmp _)) _ _ _ _::_) _ _;refine kZ rfl 194 (.tmp 4) (.tmp _) rfl _ (iA X) rfl rfl 194 _ ho U B9 h1 ?_))
  have g3:=A8 D3 ar
  have g2:=A8 D2 ar
  have g1:=A8 D1 ar
  have g0:=A8 D0 ar
  have n32:D2≠D3:=B0 D2 ar
  have n31:D1≠D3:=B0 D1 ar
  have n30:D0≠D3:=B0 D0 ar
  have n21:D1≠D2:=B2 D1 ar
  have n20:D0≠D2:=B2 D0 ar
  have n10:D0≠D1:=B4 D0 ar
  have hs: ∀D,W3.heap[D]? =some (Obj.deferred (some []))→(W3.setRow (w.heap.size+2) (iA X)).heap[D]? =some (Obj.deferred (some [])):=fun D h=>(setRow_other _ _ _ _ (fun e=>by rw[e,ho] at h;cases h)).trans h
  have I:=setRow_heap W3 (w.heap.size+2) _ (iA X) 194 _ ho
  have J:Below w.heap.size w (W3.setRow (w.heap.size+2) (iA X)):=below_setRow B8 aa _
  replace g3:=hs _ g3
  replace g2:=hs _ g2
  replace g1:=hs _ g1
  replace g0:=hs _ g0
  generalize W3.setRow (w.heap.size+2) (iA X)=V at*
  simp only[bodyPostM]
  have hp: ∀(V:World)(D j:Nat)(o:Obj),V.heap[j]? =some o→j≠D→(V.putObj D (Obj.deferred none)).heap[j]? =some o:=fun V D j o h hn=>((grownBy_putObj' V D (Obj.deferred none)).block j (L8 h) (fun e=>by cases e;exact hn rfl)).trans h
  have A1: ∀(V:World)(D:Nat),Below w.heap.size w V→w.heap.size≤D→V.heap[D]? =some (Obj.deferred (some []))→Below w.heap.size w (V.putObj D (Obj.deferred none)):=fun V D h hd hK=>h.trans (belowK_b (w:=w) Me V D _ _ hd hK rfl rfl)
  have e3:w.heap.size+2≠D3:=fun e=>by rw[e,g3] at I;cases I
  have e2:w.heap.size+2≠D2:=fun e=>by rw[e,g2] at I;cases I
  have e1:w.heap.size+2≠D1:=fun e=>by rw[e,g1] at I;cases I
  have e0:w.heap.size+2≠D0:=fun e=>by rw[e,g0] at I;cases I
  refine⟨ar,.inl ⟨_,_,rfl,run_takeDeferred g3,?_⟩⟩
  replace g2:=hp _ D3 _ _ g2 n32
  replace g1:=hp _ D3 _ _ g1 n31
  replace g0:=hp _ D3 _ _ g0 n30
  replace I:=hp _ D3 _ _ I e3
  replace J:=A1 _ _ J B7 g3
  generalize V.putObj D3 (Obj.deferred none)=V3 at*
  refine⟨ar,.inl ⟨_,_,rfl,run_takeDeferred g2,?_⟩⟩
  replace g1:=hp _ D2 _ _ g1 n21
  replace g0:=hp _ D2 _ _ g0 n20
  replace I:=hp _ D2 _ _ I e2
  replace J:=A1 _ _ J B6 g2
  generalize V3.putObj D2 (Obj.deferred none)=V2 at*
  refine⟨ar,.inl ⟨_,_,rfl,run_takeDeferred g1,?_⟩⟩
  replace g0:=hp _ D1 _ _ g0 n10
  replace I:=hp _ D1 _ _ I e1
  replace J:=A1 _ _ J B5 g1
  generalize V2.putObj D1 (Obj.deferred none)=V1 at*
  refine⟨ar,.inl ⟨_,_,rfl,run_takeDeferred g0,?_⟩⟩
  replace I:=hp _ D0 _ _ I e0
  replace J:=A1 _ _ J B3 g0
  first
    | refine⟨_,results_cell_row (fn:=Tryz.f240) rfl _ _ _ _ _ _ _ rfl I Tryz.underlying194 rfl U,?_⟩
    | refine⟨_,results_cell_row (fn:=Tryz.f164) rfl _ _ _ _ _ _ _ rfl I Tryz.underlying194 rfl U,?_⟩
  exact⟨by rw[C1],J⟩
end Go.Proofs.YtnicjahcgnhogaaGreatDoor
namespace Go.Proofs.YtnicjahcgnhogaaGreatDoor
open Go Go.RowKit Go.Calli
attribute [local irreducible] wpStill wpAnyH wpAnyS wpList Code.wp
theorem bf{P:Program}{ops:Array Oper}{rest:List Oper}{o:Oper}{a:Act}{w:World}{Q:Exit→Act→World→Prop}(hg:o.guard=none)(t:TypeId)(parts:Array (Nat×Operand))(ho:o.op= .build t parts)
  (cells:Array Value) (hc:P.built t (parts.map fun(i,x)=>(i,a.eval x)).toList=some cells) (h:wpList P ops Q rest (a.put o.dst (.agg cells)) w):wpList P ops Q (o::rest) a w:=
 wpList_build hg t parts ho (by rw[hc];rfl) (by rw[hc];exact h)
theorem FZ{a b c d:Int}(h:a=c)(k:b=d):Ending.returned (.tuple #[.int .i64 a,.int .i64 b])= .returned (.tuple #[.int .i64 c,.int .i64 d]):=by rw[h,k]
def dm:List Int:=aJ++aJ
theorem BL(w:World):Calls Tryz.prog 122 #[.agg (iA aJ)] w (fun e w'=>e= .returned (.agg (iA aJ))∧Below w.heap.size w w'):=by
 have I:=ae w (.cells (iA aJ) 172)
 have J:=L9 w (.cells (iA aJ) 172)
 have R:=ae (w.alloc (.cells (iA aJ) 172)) (.cells (iA (List.replicate 16 0)) 174)
 have U:=L9 (w.alloc (.cells (iA aJ) 172)) (.cells (iA (List.replicate 16 0)) 174)
 have h0:=(R.block _ (L8 J)).trans J
 have hi:(Tryz.prog.info? 172).map (·.size)=some (iA aJ).size:=af
 have j:(Tryz.prog.info? 174).map (·.size)=some (iA aJ).size:=af
 rw[World.size_alloc] at U
 have hB:=I.trans (R.mono I.size)
 go_enter Tryz.func122,Tryz.ntmps122
 go_upto_region 1 with fail
 have e:((w.alloc (.cells (iA aJ) 172)).alloc (.cells (iA (List.replicate 16 0)) 174))=((w.alloc (.cells (iA aJ) 172)).alloc (.cells #[(),(),(),(),(),(),(),(),(),(),(),(),(),(),(),()] 174)):=rfl
 rw[←e]
 clear e I R J
 generalize (w.alloc (.cells (iA aJ) 172)).alloc (.cells (iA (List.replicate 16 0)) 174)=W at*
 go_wp2_with (first
  | (with_reducible refine MC 172 1 ?_;refine wpList_load_row rfl 172 (.tmp 1) rfl _ rfl 172 (iA aJ) (0,0) _ h0 Tryz.underlying172 rfl hi ?_)
  | (with_reducible show wpList _ _ _ (Oper.mk _ (Op.build 174 _) _ _ _ _::_) _ _;refine bf rfl 174 _ rfl (iA aJ) af ?_)
  | (with_reducible refine MF 174 2 4 ?_;refine wpList_store_row rfl 174 (.tmp 2) (.tmp 4) rfl _ (iA aJ) rfl rfl 174 _ U j af (bV _) ?_))
 exact bodyPost_ret (results_cell_row (fn:=Tryz.f122) rfl _ _ _ _ _ _ _ rfl (setRow_heap _ _ _ _ _ _ U) Tryz.underlying174 rfl j) rfl ⟨rfl,below_setRow hB aa _⟩
theorem Ep(w:World):Calls Tryz.prog 124 #[] w (fun e w'=>e= .returned (.agg (iA aJ))∧Below w.heap.size w w'):=by
 have I:=ae w (.cells (iA (List.replicate 16 0)) 176)
 have J:=L9 w (.cells (iA (List.replicate 16 0)) 176)
 have R:(Tryz.prog.info? 176).map (·.size)=some (iA aJ).size:=af
 go_enter Tryz.func124,Tryz.ntmps124
 go_upto_region 1 with fail
 have e:w.alloc (.cells (iA (List.replicate 16 0)) 176)=w.alloc (.cells #[(),(),(),(),(),(),(),(),(),(),(),(),(),(),(),()] 176):=rfl
 rw[←e]
 clear e
 generalize w.alloc (.cells (iA (List.replicate 16 0)) 176)=W at*
 have hT:=xN W
 go_wp2_with (first
  | (go_at_call 123;refine hT.mono ?_;rintro e w1 ⟨rfl,U⟩;have j:=(U.block _ (L8 J)).trans J)
  | (with_reducible show wpList _ _ _ (Oper.mk _ (Op.build 176 _) _ _ _ _::_) _ _;refine bf rfl 176 _ rfl (iA aJ) af ?_)
  | (with_reducible refine MF 176 0 2 ?_;refine wpList_store_row rfl 176 (.tmp 0) (.tmp 2) rfl _ (iA aJ) rfl rfl 176 _ j R af (bV _) ?_))
 exact bodyPost_ret (results_cell_row (fn:=Tryz.f124) rfl _ _ _ _ _ _ _ rfl (setRow_heap _ _ _ _ _ _ j) Tryz.underlying176 rfl R) rfl ⟨rfl,below_setRow (I.trans (U.mono I.size)) Me _⟩
theorem vS(w:World):Calls Tryz.prog 86 #[] w (fun e w'=>e= .returned (.agg (iA dm))∧Below w.heap.size w w'):=by
 have I:=ae w (.cells (iA (List.replicate 32 0)) 178)
 have J:=L9 w (.cells (iA (List.replicate 32 0)) 178)
 have R:(Tryz.prog.info? 178).map (·.size)=some (iA dm).size:=af
 go_enter Tryz.func86,Tryz.ntmps86
 go_upto_region 1 with fail
 have e:w.alloc (.cells (iA (List.replicate 32 0)) 178)=w.alloc (.cells #[(),(),(),(),(),(),(),(),(),(),(),(),(),(),(),(),(),(),(),(),(),(),(),(),(),(),(),(),(),(),(),()] 178):=rfl
 rw[←e]
 clear e
 generalize w.alloc (.cells (iA (List.replicate 32 0)) 178)=W at*
 have hT:=xN W
 go_wp2_with (first
  | (go_at_call 123;refine hT.mono ?_;rintro e w1 ⟨rfl,U⟩;have hl:=BL w1)
  | (go_at_call 122;refine hl.mono ?_;rintro e w2 ⟨rfl,j⟩;have hn:=Ep w2)
  | (go_at_call 124;refine hn.mono ?_;rintro e w3 ⟨rfl,A1⟩;have o:=U.trans ((j.trans (A1.mono j.size)).mono U.size);have A0:=(o.block _ (L8 J)).trans J)
  | (with_reducible show wpList _ _ _ (Oper.mk _ (Op.build 178 _) _ _ _ _::_) _ _;refine bf rfl 178 _ rfl (iA dm) af ?_)
  | (with_reducible refine MF 178 0 4 ?_;refine wpList_store_row rfl 178 (.tmp 0) (.tmp 4) rfl _ (iA dm) rfl rfl 178 _ A0 R af (bV _) ?_))
 exact bodyPost_ret (results_cell_row (fn:=Tryz.f86) rfl _ _ _ _ _ _ _ rfl (setRow_heap _ _ _ _ _ _ A0) Tryz.underlying178 rfl R) rfl ⟨rfl,below_setRow (I.trans (o.mono I.size)) Me _⟩
def aO(n:Nat):Nat:=(n+15)/16
theorem count_any(n:Nat)(hn:n<2^40)(w:World):Calls Tryz.prog 121 #[.int .i64 (n:Int)] w (fun e w'=>e= .returned (.int .i64 (aO n:Int))∧w'=w):=by
 by_cases h0:n=0
 ·subst h0
  go_enter Tryz.func121,Tryz.ntmps121
  go_wp2_with fail
  go_ret
  exact⟨rfl,rfl⟩
 ·have h1:¬(n:Int)<1:=aa
  have e1:IntKind.i64.wrap ((n:Int) - 1)=((n - 1:Nat):Int):=by rw[show(n:Int) - 1=((n - 1:Nat):Int) by omega];exact IntWalk.i64_in _ aa
  have e2:((n - 1:Nat):Int).tdiv 16=(((n - 1)/16:Nat):Int):=by rw[Int.tdiv_eq_ediv_of_nonneg aa];omega
  have e3:IntKind.i64.wrap ((((n - 1)/16:Nat):Int))=(((n - 1)/16:Nat):Int):=IntWalk.i64_in _ aa
  have e4:IntKind.i64.wrap ((((n - 1)/16:Nat):Int)+1)=(aO n:Int):=by unfold aO;rw[show((((n - 1)/16:Nat):Int)+1)=(((n+15)/16:Nat):Int) by omega];exact IntWalk.i64_in _ aa
  go_enter Tryz.func121,Tryz.ntmps121
  go_wp2_with fail
  go_ret
  exact⟨bg (by unfold aO;omega),rfl⟩
def dC(at' blocks:Nat):Nat×Nat:=if at'%16<8 then(at'/16 - 1,at'/16) else(at'/16,min (at'/16+1) (blocks - 1))
theorem MV(p k:Nat)(hk:k<2^36)(hp:p<16*k)(w:World):Calls Tryz.prog 208 #[.int .i64 (p:Int),.int .i64 (k:Int)] w (fun e w'=>e= .returned (.tuple #[.int .i64 ((dC p k).1:Int),.int .i64 ((dC p k).2:Int)])∧w'=w):=by
 have h0:¬(p:Int)<0:=aa
 have e0:IntKind.i64.wrap (16*(k:Int))=16*(k:Int):=IntWalk.i64_in _ aa
 have h1:¬16*(k:Int)≤(p:Int):=aa
 have e1:(p:Int).tdiv 16=((p/16:Nat):Int):=by rw[Int.tdiv_eq_ediv_of_nonneg aa];omega
 have e2:(p:Int).tmod 16=((p%16:Nat):Int):=by rw[Int.tmod_eq_emod_of_nonneg aa];omega
 have e3:IntKind.i64.wrap ((p/16:Nat):Int)=((p/16:Nat):Int):=IntWalk.i64_in _ aa
 have e4:IntKind.i64.wrap ((p%16:Nat):Int)=((p%16:Nat):Int):=IntWalk.i64_in _ aa
 have e5:IntKind.i64.wrap (((p/16:Nat):Int) - 1)=((p/16:Nat):Int) - 1:=IntWalk.i64_in _ aa
 have e6:IntKind.i64.wrap (((p/16:Nat):Int)+1)=((p/16:Nat):Int)+1:=IntWalk.i64_in _ aa
 have e7:IntKind.i64.wrap ((k:Int) - 1)=(k:Int) - 1:=IntWalk.i64_in _ aa
 by_cases h8:p%16<8
 rotate_right
 focus
  have I:¬((p%16:Nat):Int)<8:=aa
  have e9:min (((p/16:Nat):Int)+1) ((k:Int) - 1)=((min (p/16+1) (k - 1):Nat):Int):=aa
  have HN:Hid (dC p k=(p/16,min (p/16+1) (k - 1))):=if_neg h8
 rotate_right
 focus
  have I:((p%16:Nat):Int)<8:=aa
  have e9:max (((p/16:Nat):Int) - 1) 0=((p/16 - 1:Nat):Int):=aa
  have HN:Hid (dC p k=(p/16 - 1,p/16)):=if_pos h8
 all_goals
  generalize p%16=m at*
  generalize p/16=q at*
  go_enter Tryz.func208,Tryz.ntmps208
  go_wp2_with fail
  all_goals go_ret2
  all_goals exact⟨FZ (by rw[HN.out];first | done | rfl | (simp only;omega) | omega) (by rw[HN.out];first | done | rfl | (simp only;omega) | omega),rfl⟩
def Hf(w:World)(B o:Nat)(L:List Int):Prop:=∀k,k<16→w.cell? ⟨B,o+k,none⟩=some (.int .i64 (L.getD k 0))
def tP(k:Nat):Int:=aJ.getD (2*k) 0
def tU(k:Nat):Int:=aJ.getD (2*k+1) 0
def MX(L:List Int)(O:Option (List Int))(i:Nat):Int:=
 match O with
 | none=>L.getD i 0
 | some M=>if i<8 then(lW (tP (min i (15 - i))) (tU (min i (15 - i))) (M.getD (15 - i) 0) (L.getD i 0)).2 else(lW (tP (min i (15 - i))) (tU (min i (15 - i))) (L.getD i 0) (M.getD (15 - i) 0)).1
def ng(L:List Int)(O:Option (List Int))(g:List Int)(i:Nat):Int:=rnd (MX L O i) (atZ g i).toNat
theorem GY(g:List Int)(hg:g.length=4)(i:Nat)(hi:i<16):atZ g i=((atZ g i).toNat:Int)∧(atZ g i).toNat≤62:=by
 unfold atZ
 split
 ·rename_i h
  unfold inB at h
  rw[List.all_eq_true] at h
  have:=h (g.getD (i/4) 0) (by rw[List.getD,List.getElem?_eq_getElem aa];exact List.getElem_mem _)
  simp only[decide_eq_true_eq] at this
  omega
 ·exact⟨rfl,aq⟩
theorem BC(B o:Nat)(L g:List Int)(hg:g.length=4)(i:Nat)(hi:i<16)(w:World)(hL:Hf w B o L)(hB:B<w.heap.size):
  Calls Tryz.prog 210 #[.agg (iA dm),.pointer (some ⟨B,o,none⟩),.pointer none,.agg (iA g),.int .i64 (i:Int)] w (fun e w'=>e= .returned (.int .i64 (ng L none g i))∧Below w.heap.size w w'):=by
 have I:=ae w (.cells (iA dm) 178)
 have R:=ae (w.alloc (.cells (iA dm) 178)) (.cells (iA g) 191)
 have U:=L9 (w.alloc (.cells (iA dm) 178)) (.cells (iA g) 191)
 have hc:=hL i hi
 have J:=I.trans (R.mono I.size)
 have A2:=(J.cell (p:=⟨B,o+i,none⟩) hB).trans hc
 have A1:(Tryz.prog.info? 191).map (·.size)=some (iA g).size:=by rw[az,hg];kernel_rfl
 have HG:=MI (fun w=>zV g hg i hi w)
 obtain⟨j,A0⟩:=GY g hg i hi
 have HR:=MI (fun w=>jO (MX L none i) (atZ g i).toNat A0 w)
 have A3:¬(i:Int)<0:=aa
 have A4:¬16≤(i:Int):=aa
 have A5:(i:Int)<16:=aa
 have hm:MX L none i=L.getD i 0:=rfl
 rw[hm] at HR
 have HO:Hid (ng L none g i=rnd (L.getD i 0) (atZ g i).toNat):=rfl
 rw[j] at HG
 clear hc I R hm j A0
 generalize (atZ g i).toNat=p at*
 generalize L.getD i 0=v at*
 rw[World.size_alloc] at U
 go_enter Tryz.func210,Tryz.ntmps210
 go_upto_region 1 with fail
 generalize (w.alloc (.cells (iA dm) 178)).alloc (.cells (iA g) 191)=W at*
 go_wp2_with (first
  | (with_reducible refine MC 191 8 ?_;refine wpList_load_row rfl 191 (.tmp 8) rfl _ rfl 191 (iA g) (0,0) _ U Tryz.underlying191 rfl A1 ?_)
  | (go_at_call 192;refine(HG.out _).mono ?_;rintro e w1 ⟨rfl,I⟩)
  | (go_at_call 138;refine(HR.out _).mono ?_;rintro e w2 ⟨rfl,m,rfl⟩))
 go_ret
 exact⟨bg HO.out.symm,below_drewN (J.trans (I.mono J.size)) _⟩
theorem Bz(B o C q:Nat)(L M g:List Int)(hg:g.length=4)(i:Nat)(hi:i<16)(w:World)(hL:Hf w B o L)(hB:B<w.heap.size)(hM:Hf w C q M)(hC:C<w.heap.size):
  Calls Tryz.prog 210 #[.agg (iA dm),.pointer (some ⟨B,o,none⟩),.pointer (some ⟨C,q,none⟩),.agg (iA g),.int .i64 (i:Int)] w (fun e w'=>e= .returned (.int .i64 (ng L (some M) g i))∧Below w.heap.size w w'):=by
 have I:=ae w (.cells (iA dm) 178)
 have A1:=ae (w.alloc (.cells (iA dm) 178)) (.cells (iA g) 191)
 have j:=L9 (w.alloc (.cells (iA dm) 178)) (.cells (iA g) 191)
 have J:=I.trans (A1.mono I.size)
 have A2:=(J.cell (p:=⟨B,o+i,none⟩) hB).trans (hL i hi)
 have A3:=(J.cell (p:=⟨C,q+(15 - i),none⟩) hC).trans (hM (15 - i) aa)
 have B5:(Tryz.prog.info? 191).map (·.size)=some (iA g).size:=by rw[az,hg];kernel_rfl
 have HG:=MI (fun w=>zV g hg i hi w)
 obtain⟨A4,A5⟩:=GY g hg i hi
 have C0:¬(i:Int)<0:=aa
 have C1:¬16≤(i:Int):=aa
 have C2:(i:Int)<16:=aa
 have hj:IntKind.i64.wrap (15 - (i:Int))=((15 - i:Nat):Int):=by rw[show(15:Int) - (i:Int)=((15 - i:Nat):Int) by omega];exact IntWalk.i64_in _ aa
 have C3:((15 - i:Nat):Int)<16:=aa
 have HT:=MI (fun w=>AA (min i (15 - i)) aa w)
 have HR:=MI (fun v w=>jO v (atZ g i).toNat A5 w)
 rw[A4] at HG
 clear I A1 A4 A5
 rw[World.size_alloc] at j
 have HC:=MI J
 have A6:B<(((w.alloc (.cells (iA dm) 178)).alloc (.cells (iA g) 191))).heap.size:=Nat.lt_of_lt_of_le hB J.size
 have A7:C<(((w.alloc (.cells (iA dm) 178)).alloc (.cells (iA g) 191))).heap.size:=Nat.lt_of_lt_of_le hC J.size
 clear J
 by_cases h8:i<8
 rotate_right
 focus
  have B6:¬(i:Int)<8:=aa
  have R:min i (15 - i)=15 - i:=aa
  rw[R] at HT
  have HO:Hid (ng L (some M) g i=rnd (lW (tP (15 - i)) (tU (15 - i)) (L.getD i 0) (M.getD (15 - i) 0)).1 (atZ g i).toNat):=by
   unfold Hid ng MX
   simp only
   rw[if_neg h8,R]
  have hX:=MI (fun w=>wS (tP (15 - i)) (tU (15 - i)) (L.getD i 0) (M.getD (15 - i) 0) w)
  unfold Ap at hX
  have e0:aJ.getD (2*(15 - i)) 0=tP (15 - i):=rfl
  have e1:aJ.getD (2*(15 - i)+1) 0=tU (15 - i):=rfl
  rw[e0,e1] at HT
  clear e0 e1
  generalize (atZ g i).toNat=p at*
  generalize L.getD i 0=a at*
  generalize hn:(15 - i:Nat)=n at*
  generalize M.getD n 0=b at*
  generalize lW (tP n) (tU n) a b=Y at*
  generalize tP n=tp at*
  generalize tU n=tu at*
  obtain⟨y0,y1⟩:=Y
  simp only at HO hX
  have B7:¬(i:Int)≤(n:Int):=aa
  have C4:(n:Int)<(i:Int):=aa
  go_enter Tryz.func210,Tryz.ntmps210
  go_upto_region 1 with fail
  generalize (w.alloc (.cells (iA dm) 178)).alloc (.cells (iA g) 191)=W at*
  go_upto_region 8 with(first
   | (go_at_call 145;refine(HT.out _).mono ?_;rintro e w1 ⟨rfl,I⟩))
 rotate_right
 focus
  have B6:(i:Int)<8:=aa
  have R:min i (15 - i)=i:=aa
  rw[R] at HT
  have HO:Hid (ng L (some M) g i=rnd (lW (tP i) (tU i) (M.getD (15 - i) 0) (L.getD i 0)).2 (atZ g i).toNat):=by
   unfold Hid ng MX
   simp only
   rw[if_pos h8,R]
  have hX:=MI (fun w=>wS (tP i) (tU i) (M.getD (15 - i) 0) (L.getD i 0) w)
  unfold Ap at hX
  have e0:aJ.getD (2*i) 0=tP i:=rfl
  have e1:aJ.getD (2*i+1) 0=tU i:=rfl
  rw[e0,e1] at HT
  clear e0 e1
  generalize (atZ g i).toNat=p at*
  generalize L.getD i 0=a at*
  generalize hn:(15 - i:Nat)=n at*
  generalize M.getD n 0=b at*
  generalize lW (tP i) (tU i) b a=Y at*
  generalize tP i=tp at*
  generalize tU i=tu at*
  obtain⟨y0,y1⟩:=Y
  simp only at HO hX
  have B7:(i:Int)≤(n:Int):=aa
  go_enter Tryz.func210,Tryz.ntmps210
  go_upto_region 1 with fail
  generalize (w.alloc (.cells (iA dm) 178)).alloc (.cells (iA g) 191)=W at*
  go_upto_region 7 with(first
   | (go_at_call 145;refine(HT.out _).mono ?_;rintro e w1 ⟨rfl,I⟩))
 all_goals
  have A8:=ae w1 (.cells #[.int .i64 tp,.int .i64 tu] 171)
  have A9:=L9 w1 (.cells #[.int .i64 tp,.int .i64 tu] 171)
  have U:=I.trans (A8.mono I.size)
  have c3:=(U.cell (p:=⟨B,o+i,none⟩) A6).trans A2
  have d3:=(U.cell (p:=⟨C,q+n,none⟩) A7).trans A3
  have B0:=(U.block _ (L8 j)).trans j
  have B1:=MI (HC.out.trans (U.mono HC.out.size))
  obtain⟨t0,t1⟩:=bW A9
  clear I A8 U A9 A2 A3 A6 A7 HC j
  generalize w1.alloc (.cells #[.int .i64 tp,.int .i64 tu] 171)=W3 at*
  generalize w1.heap.size=tb at*
  have HZ:=MI B0
  clear B0
  go_region_with (go_at_call 231;refine(hX.out _).mono ?_;rintro e w5 ⟨rfl,B2⟩;have A0:Below W3.heap.size W3 w5:=((Below.refl _ W3).drew).trans B2;have A0:=MI A0;clear B2)
  all_goals (have B8:=(A0.out.block _ (L8 HZ.out)).trans HZ.out)
  all_goals (have B3:=MI (B1.out.trans (A0.out.mono B1.out.size)))
  all_goals go_wp2_with (first
   | (with_reducible refine MC 191 8 ?_;refine wpList_load_row rfl 191 (.tmp 8) rfl _ rfl 191 (iA g) (0,0) _ B8 Tryz.underlying191 rfl B5 ?_)
   | (go_at_call 192;refine(HG.out _).mono ?_;rintro e w6 ⟨rfl,B4⟩;have B9:=MI (B3.out.trans (B4.mono B3.out.size));clear B4)
   | (go_at_call 138;refine(HR.out _ _).mono ?_;rintro e w7 ⟨rfl,m,rfl⟩))
  all_goals go_ret
  all_goals exact⟨bg HO.out.symm,below_drewN B9.out _⟩
end Go.Proofs.YtnicjahcgnhogaaGreatDoor
