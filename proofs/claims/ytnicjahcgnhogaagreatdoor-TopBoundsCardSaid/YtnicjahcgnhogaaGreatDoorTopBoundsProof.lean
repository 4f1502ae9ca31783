/- The statement, for every input, out of the walks. No condition. -/
import Derived.Test.YtnicjahcgnhogaaGreatDoorCards
import Derived.Test.YtnicjahcgnhogaaGreatDoorU37
import Derived.Test.YtnicjahcgnhogaaGreatDoorU38
set_option linter.unusedVariables false
set_option linter.unusedSimpArgs false
set_option maxRecDepth 100000
set_option maxHeartbeats 8000000
namespace Go.Proofs.YtnicjahcgnhogaaGreatDoor.topBounds
open Go.ChangeShapes Go.WideShapes Go.ChangeAt Go.RowKit Go.Calli
theorem own:ownKnob Tryz.prog.godebug=none:=af
theorem laidOut:laidOutB Tryz.prog=true:=af
theorem walk(a0:Int)(a1:Option Addr)(l1 c1:Nat)(cs2:Array Value)(a3:Option Addr)(l3 c3:Nat)(a4:ByteArray)(a5:Int)(w:World)(g0:bG Tryz.prog w 3 [.int .i64 a0])(g1:bG Tryz.prog w 22 [.slice a1 l1 c1])(g2:bG Tryz.prog w 24 cs2.toList)(g3:bG Tryz.prog w 25 [.slice a3 l3 c3])(g4:bG Tryz.prog w 9 [.string a4])(g5:bG Tryz.prog w 3 [.int .i64 a5]):
  Calls Tryz.prog 3 #[.int .i64 a0,.slice a1 l1 c1,.agg cs2,.slice a3 l3 c3,.string a4,.int .i64 a5] w fun e w'=>e= .returned (.bool true)∧Below w.heap.size w w':=by
   obtain⟨L,hL,I⟩:=srs_of g1
   obtain⟨ys,hl,e,-⟩:=g2.BU Tryz.underlying24 (n:=3) af af
   obtain⟨as3,hA,hW⟩:=acts_of g3
   match ys,hl with
   | [V,S,R],_=>
    obtain rfl:cs2=#[.int .i64 V,.int .i64 S,.int .i64 R]:=Array.toList_inj.1 e
    exact zt a0 a1 l1 c1 L V S R a3 l3 c3 as3 a4 a5 w hL I hA hW
theorem lifted(os:Os)(started:os.Started)(H:Type)(enc:TypeId×Value→H):
  ReturnsInHanded {} Tryz.checked os 3 .any (fun w args=>(Rows.topBoundsSpec.pre enc Tryz.prog Tryz.f3 Rows.topBoundsRow.domain false w args∧laidMetH Tryz.prog Rows.topBoundsRow.laid w)∧sizedMet enc Tryz.prog Tryz.f3 (OpenSpec.ofChange Rows.topBoundsSpec) false w args) (Rows.topBoundsSpec.post enc Tryz.prog Tryz.f3 false true false false):=by
 refine xA (C:=Tryz.checked) (X:=fun w _=>laidMetH Tryz.prog Rows.topBoundsRow.laid w) own started af Tryz.func3
  (ChangeSpec.witness_shaped (enc:=enc) (C:=Tryz.checked) (os:=os) (X:=fun w _=>laidMetH Tryz.prog Rows.topBoundsRow.laid w) false (World.laidAll Tryz.prog os Rows.topBoundsRow.laid) #[(),.slice none 0 0,.agg #[(),(),()],.slice none 0 0,.string ByteArray.empty,()] 8 (World.laidAll_os _ _ _)
   (World.shaped_of_ZipB af af) af af af
   (by rw[MakeChecks.laidMetH_plain _ _ _ af];exact laidMet_laidAll _ af af)) ?_
 intro W base args ds gs before J hW A0
 have I: ∀(j:Nat) t v,Tryz.f3.params[j]? =some t→args[j]? =some v→Value.okWide Tryz.prog W .any base t v:=J
 have U:=hW
 obtain⟨p,q,R,hV,rfl,A1,A2⟩:=hW
 have hA:DataW.TrodAll enc Tryz.prog W 0 (fun _=>true) true Tryz.f3.params.toList args.toList ds p:=R
 rw[Tryz.params3] at hA I
 obtain⟨v0,vs0,d0,ds0,p0,q0,o,rfl,rfl,h0,r0⟩:=trodAll_cons hA
 obtain⟨v1,vs1,d1,ds1,p1,q1,rfl,rfl,rfl,h1,r1⟩:=trodAll_cons r0
 obtain⟨v2,vs2,d2,ds2,p2,q2,rfl,rfl,rfl,h2,r2⟩:=trodAll_cons r1
 obtain⟨v3,vs3,d3,ds3,p3,q3,rfl,rfl,rfl,h3,r3⟩:=trodAll_cons r2
 obtain⟨v4,vs4,d4,ds4,p4,q4,rfl,rfl,rfl,h4,r4⟩:=trodAll_cons r3
 obtain⟨v5,vs5,d5,ds5,p5,q5,rfl,rfl,rfl,h5,r5⟩:=trodAll_cons r4
 obtain⟨rfl,rfl,rfl⟩:=trodAll_nil r5
 obtain rfl:args=#[v0,v1,v2,v3,v4,v5]:=by cases args;simp_all
 obtain⟨rfl,rfl⟩:=trodVars_none hV
 obtain⟨a0,rfl⟩:=okWide_int Tryz.underlying3 (I 0 3 v0 rfl rfl)
 have lt0: ∀x ∈ p0,x.block<W.heap.size:=by obtain⟨m,hm⟩:=h0;exact DataW.trod_lt m _ _ _ hm
 obtain⟨a1,l1,c1,rfl⟩:=okWide_slice Tryz.underlying22 (I 1 22 v1 rfl rfl)
 have lt1: ∀x ∈ p1,x.block<W.heap.size:=by obtain⟨m,hm⟩:=h1;exact DataW.trod_lt m _ _ _ hm
 obtain⟨cs2,rfl,_⟩:=okWide_struct Tryz.underlying24 (I 2 24 v2 rfl rfl)
 have lt2: ∀x ∈ p2,x.block<W.heap.size:=by obtain⟨m,hm⟩:=h2;exact DataW.trod_lt m _ _ _ hm
 obtain⟨a3,l3,c3,rfl⟩:=okWide_slice Tryz.underlying25 (I 3 25 v3 rfl rfl)
 have lt3: ∀x ∈ p3,x.block<W.heap.size:=by obtain⟨m,hm⟩:=h3;exact DataW.trod_lt m _ _ _ hm
 obtain⟨a4,rfl⟩:=okWide_string Tryz.underlying9 (I 4 9 v4 rfl rfl)
 have lt4: ∀x ∈ p4,x.block<W.heap.size:=by obtain⟨m,hm⟩:=h4;exact DataW.trod_lt m _ _ _ hm
 obtain⟨a5,rfl⟩:=okWide_int Tryz.underlying3 (I 5 3 v5 rfl rfl)
 have lt5: ∀x ∈ p5,x.block<W.heap.size:=by obtain⟨m,hm⟩:=h5;exact DataW.trod_lt m _ _ _ hm
 clear R J
 refine(walk a0 a1 l1 c1 cs2 a3 l3 c3 a4 a5 W (bG.oZ h0) (bG.oZ h1) (bG.oZ h2) (bG.oZ h3) (bG.oZ h4) (bG.oZ h5)).mono fun e W' ⟨he,bel⟩=>?_
 subst he
 exact⟨_,rfl,_,_,_,[],_,[],U,trodAll_mk1 (shut_bool Tryz.underlying4 _),(trodAll_cons_mk (Below.trod laidOut af (of_decide_eq_true af) h0 bel lt0) (trodAll_cons_mk (Below.trod laidOut af (of_decide_eq_true af) h1 bel lt1) (trodAll_cons_mk (Below.trod laidOut af (of_decide_eq_true af) h2 bel lt2) (trodAll_cons_mk (Below.trod laidOut af (of_decide_eq_true af) h3 bel lt3) (trodAll_cons_mk (Below.trod laidOut af (of_decide_eq_true af) h4 bel lt4) (trodAll_cons_mk (Below.trod laidOut af (of_decide_eq_true af) h5 bel lt5) trodAll_mk0)))))),rfl,bel.frame _,fun h=>by cases h⟩
theorem over:Rows.topBoundsRow.holds Tryz.pinned (OpenSpec.ofChange Rows.topBoundsSpec):=
 OpenClaim.holds_of_wide 3 Tryz.f3 rfl rfl rfl rfl rfl rfl rfl ⟨rfl,rfl,rfl,rfl,rfl⟩ rfl rfl rfl rfl rfl af Tryz.func3 af
  (of_decide_eq_true af) (by unfold Func.isWrapper;first | (rw[if_pos (by decide+kernel)];kernel_rfl) | (rw[if_neg (by decide+kernel)];exact⟨rfl,rfl⟩))
  (fun os started H enc _=>lifted os started H enc)
theorem proved:Rows.TopBoundsCardSaid:=
 Claim7.holds_tied_plain_at .later [] [.data,.pinned] true (true,"822556fb8703280dbe67f3979445d832e2c8d6b37da32da2f3a32bcfdefb0338") false over (fun _ h=>by cases h) af (fun _ h=>by cases h) topBounds_row_tie rfl ⟨rfl,rfl⟩ af rfl
  (fun f fn hf J=>by
   obtain rfl:f=3:=Option.some.inj ((show Tryz.prog.funcNamed Rows.topBoundsRow.func=some 3 by kernel_rfl).symm.trans hf) |>.symm
   obtain rfl:fn=Tryz.f3:=(Option.some.inj (Tryz.func3.symm.trans J)).symm
   exact⟨af,fun j t ht=>by
    rw[Tryz.params3] at ht
    have hm:t ∈ [3,22,24,25,9,3]:=by simpa using Array.mem_of_getElem? ht
    have I:([3,22,24,25,9,3].all fun u=>!Tryz.prog.wantsStandIn u)=true:=af
    exact(show Tryz.prog.wantsStandIn t=false by simpa using List.all_eq_true.1 I t hm)⟩)
  af
#print axioms proved
end Go.Proofs.YtnicjahcgnhogaaGreatDoor.topBounds
