/- The statement, for every input, out of the walks. No condition. -/
import Derived.Test.YtnicjahcgnhogaaGreatDoorCards
import Derived.Test.YtnicjahcgnhogaaGreatDoorQ37
import Derived.Test.YtnicjahcgnhogaaGreatDoorQ35
import Derived.ChangeOld
import Derived.WideShapes
set_option linter.unusedVariables false
set_option linter.unusedSimpArgs false
set_option maxRecDepth 100000
set_option maxHeartbeats 8000000
namespace Go.Proofs.YtnicjahcgnhogaaGreatDoor.topTotal
open Go.ChangeShapes Go.WideShapes Go.ChangeAt Go.RowKit Go.Calli
theorem own:ownKnob Tryz.prog.godebug=none:=by kernel_rfl
theorem laidOut:laidOutB Tryz.prog=true:=by kernel_rfl
theorem walk(a0:Option Addr)(l0 c0:Nat)(cs1:Array Value)(a2:Option Addr)(l2 c2:Nat)(w:World)(g0:bG Tryz.prog w 63 [.slice a0 l0 c0])(g1:bG Tryz.prog w 24 cs1.toList)(g2:bG Tryz.prog w 25 [.slice a2 l2 c2]):
  Calls Tryz.prog 4 #[.slice a0 l0 c0,.agg cs1,.slice a2 l2 c2] w fun e w'=>e= .returned (.bool true)∧Below w.heap.size w w':=by
  obtain⟨hc,bs,hI⟩:=g0.ints Tryz.underlying63 Tryz.underlying5 (by kernel_rfl)
  obtain⟨ys,hl,e,-⟩:=g1.Aa Tryz.underlying24 (n:=3) (by kernel_rfl) (by kernel_rfl)
  obtain⟨as2,hA,hW⟩:=acts_of g2
  match ys,hl with
  | [V,S,R],_=>
   obtain rfl:cs1=#[.int .i64 V,.int .i64 S,.int .i64 R]:=Array.toList_inj.1 e
   exact yV Hq a0 l0 c0 bs hc V S R a2 l2 c2 as2 w hI hA hW
theorem lifted(os:Os)(started:os.Started)(H:Type)(enc:TypeId×Value→H):
  ReturnsInHanded {} Tryz.checked os 4 .any (fun w args=>(Rows.topTotalSpec.pre enc Tryz.prog Tryz.f4 Rows.topTotalRow.domain false w args∧laidMetH Tryz.prog Rows.topTotalRow.laid w)∧sizedMet enc Tryz.prog Tryz.f4 (OpenSpec.ofChange Rows.topTotalSpec) false w args) (Rows.topTotalSpec.post enc Tryz.prog Tryz.f4 false true false false):=by
 refine vO (C:=Tryz.checked) (X:=fun w _=>laidMetH Tryz.prog Rows.topTotalRow.laid w) own started (by kernel_rfl) Tryz.func4
  (ChangeSpec.witness_shaped (enc:=enc) (C:=Tryz.checked) (os:=os) (X:=fun w _=>laidMetH Tryz.prog Rows.topTotalRow.laid w) false (World.laidAll Tryz.prog os Rows.topTotalRow.laid) #[.slice none 0 0,.agg #[(),(),()],.slice none 0 0] 8 (World.laidAll_os _ _ _)
   (World.shaped_of_ZipB (by kernel_rfl) (by kernel_rfl)) (by kernel_rfl) (by kernel_rfl) (by kernel_rfl)
   (by rw[MakeChecks.laidMetH_plain _ _ _ (by kernel_rfl)];exact laidMet_laidAll _ (by kernel_rfl) (by kernel_rfl))) ?_
 intro W base args ds gs before hval0 hW hsh
 have hval: ∀(j:Nat) t v,Tryz.f4.params[j]? =some t→args[j]? =some v→Value.okWide Tryz.prog W .any base t v:=hval0
 have hW':=hW
 obtain⟨p,q,hA0,hV,rfl,hfz,hnd⟩:=hW
 have hA:DataW.TrodAll enc Tryz.prog W 0 (fun _=>true) true Tryz.f4.params.toList args.toList ds p:=hA0
 rw[Tryz.params4] at hA hval
 obtain⟨v0,vs0,d0,ds0,p0,q0,hargs,rfl,rfl,h0,r0⟩:=trodAll_cons hA
 obtain⟨v1,vs1,d1,ds1,p1,q1,rfl,rfl,rfl,h1,r1⟩:=trodAll_cons r0
 obtain⟨v2,vs2,d2,ds2,p2,q2,rfl,rfl,rfl,h2,r2⟩:=trodAll_cons r1
 obtain⟨rfl,rfl,rfl⟩:=trodAll_nil r2
 obtain rfl:args=#[v0,v1,v2]:=by cases args;simp_all
 obtain⟨rfl,rfl⟩:=trodVars_none hV
 obtain⟨a0,l0,c0,rfl⟩:=okWide_slice Tryz.underlying63 (hval 0 63 v0 rfl rfl)
 have lt0: ∀x ∈ p0,x.block<W.heap.size:=by obtain⟨m,hm⟩:=h0;exact DataW.trod_lt m _ _ _ hm
 obtain⟨cs1,rfl,_⟩:=okWide_struct Tryz.underlying24 (hval 1 24 v1 rfl rfl)
 have lt1: ∀x ∈ p1,x.block<W.heap.size:=by obtain⟨m,hm⟩:=h1;exact DataW.trod_lt m _ _ _ hm
 obtain⟨a2,l2,c2,rfl⟩:=okWide_slice Tryz.underlying25 (hval 2 25 v2 rfl rfl)
 have lt2: ∀x ∈ p2,x.block<W.heap.size:=by obtain⟨m,hm⟩:=h2;exact DataW.trod_lt m _ _ _ hm
 clear hA0 hval0
 refine(walk a0 l0 c0 cs1 a2 l2 c2 W (bG.yA h0) (bG.yA h1) (bG.yA h2)).mono fun e W' ⟨he,bel⟩=>?_
 subst he
 exact⟨_,rfl,_,_,_,[],_,[],hW',trodAll_mk1 (shut_bool Tryz.underlying4 _),(trodAll_cons_mk (Below.trod laidOut (by kernel_rfl) (of_decide_eq_true (by kernel_rfl)) h0 bel lt0) (trodAll_cons_mk (Below.trod laidOut (by kernel_rfl) (of_decide_eq_true (by kernel_rfl)) h1 bel lt1) (trodAll_cons_mk (Below.trod laidOut (by kernel_rfl) (of_decide_eq_true (by kernel_rfl)) h2 bel lt2) trodAll_mk0))),rfl,bel.frame _,fun h=>by cases h⟩
theorem over:Rows.topTotalRow.holds Tryz.pinned (OpenSpec.ofChange Rows.topTotalSpec):=
 OpenClaim.holds_of_wide 4 Tryz.f4 rfl rfl rfl rfl rfl rfl rfl ⟨rfl,rfl,rfl,rfl,rfl⟩ rfl rfl rfl rfl rfl (by kernel_rfl) Tryz.func4 (by kernel_rfl)
  (of_decide_eq_true (by kernel_rfl)) (by unfold Func.isWrapper;first | (rw[if_pos (by decide+kernel)];kernel_rfl) | (rw[if_neg (by decide+kernel)];exact⟨rfl,rfl⟩))
  (fun os started H enc _=>lifted os started H enc)
theorem proved:Rows.TopTotalCardSaid:=
 Claim7.holds_tied_plain_at .later [] [.data,.pinned] true (true,"822556fb8703280dbe67f3979445d832e2c8d6b37da32da2f3a32bcfdefb0338") false over (fun _ h=>by cases h) (by kernel_rfl) (fun _ h=>by cases h) topTotal_row_tie rfl ⟨rfl,rfl⟩ (by kernel_rfl) rfl
  (fun f fn hf hfn=>by
   obtain rfl:f=4:=Option.some.inj ((show Tryz.prog.funcNamed Rows.topTotalRow.func=some 4 by kernel_rfl).symm.trans hf) |>.symm
   obtain rfl:fn=Tryz.f4:=(Option.some.inj (Tryz.func4.symm.trans hfn)).symm
   exact⟨by kernel_rfl,fun j t ht=>by
    rw[Tryz.params4] at ht
    have hm:t ∈ [63,24,25]:=by simpa using Array.mem_of_getElem? ht
    have hall:([63,24,25].all fun u=>!Tryz.prog.wantsStandIn u)=true:=by kernel_rfl
    exact(show Tryz.prog.wantsStandIn t=false by simpa using List.all_eq_true.1 hall t hm)⟩)
  (by kernel_rfl)
#print axioms proved
end Go.Proofs.YtnicjahcgnhogaaGreatDoor.topTotal
