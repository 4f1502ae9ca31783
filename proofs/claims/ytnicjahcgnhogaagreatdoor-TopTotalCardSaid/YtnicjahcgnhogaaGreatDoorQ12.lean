/- Part 13 of the walk: contracts of the program's functions, each for every input. No condition. -/
import Derived.Test.YtnicjahcgnhogaaGreatDoorQ09
import Derived.Test.YtnicjahcgnhogaaGreatDoorQ11
import Derived.StillTailTactics
import Derived.Deep.RegionWith
import Derived.Test.YtnicjahcgnhogaaGreatDoorQ03
import Derived.Deep.RegionHeld3
set_option linter.unusedVariables false
set_option linter.unusedSimpArgs false
set_option maxRecDepth 100000
set_option maxHeartbeats 8000000
namespace Go.Proofs.YtnicjahcgnhogaaGreatDoor
open Go Go.RowKit Go.Calli
attribute [local irreducible] wpStill wpAnyH wpAnyS wpList Code.wp
structure Fx where
 fb:Nat
 A:Cch.Ad
 n:Nat
 D:Bd
abbrev Own:=Nat→Nat
def Fx.ad(X:Fx)(σ:Own):Cch.Ad:={X.A with x:=fun k=>σ k≠0}
structure Fe where
 c:Cch.Ca
 fr:Int
 lo:Int
structure aK(X:Fx)(σ:Own)(w:World)(B:Bk)(K:Nat)(f:Fe):Prop where
 row:w.heap[X.fb]? =some (.cells #[.pointer (some ⟨X.A.cb,0,none⟩),.pointer (some ⟨X.D.bb,0,none⟩),.int .i64 f.fr,.int .i64 f.lo] 102 (0,0))
 ca:Cch.gZ (X.ad σ) w X.n f.c
 bk:jX X.D w B
 tb: ∀k,X.D.T k→σ k=1
 tf:σ X.fb=2
 n1:X.n≤1024
 cok:Cch.COk f.c
 lim:Cch.kS (96*K) f.c
 img:f.c.d.img=B.img
def FF(σ:Own)(k:Nat):Prop:=σ k=0∨σ k=2
theorem aK.rU{X:Fx}{σ:Own}{w:World}{B:Bk}{K:Nat}{f:Fe}(h:aK X σ w B K f): ∀k,σ k≠0→k<w.heap.size:=fun k hk=>(h.ca.away.2 k hk).1
theorem aK.s0{X:Fx}{σ:Own}{w:World}{B:Bk}{K:Nat}{f:Fe}(h:aK X σ w B K f): ∀k,X.A.S k→σ k=0:=fun k hk=>by
 apply Classical.byContradiction
 intro hn
 exact(h.ca.away.2 k hn).2.1 hk
theorem aK.kept{X:Fx}{σ:Own}{w w':World}{B:Bk}{K:Nat}{f:Fe}(h:aK X σ w B K f)(hk:af (fun k=>3≤σ k) w w'):aK X σ w' B K f:=
 ⟨hk.heap h.row (by show ¬3≤σ X.fb;rw[h.tf];omega),h.ca.En (hk.mono fun k _ h=>by show σ k≠0;omega),h.bk.kept hk (fun k hT=>by rw[h.tb k hT];omega),h.tb,h.tf,h.n1,h.cok,h.lim,h.img⟩
theorem aK.ah{X:Fx}{σ:Own}{w w':World}{B:Bk}{K:Nat}{f:Fe}(h:aK X σ w B K f)(hb:Below w.heap.size w w'):aK X σ w' B K f:=h.kept (af.au hb Me)
theorem aK.own{X:Fx}{σ σ':Own}{w w':World}{B:Bk}{K:Nat}{f:Fe}(h:aK X σ w B K f)(hk:af (fun k=>3≤σ k) w w')(he: ∀k,k<w.heap.size→σ' k=σ k)(hs: ∀k,σ' k≠0→k<w'.heap.size):aK X σ' w' B K f:=by
 have h':=h.kept hk
 refine⟨h'.row,?_,h'.bk,fun k hT=>?_,?_,h.n1,h.cok,h.lim,h.img⟩
 ·exact h.ca.setX h.cok (hk.mono fun k _ h=>by show σ k≠0;omega) (fun k hx=>⟨hs k hx,by
   by_cases hlt:k<w.heap.size
   ·left;show σ k≠0;rw[←he k hlt];exact hx
   ·right;omega⟩)
 ·have:=h.tb k hT
  rw[he k (h.rU k (by omega))];exact this
 ·have:=h.tf
  rw[he _ (h.rU _ (by omega))];exact this
theorem jI{w:World}{b T:Nat}{u0 u1 u2 u3:Value}(h:w.heap[b]? =some (.cells #[u0,u1,u2,u3] T (0,0))):w.cell? ⟨b,0,none⟩=some u0∧w.cell? ⟨b,1,none⟩=some u1∧w.cell? ⟨b,2,none⟩=some u2∧w.cell? ⟨b,3,none⟩=some u3∧w.frozen? ⟨b,2,none⟩=false∧w.frozen? ⟨b,3,none⟩=false:=
 ⟨LY h rfl,LY h rfl,LY h rfl,LY h rfl,L6 h,L6 h⟩
section
variable (X:Fx) (σ:Own) (B:Bk) (K:Nat) (f:Fe) (w:World) (h:aK X σ w B K f)
include h
theorem og:Calls Tryz.prog 70 #[.pointer (some ⟨X.fb,0,none⟩)] w (fun e w'=>e= .returned (.bool false)∧w=w'):=by
 obtain⟨c0,c1,c2,c3,f2,f3⟩:=jI h.row
 clear h
 go_enter Tryz.func70,Tryz.ntmps70
 go_wp2_with fail
 go_ret
 exact⟨rfl,rfl⟩
theorem jf:Calls Tryz.prog 32 #[.pointer (some ⟨X.fb,0,none⟩)] w (fun e w'=>e= .returned (.pointer (some ⟨X.D.bb,0,none⟩))∧w=w'):=by
 have hN:=og X σ B K f w h
 obtain⟨c0,c1,c2,c3,f2,f3⟩:=jI h.row
 clear h
 go_enter Tryz.func32,Tryz.ntmps32
 go_wp2_with (go_at_call 70;refine hN.mono ?_;rintro e w' ⟨rfl,rfl⟩)
 go_ret
 exact⟨rfl,rfl⟩
theorem nK:Calls Tryz.prog 36 #[.pointer (some ⟨X.fb,0,none⟩)] w (fun e w'=>e= .returned (.int .i64 f.fr)∧w=w'):=by
 have hN:=og X σ B K f w h
 obtain⟨c0,c1,c2,c3,f2,f3⟩:=jI h.row
 clear h
 go_enter Tryz.func36,Tryz.ntmps36
 go_wp2_with (go_at_call 70;refine hN.mono ?_;rintro e w' ⟨rfl,rfl⟩)
 go_ret
 exact⟨rfl,rfl⟩
end
end Go.Proofs.YtnicjahcgnhogaaGreatDoor
namespace Go.Proofs.YtnicjahcgnhogaaGreatDoor
open Go Go.RowKit Go.Calli
attribute [local irreducible] wpStill wpAnyH wpAnyS wpList Code.wp
theorem aK.span{X:Fx}{σ:Own}{w w':World}{B:Bk}{K:Nat}{f:Fe}(h:aK X σ w B K f)(hk:af (X.ad σ).S w w'){c:Cch.Ca}(hca:Cch.gZ (X.ad σ) w' X.n c)(hc:Cch.COk c)(hl:Cch.kS (96*(K+1)) c)(hi:c.d.img=B.img):aK X σ w' B (K+1) {f with c:=c}:=by
 exact⟨hk.heap h.row (fun e=>by have h3:=h.s0 _ e;rw[h.tf] at h3;cases h3),hca,h.bk.kept hk (fun k hT e=>by have h3:=h.s0 k e;rw[h.tb k hT] at h3;cases h3),h.tb,h.tf,h.n1,hc,hl,hi⟩
theorem Fq: ∀(k:Nat)(c:Cch.Ca)(at_ n:Nat)(out:List Int),(at_+n:Int)≤9223372036854775807→Cch.COk c→n≤k→(Cch.fV k c at_ n out).e=0→(Cch.fV k c at_ n out).b.length=out.length+n:=by
 intro k
 induction k with
 | zero=>intro c at_ n out hb hc hn he;simp[Cch.fV];omega
 | succ k ih=>
  intro c at_ n out hb hc hn he
  have hp:=Cch.um hc ((at_/64:Nat):Int) (WalkArith.wf_i64 (by omega))
  simp only[Cch.fV] at he⊢
  split at he
  ·rename_i h0
   rw[if_pos h0];simp;omega
  ·rename_i h0
   rw[if_neg h0]
   split at he
   ·rename_i h1;exact absurd he h1
   ·rename_i h1
    rw[if_neg h1]
    have h1':(Cch.fO c ((at_/64:Nat):Int)).e=0:=by simpa using h1
    rw[ih _ _ _ _ (by omega) hp.1 (by omega) he,List.length_append,List.length_take,List.length_drop]
    have hl:=hp.2.1 h1'
    omega
def Ext(σ σ':Own)(n:Nat):Prop:=∀k,k<n→σ' k=σ k
theorem Ext.refl(σ:Own)(n:Nat):Ext σ σ n:=fun _ _=>rfl
theorem Ext.trans{a b c:Own}{n m:Nat}(h:Ext a b n)(k:Ext b c m)(hm:n≤m):Ext a c n:=fun i hi=>(k i (by omega)).trans (h i hi)
def fD(σ:Own)(b t:Nat):Own:=fun k=>if k=b then t else σ k
theorem dG(σ:Own)(b t:Nat):fD σ b t b=t:=if_pos rfl
theorem jF(σ:Own){b k:Nat}(t:Nat)(h:k≠b):fD σ b t k=σ k:=if_neg h
theorem eH(σ:Own){b n:Nat}(t:Nat)(h:n≤b):Ext σ (fD σ b t) n:=fun k hk=>jF σ t (by omega)
theorem aK.fD{X:Fx}{σ:Own}{w w':World}{B:Bk}{K:Nat}{f:Fe}(h:aK X σ w B K f)(hb:Below w.heap.size w w'){b:Nat}(t:Nat)(h0:w.heap.size≤b)(h1:b<w'.heap.size):aK X (fD σ b t) w' B K f:=
 h.own (af.au hb Me) (fun k hk=>jF σ t (by omega)) (fun k hk=>by
  by_cases e:k=b
  ·subst e;exact h1
  ·rw[jF σ t e] at hk;have:=h.rU k hk;have:=hb.size;omega)
theorem af.ofFF{σ:Own}{w w':World}{b t:Nat}(h:af (FF (fD σ b t)) w w')(ht:3≤t){w0:World}(hb:Below w0.heap.size w0 w)(h0:w0.heap.size≤b):af (FF σ) w0 w':=
 (af.au hb Me).andThen h (fun i hi e=>by
  unfold FF at e⊢
  rwa [jF σ t (by omega)] at e)
def FopP(X:Fx)(σ:Own)(B:Bk)(K:Nat)(f:Fe)(m:Mt)(ch blk at_:Nat)(w:World)(e:Ending)(w':World):Prop:=∃(z:List Int)(ao:Option Addr)(mm c:Nat)(ts:List (Int×Int))(err:Int)(R:Cch.PR)(σ':Own),Cch.fV B.size f.c at_ B.size []=R∧e= .returned (.tuple #[.agg (frC z (.slice ao mm c)),.int .i64 err])∧z.length=28∧bH ed 2 (0,0) w' ao mm ts∧(∀a,ao=some a→w.heap.size≤a.block)∧af (FF σ) w w'∧Ext σ σ' w.heap.size∧aK X σ' w' B (K+1) {f with c:=R.c}∧(R.e≠0→err≠0)∧(R.e=0→fH R.b=(aZ B.img (m.sums+4*m.num ch blk) 4:Nat)→(frX R.b.length R.b).e=0→fC (frX R.b.length R.b).z (frX R.b.length R.b).t=true→z=(frX R.b.length R.b).z∧ts=(frX R.b.length R.b).t∧err=0)
theorem GI(X:Fx)(σ:Own)(B:Bk)(K:Nat)(hK:K≤500000)(f:Fe)(i ch blk:Nat)(hi:i<B.dir.length)(hc:ch<(B.dir.getD i m0).ch)(hb:blk<bu (B.dir.getD i m0).len)(at_:Nat)(hat:at_+B.size≤B.img.length)(w:World)(h:aK X σ w B K f):Calls Tryz.prog 252 #[.pointer (some ⟨X.fb,0,none⟩),.int .i64 i,.int .i64 ch,.int .i64 blk,.int .i64 at_] w (FopP X σ B K f (B.dir.getD i m0) ch blk at_ w):=by
 have hba:=ae w (.cells F0 196)
 have hz:=L9 w (.cells F0 196)
 have h1:=h.fD hba (b:=w.heap.size) 3 Me (by simp)
 have HE:=MI (eH σ (b:=w.heap.size) 3 Me)
 have HA:=MI hba
 have HZ:=MI hz
 have hiz:(Tryz.prog.info? 196).map (·.size)=some F0.size:=by kernel_rfl
 have hbu:Tryz.prog.built 196 []=some F0:=by kernel_rfl
 have hzn:(zz [] [] [] []).length=28:=by kernel_rfl
 have hF1:F0.all (·.oneCell')=true:=dC _ none 0 0
 have hs0:=h.bk.ok.s0;have hs1:=h.bk.ok.s1;have hi1:=h.bk.ok.i1
 have himg:=h.img
 have HOp:=MI (fun bo n cap bs (hn:n≤1000) w hbs hbb (h:jX X.D w B)=>open_any X.D B i ch blk hi hc hb bo n cap bs hn w hbs hbb h)
 unfold LD at HOp
 generalize B.dir.getD i m0=m at*
 have hpg:(B.img.length:Int)≤(f.c.d.pages:Int)*64:=by unfold Dskp.Dk.pages;rw[himg];omega
 have hs1':¬(X.ad (fD σ w.heap.size 3)).S w.heap.size:=fun e=>by have:=h1.s0 _ e;rw[dG] at this;cases this
 have hsm:=dG σ w.heap.size 3
 have HFF:=MI (fun w1 w2 (h:af (FF (fD σ w.heap.size 3)) w1 w2)(hb:Below w.heap.size w w1)=>af.ofFF h (by omega) hb Me)
 generalize fD σ w.heap.size 3=τ at*
 have hlen:f.c.d.img.length=B.img.length:=by rw[himg]
 have hSp:=MI (fun w h=>Cch.Fp (X.ad τ) X.n h1.n1 f.c (96*K) (by omega) h1.cok h1.lim (by omega) at_ B.size (by omega) (by omega) w h)
 have hso:=Cch.IW B.size f.c at_ B.size [] (96*K) (by omega) h1.cok h1.lim
 unfold Cch.LM at hSp
 have hbl:=Fq B.size f.c at_ B.size [] (by omega) h1.cok Me
 generalize hRR:Cch.fV B.size f.c at_ B.size []=R at*
 obtain⟨s1,s2,s3,s4,s5⟩:=hso
 have hS2:=MI (s2.mono (show 96*K+B.size≤96*(K+1) by omega))
 have hS1:=MI s1
 have hS4:=MI (s4.trans himg)
 have HH:=MI h1
 have HBn:=MI (fun w h=>xq (xC X.D B w h))
 obtain⟨c0,c1,c2,c3,f2,f3⟩:=jI h1.row
 have HRR:=MI hRR
 have HT:=MI hsm
 clear h h1 hba hz hlen hpg s1 s2 s3 s4 s5 himg hRR hsm
 go_enter Tryz.func252,Tryz.ntmps252
 go_upto_region 1 with fail
 rw[←vC]
 have hw0:w.heap.size<(w.alloc (.cells F0 196)).heap.size:=by simp
 generalize w.alloc (.cells F0 196)=W at*
 have hbd:Below W.heap.size W W.drew:=MB.drew
 have HH2:=MI (HH.out.ah hbd)
 clear hbd
 go_region_with (first
  | (go_at_call 78;refine(HBn.out _ HH2.out.bk).mono ?_;rintro e w' ⟨rfl,rfl⟩)
  | (go_at_call 259;refine(hSp.out _ HH2.out.ca).mono ?_;rintro e w1 ⟨ro,rc,rfl,hrc,hca1,hint,hfr1,hk1⟩))
 all_goals (have hk1':=af.au (S:=(X.ad τ).S) (show Below W.heap.size W W.drew from MB.drew) Me)
 all_goals (have HK1:=MI ((hk1'.trans hk1).mono (S':=FF τ) (fun k _ e=>.inl (HH.out.s0 k e))))
 all_goals (have HF1:=MI (HH2.out.span hk1 hca1 hS1.out hS2.out hS4.out))
 all_goals (have hz1:=hk1.heap (show W.drew.heap[w.heap.size]? =_ from HZ.out) hs1')
 all_goals (have hw1:=L8 hz1)
 all_goals (obtain⟨c0,c1,c2,c3,f2,f3⟩:=jI HF1.out.row)
 all_goals (have HI1:=MI hint)
 all_goals (have HKF:=MI (HFF.out _ _ HK1.out HA.out))
 all_goals (have hrb: ∀a,ro=some a→w.heap.size<a.block:=fun a ha=>Nat.lt_of_lt_of_le hw0 (hfr1 a ha))
 all_goals (clear hk1 hk1' hca1 HH HH2 HZ hSp hint hfr1)
 all_goals
  by_cases hRe:R.e=0
  ·have hbl2:=hbl hRe
   have HE0:=MI hRe
   simp only[List.length_nil,Nat.zero_add] at hbl2
   have hbb: ∀a,ro=some a→a.block<w1.heap.size:=HI1.out.under (by omega)
   have HO2:=MI (HOp.out ro R.b.length rc R.b (by omega) w1 HI1.out hbb HF1.out.bk)
   clear hbl2 hbl HOp HI1 hbb
   go_wp2_with (first
    | (go_at_call 260;refine HO2.out.mono ?_;rintro e w2 ⟨hb2,z,ao,mm,c,ts,err,rfl,hzl,hT,hfr,hgood⟩;have hz2:=bT hz1 hb2 hw1;have hT2:=MI hT;have HFr:=MI hfr;have hw2:=Nat.lt_of_lt_of_le hw1 hb2.size;have HG:=MI hgood;have HF2:=MI (HF1.out.ah hb2);have HK2:=MI (HKF.out.below hb2 (Nat.le_of_lt hw1));have hiF:(Tryz.prog.info? 196).map (·.size)=some (frC z (.slice ao mm c)).size:=(by rw[bC _ _ hzl];kernel_rfl);have hsF:F0.size=(frC z (.slice ao mm c)).size:=(by rw[bC _ _ hzl];kernel_rfl);clear hgood hT hb2 hz1 hfr)
    | (with_reducible refine MF 196 10 41 ?_;refine wpList_store_row rfl 196 (.tmp 10) (.tmp 41) rfl _ (frC z (.slice ao mm c)) rfl rfl 196 F0 hz2 hiF hsF (dC _ _ _ _) ?_))
   exact bodyPost_ret (results_cell_tmp (fn:=Tryz.f252) (p:=10) (q:=11) (ty:=196) rfl _ _ _ _ _ _ _ rfl (setRow_heap _ _ _ _ _ _ hz2) Tryz.underlying196 rfl hiF) rfl ⟨z,ao,mm,c,ts,err,R,τ,HRR.out,rfl,hzl,hT2.out.kept (aJ _ _ _) (fun a ha e=>by have:=HFr.out a ha;omega),(fun a ha=>by have:=HFr.out a ha;omega),HK2.out.andThen (aJ _ _ _) (fun i hi e=>by omega),HE.out,HF2.out.kept ((aJ _ _ _).mono (fun k _ e=>by rw[e];exact Nat.le_of_eq HT.out.symm)),fun h=>absurd HE0.out h,fun _ h1 h2 h3=>HG.out h1 h2 h3⟩
  ·have q1:(R.e==0)=false:=by simpa using hRe
   have q2:(R.e !=0)=true:=by simpa using hRe
   have HR0:=MI hRe
   clear hRe hbl HOp
   go_wp2_with (first
    | (refine aV rfl 196 #[] rfl [] ?hl F0 hbu ?_)
    | (with_reducible refine MF 196 10 30 ?_;refine wpList_store_row rfl 196 (.tmp 10) (.tmp 30) rfl _ F0 rfl rfl 196 F0 hz1 hiz rfl hF1 ?_))
   exact bodyPost_ret (results_cell_tmp (fn:=Tryz.f252) (p:=10) (q:=11) (ty:=196) rfl _ _ _ _ _ _ _ rfl (setRow_heap _ _ _ _ _ _ hz1) Tryz.underlying196 rfl hiz) rfl ⟨zz [] [] [] [],none,0,0,[],R.e,R,τ,HRR.out,rfl,hzn,bH.nil _ _ _ _ _,(fun a ha=>by cases ha),HKF.out.andThen (aJ _ _ _) (fun i hi e=>by omega),HE.out,HF1.out.kept ((aJ _ _ _).mono (fun k _ e=>by rw[e];exact Nat.le_of_eq HT.out.symm)),fun _=>HR0.out,fun h=>absurd h HR0.out⟩
structure FeB(K:Nat)(f:Fe):Prop where
 f0:0≤f.fr
 f1:f.fr≤K
 l0:0≤f.lo
 l1:f.lo≤K
theorem aC(w:World)(b o:Nat)(v:Value):af (fun k=>k=b) w (w.setCell ⟨b,o,none⟩ v):=(af.refl (fun k=>k=b) w).setCell (p:=⟨b,o,none⟩) (.inr rfl) v
theorem aK.setFr{X:Fx}{σ:Own}{w:World}{B:Bk}{K:Nat}{f:Fe}(h:aK X σ w B K f)(x:Int):aK X σ (w.setCell ⟨X.fb,2,none⟩ (.int .i64 x)) B K {f with fr:=x}:=by
 have hk:af (fun k=>k=X.fb) w (w.setCell ⟨X.fb,2,none⟩ (.int .i64 x)):=aC w X.fb 2 _
 exact⟨Mc h.row,h.ca.En (hk.mono fun k _ e=>by subst e;show σ X.fb≠0;rw[h.tf];omega),h.bk.kept hk (fun k hT e=>by have:=h.tb k hT;rw[e,h.tf] at this;cases this),h.tb,h.tf,h.n1,h.cok,h.lim,h.img⟩
theorem aK.zk{X:Fx}{σ:Own}{w:World}{B:Bk}{K:Nat}{f:Fe}(h:aK X σ w B K f)(x:Int):aK X σ (w.setCell ⟨X.fb,3,none⟩ (.int .i64 x)) B K {f with lo:=x}:=by
 have hk:af (fun k=>k=X.fb) w (w.setCell ⟨X.fb,3,none⟩ (.int .i64 x)):=aC w X.fb 3 _
 exact⟨Mc h.row,h.ca.En (hk.mono fun k _ e=>by subst e;show σ X.fb≠0;rw[h.tf];omega),h.bk.kept hk (fun k hT e=>by have:=h.tb k hT;rw[e,h.tf] at this;cases this),h.tb,h.tf,h.n1,h.cok,h.lim,h.img⟩
def FrameP(X:Fx)(σ:Own)(B:Bk)(K:Nat)(f:Fe)(m:Mt)(ch blk:Nat)(w:World)(e:Ending)(w':World):Prop:=∃(z:List Int)(ao:Option Addr)(mm c:Nat)(ts:List (Int×Int))(err:Int)(R:Cch.PR)(σ':Own)(f':Fe),Cch.fV B.size f.c (m.first+m.num ch blk*B.size) B.size []=R∧e= .returned (.tuple #[.agg (frC z (.slice ao mm c)),.int .i64 err])∧z.length=28∧bH ed 2 (0,0) w' ao mm ts∧(∀a,ao=some a→w.heap.size≤a.block)∧af (FF σ) w w'∧Ext σ σ' w.heap.size∧aK X σ' w' B (K+1) f'∧FeB (K+1) f'∧f'.c=R.c∧f'.fr=f.fr+1∧(R.e≠0→err≠0)∧(R.e=0→fH R.b=(aZ B.img (m.sums+4*m.num ch blk) 4:Nat)→(frX R.b.length R.b).e=0→fC (frX R.b.length R.b).z (frX R.b.length R.b).t=true→z=(frX R.b.length R.b).z∧ts=(frX R.b.length R.b).t∧err=0)
theorem xh(X:Fx)(σ:Own)(B:Bk)(K:Nat)(hK:K≤500000)(f:Fe)(hf:FeB K f)(i ch blk:Nat)(hi:i<B.dir.length)(hc:ch<(B.dir.getD i m0).ch)(hb:blk<bu (B.dir.getD i m0).len)(w:World)(h:aK X σ w B K f):Calls Tryz.prog 237 #[.pointer (some ⟨X.fb,0,none⟩),.int .i64 i,.int .i64 ch,.int .i64 blk] w (FrameP X σ B K f (B.dir.getD i m0) ch blk w):=by
 have hba:=ae w (.cells F0 196)
 have hz:=L9 w (.cells F0 196)
 have h1:=h.fD hba (b:=w.heap.size) 3 Me (by simp)
 have HE:=MI (eH σ (b:=w.heap.size) 3 Me)
 have HA:=MI hba
 have HZ:=MI hz
 have hiz:(Tryz.prog.info? 196).map (·.size)=some F0.size:=by kernel_rfl
 have hbu:Tryz.prog.built 196 []=some F0:=by kernel_rfl
 have hff:=h.bk.ok.f i hi
 have hnl:=Jw hc hb
 have hlt:(B.dir.getD i m0).first+(B.dir.getD i m0).num ch blk*B.size+B.size≤B.img.length:=by
  have:((B.dir.getD i m0).num ch blk+1)*B.size≤(bu (B.dir.getD i m0).len*(B.dir.getD i m0).ch)*B.size:=Nat.mul_le_mul_right _ hnl
  rw[Nat.succ_mul,Nat.mul_comm (bu (B.dir.getD i m0).len*(B.dir.getD i m0).ch)] at this
  omega
 have HW:=MI (fun w h=>vY X.D B i ch blk hi hc hb w h)
 have HN:=MI (fun w h=>og X (fD σ w.heap.size 3) B K f w h)
 have f0:=hf.f0;have f1:=hf.f1;have l0:=hf.l0;have l1:=hf.l1
 have ht2:=h.tf
 have hfb:=h.rU X.fb (by omega)
 have HOp:=MI (fun τ f' w h=>GI X τ B K hK f' i ch blk hi hc hb _ hlt w h)
 unfold WhP at HW
 generalize B.dir.getD i m0=m at*
 have HFF:=MI (fun w1 w2 (h:af (FF (fD σ w.heap.size 3)) w1 w2)(hb:Below w.heap.size w w1)=>af.ofFF h (by omega) hb Me)
 have hsm:=MI (dG σ w.heap.size 3)
 generalize fD σ w.heap.size 3=τ at*
 have HH:=MI h1
 have HNo:=MI (og X τ B K f _ h1)
 have e1:IntKind.i64.wrap (f.fr+1)=f.fr+1:=IntWalk.i64_in _ (by omega)
 have e2:IntKind.i64.wrap (f.lo+1)=f.lo+1:=IntWalk.i64_in _ (by omega)
 obtain⟨c0,c1,c2,c3,f2,f3⟩:=jI h1.row
 clear h h1 hba hz hi hc hb hff hnl
 generalize hAA:m.first+m.num ch blk*B.size=A at*
 have HAA:=MI hAA
 clear hAA
 go_enter Tryz.func237,Tryz.ntmps237
 go_upto_region 1 with fail
 rw[←vC]
 have hw0:w.heap.size<(w.alloc (.cells F0 196)).heap.size:=by simp
 generalize w.alloc (.cells F0 196)=W at*
 go_upto_region 6 with(first
  | (go_at_call 70;refine HNo.out.mono ?_;rintro e w' ⟨rfl,rfl⟩)
  | (go_at_call 251;refine(HW.out _ HH.out.bk).mono ?_;rintro e w1 ⟨rfl,hb1⟩))
 clear c0 c1 c2 c3 f2 f3
 have hF1:=HH.out.ah hb1
 have HF1:=MI (hF1.setFr (f.fr+1))
 have hz1:=bT HZ.out hb1 (L8 HZ.out)
 have hw1:=L8 hz1
 have HB1:=MI (HA.out.trans (hb1.mono HA.out.size))
 obtain⟨c0,c1,c2,c3,f2,f3⟩:=jI hF1.row
 go_upto_region 7 with fail
 have hk2:af (FF σ) w (w1.setCell ⟨X.fb,2,none⟩ (.int .i64 (f.fr+1))):=(af.au HB1.out Me).setCell (p:=⟨X.fb,2,none⟩) (.inr (.inr ht2)) _
 have HK2:=MI hk2
 have hz2:=(heap_setCell_other w1 ⟨X.fb,2,none⟩ w.heap.size (.int .i64 (f.fr+1)) (by show w.heap.size≠X.fb;omega)).trans hz1
 clear c0 c1 c2 c3 f2 f3 hF1 hz1 hb1 HH HNo HZ hw1 hk2
 generalize w1.setCell ⟨X.fb,2,none⟩ (.int .i64 (f.fr+1))=W2 at*
 have hw2:=L8 hz2
 have HO2:=MI (HOp.out τ _ W2 HF1.out)
 clear HOp
 go_upto_region 8 with(first
  | (go_at_call 252;refine HO2.out.mono ?_;rintro e w3 ⟨z,ao,mm,c,ts,err,R,σ',hR,rfl,hzl,hT,hfr,hk3,hE3,hF3,hne,hgood⟩)
  | (with_reducible refine MF 196 13 47 ?_;rw[←vC];refine wpList_store_row rfl 196 (.tmp 13) (.tmp 47) rfl _ (frC z (.slice ao mm c)) rfl rfl 196 F0 (L9 _ _) (kw _ _ hzl) (by rw[bC _ _ hzl];kernel_rfl) (dC _ _ _ _) ?_))
 have hz3:=hk3.heap hz2 (fun e=>by unfold FF at e;rw[hsm.out] at e;omega)
 have hw3:=L8 hz3
 have hbA:=below_setRow (ae w3 (.cells F0 196)) Me (frC z (.slice ao mm c))
 have hz4:=(hbA.block _ hw3).trans hz3
 have hr4:=Md (frC z (.slice ao mm c)) (L9 w3 (.cells F0 196))
 have HF4:=MI (hF3.ah hbA)
 have HT4:=MI (hT.ah hbA)
 have HK4:=MI ((HK2.out.andThen hk3 (fun i hi e=>by unfold FF at e⊢;rwa [HE.out i hi] at e)).below hbA (Nat.le_of_lt hw3))
 have HE4:=MI (HE.out.trans hE3 (Nat.le_of_lt hw2))
 have hs3:=MI ((hE3 _ hw2).trans hsm.out)
 have hfr4:=MI (fun a ha=>Nat.le_trans (Nat.le_of_lt hw2) (hfr a ha))
 have hao4: ∀a,ao=some a→a.block≠w.heap.size:=fun a ha=>by have:=hfr a ha;omega
 have hiF:=kw z (.slice ao mm c) hzl
 have hsF:F0.size=(frC z (.slice ao mm c)).size:=by rw[bC _ _ hzl];kernel_rfl
 have hsb:=hF3.rU X.fb (by rw[hF3.tf];omega)
 have HG:=MI hgood
 have HR:=MI hR
 have HNE:=MI hne
 clear hz3 hz2 HK2 hk3 hF3 hT hfr hgood hR hne hE3 HO2 HF1 HB1
 change Code.wp _ _ _ _ ((w3.alloc (.cells F0 196)).setRow w3.heap.size (frC z (.slice ao mm c)))
 generalize (w3.alloc (.cells F0 196)).setRow w3.heap.size (frC z (.slice ao mm c))=W4 at*
 generalize w3.heap.size=gb at*
 obtain⟨c0,c1,c2,c3,f2,f3⟩:=jI HF4.out.row
 by_cases he:err=0
 ·subst he
  go_wp2_with (first
   | (with_reducible refine MC 196 13 ?_;refine wpList_load_row rfl 196 (.tmp 13) rfl _ rfl 196 (frC z (.slice ao mm c)) (0,0) _ hr4 Tryz.underlying196 rfl hiF ?_)
   | (with_reducible refine MF 196 8 58 ?_;refine wpList_store_row rfl 196 (.tmp 8) (.tmp 58) rfl _ (frC z (.slice ao mm c)) rfl rfl 196 F0 hz4 hiF hsF (dC _ _ _ _) ?_))
  exact bodyPost_ret (results_cell_tmp (fn:=Tryz.f237) (p:=8) (q:=9) (ty:=196) rfl _ _ _ _ _ _ _ rfl (setRow_heap _ _ _ _ _ _ hz4) Tryz.underlying196 rfl hiF) rfl ⟨z,ao,mm,c,ts,0,R,σ',_,(by rw[HAA.out];exact HR.out),rfl,hzl,HT4.out.kept (aJ _ _ _) (fun a ha=>hao4 a ha),(fun a ha=>hfr4.out a ha),HK4.out.andThen (aJ _ _ _) (fun i hi e=>by omega),HE4.out,HF4.out.kept ((aJ _ _ _).mono (fun k _ e=>by rw[e];exact Nat.le_of_eq hs3.out.symm)),⟨by show 0≤f.fr+1;omega,by show f.fr+1≤_;omega,l0,by show f.lo≤_;omega⟩,rfl,rfl,fun h=>HNE.out h,fun h0 h1 h2 h3=>⟨(HG.out h0 h1 h2 h3).1,(HG.out h0 h1 h2 h3).2.1,rfl⟩⟩
 ·have q1:(err==0)=false:=by simpa using he
  have q2:(err !=0)=true:=by simpa using he
  clear he
  go_upto_region 10 with fail
  have HF5:=MI (HF4.out.zk (f.lo+1))
  have hne5:gb≠X.fb:=by omega
  have hz5:=(heap_setCell_other W4 ⟨X.fb,3,none⟩ w.heap.size (.int .i64 (f.lo+1)) (by show w.heap.size≠X.fb;omega)).trans hz4
  have hr5:=(heap_setCell_other W4 ⟨X.fb,3,none⟩ gb (.int .i64 (f.lo+1)) hne5).trans hr4
  have HK5:=MI (HK4.out.setCell (p:=⟨X.fb,3,none⟩) (.inr (.inr ht2)) (.int .i64 (f.lo+1)))
  have HT5:=MI (HT4.out.kept (aC W4 X.fb 3 (.int .i64 (f.lo+1))) (fun a ha e=>by have:=hfr4.out a ha;omega))
  clear hz4 hr4 HF4 HK4 HT4 c0 c1 c2 c3 f2 f3
  generalize W4.setCell ⟨X.fb,3,none⟩ (.int .i64 (f.lo+1))=W5 at*
  go_wp2_with (first
   | (with_reducible refine MC 196 13 ?_;refine wpList_load_row rfl 196 (.tmp 13) rfl _ rfl 196 (frC z (.slice ao mm c)) (0,0) _ hr5 Tryz.underlying196 rfl hiF ?_)
   | (with_reducible refine MF 196 8 58 ?_;refine wpList_store_row rfl 196 (.tmp 8) (.tmp 58) rfl _ (frC z (.slice ao mm c)) rfl rfl 196 F0 hz5 hiF hsF (dC _ _ _ _) ?_))
  exact bodyPost_ret (results_cell_tmp (fn:=Tryz.f237) (p:=8) (q:=9) (ty:=196) rfl _ _ _ _ _ _ _ rfl (setRow_heap _ _ _ _ _ _ hz5) Tryz.underlying196 rfl hiF) rfl ⟨z,ao,mm,c,ts,err,R,σ',_,(by rw[HAA.out];exact HR.out),rfl,hzl,HT5.out.kept (aJ _ _ _) (fun a ha=>hao4 a ha),(fun a ha=>hfr4.out a ha),HK5.out.andThen (aJ _ _ _) (fun i hi e=>by omega),HE4.out,HF5.out.kept ((aJ _ _ _).mono (fun k _ e=>by rw[e];exact Nat.le_of_eq hs3.out.symm)),⟨by show 0≤f.fr+1;omega,by show f.fr+1≤_;omega,by show 0≤f.lo+1;omega,by show f.lo+1≤_;omega⟩,rfl,rfl,fun h=>HNE.out h,fun h0 h1 h2 h3=>HG.out h0 h1 h2 h3⟩
structure Kb where
 n:Nat
 wv:List Int
 g:List Int
def kbL(b:Kb):List Int:=(b.n:Int)::(b.wv++b.g)
def kbV(b:Kb):List Value:=iL (kbL b)
def kb0:Kb:=⟨0,[],[]⟩
structure Kb.Ok(b:Kb):Prop where
 w:b.wv.length=16
 g:b.g.length=4
theorem jG{b:Kb}(h:b.Ok):(kbV b).length=21:=by simp[kbV,kbL,iL,h.w,h.g]
structure Ku where
 p:List Int
 k:Int
 kept:List Kb
 lost:List Int
 fr:Int
structure Kx where
 cb:Nat
 t:Nat
 i:Nat
 ch:Nat
 len:Nat
def dW(fb:Nat)(C:Kx)(kv lv:Value)(fr:Int):List Value:=iL cO++[.pointer (some ⟨fb,0,none⟩),.int .i64 C.i,.int .i64 C.ch,.int .i64 C.len,kv,lv,.int .i64 fr]
structure dH(fb:Nat)(C:Kx)(σ:Own)(w:World)(kv lv:Value)(u:Ku):Prop where
 row:w.heap[C.cb]? =some (.cells (iL u.p++ .int .i64 u.k::dW fb C kv lv u.fr).toArray 210 (0,0))
 p:u.p.length=20
 own:σ C.cb=C.t
 t3:10≤C.t
 kept:w.ownsRow 0 316 21 kv u.kept.length (u.kept.flatMap kbV)
 lost:w.ownsRow 0 3 1 lv u.lost.length (iL u.lost)
 ok: ∀b ∈ u.kept,b.Ok
 k4:u.kept.length≤4
 ko: ∀k,kv.ownBlock=some k→σ k=C.t
 lo: ∀k,lv.ownBlock=some k→σ k=C.t
theorem mi{w:World}{B e size n:Nat}{v:Value}{xs:List Value}(h:w.ownsRow B e size v n xs){k:Nat}(hk:v.ownBlock=some k):k<w.heap.size:=(h.lt k hk).2
theorem dH.ext{fb:Nat}{C:Kx}{σ σ':Own}{w:World}{kv lv:Value}{u:Ku}(h:dH fb C σ w kv lv u)(he:Ext σ σ' w.heap.size):dH fb C σ' w kv lv u:=
 ⟨h.row,h.p,(he _ (L8 h.row)).trans h.own,h.t3,h.kept,h.lost,h.ok,h.k4,fun k hk=>(he _ (mi h.kept hk)).trans (h.ko k hk),fun k hk=>(he _ (mi h.lost hk)).trans (h.lo k hk)⟩
theorem dH.keep{fb:Nat}{C:Kx}{σ:Own}{w w':World}{kv lv:Value}{u:Ku}(h:dH fb C σ w kv lv u){S:Nat→Prop}(hk:af S w w')(hS: ∀k,S k→k<w.heap.size→σ k≠C.t):dH fb C σ w' kv lv u:=
 ⟨hk.heap h.row (fun e=>hS _ e (L8 h.row) h.own),h.p,h.own,h.t3,ay h.kept hk (fun k e hs=>hS k hs (mi h.kept e) (h.ko k e)),ay h.lost hk (fun k e hs=>hS k hs (mi h.lost e) (h.lo k e)),h.ok,h.k4,h.ko,h.lo⟩
theorem dH.ah{fb:Nat}{C:Kx}{σ:Own}{w w':World}{kv lv:Value}{u:Ku}(h:dH fb C σ w kv lv u)(hb:Below w.heap.size w w'):dH fb C σ w' kv lv u:=h.keep (S:=fun _=>False) (af.au hb Me) (fun _ e=>e.elim)
theorem uF:cO.length=32:=by kernel_rfl
theorem qo{fb:Nat}{C:Kx}{w:World}{kv lv:Value}{p:List Int}{k fr:Int}(hp:p.length=20)(h:w.heap[C.cb]? =some (.cells (iL p++ .int .i64 k::dW fb C kv lv fr).toArray 210 (0,0)))(j:Nat){v:Value}(hv:[Value.pointer (some ⟨fb,0,none⟩),.int .i64 C.i,.int .i64 C.ch,.int .i64 C.len,kv,lv,.int .i64 fr][j]? =some v):w.cell? ⟨C.cb,53+j,none⟩=some v:=by
 refine qN h _ ?_
 unfold dW
 rw[List.getElem?_append_right (by rw[dA];omega),dA,hp,show 53+j - 20=(32+j)+1 by omega,List.getElem?_cons_succ,List.getElem?_append_right (by rw[dA,uF];omega),dA,uF,show 32+j - 32=j by omega]
 exact hv
theorem gq{fb:Nat}{C:Kx}{w:World}{kv lv:Value}{p:List Int}{k fr:Int}(hp:p.length=20)(h:w.heap[C.cb]? =some (.cells (iL p++ .int .i64 k::dW fb C kv lv fr).toArray 210 (0,0))):
  w.cell? ⟨C.cb,53,none⟩=some (.pointer (some ⟨fb,0,none⟩))∧w.cell? ⟨C.cb,54,none⟩=some (.int .i64 C.i)∧w.cell? ⟨C.cb,55,none⟩=some (.int .i64 C.ch)∧w.cell? ⟨C.cb,56,none⟩=some (.int .i64 C.len)∧w.cell? ⟨C.cb,57,none⟩=some kv∧w.cell? ⟨C.cb,58,none⟩=some lv∧w.cell? ⟨C.cb,59,none⟩=some (.int .i64 fr)∧w.frozen? ⟨C.cb,57,none⟩=false∧w.frozen? ⟨C.cb,58,none⟩=false∧w.frozen? ⟨C.cb,59,none⟩=false:=
 ⟨qo hp h 0 rfl,qo hp h 1 rfl,qo hp h 2 rfl,qo hp h 3 rfl,qo hp h 4 rfl,qo hp h 5 rfl,qo hp h 6 rfl,L6 h,L6 h,L6 h⟩
theorem yM{fb:Nat}{C:Kx}{w:World}{kv lv:Value}{p:List Int}{k fr:Int}(hp:p.length=20)(h:w.heap[C.cb]? =some (.cells (iL p++ .int .i64 k::dW fb C kv lv fr).toArray 210 (0,0))):
  (∀v,(w.setCell ⟨C.cb,57,none⟩ v).heap[C.cb]? =some (.cells (iL p++ .int .i64 k::dW fb C v lv fr).toArray 210 (0,0)))∧(∀v,(w.setCell ⟨C.cb,58,none⟩ v).heap[C.cb]? =some (.cells (iL p++ .int .i64 k::dW fb C kv v fr).toArray 210 (0,0)))∧∀x:Int,(w.setCell ⟨C.cb,59,none⟩ (.int .i64 x)).heap[C.cb]? =some (.cells (iL p++ .int .i64 k::dW fb C kv lv x).toArray 210 (0,0)):=by
 have hl:(iL p).length=20:=by rw[dA,hp]
 have hl2:(iL cO).length=32:=by rw[dA,uF]
 have key: ∀(pre post:List Value)(u v:Value)(n:Nat),pre.length=n→iL p++ .int .i64 k::dW fb C kv lv fr=pre++u::post→(w.setCell ⟨C.cb,n,none⟩ v).heap[C.cb]? =some (.cells (pre++v::post).toArray 210 (0,0)):=fun pre post u v n hn e=>by
  subst hn
  exact jM pre post u v (by rw[←e];exact h)
 refine⟨fun v=>?_,fun v=>?_,fun x=>?_⟩
 ·have:=key (iL p++ .int .i64 k::(iL cO++[.pointer (some ⟨fb,0,none⟩),.int .i64 C.i,.int .i64 C.ch,.int .i64 C.len])) [lv,.int .i64 fr] kv v 57 (by simp[hl,hl2]) (by simp[dW])
  rw[this];simp[dW]
 ·have:=key (iL p++ .int .i64 k::(iL cO++[.pointer (some ⟨fb,0,none⟩),.int .i64 C.i,.int .i64 C.ch,.int .i64 C.len,kv])) [.int .i64 fr] lv v 58 (by simp[hl,hl2]) (by simp[dW])
  rw[this];simp[dW]
 ·have:=key (iL p++ .int .i64 k::(iL cO++[.pointer (some ⟨fb,0,none⟩),.int .i64 C.i,.int .i64 C.ch,.int .i64 C.len,kv,lv])) [] (.int .i64 fr) (.int .i64 x) 59 (by simp[hl,hl2]) (by simp[dW])
  rw[this];simp[dW]
theorem rJ(fb:Nat)(C:Kx)(σ:Own)(kv lv:Value)(u:Ku)(w:World)(h:dH fb C σ w kv lv u):Calls Tryz.prog 140 #[.pointer (some ⟨C.cb,0,none⟩)] w (fun e w'=>e= .returned (.bool false)∧w=w'):=by
 obtain⟨c53,c54,c55,c56,c57,c58,c59,f57,f58,f59⟩:=gq h.p h.row
 clear h
 go_enter Tryz.func140,Tryz.ntmps140
 go_wp2_with fail
 go_ret
 exact⟨rfl,rfl⟩
def LH(fb:Nat)(C:Kx)(σ:Own)(kv:Value)(u:Ku)(w:World)(e:Ending)(w':World):Prop:=∃lo lc,e= .returned (.slice lo u.lost.length lc)∧Ints .i64 w' lo u.lost.length u.lost∧(∀a,lo=some a→σ a.block=C.t)∧dH fb C σ w' kv (.slice none 0 0) {u with lost:=[]}∧af (fun k=>k=C.cb) w w'
theorem zO(fb:Nat)(C:Kx)(σ:Own)(kv lv:Value)(u:Ku)(hwf: ∀z ∈ u.lost,(Lit.int .i64 z).wf=true)(w:World)(h:dH fb C σ w kv lv u):Calls Tryz.prog 110 #[.pointer (some ⟨C.cb,0,none⟩)] w (LH fb C σ kv u w):=by
 obtain⟨c53,c54,c55,c56,c57,c58,c59,f57,f58,f59⟩:=gq h.p h.row
 have hN:=rJ fb C σ kv lv u w h
 have HH:=MI h
 obtain⟨lo,lc,hlv,hlc,hrow,hlm,hun,hty⟩:=lM h.lost
 subst hlv
 have HI:Hid (Ints .i64 (w.setCell ⟨C.cb,58,none⟩ (.slice none 0 0)) lo u.lost.length u.lost):=by
  have hk:af (fun k=>k=C.cb) w (w.setCell ⟨C.cb,58,none⟩ (.slice none 0 0)):=aC w C.cb 58 _
  refine⟨rfl,hlm,fun i hi=>?_,hwf⟩
  obtain⟨a,ha,hc⟩:=hrow.cell i (.int .i64 (u.lost.getD i 0)) (by simp[iL,hi])
  refine⟨a,ha,hk.cell hc ?_⟩
  rw[Addr.add_block]
  intro e
  obtain⟨cs,hcs⟩:=(hty a ha).2
  rw[e,HH.out.row] at hcs
  cases hcs
 clear h hrow hun hty
 have HR:=MI ((yM HH.out.p HH.out.row).2.1 (.slice none 0 0))
 have HK:=MI (aC w C.cb 58 (.slice none 0 0))
 have HF:=MI (ay (S:=fun k=>k=C.cb) HH.out.kept HK.out (fun k e hs=>by
  obtain⟨cs,hcs⟩:=ag HH.out.kept e
  rw[hs,HH.out.row] at hcs
  cases hcs))
 go_enter Tryz.func110,Tryz.ntmps110
 go_wp2_with (go_at_call 140;refine hN.mono ?_;rintro e w' ⟨rfl,rfl⟩)
 go_ret
 exact⟨lo,lc,rfl,HI.out,(fun a ha=>HH.out.lo a.block (by rw[ha];rfl)),⟨HR.out,HH.out.p,HH.out.own,HH.out.t3,HF.out,World.ownsRow_nil _ _ _ _,HH.out.ok,HH.out.k4,HH.out.ko,fun k hk=>by cases hk⟩,HK.out⟩
def oQ(B:Bk)(c:Cch.Ca)(m:Mt)(ch n:Nat)(u u':Ku)(b:Kb)(R:Cch.PR):Prop:=∃(err:Int)(z:List Int)(ts:List (Int×Int)),Cch.fV B.size c (m.first+m.num ch n*B.size) B.size []=R∧z.length=28∧(R.e≠0→err≠0)∧(R.e=0→fH R.b=(aZ B.img (m.sums+4*m.num ch n) 4:Nat)→(frX R.b.length R.b).e=0→fC (frX R.b.length R.b).z (frX R.b.length R.b).t=true→z=(frX R.b.length R.b).z∧ts=(frX R.b.length R.b).t∧err=0)∧u'.kept=u.kept∧u'.fr=u.fr+1∧b.n=n∧(err=0→u'.p=dN z ts∧u'.k=0∧u'.lost=u.lost∧b.wv=nI ((dN z ts).take 16)∧b.g=(dN z ts).drop 16)∧(err≠0→u'.p=u.p∧u'.k=wrap64 (u.k+1)∧u'.lost=u.lost++[(n:Int)]∧b.wv=nI ((oN u.p (wrap64 (u.k+1))).take 16)∧b.g=(oN u.p (wrap64 (u.k+1))).drop 16)
def FC(σ:Own)(t k:Nat):Prop:=σ k=0∨σ k=2∨σ k=t
def TakP(X:Fx)(σ:Own)(B:Bk)(K:Nat)(f:Fe)(C:Kx)(kv:Value)(u:Ku)(n:Nat)(w:World)(e:Ending)(w':World):Prop:=∃(b:Kb)(R:Cch.PR)(u':Ku)(lv:Value)(σ':Own)(f':Fe),e= .returned (.agg (iA (kbL b)))∧b.Ok∧oQ B f.c (B.dir.getD C.i m0) C.ch n u u' b R∧aK X σ' w' B (K+1) f'∧FeB (K+1) f'∧f'.c=R.c∧f'.fr=f.fr+1∧dH X.fb C σ' w' kv lv u'∧af (FC σ C.t) w w'∧Ext σ σ' w.heap.size
structure KOk(B:Bk)(C:Kx):Prop where
 i:C.i<B.dir.length
 ch:C.ch<(B.dir.getD C.i m0).ch
 len:C.len=(B.dir.getD C.i m0).len
theorem dH.frame{fb:Nat}{C:Kx}{τ σ':Own}{w w':World}{kv lv:Value}{u:Ku}(h:dH fb C τ w kv lv u)(hk:af (FF τ) w w')(he:Ext τ σ' w.heap.size):dH fb C σ' w' kv lv u:=
 (h.ext he).keep hk (fun k e hl=>by have:=h.t3;rw[he k hl];unfold FF at e;omega)
theorem rV{P:Program}(w:World)(g:Nat)(t ty:TypeId)(old cells:Array Value)(hg:w.heap[g]? =some (.cells old t (0,0)))(hi:(P.info? ty).map (·.size)=some cells.size)(ho:old.size=cells.size)(h1:cells.all (·.oneCell')=true):
  (Instr.storeAt ty (.pointer (some ⟨g,0,none⟩)) (.agg cells)).run P w= .ok () (w.setRow g cells):=by
 simp only[Instr.storeAt,Instr.sureAddr,Sem.run_bind,Sem.run_pure,Result.andThen]
 exact run_storeVar_row w g t ty old cells hg hi ho h1
theorem oW{P:Program}(w:World)(g:Nat)(t ty:TypeId)(old cells:Array Value)(hg:w.heap[g]? =some (.cells old t (0,0)))(hi:(P.info? ty).map (·.size)=some cells.size)(ho:old.size=cells.size)(h1:cells.all (·.oneCell')=true):
  (storeCells ⟨g,0,none⟩ cells.toList 0).run P w= .ok () (w.setRow g cells):=by
 have:=run_storeVar_row (P:=P) w g t ty old cells hg hi ho h1
 cases hq:P.info? ty with
 | none=>simp[hq] at hi
 | some i=>
  have hs:cells.size=i.size:=by simp[hq] at hi;omega
  simpa[storeVar,sizeOf,typeInfo,hq,Value.cells,hs] using this
def gu:Array Value:=iA (List.replicate 21 0)
theorem nP:gu=#[.int .i64 0,.int .i64 0,.int .i64 0,.int .i64 0,.int .i64 0,.int .i64 0,.int .i64 0,.int .i64 0,.int .i64 0,.int .i64 0,.int .i64 0,.int .i64 0,.int .i64 0,.int .i64 0,.int .i64 0,.int .i64 0,.int .i64 0,.int .i64 0,.int .i64 0,.int .i64 0,.int .i64 0]:=by kernel_rfl
theorem lF{P:Program}{ops:Array Oper}{w:World}{Q:Act→Prop}{rest:List Oper}{o:Oper}{a:Act}(hgd:o.guard=none)(ty:TypeId)(x:Operand)(ho:o.op= .load ty x)(g:Nat)(hx:a.eval x= .pointer (some ⟨g,0,none⟩))(t:TypeId)(cs:Array Value)(fr:Nat×Nat)(d:TypeDesc)(hg:w.heap[g]? =some (.cells cs t fr))(hu:P.underlying ty=some d)(hd:(match d with | .struct _ | .array _ _=>true | _=>false)=true)(hi:(P.info? ty).map (·.size)=some cs.size)
  (h:wpStill P ops w Q rest (a.put o.dst (.agg cs))):wpStill P ops w Q (o::rest) a:=by
 refine wpStill_step (fun K hK=>?_)
 rw[if_pos (by simp[Region.wanted,hgd])]
 unfold Oper.still execOp
 simp only[ho,hx,Instr.loadAt,Instr.sureAddr,Sem.run_bind,Sem.run_pure,Result.andThen_ok,run_loadVar_row w g t ty cs fr d hg hu hd hi]
 exact⟨rfl,hK _ h⟩
theorem dh{P:Program}{ops:Array Oper}{w:World}{Q:Act→Prop}{rest:List Oper}{op:Oper}{a:Act}(hgd:op.guard=none)(ty:TypeId)(x:Operand)(ho:op.op= .load ty x)(b o:Nat)(hx:a.eval x= .pointer (some ⟨b,o,none⟩))(cs:List Value)(d:TypeDesc)(hc:w.rangeAt b o cs)
  (hu:P.underlying ty=some d) (hd:d.isRow=true) (hi:(P.info? ty).map (·.size)=some cs.length)
  (h:wpStill P ops w Q rest (a.put op.dst (.agg cs.toArray))):wpStill P ops w Q (op::rest) a:=by
 refine wpStill_step (fun K hK=>?_)
 rw[if_pos (by simp[Region.wanted,hgd])]
 unfold Oper.still execOp
 simp only[ho,hx,Instr.loadAt,Instr.sureAddr,Sem.run_bind,Sem.run_pure,Result.andThen_ok,run_loadVar_mid w b o ty cs d hc hu hd hi]
 exact⟨rfl,hK _ h⟩
def yN:Array Value:=iA (List.replicate 20 0)
theorem Lp:yN=#[.int .i64 0,.int .i64 0,.int .i64 0,.int .i64 0,.int .i64 0,.int .i64 0,.int .i64 0,.int .i64 0,.int .i64 0,.int .i64 0,.int .i64 0,.int .i64 0,.int .i64 0,.int .i64 0,.int .i64 0,.int .i64 0,.int .i64 0,.int .i64 0,.int .i64 0,.int .i64 0]:=by kernel_rfl
theorem Es:(Tryz.prog.info? 3).map (fun i=>(i.zero,i.size,i.bytes))=some (some (.int .i64 0),1,8):=by kernel_rfl
theorem dH.veil{fb:Nat}{C:Kx}{σ:Own}{w w':World}{kv lv:Value}{u:Ku}(h:dH fb C σ w kv lv u){p:List Int}{k:Int}(hp:p.length=20)(hr:w'.heap[C.cb]? =some (.cells (iL p++ .int .i64 k::dW fb C kv lv u.fr).toArray 210 (0,0)))(hk:af (fun j=>j=C.cb) w w'):dH fb C σ w' kv lv {u with p:=p,k:=k}:=
 ⟨hr,hp,h.own,h.t3,ay h.kept hk (fun k e hs=>by
  obtain⟨cs,hcs⟩:=ag h.kept e
  rw[hs,h.row] at hcs
  cases hcs),ay h.lost hk (fun k e hs=>by
  obtain⟨cs,hcs⟩:=ag h.lost e
  rw[hs,h.row] at hcs
  cases hcs),h.ok,h.k4,h.ko,h.lo⟩
theorem dH.app{fb:Nat}{C:Kx}{σ:Own}{w w':World}{kv lv:Value}{u:Ku}(h:dH fb C σ w kv lv u)(hk:af (fun k=>lv.ownBlock=some k) w w'):w'.heap[C.cb]? =some (.cells (iL u.p++ .int .i64 u.k::dW fb C kv lv u.fr).toArray 210 (0,0))∧w'.ownsRow 0 316 21 kv u.kept.length (u.kept.flatMap kbV):=
 ⟨hk.heap h.row (fun e=>by
  obtain⟨cs,hcs⟩:=ag h.lost e
  rw[h.row] at hcs
  cases hcs),ay h.kept hk (fun k e hs=>by
  obtain⟨cs,hcs⟩:=ag h.lost hs
  obtain⟨ds,hds⟩:=ag h.kept e
  rw[hds] at hcs
  cases hcs)⟩
theorem dH.lostAdd{X:Fx}{C:Kx}{σ:Own}{B:Bk}{K:Nat}{f:Fe}{w w4:World}{kv lv lv5:Value}{u:Ku}{n:Int}(hF:aK X σ w B K f)(h:dH X.fb C σ w kv lv u)(hown:w4.ownsRow 0 3 1 lv5 (u.lost.length+1) (iL u.lost++[.int .i64 n]))(hk:af (fun k=>lv.ownBlock=some k) w w4)(hb:lv5.ownBlock=lv.ownBlock∨∃k,lv5.ownBlock=some k∧w.heap.size≤k):
  ∃σ5,Ext σ σ5 w.heap.size∧aK X σ5 (w4.setCell ⟨C.cb,58,none⟩ lv5) B K f∧dH X.fb C σ5 (w4.setCell ⟨C.cb,58,none⟩ lv5) kv lv5 {u with lost:=u.lost++[n]}∧af (fun k=>σ k=C.t) w (w4.setCell ⟨C.cb,58,none⟩ lv5):=by
 obtain⟨hr4,hp4⟩:=h.app hk
 have ht:=h.t3
 have hk5:af (fun k=>σ k=C.t) w (w4.setCell ⟨C.cb,58,none⟩ lv5):=(hk.mono (fun k _ e=>h.lo k e)).setCell (p:=⟨C.cb,58,none⟩) (.inr h.own) _
 have hs5:(w4.setCell ⟨C.cb,58,none⟩ lv5).heap.size=w4.heap.size:=by simp[World.setCell]
 have hkc:=aC w4 C.cb 58 lv5
 have hcb:=L8 h.row
 have main: ∀σ5:Own,Ext σ σ5 w.heap.size→(∀k,σ5 k≠0→k<w4.heap.size)→(∀k,lv5.ownBlock=some k→σ5 k=C.t)→∃σ5,Ext σ σ5 w.heap.size∧aK X σ5 (w4.setCell ⟨C.cb,58,none⟩ lv5) B K f∧dH X.fb C σ5 (w4.setCell ⟨C.cb,58,none⟩ lv5) kv lv5 {u with lost:=u.lost++[n]}∧af (fun k=>σ k=C.t) w (w4.setCell ⟨C.cb,58,none⟩ lv5):=fun σ5 he hs ho=>by
  refine⟨σ5,he,hF.own (hk5.mono fun k _ e=>by omega) he (fun k hk=>by rw[hs5];exact hs k hk),⟨(yM h.p hr4).2.1 lv5,h.p,(he _ hcb).trans h.own,h.t3,ay hp4 hkc (fun k e hs=>by
   obtain⟨cs,hcs⟩:=ag hp4 e
   rw[hs,hr4] at hcs
   cases hcs),?_,h.ok,h.k4,fun k hk=>(he _ (mi h.kept hk)).trans (h.ko k hk),ho⟩,hk5⟩
  have:=ay hown hkc (fun k e hs=>by
   obtain⟨cs,hcs⟩:=ag hown e
   rw[hs,hr4] at hcs
   cases hcs)
  simpa[iL] using this
 rcases hb with hb | ⟨k,hk1,hk2⟩
 ·exact main σ (Ext.refl _ _) (fun j hj=>Nat.lt_of_lt_of_le (hF.rU j hj) hk.size) (fun k e=>h.lo k (by rw[←hb];exact e))
 ·exact main (fD σ k C.t) (eH σ C.t hk2) (fun j hj=>by
   by_cases e:j=k
   ·subst e;exact mi hown hk1
   ·rw[jF σ _ e] at hj;exact Nat.lt_of_lt_of_le (hF.rU j hj) hk.size) (fun j e=>by
   rw[hk1] at e;cases e;exact dG σ k C.t)
theorem kD{P:Program}{ops:Array Oper}{S:World→Prop}{o:Oper}{a:Act}(hw:Region.wanted o (yielded ops a.tmps)=true)(t:TypeId)(parts:Array (Nat×Operand))(ho:o.op= .build t parts)(cells:Array Value)(hc:P.built t (parts.map fun(i,x)=>(i,a.eval x)).toList=some cells):YieldsIf P ops S o (.agg cells) a:=
 .inl ⟨hw,fun w _=>by
  unfold execOp
  simp only[ho,Sem.run_bind,run_build w t _ cells hc,Result.andThen_ok]
  rfl⟩
theorem Ce{w w':World}{b o n:Nat}{cs:List Value}(h:w.rangeAt b o cs)(hb:Below n w w')(hn:b<n):w'.rangeAt b o cs:=fun j v hv=>by rw[hb.cell (by exact hn)];exact h j v hv
theorem Cc{w:World}{b o g:Nat}{cs:List Value}(h:w.rangeAt b o cs)(hn:b≠g)(ds:Array Value):(w.setRow g ds).rangeAt b o cs:=fun j v hv=>by rw[cell_setRow_other _ _ _ _ (by exact hn)];exact h j v hv
theorem KT(n:Int)(wv g:List Int)(h1:wv.length=16)(h2:g.length=4):Tryz.prog.built 316 [(0,.int .i64 n),(1,.agg (iA wv)),(2,.agg (iA g))]=some (iA (n::(wv++g))):=by
 obtain⟨a0,a1,a2,a3,a4,a5,a6,a7,a8,a9,a10,a11,a12,a13,a14,a15,rfl⟩:=qU h1
 obtain⟨b0,b1,b2,b3,rfl⟩:=uB h2
 kernel_rfl
theorem Au{fb:Nat}{C:Kx}{w:World}{kv lv:Value}{p:List Int}{k fr:Int}(hp:p.length=20)(h:w.heap[C.cb]? =some (.cells (iL p++ .int .i64 k::dW fb C kv lv fr).toArray 210 (0,0))):w.rangeAt C.cb 37 (iL aI)∧w.rangeAt C.cb 21 (iL cO):=by
 constructor
 ·have:=gK (w:=w) (b:=C.cb) (T:=210) (fr:=(0,0)) (iL p++Value.int .i64 k::iL aI) (iL aI) [.pointer (some ⟨fb,0,none⟩),.int .i64 C.i,.int .i64 C.ch,.int .i64 C.len,kv,lv,.int .i64 fr] (by rw[h];simp[dW,cO,iL])
  have e:(iL p++Value.int .i64 k::iL aI).length=37:=by rw[List.length_append,List.length_cons,dA,dA,hp];rfl
  rwa [e] at this
 ·have:=gK (w:=w) (b:=C.cb) (T:=210) (fr:=(0,0)) (iL p++[Value.int .i64 k]) (iL cO) [.pointer (some ⟨fb,0,none⟩),.int .i64 C.i,.int .i64 C.ch,.int .i64 C.len,kv,lv,.int .i64 fr] (by rw[h];simp[dW,iL])
  have e:(iL p++[Value.int .i64 k]).length=21:=by rw[List.length_append,dA,hp];rfl
  rwa [e] at this
def TkD(X:Fx)(σ:Own)(B:Bk)(K:Nat)(f:Fe)(C:Kx)(kv:Value)(u:Ku)(m:Mt)(n:Nat)(w:World)(pb:Nat)(wx:World):Prop:=∃(P:List Int)(err:Int)(z:List Int)(ts:List (Int×Int))(R:Cch.PR)(σ':Own)(f':Fe)(lv:Value)(u':Ku),Cch.fV B.size f.c (m.first+m.num C.ch n*B.size) B.size []=R∧z.length=28∧P.length=20∧wx.heap[pb]? =some (.cells (iA P) 205 (0,0))∧wx.heap[w.heap.size]? =some (.cells gu 316 (0,0))∧af (FC σ C.t) w wx∧Ext σ σ' w.heap.size∧σ' w.heap.size=3∧aK X σ' wx B (K+1) f'∧FeB (K+1) f'∧f'.c=R.c∧f'.fr=f.fr+1∧dH X.fb C σ' wx kv lv u'∧u'.kept=u.kept∧u'.fr=u.fr+1∧(R.e≠0→err≠0)∧(R.e=0→fH R.b=(aZ B.img (m.sums+4*m.num C.ch n) 4:Nat)→(frX R.b.length R.b).e=0→fC (frX R.b.length R.b).z (frX R.b.length R.b).t=true→z=(frX R.b.length R.b).z∧ts=(frX R.b.length R.b).t∧err=0)∧(err=0→u'.p=dN z ts∧u'.k=0∧u'.lost=u.lost∧P=dN z ts)∧(err≠0→u'.p=u.p∧u'.k=wrap64 (u.k+1)∧u'.lost=u.lost++[(n:Int)]∧P=oN u.p (wrap64 (u.k+1)))
def TkC(X:Fx)(σ:Own)(B:Bk)(K:Nat)(f:Fe)(C:Kx)(kv lv:Value)(u:Ku)(m:Mt)(n:Nat)(w:World)(v5 v6:Value)(wx:World):Prop:=∃(gb:Nat)(z:List Int)(ao:Option Addr)(mm c:Nat)(ts:List (Int×Int))(err:Int)(R:Cch.PR)(σ':Own)(f':Fe),v5= .pointer (some ⟨gb,0,none⟩)∧v6= .int .i64 err∧Cch.fV B.size f.c (m.first+m.num C.ch n*B.size) B.size []=R∧z.length=28∧wx.heap[gb]? =some (.cells (frC z (.slice ao mm c)) 196 (0,0))∧bH ed 2 (0,0) wx ao mm ts∧(∀a,ao=some a→w.heap.size<a.block)∧wx.heap[w.heap.size]? =some (.cells gu 316 (0,0))∧af (FC σ C.t) w wx∧Ext σ σ' w.heap.size∧σ' w.heap.size=3∧w.heap.size<gb∧aK X σ' wx B (K+1) f'∧FeB (K+1) f'∧f'.c=R.c∧f'.fr=f.fr+1∧dH X.fb C σ' wx kv lv {u with fr:=u.fr+1}∧(R.e≠0→err≠0)∧(R.e=0→fH R.b=(aZ B.img (m.sums+4*m.num C.ch n) 4:Nat)→(frX R.b.length R.b).e=0→fC (frX R.b.length R.b).z (frX R.b.length R.b).t=true→z=(frX R.b.length R.b).z∧ts=(frX R.b.length R.b).t∧err=0)
theorem take_any(X:Fx)(σ:Own)(B:Bk)(K:Nat)(hK:K≤500000)(f:Fe)(hf:FeB K f)(C:Kx)(hC:KOk B C)(kv lv:Value)(u:Ku)(hu0:0≤u.fr)(hu1:u.fr≤K)(hul:u.lost.length≤K)(n:Nat)(hn:n<bu C.len)(w:World)(h:aK X σ w B K f)(hcu:dH X.fb C σ w kv lv u):Calls Tryz.prog 230 #[.pointer (some ⟨C.cb,0,none⟩),.int .i64 n] w (TakP X σ B K f C kv u n w):=by
 have hba:=ae w (.cells gu 316)
 have hz:=L9 w (.cells gu 316)
 have h1:=h.fD hba (b:=w.heap.size) 3 Me (by simp)
 have hx:=eH σ (b:=w.heap.size) 3 Me
 have HE:=MI hx
 have hu:=(hcu.ext hx).ah hba
 have HZ:=MI hz
 have hsm:=MI (dG σ w.heap.size 3)
 generalize fD σ w.heap.size 3=τ at*
 have e1:IntKind.i64.wrap (u.fr+1)=u.fr+1:=IntWalk.i64_in _ (by omega)
 obtain⟨c53,c54,c55,c56,c57,c58,c59,f57,f58,f59⟩:=gq hu.p hu.row
 have hcb:=L8 hcu.row
 have HU:=MI hu
 have HH:=MI h1
 have HA:=MI hba
 clear h h1 hcu hba hz hx hu
 go_enter Tryz.func230,Tryz.ntmps230
 go_upto_region 1 with fail
 rw[←nP]
 have hw0:w.heap.size<(w.alloc (.cells gu 316)).heap.size:=by simp
 generalize w.alloc (.cells gu 316)=W at*
 go_upto_region 2 with fail
 have hr1:=(yM HU.out.p HU.out.row).2.2 (u.fr+1)
 have hk1:=aC W C.cb 59 (.int .i64 (u.fr+1))
 have hF1:=HH.out.kept (hk1.mono fun k _ e=>by rw[e,HU.out.own];have:=HU.out.t3;omega)
 have hz1:=hk1.heap HZ.out (fun e=>by omega)
 have hU1:dH X.fb C τ (W.setCell ⟨C.cb,59,none⟩ (.int .i64 (u.fr+1))) kv lv {u with fr:=u.fr+1}:=⟨hr1,HU.out.p,HU.out.own,HU.out.t3,ay HU.out.kept hk1 (fun k e hs=>by
  obtain⟨cs,hcs⟩:=ag HU.out.kept e
  rw[hs,HU.out.row] at hcs
  cases hcs),ay HU.out.lost hk1 (fun k e hs=>by
  obtain⟨cs,hcs⟩:=ag HU.out.lost e
  rw[hs,HU.out.row] at hcs
  cases hcs),HU.out.ok,HU.out.k4,HU.out.ko,HU.out.lo⟩
 have HK1:=MI (hk1.mono (S':=FC τ C.t) (fun k _ e=>.inr (.inr (by rw[e];exact HU.out.own))))
 have hs1:=MI (show(W.setCell ⟨C.cb,59,none⟩ (.int .i64 (u.fr+1))).heap.size=W.heap.size by simp[World.setCell])
 clear hk1 hr1 HU HH HZ c53 c54 c55 c56 c57 c58 c59 f57 f58 f59
 generalize W.setCell ⟨C.cb,59,none⟩ (.int .i64 (u.fr+1))=W1 at*
 have HU1:=MI hU1
 have HF1:=MI hF1
 have HZ1:=MI hz1
 have HFd:=MI (HF1.out.ah (show Below W1.heap.size W1 W1.drew from MB.drew))
 have HFr:=MI (fun w h=>xh X τ B K hK f hf C.i C.ch n hC.i hC.ch (by rw[←hC.len];exact hn) w h)
 obtain⟨c53,c54,c55,c56,c57,c58,c59,f57,f58,f59⟩:=gq hU1.p hU1.row
 clear hU1 hF1 hz1
 have hs3:(#[(),(),(),(),.slice none 0 0,(),(),(),(),(),(),(),(),(),(),(),(),(),(),(),(),(),(),(),(),(),(),(),()]:Array Value).size=29:=rfl
 have hcb1:C.cb<W1.heap.size:=L8 HU1.out.row
 have hcb2:¬C.cb=W1.heap.size:=by omega
 have hxA:=eH τ (b:=W1.heap.size) 3 Me
 have hbA:=ae W1 (.cells #[(),(),(),(),.slice none 0 0,(),(),(),(),(),(),(),(),(),(),(),(),(),(),(),(),(),(),(),(),(),(),(),()] 196)
 have HFa:=MI ((HF1.out.fD hbA (b:=W1.heap.size) 3 Me (by simp)).ah (show Below _ _ (W1.alloc (.cells #[(),(),(),(),.slice none 0 0,(),(),(),(),(),(),(),(),(),(),(),(),(),(),(),(),(),(),(),(),(),(),(),()] 196)).drew from MB.drew))
 have HUa:=MI ((((HU1.out.ext hxA).ah hbA)).ah (show Below _ _ (W1.alloc (.cells #[(),(),(),(),.slice none 0 0,(),(),(),(),(),(),(),(),(),(),(),(),(),(),(),(),(),(),(),(),(),(),(),()] 196)).drew from MB.drew))
 have HXa:=MI hxA
 have hsa:=MI (dG τ W1.heap.size 3)
 have hna:=MI (fun k (h:k≠W1.heap.size)=>jF τ 3 h)
 have hza:(W1.alloc (.cells #[(),(),(),(),.slice none 0 0,(),(),(),(),(),(),(),(),(),(),(),(),(),(),(),(),(),(),(),(),(),(),(),()] 196)).drew.heap[W1.heap.size]? =some (.cells #[(),(),(),(),.slice none 0 0,(),(),(),(),(),(),(),(),(),(),(),(),(),(),(),(),(),(),(),(),(),(),(),()] 196 (0,0)):=L9 W1 _
 have HZa:=MI hza
 have HBa:=MI (show Below W1.heap.size W1 (W1.alloc (.cells #[(),(),(),(),.slice none 0 0,(),(),(),(),(),(),(),(),(),(),(),(),(),(),(),(),(),(),(),(),(),(),(),()] 196)).drew from hbA.drew)
 clear hza hbA hxA
 generalize fD τ W1.heap.size 3=τ2 at*
 have HFr2:=MI (fun w h=>xh X τ2 B K hK f hf C.i C.ch n hC.i hC.ch (by rw[←hC.len];exact hn) w h)
 go_cut [5,6] (fun v5 v6 wx=>TkC X σ B K f C kv lv u (B.dir.getD C.i m0) n w v5 v6 wx)
 case first=>
  go_region_held3 (fun w'=>w'.cell? ⟨C.cb,53,none⟩=some (.pointer (some ⟨X.fb,0,none⟩))∧w'.cell? ⟨C.cb,54,none⟩=some (.int .i64 C.i)∧w'.cell? ⟨C.cb,55,none⟩=some (.int .i64 C.ch)) (first | go_keep | exact⟨(cell_setRow_other _ _ _ _ hcb2).trans d53,(cell_setRow_other _ _ _ _ hcb2).trans d54,(cell_setRow_other _ _ _ _ hcb2).trans d55⟩) ((go_at_call 237;first
   | ((with_reducible refine(HFr.out W1.drew HFd.out).mono ?_);rintro e w3 ⟨z,ao,mm,c,ts,err,R,σ',f',hR,rfl,hzl,hT,hfr,hk3,hE3,hF3,hB3,hc3,hf3,hne,hgood⟩;have hU3:=MI (HU1.out.frame ((af.au (S:=FF τ) (show Below W1.heap.size W1 W1.drew from MB.drew) Me).trans hk3) hE3);obtain⟨d53,d54,d55,-⟩:=gq hU3.out.p hU3.out.row;have hsz3:=bC z (.slice ao mm c) hzl;have hst:=run_storeAt_new (P:=Tryz.prog) w3 196 #[(),(),(),(),.slice none 0 0,(),(),(),(),(),(),(),(),(),(),(),(),(),(),(),(),(),(),(),(),(),(),(),()] (frC z (.slice ao mm c)) (kw _ _ hzl) (by rw[bC _ _ hzl];exact hs3) (dC _ _ _ _);have hst2:=run_storeCells_new (P:=Tryz.prog) w3 196 #[(),(),(),(),.slice none 0 0,(),(),(),(),(),(),(),(),(),(),(),(),(),(),(),(),(),(),(),(),(),(),(),()] (frC z (.slice ao mm c)) (kw _ _ hzl) (by rw[bC _ _ hzl];exact hs3) (dC _ _ _ _))
   | ((with_reducible refine(HFr2.out _ HFa.out).mono ?_);rintro e w3 ⟨z,ao,mm,c,ts,err,R,σ',f',hR,rfl,hzl,hT,hfr,hk3,hE3,hF3,hB3,hc3,hf3,hne,hgood⟩;have hU3:=MI (HUa.out.frame hk3 hE3);obtain⟨d53,d54,d55,-⟩:=gq hU3.out.p hU3.out.row;have hz3:=hk3.heap HZa.out (fun e=>by unfold FF at e;rw[hsa.out] at e;omega);have hsz3:=bC z (.slice ao mm c) hzl;have hst:=rV (P:=Tryz.prog) w3 W1.heap.size 196 196 #[(),(),(),(),.slice none 0 0,(),(),(),(),(),(),(),(),(),(),(),(),(),(),(),(),(),(),(),(),(),(),(),()] (frC z (.slice ao mm c)) hz3 (kw _ _ hzl) (by rw[bC _ _ hzl];exact hs3) (dC _ _ _ _);have hst2:=oW (P:=Tryz.prog) w3 W1.heap.size 196 196 #[(),(),(),(),.slice none 0 0,(),(),(),(),(),(),(),(),(),(),(),(),(),(),(),(),(),(),(),(),(),(),(),()] (frC z (.slice ao mm c)) hz3 (kw _ _ hzl) (by rw[bC _ _ hzl];exact hs3) (dC _ _ _ _))))
  ·go_wp2_with fail
   go_meet
   have hw1:=L8 HZ1.out
   have hs3':=(hE3 _ hw1).trans hsm.out
   have hk3':=(af.au (S:=FF τ) (show Below W1.heap.size W1 W1.drew from MB.drew) Me).trans hk3
   have hz3':=hk3.heap (show W1.drew.heap[w.heap.size]? =_ from HZ1.out) (fun e=>by unfold FF at e;rw[hsm.out] at e;omega)
   have hbb:=ae w3 (.cells (frC z (.slice ao mm c)) 196)
   have hsz13:W1.heap.size≤w3.heap.size:=hk3.size
   exact⟨_,z,ao,mm,c,ts,err,R,σ',f',rfl,rfl,hR,hzl,L9 _ _,hT.ah hbb,(fun a ha=>Nat.lt_of_lt_of_le hw1 (hfr a ha)),(hbb.block _ (by omega)).trans hz3',(((af.au HA.out Me).andThen HK1.out (fun i hi e=>by unfold FC at e⊢;rwa [HE.out i hi] at e)).andThen hk3' (fun i hi e=>by unfold FF at e;unfold FC;rw[HE.out i hi] at e;omega)).below hbb (by omega),HE.out.trans hE3 (Nat.le_of_lt hw1),hs3',by omega,hF3.ah hbb,hB3,hc3,hf3,hU3.out.ah hbb,fun h=>hne h,fun h0 h1 h2 h3=>hgood h0 h1 h2 h3⟩
  ·go_wp2_with fail
   go_meet
   have hw1:=L8 HZ1.out
   have hszA:W1.heap.size+1=(W1.alloc (.cells #[(),(),(),(),.slice none 0 0,(),(),(),(),(),(),(),(),(),(),(),(),(),(),(),(),(),(),(),(),(),(),(),()] 196)).drew.heap.size:=by simp
   have hs2:τ2 w.heap.size=3:=(hna.out _ (by omega)).trans hsm.out
   have hs3':=(hE3 w.heap.size (by omega)).trans hs2
   have hs3a:=(hE3 W1.heap.size (by omega)).trans hsa.out
   have hz3':=hk3.heap ((HBa.out.block _ hw1).trans HZ1.out) (fun e=>by unfold FF at e;rw[hs2] at e;omega)
   have hsz13:W1.heap.size+1≤w3.heap.size:=by rw[hszA];exact hk3.size
   exact⟨_,z,ao,mm,c,ts,err,R,σ',f',rfl,rfl,hR,hzl,setRow_heap _ _ _ _ _ _ hz3,hT.kept (aJ _ _ _) (fun a ha e=>by have:=hfr a ha;omega),(fun a ha=>by have:=hfr a ha;omega),(setRow_other _ _ _ _ (by omega)).trans hz3',((((af.au HA.out Me).andThen HK1.out (fun i hi e=>by unfold FC at e⊢;rwa [HE.out i hi] at e)).below HBa.out (by omega)).andThen hk3 (fun i hi e=>by unfold FF at e;unfold FC;rw[hna.out i (by omega),HE.out i hi] at e;omega)).andThen (aJ _ _ _) (fun i hi e=>by omega),HE.out.trans (HXa.out.trans hE3 (by omega)) (by omega),hs3',by omega,hF3.kept ((aJ _ _ _).mono (fun k _ e=>by rw[e];exact Nat.le_of_eq hs3a.symm)),hB3,hc3,hf3,hU3.out.keep (aJ _ _ _) (fun k e _=>by have:=hU3.out.t3;rw[e,hs3a];omega),fun h=>hne h,fun h0 h1 h2 h3=>hgood h0 h1 h2 h3⟩
 case rest=>
 obtain⟨W2,rfl⟩: ∃w',w'=wc:=⟨_,rfl⟩
 obtain⟨gb,z,ao,mm,c,ts,err,R,σ',f',rfl,rfl,hR,hzl,hgr,hT,hao,hz,hK,hE,hs,hgb,hF,hB,hc,hf',hU,hne,hgood⟩:=hcut
 clear HZa HFa HUa HXa hsa hna HBa HFr HFr2 HFd HU1 HF1 HZ1 HK1 hcb1 hcb2 hs3 hs1 hsm HE c53 c54 c55 c56 c57 c58 c59 f57 f58 f59
 have HR:=MI hR
 have HNE:=MI hne
 have HG:=MI hgood
 have hxP:=eH σ' (b:=W2.heap.size) 3 Me
 have HE:=MI (hE.trans hxP (Nat.le_of_lt (L8 hz)))
 have HS:=MI ((hxP _ (L8 hz)).trans hs)
 have hsp:=MI (dG σ' W2.heap.size 3)
 have HC:=MI hc
 have HF':=MI hf'
 have hbP:=ae W2 (.cells yN 205)
 have hzP:=L9 W2 (.cells yN 205)
 have hz2:=(hbP.block _ (L8 hz)).trans hz
 have hg2:=(hbP.block _ (L8 hgr)).trans hgr
 have HF2:=MI (hF.fD hbP (b:=W2.heap.size) 3 Me (by simp))
 have HU2:=MI ((hU.ext hxP).ah hbP)
 have HT2:=MI (hT.ah hbP)
 have HK2:=MI (hK.below hbP (Nat.le_of_lt (L8 hz)))
 have hpw:=L8 hz
 have hpg:=L8 hgr
 have hpc:=L8 hU.row
 have hsc:=MI (show(W2.alloc (.cells yN 205)).heap.size=W2.heap.size+1 by simp)
 clear hR hne hgood hE hs hc hf' hF hU hT hK hz hgr hbP hxP
 generalize fD σ' W2.heap.size 3=τ' at*
 go_upto_if 33 with fail
 rw[←Lp]
 generalize W2.alloc (.cells yN 205)=W3 at*
 generalize W2.heap.size=pb at*
 go_cut [] (fun wx=>TkD X σ B K f C kv u (B.dir.getD C.i m0) n w pb wx)
 case first=>
  have hpb:pb≠C.cb:=by omega
  by_cases he:err=0
  ·subst he
   have HGo:=MI (J5 C.cb 210 u.p HU2.out.p u.k (dW X.fb C kv lv (u.fr+1)) z hzl ao mm c ts W3.drew (HT2.out.ah (show Below W3.heap.size W3 W3.drew from MB.drew)) HU2.out.row)
   unfold xK at HGo
   have hPl:(dN z ts).length=20:=gy z ts
   have hiP:(Tryz.prog.info? 205).map (·.size)=some (iA (dN z ts)).size:=by rw[az,gy];kernel_rfl
   have hsP:yN.size=(iA (dN z ts)).size:=by rw[az,gy];kernel_rfl
   have HPP:=MI (show dN z ts=dN z ts from rfl)
   go_wp2_with fail
   refine wp_region_still_tail 4 (by kernel_rfl) (by kernel_rfl) ?_
   simp only[List.take_succ_cons,List.take_zero,List.drop_succ_cons,List.drop_zero]
   change wpStill _ _ W3.drew _ _ _
   repeat (first | (refine lF rfl 196 (.tmp 5) rfl gb rfl 196 (frC z (.slice ao mm c)) (0,0) _ hg2 Tryz.underlying196 rfl (kw _ _ hzl) ?_) | still_step)
   try refine wpStill_nil ?_
   change wpList _ _ _ _ _ W3.drew
   go_wp2_with (first
    | (go_at_call 238;refine HGo.out.mono ?_;rintro e w4 ⟨rfl,hr4,hk4⟩;have hz4:=hk4.heap (show W3.drew.heap[pb]? =_ from hzP) hpb)
    | (with_reducible refine MF 205 7 38 ?_;refine wpList_store_row rfl 205 (.tmp 7) (.tmp 38) rfl _ (iA (dN z ts)) rfl rfl 205 yN hz4 hiP hsP (bP _) ?_))
   go_meet
   have hr5:=(setRow_other w4 pb C.cb (iA (dN z ts)) (Ne.symm hpb)).trans hr4
   have hkk:af (fun j=>j=C.cb) W3 w4:=(af.au (S:=fun j=>j=C.cb) (show Below W3.heap.size W3 W3.drew from MB.drew) Me).trans hk4
   have hU4:=HU2.out.veil hPl hr4 hkk
   have hF4:=HF2.out.kept (hkk.mono fun k _ e=>by rw[e,HU2.out.own];have:=HU2.out.t3;omega)
   exact⟨dN z ts,0,z,ts,R,τ',f',lv,_,HR.out,hzl,hPl,setRow_heap _ _ _ _ _ _ hz4,(setRow_other _ _ _ _ (by omega)).trans (hkk.heap hz2 (by omega)),(HK2.out.andThen hkk (fun i hi e=>.inr (.inr (by rw[←HE.out i hi,e];exact HU2.out.own)))).andThen (aJ _ _ _) (fun i hi e=>by omega),HE.out,HS.out,hF4.kept ((aJ _ _ _).mono (fun k _ e=>by rw[e];exact Nat.le_of_eq hsp.out.symm)),hB,HC.out,HF'.out,hU4.keep (aJ _ _ _) (fun k e _=>by have:=HU2.out.t3;rw[e,hsp.out];omega),rfl,rfl,fun h=>HNE.out h,fun h0 h1 h2 h3=>⟨(HG.out h0 h1 h2 h3).1,(HG.out h0 h1 h2 h3).2.1,rfl⟩,fun _=>⟨rfl,rfl,rfl,rfl⟩,fun h=>absurd rfl h⟩
  ·have q1:(err==0)=false:=by simpa using he
   have HN0:=MI he
   clear he
   obtain⟨c53,c54,c55,c56,c57,c58,c59,f57,f58,f59⟩:=gq HU2.out.p HU2.out.row
   have hlo:=MI HU2.out.lost
   go_upto_region 7 with(at_builtin;refine ng rfl (.tmp 43) (.tmp 45) 33 3 rfl Tryz.underlying33 Es rfl 0 _ _ _ rfl hlo.out (.int .i64 (n:Int)) rfl rfl (by show(u.lost.length+1)*8≤_;omega) (by show u.lost.length+1≤_;unfold maxLen;omega) (Nat.zero_le _) ?_;intro lv4 w4 hown4 hk4 hb4;obtain⟨ao4,cap4,rfl⟩:=bV hown4;obtain⟨hr4,hkp4⟩:=HU2.out.app hk4;have d58:=qo HU2.out.p hr4 5 rfl;have g58:=frozen_of_row _ _ 58 _ _ hr4;have HR4:=MI hr4;have HP4:=MI hkp4;have HO4:=MI hown4;have HK4:=MI hk4;have HB4:=MI hb4;clear hr4 hkp4 hown4 hk4 hb4)
   obtain⟨τ5,hE5,hF5,hU5,hk5⟩:=dH.lostAdd HF2.out HU2.out HO4.out HK4.out HB4.out
   have hz5:=hk5.heap hz2 (fun e=>by have:=HU2.out.t3;rw[HS.out] at e;omega)
   have hzP5:=hk5.heap hzP (fun e=>by have:=HU2.out.t3;rw[hsp.out] at e;omega)
   have hw3:=hk5.size
   have HK5:=MI (HK2.out.andThen hk5 (fun i hi e=>.inr (.inr (by rw[←HE.out i hi];exact e))))
   have HE5:=MI (HE.out.trans hE5 (by have:=L8 hz2;omega))
   have HS5:=MI ((hE5 _ (L8 hz2)).trans HS.out)
   have hsp5:=MI ((hE5 _ (L8 hzP)).trans hsp.out)
   have HF5:=MI hF5
   have HU5:=MI hU5
   clear d58 g58 HR4 HP4 HO4 HK4 HB4 hk5 hF5 hU5 hE5 c53 c54 c55 c56 c57 c58 c59 f57 f58 f59 hg2 HF2 HU2 HT2 HK2 hzP hz2 HE HS hsp hlo
   simp only at HU5 HF5
   generalize w4.setCell ⟨C.cb,58,none⟩ (.slice ao4 (u.lost.length+1) cap4)=W5 at*
   generalize Value.slice ao4 (u.lost.length+1) cap4=lv5 at*
   have HLo:=MI (JJ C.cb 210 u.p HU5.out.p u.k (dW X.fb C kv lv5 (u.fr+1)) W5 HU5.out.row)
   unfold xK at HLo
   have hPl:(oN u.p (wrap64 (u.k+1))).length=20:=wW _ HU5.out.p _
   generalize hPP:oN u.p (wrap64 (u.k+1))=P at*
   have HPP:=MI hPP
   clear hPP
   have hiP:(Tryz.prog.info? 205).map (·.size)=some (iA P).size:=by rw[az,hPl];kernel_rfl
   have hsP:yN.size=(iA P).size:=by rw[az,hPl];kernel_rfl
   go_wp2_with (first
    | (go_at_call 239;refine HLo.out.mono ?_;rintro e w6 ⟨rfl,hr6,hk6⟩;have hz6:=hk6.heap hzP5 hpb)
    | (with_reducible refine MF 205 7 52 ?_;refine wpList_store_row rfl 205 (.tmp 7) (.tmp 52) rfl _ (iA P) rfl rfl 205 yN hz6 hiP hsP (bP _) ?_))
   go_meet
   have hU6:=HU5.out.veil HU5.out.p hr6 hk6
   have hF6:=HF5.out.kept (hk6.mono fun k _ e=>by rw[e,HU5.out.own];have:=HU5.out.t3;omega)
   exact⟨P,err,z,ts,R,τ5,f',lv5,_,HR.out,hzl,hPl,setRow_heap _ _ _ _ _ _ hz6,(setRow_other _ _ _ _ (by omega)).trans (hk6.heap hz5 (by omega)),(HK5.out.andThen hk6 (fun i hi e=>.inr (.inr (by rw[←HE5.out i hi,e];exact HU5.out.own)))).andThen (aJ _ _ _) (fun i hi e=>by omega),HE5.out,HS5.out,hF6.kept ((aJ _ _ _).mono (fun k _ e=>by rw[e];exact Nat.le_of_eq hsp5.out.symm)),hB,HC.out,HF'.out,hU6.keep (aJ _ _ _) (fun k e _=>by have:=HU5.out.t3;rw[e,hsp5.out];omega),rfl,rfl,fun h=>HNE.out h,fun h0 h1 h2 h3=>HG.out h0 h1 h2 h3,fun h=>absurd h HN0.out,fun _=>⟨rfl,rfl,rfl,HPP.out.symm⟩⟩
 case rest=>
 obtain⟨W4,rfl⟩: ∃w',w'=wc:=⟨_,rfl⟩
 obtain⟨P,err2,z2,ts2,R2,σ2,f2,lv2,u2,hR2,hz2l,hPl,hzP4,hz4,hK4,hE4,hS4,hF4,hB4,hc4,hf4,hU4,hke,hfr4,hne4,hgood4,hgo4,hlo4⟩:=hcut
 have hl16:(P.take 16).length=16:=by simp[hPl]
 have hd4:(P.drop 16).length=4:=by simp[hPl]
 have hT1:=(Au hU4.p hU4.row).1
 have hT2:W4.rangeAt pb 0 (iL (P.take 16)):=gK [] (iL (P.take 16)) (iL (P.drop 16)) (by rw[hzP4,List.nil_append,←JX,List.take_append_drop];rfl)
 have hT3:W4.rangeAt pb 16 (iL (P.drop 16)):=by
  have:=gK (w:=W4) (b:=pb) (T:=205) (fr:=(0,0)) (iL (P.take 16)) (iL (P.drop 16)) [] (by rw[hzP4,List.append_nil,←JX,List.take_append_drop];rfl)
  rwa [dA,hl16] at this
 have hIv:=MI (fun w=>zZ (P.take 16) hl16 w)
 have hil:(nI (P.take 16)).length=16:=by unfold nI;simp only[gU];exact hl16
 generalize hTK:P.take 16=TK at*
 generalize hG:P.drop 16=G at*
 generalize hIV:nI TK=IV at*
 have HTK:=MI hTK
 have HGG:=MI hG
 have HIV:=MI hIV
 clear hTK hG hIV
 have HBU:=MI (show Tryz.prog.built 316 [(0,.int .i64 n),(1,.agg (iA IV)),(2,.agg (iA G))]=some (iA (kbL ⟨n,IV,G⟩)) from KT n IV G hil hd4)
 have hi194:(Tryz.prog.info? 194).map (·.size)=some (iL (TK)).length:=by rw[dA,hl16];kernel_rfl
 have hi191:(Tryz.prog.info? 191).map (·.size)=some (iL (G)).length:=by rw[dA,hd4];kernel_rfl
 have hkl:(kbL ⟨n,IV,G⟩).length=21:=by simp only[kbL,List.length_cons,List.length_append,hil,hd4]
 have hi316:(Tryz.prog.info? 316).map (·.size)=some (iA (kbL ⟨n,IV,G⟩)).size:=by rw[az,hkl];kernel_rfl
 have hs316:gu.size=(iA (kbL ⟨n,IV,G⟩)).size:=by rw[az,hkl];kernel_rfl
 have hw4:=L8 hz4
 have hcb4:C.cb<W4.drew.heap.size:=L8 hU4.row
 have hpb4:pb<W4.drew.heap.size:=L8 hzP4
 have hcw:C.cb≠w.heap.size:=by omega
 have hpw4:pb≠w.heap.size:=by omega
 clear hg2 hzP hz2 HR HNE HG HE HS HC HF' hsp HF2 HU2 HT2 HK2
 go_upto_region 8 with fail
 refine wp_region_noPanic ?_
 refine wp_region_held_drew (S:=fun w'=>w'.rangeAt C.cb 37 (iL aI)∧w'.rangeAt pb 0 (iL (TK))∧w'.rangeAt pb 16 (iL (G))) (by kernel_rfl) ?_ (fun hHeld=>?_)
 ·exact⟨hT1,hT2,hT3⟩
 refine MG 0 ?_ ?_ (by assumption) ?_
 rotate_left
 ·(intro w hSw;(try dsimp only at hSw);go_simp;try with_reducible rfl)
 try simp only[Act.put,aS]
 refine MG 1 ?_ ?_ (by assumption) ?_
 rotate_left
 ·(intro w hSw;(try dsimp only at hSw);go_simp;try with_reducible rfl)
 try simp only[Act.put,aS]
 refine MG 2 ?_ ?_ (by assumption) ?_
 rotate_left
 ·(intro w hSw;(try dsimp only at hSw);go_simp;try with_reducible rfl)
 try simp only[Act.put,aS]
 refine MG 3 ?_ ?_ (by assumption) ?_
 rotate_left
 ·(intro w hSw;(try dsimp only at hSw);go_simp;try with_reducible rfl)
 try simp only[Act.put,aS]
 refine MG 4 ?_ ?_ (by assumption) ?_
 rotate_left
 ·(intro w hSw;(try dsimp only at hSw);go_simp;try with_reducible rfl)
 try simp only[Act.put,aS]
 refine wpAnyH_take (i:=5) (v:=.agg (iL aI).toArray) rfl (by kernel_rfl) (by kernel_rfl) (by kernel_rfl) (fun _ _ _ h=>h) (yieldsIf_load_mid (by kernel_rfl) 176 (.tmp 57) rfl C.cb 37 rfl (iL aI) _ (fun w h=>h.1) Tryz.underlying176 rfl (by kernel_rfl)) (by assumption) ?_
 try simp only[Act.put,aS]
 refine MG 6 ?_ ?_ (by assumption) ?_
 rotate_left
 ·(intro w hSw;(try dsimp only at hSw);go_simp;try with_reducible rfl)
 try simp only[Act.put,aS]
 refine wpAnyH_take (i:=7) (v:=.agg (iL (TK)).toArray) rfl (by kernel_rfl) (by kernel_rfl) (by kernel_rfl) (fun _ _ _ h=>h) (yieldsIf_load_mid (by kernel_rfl) 194 (.tmp 59) rfl pb 0 rfl (iL (TK)) _ (fun w h=>h.2.1) Tryz.underlying194 rfl hi194) (by assumption) ?_
 try simp only[Act.put,aS]
 refine MG 9 ?_ ?_ (by assumption) ?_
 rotate_left
 ·(intro w hSw;(try dsimp only at hSw);go_simp;try with_reducible rfl)
 try simp only[Act.put,aS]
 refine wpAnyH_take (i:=10) (v:=.agg (iL (G)).toArray) rfl (by kernel_rfl) (by kernel_rfl) (by kernel_rfl) (fun _ _ _ h=>h) (yieldsIf_load_mid (by kernel_rfl) 191 (.tmp 62) rfl pb 16 rfl (iL (G)) _ (fun w h=>h.2.2) Tryz.underlying191 rfl hi191) (by assumption) ?_
 try simp only[Act.put,aS]
 refine wpAnyH_ready (rs:=[8]) (by kernel_rfl) (by simp) ?_
 refine AllReadyH.cons rfl (fun K hK=>?_) AllReadyH.nil
 go_simp
 go_at_call 240;refine(hIv.out _).mono ?_;rintro e w5 ⟨rfl,hb5⟩;have hz5:=bT hz4 (show Below W4.heap.size W4 w5 from((Below.refl _ W4).drew).trans hb5) hw4
 refine hK.out _ _ ?_ (fun hHeld=>?_)
 ·(try dsimp only);exact⟨Ce hHeld.1 hb5 hcb4,Ce hHeld.2.1 hb5 hpb4,Ce hHeld.2.2 hb5 hpb4⟩
 clear hK K
 try simp only[Act.put,aS]
 refine wpAnyH_take (i:=11) (v:=.agg (iA (kbL ⟨n,IV,G⟩))) rfl (by kernel_rfl) (by kernel_rfl) (by kernel_rfl) (fun _ _ _ h=>h) (kD (by kernel_rfl) 316 _ rfl (iA (kbL ⟨n,IV,G⟩)) (Eq.trans (b:=Tryz.prog.built 316 [(0,.int .i64 n),(1,.agg (iA (IV))),(2,.agg (iA (G)))]) (by kernel_rfl) HBU.out)) (by assumption) ?_
 try simp only[Act.put,aS]
 refine wpAnyH_ready (rs:=[12]) (by kernel_rfl) (by simp) ?_
 refine AllReadyH.cons rfl (fun K hK=>?_) AllReadyH.nil
 rw[if_pos (by kernel_rfl)]
 refine wp_store_row 316 (.tmp 4) (.tmp 64) rfl _ (iA (kbL ⟨n,IV,G⟩)) rfl rfl 316 gu hz5 hi316 hs316 (bP _) ?_
 refine hK.out _ _ ?_ (fun hHeld=>?_)
 ·(try dsimp only);exact⟨Cc hHeld.1 hcw _,Cc hHeld.2.1 hpw4 _,Cc hHeld.2.2 hpw4 _⟩
 clear hK K
 try simp only[Act.put,aS]
 refine wpAnyH_done (by kernel_rfl) ?_ _
 refine NoPanic.normal ?_
 go_wp2_with fail
 have hb6:Below W4.heap.size W4 w5:=((Below.refl _ W4).drew).trans hb5
 have hkr:=aJ w5 w.heap.size (iA (kbL ⟨n,IV,G⟩))
 refine bodyPost_ret (results_cell_row (fn:=Tryz.f230) rfl _ _ _ _ _ _ _ rfl (setRow_heap _ _ _ _ _ _ hz5) Tryz.underlying316 rfl hi316) rfl ⟨⟨n,IV,G⟩,R2,u2,lv2,σ2,f2,rfl,⟨hil,hd4⟩,⟨err2,z2,ts2,hR2,hz2l,hne4,hgood4,hke,hfr4,rfl,fun h=>?_,fun h=>?_⟩,(hF4.ah hb6).kept (hkr.mono (fun k _ e=>by rw[e];exact Nat.le_of_eq hS4.symm)),hB4,hc4,hf4,(hU4.ah hb6).keep hkr (fun k e _=>by have:=hU4.t3;rw[e,hS4];omega),(hK4.below hb6 (by omega)).andThen hkr (fun i hi e=>by omega),hE4⟩
 ·obtain⟨a1,a2,a3,a4⟩:=hgo4 h
  exact⟨a1,a2,a3,by rw[←a4,HTK.out];exact HIV.out.symm,by rw[←a4];exact HGG.out.symm⟩
 ·obtain⟨a1,a2,a3,a4⟩:=hlo4 h
  exact⟨a1,a2,a3,by rw[←a4,HTK.out];exact HIV.out.symm,by rw[←a4];exact HGG.out.symm⟩
end Go.Proofs.YtnicjahcgnhogaaGreatDoor
