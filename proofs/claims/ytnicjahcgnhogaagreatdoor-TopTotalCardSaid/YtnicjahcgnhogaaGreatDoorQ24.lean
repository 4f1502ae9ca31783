/- Part 25 of the walk: contracts of the program's functions, each for every input. No condition. -/
import Derived.Test.YtnicjahcgnhogaaGreatDoorQ23
import Derived.Test.YtnicjahcgnhogaaGreatDoorQ22
import Derived.Test.YtnicjahcgnhogaaGreatDoorQ18
set_option linter.unusedVariables false
set_option linter.unusedSimpArgs false
set_option maxRecDepth 100000
set_option maxHeartbeats 8000000
namespace Go.Proofs.YtnicjahcgnhogaaGreatDoor
open Go Go.RowKit Go.Calli
attribute [local irreducible] wpStill wpAnyH wpAnyS wpList Code.wp
def exZ(b:List Int):List Int:=dS b [0,0,0,0] [0,0,0,0] []
theorem qh(b:List Int):(exZ b).length=28:=qI _ _ _ _ rfl rfl
theorem yK(b:List Int)(hb:b.length=16)(hwf: ∀z ∈ b,(Lit.int .i64 z).wf=true)(w:World):Calls Tryz.prog 168 #[.agg (iA b)] w (fun e w'=>e= .returned (.agg (frC (exZ b) (.slice none 0 0)))∧Below w.heap.size w w'):=by
 have hb0:=ae w (.cells (iA b) 194)
 have hz0:=L9 w (.cells (iA b) 194)
 have hb1:=ae (w.alloc (.cells (iA b) 194)) (.cells #[(),(),(),(),.slice none 0 0,(),(),(),(),(),(),(),(),(),(),(),(),(),(),(),(),(),(),(),(),(),(),(),()] 196)
 have hz1:=L9 (w.alloc (.cells (iA b) 194)) (.cells #[(),(),(),(),.slice none 0 0,(),(),(),(),(),(),(),(),(),(),(),(),(),(),(),(),(),(),(),(),(),(),(),()] 196)
 have hz0:=rwB hz0 hb1
 have hB:=hb0.trans (hb1.mono hb0.size)
 rw[World.size_alloc] at hz1
 clear hb0 hb1
 have hi0:(Tryz.prog.info? 194).map (·.size)=some (iA b).size:=by rw[az,hb];kernel_rfl
 have hS:=MI (fun W=>(tK b [0,0,0,0] hb hwf rfl 1073741824 false (fun e=>by cases e) W).mono (fun e w' h=>show ∃r:Int,e= .returned (.tuple #[.agg (frC (exZ b) (.slice none 0 0)),.int .i64 r])∧Below W.heap.size W w' by
  obtain⟨z,ao,n,cap,ts,r,h1,h2,h3,h4,h5,h6,h7⟩:=h
  obtain⟨e1,e2,e3,e4,e5⟩:=h7 rfl rfl
  subst e1 e3 e4 e5
  exact⟨r,h1,h6⟩))
 have hfi:(Tryz.prog.info? 196).map (·.size)=some (frC (exZ b) (.slice none 0 0)).size:=jH _ _ (qh b)
 have hfz:(#[(),(),(),(),.slice none 0 0,(),(),(),(),(),(),(),(),(),(),(),(),(),(),(),(),(),(),(),(),(),(),(),()]:Array Value).size=(frC (exZ b) (.slice none 0 0)).size:=by rw[bC _ _ (qh b)];rfl
 have hfo:=dC (exZ b) none 0 0
 clear hwf
 generalize exZ b=z at*
 have HB:=MI hB
 clear hB
 go_enter Tryz.func168,Tryz.ntmps168
 go_upto_region 1 with fail
 generalize (w.alloc (.cells (iA b) 194)).alloc (.cells #[(),(),(),(),.slice none 0 0,(),(),(),(),(),(),(),(),(),(),(),(),(),(),(),(),(),(),(),(),(),(),(),()] 196)=W at*
 go_upto_region 2 with(first
  | ((with_reducible refine MC 194 1 ?_);refine wpList_load_row rfl 194 (.tmp 1) rfl w.heap.size rfl 194 (iA b) (0,0) _ hz0 Tryz.underlying194 rfl hi0 ?_)
  | ((with_reducible show wpList _ _ _ (Oper.mk _ (Op.build 191 _) _ _ _ _::_) _ _);refine aV rfl 191 _ rfl (iA [0,0,0,0]) (by kernel_rfl) ?_)
  | (go_at_call 169;refine(hS.out _).mono ?_;rintro e w2 ⟨r,rfl,hb2⟩)
  | ((with_reducible refine MF 196 3 9 ?_);refine wpList_store_row rfl 196 (.tmp 3) (.tmp 9) rfl _ (frC z (.slice none 0 0)) rfl rfl 196 (#[(),(),(),(),.slice none 0 0,(),(),(),(),(),(),(),(),(),(),(),(),(),(),(),(),(),(),(),(),(),(),(),()]) (L9 _ _) hfi hfz hfo ?_))
 have hbx:Below W.heap.size W ((w2.alloc (.cells #[(),(),(),(),.slice none 0 0,(),(),(),(),(),(),(),(),(),(),(),(),(),(),(),(),(),(),(),(),(),(),(),()] 196)).setRow w2.heap.size (frC z (.slice none 0 0))):=below_setRow (hb2.trans ((ae w2 (.cells #[(),(),(),(),.slice none 0 0,(),(),(),(),(),(),(),(),(),(),(),(),(),(),(),(),(),(),(),(),(),(),(),()] 196)).mono hb2.size)) hb2.size _
 have hzf:=Md (frC z (.slice none 0 0)) (L9 w2 (.cells #[(),(),(),(),.slice none 0 0,(),(),(),(),(),(),(),(),(),(),(),(),(),(),(),(),(),(),(),(),(),(),(),()] 196))
 have hz1:=rwB hz1 hbx
 have hBx:=HB.out.trans (hbx.mono HB.out.size)
 clear hb2 hbx hz0 HB
 change Code.wp _ _ _ _ ((w2.alloc (.cells #[(),(),(),(),.slice none 0 0,(),(),(),(),(),(),(),(),(),(),(),(),(),(),(),(),(),(),(),(),(),(),(),()] 196)).setRow w2.heap.size (frC z (.slice none 0 0)))
 generalize (w2.alloc (.cells #[(),(),(),(),.slice none 0 0,(),(),(),(),(),(),(),(),(),(),(),(),(),(),(),(),(),(),(),(),(),(),(),()] 196)).setRow w2.heap.size (frC z (.slice none 0 0))=X at*
 generalize w2.heap.size=fb at*
 go_wp2_with (first
  | ((with_reducible refine MC 196 3 ?_);refine wpList_load_row rfl 196 (.tmp 3) rfl fb rfl 196 (frC z (.slice none 0 0)) (0,0) _ hzf Tryz.underlying196 rfl hfi ?_)
  | ((with_reducible refine MF 196 2 11 ?_);refine wpList_store_row rfl 196 (.tmp 2) (.tmp 11) rfl _ (frC z (.slice none 0 0)) rfl rfl 196 (#[(),(),(),(),.slice none 0 0,(),(),(),(),(),(),(),(),(),(),(),(),(),(),(),(),(),(),(),(),(),(),(),()]) hz1 hfi hfz hfo ?_))
 exact bodyPost_ret (results_cell_row (fn:=Tryz.f168) rfl _ _ _ _ _ _ _ rfl (setRow_heap _ _ _ _ _ _ hz1) Tryz.underlying196 rfl hfi) rfl ⟨rfl,below_setRow hBx (by omega) _⟩
def FitP(b g:List Int)(size:Int)(w:World)(e:Ending)(w':World):Prop:=∃(z:List Int)(ao:Option Addr)(n cap:Nat)(ts:List (Int×Int))(r:Int),e= .returned (.tuple #[.agg (frC z (.slice ao n cap)),.int .i64 r])∧z.length=28∧bH ed 2 (0,0) w' ao n ts∧(∀a,ao=some a→w.heap.size≤a.block)∧n≤2∧Below w.heap.size w w'∧(55≤size→size≤96→jL (ja b)≤24→inB 3 g=true→r=0∧z=exZ b∧ts=[]∧ao=none∧n=0∧cap=0)
theorem iA_all{w:World}{b T:Nat}{zs:List Int}(h:w.heap[b]? =some (.cells (iA zs) T (0,0)))(hz:zs.length=16)(hwf: ∀z ∈ zs,(Lit.int .i64 z).wf=true):Ints .i64 w (some ⟨b,0,none⟩) 16 zs:=by
 have h1:=ED h 0 16 (by omega) (by omega) hwf
 rwa [List.drop_zero,List.take_of_length_le (by omega)] at h1
def fz:List Int:=List.replicate 28 0
theorem fz_len:fz.length=28:=rfl
theorem J6:frC fz (.slice none 0 0)=#[.int .i64 0,.int .i64 0,.int .i64 0,.int .i64 0,.slice none 0 0,.int .i64 0,.int .i64 0,.int .i64 0,.int .i64 0,.int .i64 0,.int .i64 0,.int .i64 0,.int .i64 0,.int .i64 0,.int .i64 0,.int .i64 0,.int .i64 0,.int .i64 0,.int .i64 0,.int .i64 0,.int .i64 0,.int .i64 0,.int .i64 0,.int .i64 0,.int .i64 0,.int .i64 0,.int .i64 0,.int .i64 0,.int .i64 0]:=by kernel_rfl
theorem fit_err{b g:List Int}{size r:Int}{w w':World}(hb:Below w.heap.size w w'){v:Value}(hv:v= .tuple #[.agg #[(),(),(),(),.slice none 0 0,(),(),(),(),(),(),(),(),(),(),(),(),(),(),(),(),(),(),(),(),(),(),(),()],.int .i64 r])(hn:¬(55≤size∧size≤96∧jL (ja b)≤24∧inB 3 g=true)):FitP b g size w (.returned v) w':=
 ⟨fz,none,0,0,[],r,by rw[hv,J6],fz_len,bH.nil _ _ _ _ _,(fun a e=>by cases e),by omega,hb,fun h1 h2 h3 h4=>absurd ⟨h1,h2,h3,h4⟩ hn⟩
theorem yJ(b g:List Int)(hb:b.length=16)(hwf: ∀z ∈ b,(Lit.int .i64 z).wf=true)(hg:g.length=4)(size:Int)(hfind:size<55→∀W,Calls Tryz.prog 198 #[.agg (iA b)] W (LQ W))(w:World):Calls Tryz.prog 132 #[.agg (iA b),.agg (iA g),.int .i64 size] w (FitP b g size w):=by
 have hb0:=ae w (.cells (iA b) 194)
 have hz0:=L9 w (.cells (iA b) 194)
 have hb1:=ae (w.alloc (.cells (iA b) 194)) (.cells (iA g) 191)
 have hz1:=L9 (w.alloc (.cells (iA b) 194)) (.cells (iA g) 191)
 have hb2:=ae ((w.alloc (.cells (iA b) 194)).alloc (.cells (iA g) 191)) (.cells #[(),(),(),(),.slice none 0 0,(),(),(),(),(),(),(),(),(),(),(),(),(),(),(),(),(),(),(),(),(),(),(),()] 196)
 have hz2:=L9 ((w.alloc (.cells (iA b) 194)).alloc (.cells (iA g) 191)) (.cells #[(),(),(),(),.slice none 0 0,(),(),(),(),(),(),(),(),(),(),(),(),(),(),(),(),(),(),(),(),(),(),(),()] 196)
 have hz1:=rwB hz1 hb2
 have hz0:=rwB (rwB hz0 hb1) hb2
 have hB:=(hb0.trans (hb1.mono hb0.size)).trans (hb2.mono (hb0.trans (hb1.mono hb0.size)).size)
 simp only[World.size_alloc] at hz1 hz2
 clear hb0 hb1 hb2
 have hi0:(Tryz.prog.info? 194).map (·.size)=some (iA b).size:=by rw[az,hb];kernel_rfl
 have hi1:(Tryz.prog.info? 191).map (·.size)=some (iA g).size:=by rw[az,hg];kernel_rfl
 have hbu:Tryz.prog.built 196 []=some (#[.int .i64 0,.int .i64 0,.int .i64 0,.int .i64 0,.slice none 0 0,.int .i64 0,.int .i64 0,.int .i64 0,.int .i64 0,.int .i64 0,.int .i64 0,.int .i64 0,.int .i64 0,.int .i64 0,.int .i64 0,.int .i64 0,.int .i64 0,.int .i64 0,.int .i64 0,.int .i64 0,.int .i64 0,.int .i64 0,.int .i64 0,.int .i64 0,.int .i64 0,.int .i64 0,.int .i64 0,.int .i64 0,.int .i64 0]):=by kernel_rfl
 have hiz:(Tryz.prog.info? 196).map (·.size)=some (#[.int .i64 0,.int .i64 0,.int .i64 0,.int .i64 0,.slice none 0 0,.int .i64 0,.int .i64 0,.int .i64 0,.int .i64 0,.int .i64 0,.int .i64 0,.int .i64 0,.int .i64 0,.int .i64 0,.int .i64 0,.int .i64 0,.int .i64 0,.int .i64 0,.int .i64 0,.int .i64 0,.int .i64 0,.int .i64 0,.int .i64 0,.int .i64 0,.int .i64 0,.int .i64 0,.int .i64 0,.int .i64 0,.int .i64 0]:Array Value).size:=by kernel_rfl
 have hoz:(#[(),(),(),(),.slice none 0 0,(),(),(),(),(),(),(),(),(),(),(),(),(),(),(),(),(),(),(),(),(),(),(),()]:Array Value).all (·.oneCell')=true:=by rw[←J6];exact dC fz none 0 0
 have hP:=MI (fun(W:World)(h:W.heap[w.heap.size]? =some (.cells (iA b) 194 (0,0)))(cap:Nat)=>zC (some ⟨w.heap.size,0,none⟩) 16 cap b W (iA_all h hb hwf))
 have hW:=MI (fun W=>Jl b hwf W)
 obtain⟨g0,g1,g2,g3,rfl⟩:=mV hg
 have hG:=MI (fun W=>gok_any g0 g1 g2 g3 W)
 have hz1e:((((w.alloc (.cells (iA b) 194)).alloc (.cells (iA [g0,g1,g2,g3]) 191)).alloc (.cells #[(),(),(),(),.slice none 0 0,(),(),(),(),(),(),(),(),(),(),(),(),(),(),(),(),(),(),(),(),(),(),(),()] 196))).heap[w.heap.size+1]? =some (.cells #[.int .i64 g0,.int .i64 g1,.int .i64 g2,.int .i64 g3] 191 (0,0)):=hz1
 obtain⟨d0,d1,d2,d3⟩:=bi hz1e
 clear hz1e
 have hEx:=MI (fun W=>yK b hb hwf W)
 have hSr:=MI (fun(h5:size<55) W=>tK b [g0,g1,g2,g3] hb hwf hg (8*size) true (fun _=>hfind h5) W)
 have hEr:=MI (fun w' (r:Int) hb v hv hn=>fit_err (b:=b) (g:=[g0,g1,g2,g3]) (size:=size) (r:=r) (w:=w) (w':=w') hb (v:=v) hv hn)
 have hlt:=L8 hz2
 generalize hwd:jL (ja b)=wd at*
 have HWD:=MI hwd
 generalize hpk:ja b=pk at*
 have HPK:=MI hpk
 clear hwf hfind hwd hpk
 have HB:=MI hB
 clear hB
 by_cases hs1:size<24
 ·go_enter Tryz.func132,Tryz.ntmps132
  go_upto_region 1 with fail
  generalize ((w.alloc (.cells (iA b) 194)).alloc (.cells (iA [g0,g1,g2,g3]) 191)).alloc (.cells #[(),(),(),(),.slice none 0 0,(),(),(),(),(),(),(),(),(),(),(),(),(),(),(),(),(),(),(),(),(),(),(),()] 196)=W at*
  go_wp2_with (first | ((with_reducible show wpList _ _ _ (Oper.mk _ (Op.build 196 _) _ _ _ _::_) _ _);refine aV rfl 196 _ rfl (#[(),(),(),(),.slice none 0 0,(),(),(),(),(),(),(),(),(),(),(),(),(),(),(),(),(),(),(),(),(),(),(),()]) hbu ?_) | ((with_reducible refine MF 196 6 16 ?_);refine wpList_store_row rfl 196 (.tmp 6) (.tmp 16) rfl _ (#[(),(),(),(),.slice none 0 0,(),(),(),(),(),(),(),(),(),(),(),(),(),(),(),(),(),(),(),(),(),(),(),()]) rfl rfl 196 (#[(),(),(),(),.slice none 0 0,(),(),(),(),(),(),(),(),(),(),(),(),(),(),(),(),(),(),(),(),(),(),(),()]) hz2 hiz rfl hoz ?_))
  exact bodyPost_ret (results_cell_tmp (fn:=Tryz.f132) (p:=6) (q:=7) (ty:=196) rfl _ _ _ _ _ _ _ rfl (setRow_heap _ _ _ _ _ _ hz2) Tryz.underlying196 rfl hiz) rfl (hEr.out _ 12 (below_setRow HB.out (by omega) _) _ rfl (by omega))
 by_cases hs2:96<size
 ·go_enter Tryz.func132,Tryz.ntmps132
  go_upto_region 1 with fail
  generalize ((w.alloc (.cells (iA b) 194)).alloc (.cells (iA [g0,g1,g2,g3]) 191)).alloc (.cells #[(),(),(),(),.slice none 0 0,(),(),(),(),(),(),(),(),(),(),(),(),(),(),(),(),(),(),(),(),(),(),(),()] 196)=W at*
  go_wp2_with (first | ((with_reducible show wpList _ _ _ (Oper.mk _ (Op.build 196 _) _ _ _ _::_) _ _);refine aV rfl 196 _ rfl (#[(),(),(),(),.slice none 0 0,(),(),(),(),(),(),(),(),(),(),(),(),(),(),(),(),(),(),(),(),(),(),(),()]) hbu ?_) | ((with_reducible refine MF 196 6 16 ?_);refine wpList_store_row rfl 196 (.tmp 6) (.tmp 16) rfl _ (#[(),(),(),(),.slice none 0 0,(),(),(),(),(),(),(),(),(),(),(),(),(),(),(),(),(),(),(),(),(),(),(),()]) rfl rfl 196 (#[(),(),(),(),.slice none 0 0,(),(),(),(),(),(),(),(),(),(),(),(),(),(),(),(),(),(),(),(),(),(),(),()]) hz2 hiz rfl hoz ?_))
  exact bodyPost_ret (results_cell_tmp (fn:=Tryz.f132) (p:=6) (q:=7) (ty:=196) rfl _ _ _ _ _ _ _ rfl (setRow_heap _ _ _ _ _ _ hz2) Tryz.underlying196 rfl hiz) rfl (hEr.out _ 12 (below_setRow HB.out (by omega) _) _ rfl (by omega))
 by_cases hw24:24<wd
 ·go_enter Tryz.func132,Tryz.ntmps132
  go_upto_region 1 with fail
  generalize ((w.alloc (.cells (iA b) 194)).alloc (.cells (iA [g0,g1,g2,g3]) 191)).alloc (.cells #[(),(),(),(),.slice none 0 0,(),(),(),(),(),(),(),(),(),(),(),(),(),(),(),(),(),(),(),(),(),(),(),()] 196)=W at*
  go_wp2_with (first
  | (go_at_call 166;refine(hP.out _ (by exact hz0) _).mono ?_;rintro e w1 ⟨rfl,n1,rfl⟩)
  | (go_at_call 165;refine(hW.out _).mono ?_;rintro e w2 ⟨rfl,n2,rfl⟩)
  | ((with_reducible show wpList _ _ _ (Oper.mk _ (Op.build 196 _) _ _ _ _::_) _ _);refine aV rfl 196 _ rfl (#[(),(),(),(),.slice none 0 0,(),(),(),(),(),(),(),(),(),(),(),(),(),(),(),(),(),(),(),(),(),(),(),()]) hbu ?_)
  | ((with_reducible refine MF 196 6 26 ?_);refine wpList_store_row rfl 196 (.tmp 6) (.tmp 26) rfl _ (#[(),(),(),(),.slice none 0 0,(),(),(),(),(),(),(),(),(),(),(),(),(),(),(),(),(),(),(),(),(),(),(),()]) rfl rfl 196 (#[(),(),(),(),.slice none 0 0,(),(),(),(),(),(),(),(),(),(),(),(),(),(),(),(),(),(),(),(),(),(),(),()]) (by exact hz2) hiz rfl hoz ?_))
  exact bodyPost_ret (results_cell_tmp (fn:=Tryz.f132) (p:=6) (q:=7) (ty:=196) rfl _ _ _ _ _ _ _ rfl (setRow_heap _ _ _ _ _ _ (show(W.drewN _).heap[w.heap.size+1+1]? =_ from hz2)) Tryz.underlying196 rfl hiz) rfl (hEr.out _ 5 (below_setRow (below_drewN HB.out _) (by omega) _) _ rfl (by omega))
 cases hgi:inB 3 [g0,g1,g2,g3] with
 | false=>
  rw[hgi] at hG hEr
  go_enter Tryz.func132,Tryz.ntmps132
  go_upto_region 1 with fail
  generalize ((w.alloc (.cells (iA b) 194)).alloc (.cells (iA [g0,g1,g2,g3]) 191)).alloc (.cells #[(),(),(),(),.slice none 0 0,(),(),(),(),(),(),(),(),(),(),(),(),(),(),(),(),(),(),(),(),(),(),(),()] 196)=W at*
  go_wp2_with (first
  | (go_at_call 166;refine(hP.out _ (by exact hz0) _).mono ?_;rintro e w1 ⟨rfl,n1,rfl⟩)
  | (go_at_call 165;refine(hW.out _).mono ?_;rintro e w2 ⟨rfl,n2,rfl⟩)
    | (go_at_call 167;refine(hG.out _).mono ?_;rintro e w3 ⟨rfl,hb3⟩;have hz23:=rwB (w:=W.drewN (n1+n2)) hz2 hb3;have hB3:=(below_drewN HB.out (n1+n2)).trans (hb3.mono HB.out.size))
  | ((with_reducible show wpList _ _ _ (Oper.mk _ (Op.build 196 _) _ _ _ _::_) _ _);refine aV rfl 196 _ rfl (#[(),(),(),(),.slice none 0 0,(),(),(),(),(),(),(),(),(),(),(),(),(),(),(),(),(),(),(),(),(),(),(),()]) hbu ?_)
  | ((with_reducible refine MF 196 6 26 ?_);refine wpList_store_row rfl 196 (.tmp 6) (.tmp 26) rfl _ (#[(),(),(),(),.slice none 0 0,(),(),(),(),(),(),(),(),(),(),(),(),(),(),(),(),(),(),(),(),(),(),(),()]) rfl rfl 196 (#[(),(),(),(),.slice none 0 0,(),(),(),(),(),(),(),(),(),(),(),(),(),(),(),(),(),(),(),(),(),(),(),()]) hz23 hiz rfl hoz ?_))
  exact bodyPost_ret (results_cell_tmp (fn:=Tryz.f132) (p:=6) (q:=7) (ty:=196) rfl _ _ _ _ _ _ _ rfl (setRow_heap _ _ _ _ _ _ hz23) Tryz.underlying196 rfl hiz) rfl (hEr.out _ 5 (below_setRow hB3 (by omega) _) _ rfl (by simp))
 | true=>
  rw[hgi] at hG hEr
  go_enter Tryz.func132,Tryz.ntmps132
  go_upto_region 1 with fail
  generalize ((w.alloc (.cells (iA b) 194)).alloc (.cells (iA [g0,g1,g2,g3]) 191)).alloc (.cells #[(),(),(),(),.slice none 0 0,(),(),(),(),(),(),(),(),(),(),(),(),(),(),(),(),(),(),(),(),(),(),(),()] 196)=W at*
  go_upto_region 5 with(first
  | (go_at_call 166;refine(hP.out _ (by exact hz0) _).mono ?_;rintro e w1 ⟨rfl,n1,rfl⟩)
  | (go_at_call 165;refine(hW.out _).mono ?_;rintro e w2 ⟨rfl,n2,rfl⟩)
    | (go_at_call 167;refine(hG.out _).mono ?_;rintro e w3 ⟨rfl,hb3⟩;have hz23:=rwB (w:=W.drewN (n1+n2)) hz2 hb3;have hz03:=rwB (w:=W.drewN (n1+n2)) hz0 hb3;have hB3:=(below_drewN HB.out (n1+n2)).trans (hb3.mono HB.out.size);have hz13:=rwB (w:=W.drewN (n1+n2)) hz1 hb3))
  clear hz0 hz1 hz2 hb3 HB
  by_cases h55:55≤size
  ·have hfi:(Tryz.prog.info? 196).map (·.size)=some (frC (exZ b) (.slice none 0 0)).size:=jH _ _ (qh b)
   have hfz:(#[(),(),(),(),.slice none 0 0,(),(),(),(),(),(),(),(),(),(),(),(),(),(),(),(),(),(),(),(),(),(),(),()]:Array Value).size=(frC (exZ b) (.slice none 0 0)).size:=by rw[bC _ _ (qh b)];rfl
   have hfo:=dC (exZ b) none 0 0
   have hE:=MI (show ∀w' v,Below w.heap.size w w'→v= .tuple #[.agg (frC (exZ b) (.slice none 0 0)),()]→FitP b [g0,g1,g2,g3] size w (.returned v) w' from fun w' v h1 h2=>⟨exZ b,none,0,0,[],0,by rw[h2],qh b,bH.nil _ _ _ _ _,(fun a e=>by cases e),by omega,h1,fun _ _ _ _=>⟨rfl,rfl,rfl,rfl,rfl,rfl⟩⟩)
   generalize exZ b=z at*
   go_wp2_with (first
   | ((with_reducible refine MC 194 3 ?_);refine wpList_load_row rfl 194 (.tmp 3) rfl w.heap.size rfl 194 (iA b) (0,0) _ hz03 Tryz.underlying194 rfl hi0 ?_)
   | (go_at_call 168;refine(hEx.out _).mono ?_;rintro e w4 ⟨rfl,hb4⟩;have hz24:=rwB hz23 hb4)
   | ((with_reducible refine MF 196 6 30 ?_);refine wpList_store_row rfl 196 (.tmp 6) (.tmp 30) rfl _ (frC z (.slice none 0 0)) rfl rfl 196 (#[(),(),(),(),.slice none 0 0,(),(),(),(),(),(),(),(),(),(),(),(),(),(),(),(),(),(),(),(),(),(),(),()]) hz24 hfi hfz hfo ?_))
   exact bodyPost_ret (results_cell_tmp (fn:=Tryz.f132) (p:=6) (q:=7) (ty:=196) rfl _ _ _ _ _ _ _ rfl (setRow_heap _ _ _ _ _ _ hz24) Tryz.underlying196 rfl hfi) rfl (hE.out _ _ (below_setRow (hB3.trans (hb4.mono hB3.size)) (by omega) _) rfl)
  ·have h8:IntKind.i64.wrap (8*size)=8*size:=IntWalk.i64_in _ (by omega)
   go_upto_region 8 with(first
   | ((with_reducible refine MC 194 3 ?_);refine wpList_load_row rfl 194 (.tmp 3) rfl w.heap.size rfl 194 (iA b) (0,0) _ hz03 Tryz.underlying194 rfl hi0 ?_)
   | ((with_reducible refine MC 191 4 ?_);refine wpList_load_row rfl 191 (.tmp 4) rfl (w.heap.size+1) rfl 191 (iA [g0,g1,g2,g3]) (0,0) _ hz13 Tryz.underlying191 rfl hi1 ?_)
   | (go_at_call 169;refine(hSr.out (Int.not_le.1 h55) _).mono ?_;rintro e w4 ⟨z,ao,n,cap,ts,r,rfl,hzl,hR,hao,hn,hb4,hfin⟩;have hz24:=rwB hz23 hb4;have hfi:=jH z (.slice ao n cap) hzl;have hfz:(#[(),(),(),(),.slice none 0 0,(),(),(),(),(),(),(),(),(),(),(),(),(),(),(),(),(),(),(),(),(),(),(),()]:Array Value).size=(frC z (.slice ao n cap)).size:=by{rw[bC _ _ hzl];rfl};have hfo:=dC z ao n cap)
   | ((with_reducible refine MF 196 8 37 ?_);refine wpList_store_row rfl 196 (.tmp 8) (.tmp 37) rfl _ (frC z (.slice ao n cap)) rfl rfl 196 (#[(),(),(),(),.slice none 0 0,(),(),(),(),(),(),(),(),(),(),(),(),(),(),(),(),(),(),(),(),(),(),(),()]) (L9 _ _) hfi hfz hfo ?_))
   have hbx:Below w4.heap.size w4 ((w4.alloc (.cells #[(),(),(),(),.slice none 0 0,(),(),(),(),(),(),(),(),(),(),(),(),(),(),(),(),(),(),(),(),(),(),(),()] 196)).setRow w4.heap.size (frC z (.slice ao n cap))):=below_setRow (ae w4 (.cells #[(),(),(),(),.slice none 0 0,(),(),(),(),(),(),(),(),(),(),(),(),(),(),(),(),(),(),(),(),(),(),(),()] 196)) Me _
   have hzf:=Md (frC z (.slice ao n cap)) (L9 w4 (.cells #[(),(),(),(),.slice none 0 0,(),(),(),(),(),(),(),(),(),(),(),(),(),(),(),(),(),(),(),(),(),(),(),()] 196))
   have hz25:=rwB hz24 hbx
   have hRx:=hR.ah hbx
   have hBx:=hB3.trans ((hb4.trans (hbx.mono hb4.size)).mono hB3.size)
   have hB3s:=hB3.size
   have hnlt: ∀a,ao=some a→a.block≠w.heap.size+1+1:=fun a ha=>by have:=hao a ha;have:=L8 hz23;omega
   have hao2: ∀a,ao=some a→w.heap.size≤a.block:=fun a ha=>by have:=hao a ha;omega
   have HRx:=MI hRx
   have HAO:=MI hao2
   have HNL:=MI hnlt
   have HBx:=MI hBx
   clear hR hRx hao hao2 hnlt hb4 hbx hBx hz24 hz23 hz03 hz13 hB3 hfin
   change Code.wp _ _ _ _ ((w4.alloc (.cells #[(),(),(),(),.slice none 0 0,(),(),(),(),(),(),(),(),(),(),(),(),(),(),(),(),(),(),(),(),(),(),(),()] 196)).setRow w4.heap.size (frC z (.slice ao n cap)))
   generalize (w4.alloc (.cells #[(),(),(),(),.slice none 0 0,(),(),(),(),(),(),(),(),(),(),(),(),(),(),(),(),(),(),(),(),(),(),(),()] 196)).setRow w4.heap.size (frC z (.slice ao n cap))=X at*
   generalize w4.heap.size=fb at*
   go_wp2_with (first
   | ((with_reducible refine MC 196 8 ?_);refine wpList_load_row rfl 196 (.tmp 8) rfl fb rfl 196 (frC z (.slice ao n cap)) (0,0) _ hzf Tryz.underlying196 rfl hfi ?_)
   | ((with_reducible refine MF 196 6 39 ?_);refine wpList_store_row rfl 196 (.tmp 6) (.tmp 39) rfl _ (frC z (.slice ao n cap)) rfl rfl 196 (#[(),(),(),(),.slice none 0 0,(),(),(),(),(),(),(),(),(),(),(),(),(),(),(),(),(),(),(),(),(),(),(),()]) hz25 hfi hfz hfo ?_))
   exact bodyPost_ret (results_cell_tmp (fn:=Tryz.f132) (p:=6) (q:=7) (ty:=196) rfl _ _ _ _ _ _ _ rfl (setRow_heap _ _ _ _ _ _ hz25) Tryz.underlying196 rfl hfi) rfl ⟨z,ao,n,cap,ts,0,rfl,hzl,HRx.out.kept (aJ _ _ _) (fun a ha e=>HNL.out a ha e),HAO.out,hn,below_setRow HBx.out (by omega) _,fun h1 _ _ _=>absurd h1 (Int.not_le.2 h55)⟩
structure Fm where
 z:List Int
 ao:Option Addr
 n:Nat
 cap:Nat
 ts:List (Int×Int)
def fmA(f:Fm):Array Value:=frC f.z (.slice f.ao f.n f.cap)
def fmV(f:Fm):List Value:=(fmA f).toList
theorem EG{f:Fm}(h:f.z.length=28):(fmV f).length=29:=by
 have:=bC f.z (.slice f.ao f.n f.cap) h
 unfold fmV fmA
 rw[Array.length_toList]
 exact this
structure Be(w:World)(v:Value)(f:Fm):Prop where
 z:f.z.length=28
 t:bH ed 2 (0,0) w f.ao f.n f.ts
 n:f.n≤2
 ne:0<f.n→∀a,f.ao=some a→v.ownBlock≠some a.block
structure yP(base:Nat)(w:World)(v:Value)(fs:List Fm):Prop where
 own:w.ownsRow base 196 29 v fs.length (fs.flatMap fmV)
 ok: ∀f ∈ fs,Be w v f
theorem Be.below{w w':World}{v:Value}{f:Fm}(h:Be w v f)(hb:Below w.heap.size w w'):Be w' v f:=⟨h.z,h.t.ah hb,h.n,h.ne⟩
theorem yP.below{base:Nat}{w w':World}{v:Value}{fs:List Fm}(h:yP base w v fs)(hb:Below w.heap.size w w'):yP base w' v fs:=⟨dF h.own hb,fun f hf=>(h.ok f hf).below hb⟩
theorem yP.snoc{base:Nat}{w w':World}{v v':Value}{fs:List Fm}(h:yP base w v fs){f:Fm}(hf:Be w v f)(ho:w'.ownsRow base 196 29 v' (fs.length+1) (fs.flatMap fmV++fmV f))(hk:af (fun k=>v.ownBlock=some k) w w')(hn: ∀k,v'.ownBlock=some k→v.ownBlock=some k∨w.heap.size≤k):yP base w' v' (fs++[f]):=by
 have key: ∀x,Be w v x→Be w' v' x:=fun x hx=>⟨hx.z,hx.t.wY hk (fun h0 a ha e=>hx.ne h0 a ha e),hx.n,fun h0 a ha e=>by
  rcases hn _ e with h1 | h1
  ·exact hx.ne h0 a ha h1
  ·have:=xU hx.t h0 ha
   omega⟩
 refine⟨?_,fun x hx=>?_⟩
 ·rw[List.length_append,List.flatMap_append]
  simpa using ho
 ·rcases List.mem_append.1 hx with h1 | h1
  ·exact key x (h.ok x h1)
  ·simp at h1;subst h1;exact key _ hf
def kQ(n:Nat)(l:List Int)(size:Int):Prop:=bu n=1∧55≤size∧size≤96∧rgB l=true∧jL (ja (iH (jS l)))≤24
def exF(l:List Int):Fm:=⟨exZ (iH (jS l)),none,0,0,[]⟩
def FrsP(n:Nat)(l:List Int)(size:Int)(w:World)(e:Ending)(w':World):Prop:=Below w.heap.size w w'∧((∃err:Int,err≠0∧e= .returned (.tuple #[.slice none 0 0,.int .i64 err])∧¬kQ n l size)∨(∃v fs,e= .returned (.tuple #[v,()])∧fs.length=bu n∧yP w.heap.size w' v fs∧(kQ n l size→fs=[exF l])))
structure FrW(w:World)(cb:Nat)(size:Int)(c gz capz gg:Nat)(zs gs:List Int)(wr:World):Prop where
 cd:mY wr cb size
 zo:wr.ownsRow w.heap.size 194 16 (.slice (some ⟨gz,0,none⟩) c capz) c (iL zs)
 go:Blk .i64 wr gg 191 gs
 hb:Below w.heap.size w wr
theorem FrW.next{w:World}{cb:Nat}{size:Int}{c gz capz gg:Nat}{zs gs:List Int}{w1 w2:World}(h:FrW w cb size c gz capz gg zs gs w1)(hb:Below w1.heap.size w1 w2):FrW w cb size c gz capz gg zs gs w2:=
 ⟨h.cd.ah hb,dF h.zo hb,h.go.ah hb,h.hb.trans (hb.mono h.hb.size)⟩
theorem FrW.kept{w:World}{cb:Nat}{size:Int}{c gz capz gg:Nat}{zs gs:List Int}{w1 w2:World}(h:FrW w cb size c gz capz gg zs gs w1){v:Value}{m:Nat}{xs:List Value}(ho:w1.ownsRow w.heap.size 196 29 v m xs)(hk:af (fun k=>v.ownBlock=some k) w1 w2):FrW w cb size c gz capz gg zs gs w2:=by
 have nt: ∀k cs t,w1.heap[k]? =some (.cells cs t (0,0))→t≠196→¬v.ownBlock=some k:=fun k cs t hc h1 e=>by
  obtain⟨ds,hds⟩:=ag ho e
  exact aF hc hds h1 rfl
 obtain⟨cs,hcs⟩:=ag h.zo rfl
 refine⟨⟨hk.heap h.cd.row (nt _ _ _ h.cd.row (by decide))⟩,ay h.zo hk (fun k e=>by
  have e2:gz=k:=by injection e
  subst e2
  exact nt _ _ _ hcs (by decide)),hk.heap h.go (nt _ _ _ h.go (by decide)),h.hb.trans (hk.bg h.hb.size (fun k hk2 e=>by have:=mr ho e;omega))⟩
theorem yC:(Tryz.prog.info? 196).map (fun i=>(i.zero,i.size,i.bytes))=some (some (.agg #[(),(),(),(),.slice none 0 0,(),(),(),(),(),(),(),(),(),(),(),(),(),(),(),(),(),(),(),(),(),(),(),()]),29,248):=by kernel_rfl
theorem l28_of{l:List Int}(h:l.length=28): ∃q0 q1 q2 q3 q4 q5 q6 q7 q8 q9 q10 q11 q12 q13 q14 q15 q16 q17 q18 q19 q20 q21 q22 q23 q24 q25 q26 q27,l=[q0,q1,q2,q3,q4,q5,q6,q7,q8,q9,q10,q11,q12,q13,q14,q15,q16,q17,q18,q19,q20,q21,q22,q23,q24,q25,q26,q27]:=by
 match l,h with
 | [q0,q1,q2,q3,q4,q5,q6,q7,q8,q9,q10,q11,q12,q13,q14,q15,q16,q17,q18,q19,q20,q21,q22,q23,q24,q25,q26,q27],_=>exact⟨q0,q1,q2,q3,q4,q5,q6,q7,q8,q9,q10,q11,q12,q13,q14,q15,q16,q17,q18,q19,q20,q21,q22,q23,q24,q25,q26,q27,rfl⟩
theorem EJ(z:List Int)(hz:z.length=28)(ao:Option Addr)(n c:Nat):Instr.fill (fun i=>some (i*29,29)) ((Array.range (1*29)).map ((Value.agg #[(),(),(),(),.slice none 0 0,(),(),(),(),(),(),(),(),(),(),(),(),(),(),(),(),(),(),(),(),(),(),(),()]).cells[· %(Value.agg #[(),(),(),(),.slice none 0 0,(),(),(),(),(),(),(),(),(),(),(),(),(),(),(),(),(),(),(),(),(),(),(),()]).cells.size]!)) [(0,.agg (frC z (.slice ao n c)))]=some (frC z (.slice ao n c)):=by
 obtain⟨q0,q1,q2,q3,q4,q5,q6,q7,q8,q9,q10,q11,q12,q13,q14,q15,q16,q17,q18,q19,q20,q21,q22,q23,q24,q25,q26,q27,rfl⟩:=l28_of hz
 kernel_rfl
theorem nJ{xb gg o cb:Nat}{rb rg:List Int}{size:Int}{w1 w2:World}(h:w1.heap[xb]? =some (.cells (iA rb) 194 (0,0))∧w1.rangeAt gg o (iL rg)∧w1.cell? ⟨cb,32,none⟩=some (.int .i64 size))(hb:Below w1.heap.size w1 w2):w2.heap[xb]? =some (.cells (iA rb) 194 (0,0))∧w2.rangeAt gg o (iL rg)∧w2.cell? ⟨cb,32,none⟩=some (.int .i64 size):=
 ⟨rwB h.1 hb,fun j v hv=>(hb.cell (World.block_lt_of_cell? w1 _ (h.2.1 j v hv))).trans (h.2.1 j v hv),(hb.cell (World.block_lt_of_cell? w1 _ h.2.2)).trans h.2.2⟩
theorem EE{xb gg o cb:Nat}{rb rg:List Int}{size:Int}{w1:World}(h:w1.heap[xb]? =some (.cells (iA rb) 194 (0,0))∧w1.rangeAt gg o (iL rg)∧w1.cell? ⟨cb,32,none⟩=some (.int .i64 size))(k:Nat){cs:Array Value}(hn:k≠xb∧k≠gg∧k≠cb):(w1.setRow k cs).heap[xb]? =some (.cells (iA rb) 194 (0,0))∧(w1.setRow k cs).rangeAt gg o (iL rg)∧(w1.setRow k cs).cell? ⟨cb,32,none⟩=some (.int .i64 size):=
 ⟨(setRow_other _ _ _ _ (fun e=>hn.1 e.symm)).trans h.1,fun j v hv=>(aJ w1 k cs).cell (h.2.1 j v hv) (fun e=>hn.2.1 e.symm),(aJ w1 k cs).cell h.2.2 (fun e=>hn.2.2 e.symm)⟩
theorem EF{xb gg o cb:Nat}{rb rg:List Int}{size:Int}{w1:World}(h:w1.heap[xb]? =some (.cells (iA rb) 194 (0,0))∧w1.rangeAt gg o (iL rg)∧w1.cell? ⟨cb,32,none⟩=some (.int .i64 size))(hg:rg.length=4):w1.heap.size≠xb∧w1.heap.size≠gg∧w1.heap.size≠cb:=by
 have h1:=L8 h.1
 have h2:=World.block_lt_of_cell? w1 _ (h.2.1 0 (.int .i64 (rg.getD 0 0)) (by simp[iL,List.getD,show 0<rg.length by omega]))
 have h3:=World.block_lt_of_cell? w1 _ h.2.2
 have h2':gg<w1.heap.size:=h2
 have h3':cb<w1.heap.size:=h3
 exact⟨by omega,by omega,by omega⟩
theorem frS_ne1{xb gg o cb:Nat}{rb rg:List Int}{size:Int}{w1 w2:World}(h:w1.heap[xb]? =some (.cells (iA rb) 194 (0,0))∧w1.rangeAt gg o (iL rg)∧w1.cell? ⟨cb,32,none⟩=some (.int .i64 size))(hb:Below w1.heap.size w1 w2)(hg:rg.length=4):w2.heap.size≠xb∧w2.heap.size≠gg∧w2.heap.size≠cb:=EF (nJ h hb) hg
theorem frs_err{n:Nat}{l:List Int}{size:Int}{w w':World}(hb:Below w.heap.size w w'){err:Int}(he:err≠0)(hx:¬kQ n l size){v:Value}(hv:v= .tuple #[.slice none 0 0,.int .i64 err]):FrsP n l size w (.returned v) w':=⟨hb,.inl ⟨err,he,by rw[hv],hx⟩⟩
def FrC(b g:List Int)(size:Int)(X:World)(v11 v12:Value)(wx:World):Prop:=∃(z:List Int)(fao:Option Addr)(fn fcap:Nat)(ts:List (Int×Int))(r:Int)(fb:Nat),v11= .pointer (some ⟨fb,0,none⟩)∧v12= .int .i64 r∧z.length=28∧bH ed 2 (0,0) wx fao fn ts∧(∀a,fao=some a→X.heap.size≤a.block)∧fn≤2∧wx.heap[fb]? =some (.cells (frC z (.slice fao fn fcap)) 196 (0,0))∧Below X.heap.size X wx∧(55≤size→size≤96→jL (ja b)≤24→inB 3 g=true→r=0∧z=exZ b∧ts=[]∧fao=none∧fn=0∧fcap=0)
theorem yH(cb:Nat)(size:Int)(ao:Option Addr)(n cap:Nat)(l:List Int)(hn0:0<n)(hn:n≤10000)(w:World)(hC:mY w cb size)(hI:Ints .i64 w ao n l)(hfind:size<55→∀(b:List Int),b.length=16→(∀z ∈ b,(Lit.int .i64 z).wf=true)→∀W,Calls Tryz.prog 198 #[.agg (iA b)] W (LQ W))(hgain:size<55→∀(g:Nat)(W:World),mY W cb size→Blk .i64 W g 2 l→Calls Tryz.prog 130 #[.pointer (some ⟨cb,0,none⟩),.slice (some ⟨g,0,none⟩) n n] W (LP (bu n) size W))(hmeet:2≤bu n→LJ (bu n)):Calls Tryz.prog 93 #[.pointer (some ⟨cb,0,none⟩),.slice ao n cap] w (FrsP n l size w):=by
 have hwl:=hI.wf
 have hR:=MI (xZ ao n cap l w hI)
 have hE:=MI (fun w' (err:Int) hb he hx v hv=>frs_err (n:=n) (l:=l) (size:=size) (w:=w) (w':=w') hb (err:=err) he hx (v:=v) hv)
 have hnl:¬1048576<(n:Int):=by omega
 by_cases hrg:rgB l=true
 case neg=>
  have hrg2:rgB l=false:=by simpa using hrg
  rw[hrg2] at hR
  go_enter Tryz.func93,Tryz.ntmps93
  go_wp2_with (go_at_call 128;refine hR.out.mono ?_;rintro e w' ⟨rfl,rfl⟩)
  go_ret2
  exact hE.out _ 5 MB (by decide) (fun h=>hrg h.2.2.2.1) _ rfl
 rw[hrg] at hR
 have hW:=MI (Ib ao n cap l (by omega) w hI)
 have hG:=MI (fun g W hC (hB:Blk .i64 W g 2 l)(hl:l.length=n)=>Gz cb size (some ⟨g,0,none⟩) n n l hn hwl W (fun h5=>hgain h5 g W hC hB) hC (Blk.ints hB n hl (by unfold maxLen;omega) hwl))
 have hS:=MI (fun g gg gs W hgs (hB:Blk .i64 W g 2 l) hGs (hl:l.length=n)=>zg (some ⟨g,0,none⟩) n n l hn0 hn hwl gg (bu n) gs hgs hmeet W (Blk.ints hB n hl (by unfold maxLen;omega) hwl) hGs)
 have HC:=MI hC
 have HL:=MI hI.hlen
 have HRG:=MI hrg
 have hF:=MI (fun b g hb hwf hg W=>yJ b g hb hwf hg size (fun h5=>hfind h5 b hb hwf) W)
 have hi178:(Tryz.prog.info? 178).map (·.size)=some (iL cO).length:=by kernel_rfl
 have hc1:bu n≤10000:=by unfold bu;omega
 have HX:Hid (kQ n l size→bu n=1∧55≤size∧size≤96∧jL (ja (iH (jS l)))≤24):=fun h=>⟨h.1,h.2.1,h.2.2.1,h.2.2.2.2⟩
 clear hC hI hfind hgain hmeet hwl hrg
 go_enter Tryz.func93,Tryz.ntmps93
 go_upto_region 9 with(first
  | (go_at_call 128;refine hR.out.mono ?_;rintro e w' ⟨rfl,rfl⟩)
  | (go_at_call 129;refine hW.out.mono ?_;rintro e w1 ⟨g1,rfl,hg1,hB1,hb1⟩;have hGG:=MI (hG.out g1 w1 (HC.out.ah hb1) hB1 HL.out))
  | (go_at_call 130;refine hGG.out.mono ?_;rintro e w2 ⟨gg,gs,rfl,hgg,hgl,hGs,hb2,hgz⟩))
 have hC2:=(HC.out.ah hb1).ah hb2
 have hb12:=hb1.trans (hb2.mono hb1.size)
 have hSS:=MI (hS.out g1 gg gs w2 hgl (hB1.ah hb2) hGs HL.out)
 have hrl:w2.rangeAt cb 0 (iL cO):=fun j v hv=>by
  have hj:j<(iL cO).length:=(List.getElem?_eq_some_iff.1 hv).1
  rw[Nat.zero_add,LZ hC2.row]
  show(iL cO++[Value.int .i64 size]).toArray[j]? =some v
  have h5:(iL cO++[Value.int .i64 size]).toArray[j]? =(iL cO++[Value.int .i64 size])[j]? :=List.getElem?_toArray ..
  rw[h5,List.getElem?_append_left hj]
  exact hv
 have HC2:=MI hC2
 have HB12:=MI hb12
 have HGs:=MI hGs
 have HGL:=MI hgl
 have HGZ:=MI hgz
 clear hC2 hb12 hb1 hb2 hB1 hGs hgl hgz hGG hW hG hR
 generalize hcn:bu n=c at*
 have HCN:=MI hcn
 clear hcn
 go_upto_region 11 with(first
  | ((with_reducible refine MC 178 31 ?_);refine wpList_load_mid rfl 178 (.tmp 31) rfl cb 0 rfl (iL cO) _ hrl Tryz.underlying178 rfl hi178 ?_;rw[show(iL cO).toArray=iA cO from rfl])
  | (go_at_call 131;refine hSS.out.mono ?_;rintro e w3 ⟨gz,capz,zs,rfl,hO3,hzw,hb3,hz3⟩))
 have hFW:FrW w cb size c gz capz gg zs gs w3:=⟨HC2.out.ah hb3,own_base hO3 HB12.out.size,HGs.out.ah hb3,HB12.out.trans (hb3.mono HB12.out.size)⟩
 have HFW:=MI hFW
 have HZW:=MI hzw
 have hzlen:=Ez hO3
 have HZ3:Hid (kQ n l size→c=1∧55≤size∧size≤96∧zs=iH (jS l)∧gs=[0,0,0,0]∧jL (ja (iH (jS l)))≤24):=fun h=>by
  obtain⟨h1,h2,h3,h4⟩:=HX.out h
  have h5:gs=[0,0,0,0]:=by rw[HGZ.out h2,h1];rfl
  exact⟨h1,h2,h3,hz3 h1 h5,h5,h4⟩
 clear hFW hO3 hzw hb3 HC2 HB12 HGs hrl hz3 HGZ HX
 go_loopw [8,37] (fun v8 v37 wr=>∃(k:Nat)(fs:List Fm),k≤c∧v37= .int .i64 (k:Int)∧fs.length=k∧yP w.heap.size wr v8 fs∧FrW w cb size c gz capz gg zs gs wr∧(kQ n l size→fs=if k=0 then[] else[exF l])) (fun _ v37 _=>c - aG v37)
 case atStart=>exact⟨0,[],by omega,rfl,rfl,⟨World.ownsRow_nil _ _ _ _,fun f hf=>by cases hf⟩,HFW.out,fun _=>rfl⟩
 case round=>
  clear HFW
  obtain⟨i,fs,hi,rfl,hfl,hFs,hFW,hex⟩:=hrel
  by_cases hic:i<c
  case neg=>
   obtain rfl:i=c:=by omega
   obtain⟨ao8,c8,rfl⟩:=bV hFs.own
   have HFs:=MI hFs
   have HFW:=MI hFW
   have HEX:=MI hex
   have HFL:=MI hfl
   clear hFs hFW hex hfl
   go_wp2_with fail
   go_ret2
   exact⟨HFW.out.hb,.inr ⟨_,fs,rfl,by rw[HCN.out];exact HFL.out,HFs.out,fun h=>by have:=HEX.out h;rwa [if_neg (by have:=(HZ3.out h).1;omega)] at this⟩⟩
  case pos=>
   have hic2:(i:Int)<(c:Int):=by omega
   have hm16:i*16+16≤c*16:=by omega
   have hm4:i*4+4≤c*4:=by omega
   have hrb:wr.rangeAt gz (i*16) (iL (rowOf zs (i*16) 16)):=Ae hFW.zo (i*16) 16
   have hl1:=lH zs (i*16) 16 (by omega)
   have hl2:=lH gs (i*4) 4 (by rw[HGL.out];omega)
   have hs1:=i194 _ hl1
   have hs2:=i191 _ hl2
   have hFi:=MI (fun W=>hF.out (rowOf zs (i*16) 16) (rowOf gs (i*4) 4) hl1 (zq HZW.out _ _) hl2 W)
   have hs3:(Tryz.prog.info? 194).map (·.size)=some (iA (rowOf zs (i*16) 16)).size:=by rw[az,hl1];kernel_rfl
   have hs4:(#[(),(),(),(),(),(),(),(),(),(),(),(),(),(),(),()]:Array Value).size=(iA (rowOf zs (i*16) 16)).size:=by rw[az,hl1];rfl
   have HXX:Hid (kQ n l size→i=0∧55≤size∧size≤96∧jL (ja (rowOf zs (i*16) 16))≤24∧inB 3 (rowOf gs (i*4) 4)=true∧exZ (rowOf zs (i*16) 16)=exZ (iH (jS l))∧fs=[]):=fun h=>by
    obtain⟨h1,h2,h3,h4,h5,h6⟩:=HZ3.out h
    have hi0:i=0:=by omega
    subst hi0
    have h7:rowOf zs (0*16) 16=iH (jS l):=by rw[h4];exact nU _ 16 (by rw[←h4];omega)
    rw[h7,h5]
    refine⟨rfl,h2,h3,h6,rfl,rfl,?_⟩
    have:=hex h
    rwa [if_pos rfl] at this
   have HFW:=MI hFW
   have HFs:=MI hFs
   have HFL:=MI hfl
   obtain⟨ao8,c8,rfl⟩:=bV hFs.own
   clear hFW hFs hex hfl
   generalize rowOf zs (i*16) 16=rb at*
   generalize hrgq:rowOf gs (i*4) 4=rg at*
   have HRGQ:=MI hrgq
   clear hrgq
   go_upto_region 13 with(first
    | ((with_reducible refine MC 194 40 ?_);refine wpList_load_mid rfl 194 (.tmp 40) rfl gz (i*16) rfl (iL rb) _ hrb Tryz.underlying194 rfl hs1 ?_;rw[show(iL rb).toArray=iA rb from rfl])
    | ((with_reducible refine MF 194 10 41 ?_);refine wpList_store_row rfl 194 (.tmp 10) (.tmp 41) rfl _ (iA rb) rfl rfl 194 (#[(),(),(),(),(),(),(),(),(),(),(),(),(),(),(),()]) (L9 _ _) hs3 hs4 (bP _) ?_))
   have hbx:Below wr.heap.size wr ((wr.alloc (.cells #[(),(),(),(),(),(),(),(),(),(),(),(),(),(),(),()] 194)).setRow wr.heap.size (iA rb)):=below_setRow (ae wr (.cells #[(),(),(),(),(),(),(),(),(),(),(),(),(),(),(),()] 194)) Me _
   have hxb:=Md (iA rb) (L9 wr (.cells #[(),(),(),(),(),(),(),(),(),(),(),(),(),(),(),()] 194))
   have hWX:=HFW.out.next hbx
   have hSX:=HFs.out.below hbx
   clear hbx hrb HFW HFs
   generalize (wr.alloc (.cells #[(),(),(),(),(),(),(),(),(),(),(),(),(),(),(),()] 194)).setRow wr.heap.size (iA rb)=X at*
   generalize wr.heap.size=xb at*
   have hrgX:X.drew.rangeAt gg (i*4) (iL rg):=by
    have:=Blk.range hWX.go (i*4) 4 (by rw[HGL.out];omega)
    have h5:=HRGQ.out
    unfold rowOf at h5
    rw[h5] at this
    exact this
   have hcdX:X.drew.cell? ⟨cb,32,none⟩=some (.int .i64 size):=hWX.cd.size
   have HWX:=MI hWX
   have HSX:=MI hSX
   have hszX:X.drew.heap.size=X.heap.size:=rfl
   clear hWX hSX
   dsimp only[Act.put]
   go_cut [11,12] (fun v11 v12 wx=>FrC rb rg size X v11 v12 wx)
   case first=>
    refine wp_region_noPanic ?_
    refine wp_region_held_drew (S:=fun w'=>w'.heap[xb]? =some (.cells (iA rb) 194 (0,0))∧w'.rangeAt gg (i*4) (iL rg)∧w'.cell? ⟨cb,32,none⟩=some (.int .i64 size)) (by kernel_rfl) ?_ (fun hHeld=>?_)
    ·exact⟨hxb,hrgX,hcdX⟩
    refine MG 1 ?_ ?_ (by assumption) ?_
    rotate_left
    ·(intro w hSw;(try dsimp only at hSw);go_simp;try with_reducible rfl)
    try simp only[Act.put,aS]
    refine MG 2 ?_ ?_ (by assumption) ?_
    rotate_left
    ·(intro w hSw;(try dsimp only at hSw);go_simp;try with_reducible rfl)
    try simp only[Act.put,aS]
    refine MG 3 ?_ ?_ (by assumption) ?_
    rotate_left
    ·(intro w hSw;(try dsimp only at hSw);go_simp;try with_reducible rfl)
    try simp only[Act.put,aS]
    refine MG 5 ?_ ?_ (by assumption) ?_
    rotate_left
    ·(intro w hSw;(try dsimp only at hSw);go_simp;try with_reducible rfl)
    try simp only[Act.put,aS]
    refine MG 6 ?_ ?_ (by assumption) ?_
    rotate_left
    ·(intro w hSw;(try dsimp only at hSw);go_simp;try with_reducible rfl)
    try simp only[Act.put,aS]
    refine MG 7 ?_ ?_ (by assumption) ?_
    rotate_left
    ·(intro w hSw;(try dsimp only at hSw);go_simp;try with_reducible rfl)
    try simp only[Act.put,aS]
    refine wpAnyH_take (i:=0) (v:=.agg (iA rb)) rfl (by kernel_rfl) (by kernel_rfl) (by kernel_rfl) (fun _ _ _ h=>h) (aU (by kernel_rfl) 194 (.tmp 10) rfl xb rfl 194 (iA rb) (0,0) _ (fun w h=>h.1) Tryz.underlying194 rfl hs3) (by assumption) ?_
    try simp only[Act.put,aS]
    refine wpAnyH_take (i:=4) (v:=.agg (iA rg)) rfl (by kernel_rfl) (by kernel_rfl) (by kernel_rfl) (fun _ _ _ h=>h) (yieldsIf_load_mid (by kernel_rfl) 191 (.tmp 46) rfl gg (i*4) rfl (iL rg) _ (fun w h=>h.2.1) Tryz.underlying191 rfl hs2) (by assumption) ?_
    try simp only[Act.put,aS]
    refine MG 8 ?_ ?_ (by assumption) ?_
    rotate_left
    ·(intro w hSw;(try dsimp only at hSw);go_simp;try with_reducible rfl)
    try simp only[Act.put,aS]
    refine wpAnyH_ready (rs:=[9,13]) (by kernel_rfl) (by simp) ?_
    refine AllReadyH.cons rfl (fun K hK=>?_) ?_
    ·have hHeld0:=hHeld
     go_simp
     go_at_call 132;refine(hFi.out _).mono ?_;rintro e w4 ⟨z,fao,fn,fcap,ts,r,rfl,hzl,hRt,hao,hn2,hb4,hfin⟩;have hfi:=jH z (.slice fao fn fcap) hzl;have hfz:(#[(),(),(),(),.slice none 0 0,(),(),(),(),(),(),(),(),(),(),(),(),(),(),(),(),(),(),(),(),(),(),(),()]:Array Value).size=(frC z (.slice fao fn fcap)).size:=by{rw[bC _ _ hzl];rfl};have hfo:=dC z fao fn fcap
     refine hK.out _ _ ?_ (fun hHeld=>?_)
     ·(try dsimp only);exact nJ hHeld hb4
     clear hK K
     try simp only[Act.put,aS]
     refine MG 10 ?_ ?_ (by assumption) ?_
     rotate_left
     ·(intro w hSw;(try dsimp only at hSw);go_simp;try with_reducible rfl)
     try simp only[Act.put,aS]
     refine MG 11 ?_ ?_ (by assumption) ?_
     rotate_left
     ·(intro w hSw;(try dsimp only at hSw);go_simp;try with_reducible rfl)
     try simp only[Act.put,aS]
     refine MG 12 ?_ ?_ (by assumption) ?_
     rotate_left
     ·(intro w hSw;(try dsimp only at hSw);go_simp;try with_reducible rfl)
     try simp only[Act.put,aS]
     refine wpAnyH_ready (rs:=[13]) (by kernel_rfl) (by simp) ?_
     refine AllReadyH.cons rfl (fun K hK=>?_) AllReadyH.nil
     go_simp
     refine hK.out _ _ ?_ (fun hHeld=>?_)
     ·(try dsimp only);exact nJ hHeld (ae _ _)
     clear hK K
     try simp only[Act.put,aS]
     have hqr:=L9 w4 (.cells #[(),(),(),(),.slice none 0 0,(),(),(),(),(),(),(),(),(),(),(),(),(),(),(),(),(),(),(),(),(),(),(),()] 196)
     have hne: ∀k,k<w4.heap.size→k≠w4.heap.size:=fun k h=>Nat.ne_of_lt h
     have hbA:Below X.heap.size X (w4.alloc (.cells #[(),(),(),(),.slice none 0 0,(),(),(),(),(),(),(),(),(),(),(),(),(),(),(),(),(),(),(),(),(),(),(),()] 196)):=(((Below.refl _ X).drew).trans hb4).trans ((ae w4 (.cells #[(),(),(),(),.slice none 0 0,(),(),(),(),(),(),(),(),(),(),(),(),(),(),(),(),(),(),(),(),(),(),(),()] 196)).mono hb4.size)
     refine wpAnyH_ready (rs:=[14]) (by kernel_rfl) (by simp) ?_
     refine AllReadyH.cons rfl (fun K hK=>?_) AllReadyH.nil
     rw[if_pos (by kernel_rfl)]
     refine wp_store_row 196 (.tmp 11) (.tmp 53) rfl w4.heap.size (frC z (.slice fao fn fcap)) rfl rfl 196 (#[(),(),(),(),.slice none 0 0,(),(),(),(),(),(),(),(),(),(),(),(),(),(),(),(),(),(),(),(),(),(),(),()]) hqr hfi hfz hfo ?_
     refine hK.out _ _ ?_ (fun hHeld=>?_)
     ·(try dsimp only);exact EE hHeld w4.heap.size (frS_ne1 hHeld0 hb4 hl2)
     clear hK K
     try simp only[Act.put,aS]
     refine MG 15 ?_ ?_ (by assumption) ?_
     rotate_left
     ·(intro w hSw;(try dsimp only at hSw);go_simp;try with_reducible rfl)
     try simp only[Act.put,aS]
     refine wpAnyH_done (by kernel_rfl) ?_ _
     refine NoPanic.normal ?_
     go_wp2_with fail
     go_meet
     exact⟨z,fao,fn,fcap,ts,r,_,rfl,rfl,hzl,(hRt.ah (ae w4 (.cells #[(),(),(),(),.slice none 0 0,(),(),(),(),(),(),(),(),(),(),(),(),(),(),(),(),(),(),(),(),(),(),(),()] 196))).wY (aJ _ _ _) (fun h0 a ha e=>by have:=xU hRt h0 ha;have e2:a.block=w4.heap.size:=e;omega),hao,hn2,setRow_heap _ _ _ _ _ _ hqr,below_setRow hbA hb4.size _,hfin⟩
    refine AllReadyH.cons rfl (fun K hK=>?_) ?_
    ·have hHeld0:=hHeld
     go_simp
     refine hK.out _ _ ?_ (fun hHeld=>?_)
     ·(try dsimp only);exact nJ hHeld (ae _ _)
     clear hK K
     try simp only[Act.put,aS]
     have hqr:=L9 X.drew (.cells #[(),(),(),(),.slice none 0 0,(),(),(),(),(),(),(),(),(),(),(),(),(),(),(),(),(),(),(),(),(),(),(),()] 196)
     refine wpAnyH_ready (rs:=[9]) (by kernel_rfl) (by simp) ?_
     refine AllReadyH.cons rfl (fun K hK=>?_) AllReadyH.nil
     go_simp
     go_at_call 132;refine(hFi.out _).mono ?_;rintro e w4 ⟨z,fao,fn,fcap,ts,r,rfl,hzl,hRt,hao,hn2,hb4,hfin⟩;have hfi:=jH z (.slice fao fn fcap) hzl;have hfz:(#[(),(),(),(),.slice none 0 0,(),(),(),(),(),(),(),(),(),(),(),(),(),(),(),(),(),(),(),(),(),(),(),()]:Array Value).size=(frC z (.slice fao fn fcap)).size:=by{rw[bC _ _ hzl];rfl};have hfo:=dC z fao fn fcap
     refine hK.out _ _ ?_ (fun hHeld=>?_)
     ·(try dsimp only);exact nJ hHeld hb4
     clear hK K
     try simp only[Act.put,aS]
     refine MG 10 ?_ ?_ (by assumption) ?_
     rotate_left
     ·(intro w hSw;(try dsimp only at hSw);go_simp;try with_reducible rfl)
     try simp only[Act.put,aS]
     refine MG 11 ?_ ?_ (by assumption) ?_
     rotate_left
     ·(intro w hSw;(try dsimp only at hSw);go_simp;try with_reducible rfl)
     try simp only[Act.put,aS]
     refine MG 12 ?_ ?_ (by assumption) ?_
     rotate_left
     ·(intro w hSw;(try dsimp only at hSw);go_simp;try with_reducible rfl)
     try simp only[Act.put,aS]
     have hqr:=rwB hqr hb4
     have hszA:X.heap.size+1=(X.alloc (.cells #[(),(),(),(),.slice none 0 0,(),(),(),(),(),(),(),(),(),(),(),(),(),(),(),(),(),(),(),(),(),(),(),()] 196)).drew.heap.size:=by simp
     have hbA:Below X.heap.size X w4:=(((Below.refl _ X).drew).trans (ae X.drew (.cells #[(),(),(),(),.slice none 0 0,(),(),(),(),(),(),(),(),(),(),(),(),(),(),(),(),(),(),(),(),(),(),(),()] 196))).trans (hb4.mono (by rw[←hszA];exact Nat.le_succ _))
     refine wpAnyH_ready (rs:=[14]) (by kernel_rfl) (by simp) ?_
     refine AllReadyH.cons rfl (fun K hK=>?_) AllReadyH.nil
     rw[if_pos (by kernel_rfl)]
     refine wp_store_row 196 (.tmp 11) (.tmp 53) rfl X.drew.heap.size (frC z (.slice fao fn fcap)) rfl rfl 196 (#[(),(),(),(),.slice none 0 0,(),(),(),(),(),(),(),(),(),(),(),(),(),(),(),(),(),(),(),(),(),(),(),()]) hqr hfi hfz hfo ?_
     refine hK.out _ _ ?_ (fun hHeld=>?_)
     ·(try dsimp only);exact EE hHeld X.drew.heap.size (EF hHeld0 hl2)
     clear hK K
     try simp only[Act.put,aS]
     refine MG 15 ?_ ?_ (by assumption) ?_
     rotate_left
     ·(intro w hSw;(try dsimp only at hSw);go_simp;try with_reducible rfl)
     try simp only[Act.put,aS]
     refine wpAnyH_done (by kernel_rfl) ?_ _
     refine NoPanic.normal ?_
     go_wp2_with fail
     go_meet
     exact⟨z,fao,fn,fcap,ts,r,_,rfl,rfl,hzl,hRt.wY (aJ _ _ _) (fun h0 a ha e=>by have:=hao a ha;have e2:a.block=X.heap.size:=e;omega),(fun a ha=>by have:=hao a ha;omega),hn2,setRow_heap _ _ _ _ _ _ hqr,below_setRow hbA Me _,hfin⟩
    exact AllReadyH.nil
   case rest=>
    obtain⟨wx,rfl⟩: ∃w',w'=wc:=⟨_,rfl⟩
    obtain⟨z,fao,fn,fcap,ts,r,fb,rfl,rfl,hzl,hRt,hao,hn2,hfb,hbx,hfin⟩:=hcut
    have hWx:=HWX.out.next hbx
    have hSx:=HSX.out.below hbx
    have HWx:=MI hWx
    have HSx:=MI hSx
    have HXf:Hid (kQ n l size→r=0∧z=exZ (iH (jS l))∧ts=[]∧fao=none∧fn=0∧fcap=0∧i=0∧fs=[]):=fun h=>by
     obtain⟨h1,h2,h3,h4,h5,h6,h7⟩:=HXX.out h
     obtain⟨k1,k2,k3,k4,k5,k6⟩:=hfin h2 h3 h4 h5
     exact⟨k1,by rw[k2,h6],k3,k4,k5,k6,h1,h7⟩
    by_cases hr:r=0
    case neg=>
     have hrb:(r !=0)=true:=by simpa using hr
     clear hWx hSx hbx hfin hao
     go_wp2_with fail
     go_ret2
     exact hE.out _ r HWx.out.hb hr (fun h=>hr (HXf.out h).1) _ rfl
    subst hr
    have hfill:=EJ z hzl fao fn fcap
    obtain⟨ie,hie,hiz,hiS0,-⟩:=info_parts yC
    rw[←hiS0] at hfill
    have hiS:¬1*ie.size>2^24:=by rw[hiS0];decide
    have hiP:¬1*ie.size=0:=by rw[hiS0];decide
    have hfi:=jH z (.slice fao fn fcap) hzl
    have hus:=EG (f:=⟨z,fao,fn,fcap,ts⟩) hzl
    have hFm:Be wx (.slice ao8 fs.length c8) ⟨z,fao,fn,fcap,ts⟩:=⟨hzl,hRt,hn2,fun h0 a ha e=>by
     obtain⟨cs,hcs⟩:=ag HSX.out.own e
     have:=L8 hcs
     have:=hao a ha
     omega⟩
    have HFm:=MI hFm
    have hone: ∀u ∈ fmV ⟨z,fao,fn,fcap,ts⟩,u.oneCell'=true:=fun u hu=>by
     have:=dC z fao fn fcap
     exact(Array.all_eq_true_iff_forall_mem.1 this) u (by simpa[fmV,fmA] using hu)
    have hfl3:fs.length≤10000:=by rw[HFL.out];omega
    have HOw:=MI hSx.own
    have hwsz:w.heap.size≤wx.heap.size:=hWx.hb.size
    clear hWx hSx hbx hfin hao hRt hFm
    go_wp2_with (first
     | ((with_reducible refine MC 196 11 ?_);refine wpList_load_row rfl 196 (.tmp 11) rfl fb rfl 196 (frC z (.slice fao fn fcap)) (0,0) _ hfb Tryz.underlying196 rfl hfi ?_)
     | ((with_reducible show wpList _ _ _ (Oper.mk _ (Op.buildSlice 188 _ _) _ _ _ _::_) _ _);refine wpList_buildSlice rfl 188 196 1 _ rfl (frC z (.slice fao fn fcap)) ie (.agg #[(),(),(),(),.slice none 0 0,(),(),(),(),(),(),(),(),(),(),(),(),(),(),(),(),(),(),(),(),(),(),(),()]) Tryz.underlying188 hie hiz hiS hiP (Eq.trans (congrArg (Instr.fill _ _) (show _=[(0,Value.agg (frC z (.slice fao fn fcap)))] by kernel_rfl)) hfill) ?_)
     | (at_builtin;refine dR rfl (.tmp 58) (.tmp 60) 188 196 29 rfl Tryz.underlying188 yC rfl (by decide) w.heap.size _ _ _ rfl HOw.out (fmV ⟨z,fao,fn,fcap,ts⟩) hus rfl hone (by omega) (by unfold maxLen;omega) hwsz ?_;intro v8 w8 ho8 hk8 hn8;obtain⟨ao9,c9,rfl⟩:=bV ho8))
    have hFs8:=HSx.out.snoc HFm.out ho8 hk8 hn8
    have hFW8:=HWx.out.kept HOw.out hk8
    exact⟨⟨i+1,fs++[⟨z,fao,fn,fcap,ts⟩],by omega,by go_num,by simp[HFL.out],by simpa[HFL.out] using hFs8,hFW8,fun h=>by
     obtain⟨k1,k2,k3,k4,k5,k6,k7,k8⟩:=HXf.out h
     rw[if_neg (by omega),k8,k2,k3,k4,k5,k6];rfl⟩,by simp[aG];omega⟩
end Go.Proofs.YtnicjahcgnhogaaGreatDoor
