/- Part 17 of the walk: contracts of the program's functions, each for every input. No condition. -/
import Derived.Test.YtnicjahcgnhogaaGreatDoorQ15
import Derived.Test.YtnicjahcgnhogaaGreatDoorQE0
set_option linter.unusedVariables false
set_option linter.unusedSimpArgs false
set_option maxRecDepth 100000
set_option maxHeartbeats 8000000
namespace Go.Proofs.YtnicjahcgnhogaaGreatDoor
open Go Go.RowKit Go.Calli
attribute [local irreducible] wpStill wpAnyH wpAnyS wpList Code.wp
structure Px where
 pb:Nat
 eb:Nat
 V:Vx
structure Pt where
 v:Vo
 us:List Ku
 sh:Envp.Sh
 sl:Int×Int
 l:Int
 r:Int
 since:Int
structure iO(X:Fx)(P:Px)(B:Bk)(K:Nat)(σ:Own)(w:World)(p:Pt):Prop where
 row:w.heap[P.pb]? =some (.cells #[.pointer (some ⟨P.V.vb,0,none⟩),.pointer (some ⟨P.eb,0,none⟩),.int .i64 p.l,.int .i64 p.r,.int .i64 p.since] 100 (0,0))
 vo:fJ X P.V B K σ w p.v p.us
 ev:Nv.Sx 145 w P.eb p.sh p.sl
 sok:p.sh.Ok
 st:Envp.St p.sl
 o1:σ P.pb=P.V.T+3
 o2:σ P.eb=P.V.T+3
def FP(σ:Own)(T k:Nat):Prop:=FV σ T k∨σ k=T+3
theorem bf{w:World}{b:Nat}{a c d e f:Value}{T:Nat}(h:w.heap[b]? =some (.cells #[a,c,d,e,f] T (0,0))):w.cell? ⟨b,0,none⟩=some a∧w.cell? ⟨b,1,none⟩=some c∧w.cell? ⟨b,2,none⟩=some d∧w.cell? ⟨b,3,none⟩=some e∧w.cell? ⟨b,4,none⟩=some f:=
 ⟨LY h rfl,LY h rfl,LY h rfl,LY h rfl,LY h rfl⟩
theorem iO.ne{X:Fx}{P:Px}{B:Bk}{K:Nat}{σ:Own}{w:World}{p:Pt}(h:iO X P B K σ w p):P.pb≠P.eb:=fun e=>by
 have a:=h.row
 have b:=h.ev
 unfold Nv.Sx at b
 rw[e,b] at a
 simp at a
theorem iO.keep{X:Fx}{P:Px}{B:Bk}{K:Nat}{σ:Own}{w w':World}{p:Pt}(h:iO X P B K σ w p){S:Nat→Prop}(hk:af S w w')(hS: ∀k,S k→k<w.heap.size→σ k≠P.V.T∧σ k≠P.V.T+1∧σ k≠P.V.T+2∧σ k≠P.V.T+3):iO X P B K σ w' p:=
 ⟨hk.heap h.row (fun e=>(hS _ e (L8 h.row)).2.2.2 h.o1),h.vo.keep hk (fun k e hl=>⟨(hS k e hl).1,(hS k e hl).2.1,(hS k e hl).2.2.1⟩),hk.heap h.ev (fun e=>(hS _ e (L8 h.ev)).2.2.2 h.o2),h.sok,h.st,h.o1,h.o2⟩
theorem iO.ext{X:Fx}{P:Px}{B:Bk}{K:Nat}{σ σ':Own}{w:World}{p:Pt}(h:iO X P B K σ w p)(he:Ext σ σ' w.heap.size):iO X P B K σ' w p:=
 ⟨h.row,h.vo.ext he,h.ev,h.sok,h.st,(he _ (L8 h.row)).trans h.o1,(he _ (L8 h.ev)).trans h.o2⟩
theorem iO.up{X:Fx}{P:Px}{B:Bk}{K L:Nat}{σ:Own}{w:World}{p:Pt}(h:iO X P B K σ w p)(hl:K≤L):iO X P B L σ w p:=⟨h.row,h.vo.up hl,h.ev,h.sok,h.st,h.o1,h.o2⟩
def SndC(X:Fx)(P:Px)(B:Bk)(K:Nat)(σ:Own)(f:Fe)(p:Pt)(w:World)(v4 v5:Value)(wx:World):Prop:=∃(b:Nat)(l r:Int)(f1:Fe)(v1:Vo)(us1:List Ku)(σ1:Own)(w1:World),v4= .pointer (some ⟨b,0,none⟩)∧v5= .int .i64 (Envp.vl p.sh p.sl)∧Ba B f f1 p.v v1 p.us us1 l r∧aK X σ1 w1 B (K+16) f1∧FeB (K+16) f1∧fJ X P.V B (K+16) σ1 w1 v1 us1∧af (FV σ P.V.T) w w1∧Ext σ σ1 w.heap.size∧w.heap.size≤b∧wx.heap[b]? =some (.cells #[.int .i64 l,.int .i64 r] 81 (0,0))∧Nv.Sx 145 wx P.eb p.sh (Envp.nx p.sh p.sl)∧af (fun k=>k=P.eb∨k=b) w1 wx∧(b<w1.heap.size→σ1 b=3)
def SndP(X:Fx)(P:Px)(B:Bk)(K:Nat)(σ:Own)(f:Fe)(p:Pt)(w:World)(e:Ending)(w':World):Prop:=∃(l r:Int)(f':Fe)(v':Vo)(us':List Ku)(σ':Own),e= .returned (.tuple #[.int .i64 (jq l p.l (Envp.vl p.sh p.sl)),.int .i64 (jq r p.r (Envp.vl p.sh p.sl))])∧Ba B f f' p.v v' p.us us' l r∧aK X σ' w' B (K+16) f'∧FeB (K+16) f'∧iO X P B (K+16) σ' w' {p with v:=v',us:=us',sl:=Envp.nx p.sh p.sl}∧af (FP σ P.V.T) w w'∧Ext σ σ' w.heap.size
theorem snd_end{X:Fx}{P:Px}{B:Bk}{K:Nat}{σ:Own}{f:Fe}{p:Pt}{w wx:World}(hp:iO X P B K σ w p)(hst:Envp.St (Envp.nx p.sh p.sl)){b:Nat}{l r:Int}{f1:Fe}{v1:Vo}{us1:List Ku}{σ1:Own}{w1:World}(hR:Ba B f f1 p.v v1 p.us us1 l r)(hF:aK X σ1 w1 B (K+16) f1)(hB:FeB (K+16) f1)(hV:fJ X P.V B (K+16) σ1 w1 v1 us1)(hk:af (FV σ P.V.T) w w1)(he:Ext σ σ1 w.heap.size)(hb:w.heap.size≤b)(hs:Nv.Sx 145 wx P.eb p.sh (Envp.nx p.sh p.sl))(hk2:af (fun k=>k=P.eb∨k=b) w1 wx)(ho:b<w1.heap.size→σ1 b=3){v:Value}(hv:v= .tuple #[.int .i64 (jq l p.l (Envp.vl p.sh p.sl)),.int .i64 (jq r p.r (Envp.vl p.sh p.sl))]):SndP X P B K σ f p w (.returned v) wx:=by
 have ht:=hp.vo.t
 have hel:=L8 hp.ev
 have hpl:=L8 hp.row
 have heo:σ1 P.eb=P.V.T+3:=(he _ hel).trans hp.o2
 have hpo:σ1 P.pb=P.V.T+3:=(he _ hpl).trans hp.o1
 have hne:=hp.ne
 have h3: ∀k,k<w1.heap.size→(k=P.eb∨k=b)→σ1 k=P.V.T+3∨σ1 k=3:=fun k hl e=>by
  rcases e with rfl | rfl
  ·exact .inl heo
  ·exact .inr (ho hl)
 refine⟨l,r,f1,v1,us1,σ1,by rw[hv],hR,hF.kept (hk2.mono fun k hl e=>by rcases h3 k hl e with h | h<;>omega),hB,⟨?_,hV.keep hk2 (fun k e hl=>by rcases h3 k hl e with h | h<;>omega),hs,hp.sok,hst,hpo,heo⟩,?_,he⟩
 ·refine hk2.heap (hk.heap hp.row (fun e=>?_)) (fun e=>?_)
  ·unfold FV at e;have:=hp.o1;omega
  ·rcases e with e | e
   ·exact hne e
   ·omega
 ·refine(hk.mono (fun k _ e=>.inl e)).andThen hk2 (fun i hi e=>?_)
  rcases e with rfl | rfl
  ·exact .inr hp.o2
  ·omega
theorem Nv.Sx.al{T:Nat}{w:World}{b:Nat}{x:Envp.Sh}{q:Int×Int}(h:Nv.Sx T w b x q)(o:Obj):Nv.Sx T (w.alloc o) b x q:=(heap_alloc_old w o (L8 h)).trans h
theorem Nv.Sx.st{T:Nat}{w:World}{b g:Nat}{x:Envp.Sh}{q:Int×Int}(h:Nv.Sx T w b x q)(n:Nat)(v:Value)(hne:b≠g):Nv.Sx T (w.setCell ⟨g,n,none⟩ v) b x q:=(aC w g n v).heap h hne
theorem gV{w:World}{b o g n m:Nat}{v u t:Value}(hne:b≠g)(h:w.cell? ⟨b,o,none⟩=some v):((w.setCell ⟨g,n,none⟩ u).setCell ⟨g,m,none⟩ t).cell? ⟨b,o,none⟩=some v:=(aC _ g m t).cell ((aC w g n u).cell h hne) hne
theorem bM{w:World}{a:Addr}{v:Value}{o:Obj}(h:w.cell? a=some v):(w.alloc o).cell? a=some v:=(af.au (S:=fun _=>False) (ae w o) Me).cell h (fun e=>e)
theorem heap_alloc_old'{w:World}{o x:Obj}{b:Nat}(h:w.heap[b]? =some x):(w.alloc o).drew.heap[b]? =some x:=(heap_alloc_old w o (L8 h)).trans h
theorem Fv(X:Fx)(P:Px)(B:Bk)(K:Nat)(hK:K≤480000)(σ:Own)(f:Fe)(hf:FeB K f)(p:Pt)(w:World)(h:aK X σ w B K f)(hp:iO X P B K σ w p):Calls Tryz.prog 74 #[.pointer (some ⟨P.pb,0,none⟩)] w (SndP X P B K σ f p w):=by
 have ho1: ∀l r:Int,(#[Value.int .i64 l,.int .i64 r]:Array Value).all (·.oneCell')=true:=fun l r=>by simp[Value.oneCell']
 have hi2: ∀l r:Int,(Tryz.prog.info? 81).map (·.size)=some (#[Value.int .i64 l,.int .i64 r]:Array Value).size:=fun l r=>by kernel_rfl
 have ht:=hp.vo.t
 have hel:=L8 hp.ev
 have hpl:=L8 hp.row
 have hcb2:P.pb≠w.heap.size:=by omega
 have heb2:P.eb≠w.heap.size:=by omega
 have heo:=hp.o2
 have hpo:=hp.o1
 have hne:=hp.ne
 have hZ:Hid (Below w.heap.size w (w.alloc (.cells #[(),()] 81)).drew):=(ae w (.cells #[(),()] 81)).drew
 have hz:(w.alloc (.cells #[(),()] 81)).drew.heap[w.heap.size]? =some (.cells #[(),()] 81 (0,0)):=L9 w (.cells #[(),()] 81)
 have hx:=eH σ (b:=w.heap.size) 3 Me
 have HFa:=MI (h.fD hZ.out (b:=w.heap.size) 3 Me (by simp))
 have HVa:=MI ((hp.vo.ext hx).ah hZ.out)
 have hs3:=MI (dG σ w.heap.size 3)
 have HX:=MI hx
 have HF:=MI (h.ah (Below.refl w.heap.size w).drew)
 have HV:=MI (hp.vo.ah (Below.refl w.heap.size w).drew)
 have HN:=MI (fun w h1 h2=>next_any X P.V B K hK σ f hf p.v p.us w h1 h2)
 have HNa:=MI (fun w h1 h2=>next_any X P.V B K hK (fD σ w.heap.size 3) f hf p.v p.us w h1 h2)
 clear HNa
 generalize fD σ w.heap.size 3=τ at*
 have HNa:=MI (fun w h1 h2=>next_any X P.V B K hK τ f hf p.v p.us w h1 h2)
 have HE:=MI (fun w h1=>Nv.next_any P.eb p.sh p.sl.1 p.sl.2 hp.sok hp.st w h1)
 obtain⟨c0,c1,c2,c3,c4⟩:=bf hp.row
 have HP:=MI hp
 have HEv:=MI hp.ev
 clear h hx hp
 unfold NextP at HN HNa
 unfold Nv.ER at HE
 go_enter Tryz.func74,Tryz.ntmps74
 go_upto_region 1 with fail
 go_cut [4,5] (fun v4 v5 wx=>SndC X P B K σ f p w v4 v5 wx)
 case first=>
  go_region_held3 (fun w'=>w'.cell? ⟨P.pb,0,none⟩=some (.pointer (some ⟨P.V.vb,0,none⟩))∧w'.cell? ⟨P.pb,1,none⟩=some (.pointer (some ⟨P.eb,0,none⟩))) (first | go_keep | exact⟨gV hcb2 c0,gV hcb2 c1⟩ | exact⟨gV hcb3 c0,gV hcb3 c1⟩) ((first
   | (go_at_call 106;first
    | ((with_reducible refine(HN.out w.drew HF.out HV.out).mono ?_);rintro e w1 ⟨l,r,f1,v1,us1,σ1,rfl,hR1,hF1,hFB1,hV1,hK1,hE1⟩;have hrow1:=hK1.heap HP.out.row (fun e=>by unfold FV at e;omega);have hev1:Nv.Sx 145 w1 P.eb p.sh (p.sl.1,p.sl.2):=hK1.heap HEv.out (fun e=>by unfold FV at e;omega);obtain⟨c0,c1,-⟩:=bf hrow1;have hsz1:w.heap.size≤w1.heap.size:=hK1.size;have hcb3:P.pb≠w1.heap.size:=(by omega))
    | ((with_reducible refine(HNa.out _ HFa.out HVa.out).mono ?_);rintro e w1 ⟨l,r,f1,v1,us1,σ1,rfl,hR1,hF1,hFB1,hV1,hK1,hE1⟩;have hrow1:=hK1.heap (heap_alloc_old' HP.out.row) (fun e=>by unfold FV at e;rw[HX.out _ hpl] at e;omega);have hev1:Nv.Sx 145 w1 P.eb p.sh (p.sl.1,p.sl.2):=hK1.heap (heap_alloc_old' HEv.out) (fun e=>by unfold FV at e;rw[HX.out _ hel] at e;omega);have hz1:=hK1.heap hz (fun e=>by unfold FV at e;rw[hs3.out] at e;omega);obtain⟨c0,c1,-⟩:=bf hrow1;have hsz1:w.heap.size+1≤w1.heap.size:=(by have:=hK1.size;simpa using this);have hcb3:P.pb≠w1.heap.size:=(by omega);have d0:=(bD hz1).1;have d1:=(bD hz1).2;have g0:=frozen_of_row _ _ 0 _ _ hz1;have g1:=frozen_of_row _ _ 1 _ _ hz1))
   | (go_at_call 107;first
    | ((with_reducible refine(HE.out w1 hev1).mono ?_);rintro e w2 ⟨rfl,hs2,hk2⟩;have c0:=hk2.cell (p:=⟨P.pb,0,none⟩) (v:=.pointer (some ⟨P.V.vb,0,none⟩)) (by first | exact c0 | exact bM c0 | exact gV hcb2 c0) hne;have c1:=hk2.cell (p:=⟨P.pb,1,none⟩) (v:=.pointer (some ⟨P.eb,0,none⟩)) (by first | exact c1 | exact bM c1 | exact gV hcb2 c1) hne;(first | (have hz2:=hk2.heap hz1 (fun e=>by omega);have d0:=(bD hz2).1;have d1:=(bD hz2).2;have g0:=frozen_of_row _ _ 0 _ _ hz2;have g1:=frozen_of_row _ _ 1 _ _ hz2) | skip))
    | ((with_reducible refine(HE.out _ (hev1.al _)).mono ?_);rintro e w2 ⟨rfl,hs2,hk2⟩;have c0:=hk2.cell (p:=⟨P.pb,0,none⟩) (v:=.pointer (some ⟨P.V.vb,0,none⟩)) (by first | exact c0 | exact bM c0 | exact gV hcb2 c0) hne;have c1:=hk2.cell (p:=⟨P.pb,1,none⟩) (v:=.pointer (some ⟨P.eb,0,none⟩)) (by first | exact c1 | exact bM c1 | exact gV hcb2 c1) hne;(try (have hz2:=hk2.heap (L9 w1 (.cells #[(),()] 81)) (fun e=>by omega);have d0:=(bD hz2).1;have d1:=(bD hz2).2;have g0:=frozen_of_row _ _ 0 _ _ hz2;have g1:=frozen_of_row _ _ 1 _ _ hz2)))
    | ((with_reducible refine(HE.out _ ((hev1.st _ _ heb2).st _ _ heb2)).mono ?_);rintro e w2 ⟨rfl,hs2,hk2⟩;have c0:=hk2.cell (p:=⟨P.pb,0,none⟩) (v:=.pointer (some ⟨P.V.vb,0,none⟩)) (by first | exact c0 | exact bM c0 | exact gV hcb2 c0) hne;have c1:=hk2.cell (p:=⟨P.pb,1,none⟩) (v:=.pointer (some ⟨P.eb,0,none⟩)) (by first | exact c1 | exact bM c1 | exact gV hcb2 c1) hne;(skip)))))
  ·go_wp2_with fail
   go_meet
   have hsz2:=hk2.size
   exact⟨w2.heap.size,l,r,f1,v1,us1,σ1,w1,rfl,rfl,hR1,hF1,hFB1,hV1,(af.refl _ w).drew.trans hK1,hE1,by omega,L9 _ _,Nv.Sx.al hs2 _,(hk2.mono (fun k _ e=>.inl e)).alloc _,fun h=>by omega⟩
  ·go_wp2_with fail
   go_meet
   exact⟨w1.heap.size,l,r,f1,v1,us1,σ1,w1,rfl,rfl,hR1,hF1,hFB1,hV1,(af.refl _ w).drew.trans hK1,hE1,hsz1,Mc (Mc hz2),(Nv.Sx.st hs2 _ _ (by omega)).st _ _ (by omega),(((af.au (ae w1 _) Me).trans (hk2.mono (fun k _ e=>.inl e))).setCell (p:=⟨w1.heap.size,0,none⟩) (.inr (.inr rfl)) _).setCell (p:=⟨w1.heap.size,1,none⟩) (.inr (.inr rfl)) _,fun h=>by omega⟩
  ·go_wp2_with fail
   go_meet
   exact⟨w.heap.size,l,r,f1,v1,us1,σ1,w1,rfl,rfl,hR1,hF1,hFB1,hV1,(af.au hZ.out Me).andThen hK1 (fun i hi e=>by unfold FV at e⊢;rwa [HX.out i hi] at e),HX.out.trans hE1 (by simp),Me,Mc (Mc hz2),(Nv.Sx.st hs2 _ _ (by omega)).st _ _ (by omega),((hk2.mono (fun k _ e=>.inl e)).setCell (p:=⟨w.heap.size,0,none⟩) (.inr (.inr rfl)) _).setCell (p:=⟨w.heap.size,1,none⟩) (.inr (.inr rfl)) _,fun h=>(hE1 _ (by simp)).trans hs3.out⟩
 case rest=>
  obtain⟨b,l,r,f1,v1,us1,σ1,w1,rfl,rfl,hR,hF,hB,hV,hk,he,hb,hz,hs,hk2,ho⟩:=hcut
  obtain⟨W2,rfl⟩: ∃w',w'=wc:=⟨_,rfl⟩
  have HEnd:=MI (fun wx (h1:Nv.Sx 145 wx P.eb p.sh (Envp.nx p.sh p.sl)) h2 v hv=>snd_end HP.out (Envp.nx_st HP.out.sok HP.out.st) hR hF hB hV hk he hb (wx:=wx) h1 h2 ho (v:=v) hv)
  have hrow2:=hk2.heap (hk.heap HP.out.row (fun e=>by unfold FV at e;omega)) (fun e=>by have:=hk.size;omega)
  obtain⟨c0,c1,c2,c3,c4⟩:=bf hrow2
  obtain⟨d0,d1⟩:=bD hz
  have HL:=MI (fun x vol w=>JG x vol (Envp.vl p.sh p.sl) w)
  unfold Qt at HL
  have HS:=MI hs
  have HK2:=MI hk2
  clear hR hF hB hV hk he hz hs hk2 hrow2 HN HNa HE HF HV HFa HVa hi2 ho1 hZ HX
  go_upto_region 2 with fail
  go_quiet ((go_at_call 108;exact Calls.quiet_of (HL.out _ _ _)))
  go_wp2_with fail
  go_ret2
  exact HEnd.out (W2.drewN _) HS.out (HK2.out.drewN _) _ rfl
def Pt.over(p:Pt):Bool:=p.v.done||decide (p.sl.1=4)
theorem Jt(X:Fx)(P:Px)(B:Bk)(K:Nat)(σ:Own)(p:Pt)(w:World)(hp:iO X P B K σ w p):Calls Tryz.prog 76 #[.pointer (some ⟨P.pb,0,none⟩)] w (fun e w'=>e= .returned (.bool p.over)∧w=w'):=by
 obtain⟨c0,c1,c2,c3,c4⟩:=bf hp.row
 obtain⟨pb,cap,hrow,-⟩:=hp.vo.row
 have HD:=MI (wo P.V.vb (some ⟨pb,0,none⟩) cap p.v hp.vo.ok w hrow)
 have HS:=MI (Nv.Fh P.eb p.sh p.sl.1 p.sl.2 w hp.ev)
 have HO:=MI (show p.over=(p.v.done||decide (p.sl.1=4)) from rfl)
 clear hp hrow c2 c3 c4
 generalize p.over=o at*
 cases hd:p.v.done with
 | true=>
  rw[hd] at HD HO
  clear hd
  have ho:o=true:=HO.out
  subst ho
  go_enter Tryz.func76,Tryz.ntmps76
  go_wp2_with (first | (go_at_call 111;refine HD.out.mono ?_;rintro e w' ⟨rfl,rfl⟩) | (go_at_call 112;refine HS.out.mono ?_;rintro e w' ⟨rfl,rfl⟩))
  go_ret
  exact⟨rfl,rfl⟩
 | false=>
  rw[hd] at HD HO
  clear hd
  have ho:Hid (o=decide (p.sl.1=4)):=HO.out
  clear HO
  by_cases h4:p.sl.1=4
  ·have HO:=MI (show o=true by rw[ho.out,h4];rfl)
   rw[h4] at HS
   clear ho h4
   go_enter Tryz.func76,Tryz.ntmps76
   go_wp2_with (first | (go_at_call 111;refine HD.out.mono ?_;rintro e w' ⟨rfl,rfl⟩) | (go_at_call 112;refine HS.out.mono ?_;rintro e w' ⟨rfl,rfl⟩))
   go_ret
   exact⟨by rw[HO.out];rfl,rfl⟩
  ·have HO:=MI (show o=false by rw[ho.out];exact decide_eq_false h4)
   have h5:(p.sl.1==4)=false:=by simpa using h4
   generalize p.sl.1=st at*
   clear ho
   go_enter Tryz.func76,Tryz.ntmps76
   go_wp2_with (first | (go_at_call 111;refine HD.out.mono ?_;rintro e w' ⟨rfl,rfl⟩) | (go_at_call 112;refine HS.out.mono ?_;rintro e w' ⟨rfl,rfl⟩))
   all_goals go_ret
   all_goals exact⟨by rw[HO.out];rfl,rfl⟩
structure Yx where
 yb:Nat
 sb:Nat
 n:Nat
abbrev Po:=Option (Px×Pt)
structure Ye where
 ps:List Po
 count:Int
def oG:Po→Value
 | none=>.pointer none
 | some q=>.pointer (some ⟨q.1.pb,0,none⟩)
structure YIs(X:Fx)(Y:Yx)(B:Bk)(K:Nat)(σ:Own)(w:World)(y:Ye):Prop where
 row:w.heap[Y.yb]? =some (.cells #[.pointer (some ⟨X.fb,0,none⟩),.slice (some ⟨Y.sb,0,none⟩) Y.n Y.n,.int .i64 y.count] 85 (0,0))
 sl:w.heap[Y.sb]? =some (.cells (y.ps.map oG).toArray 98 (0,0))
 len:y.ps.length=Y.n
 n1:1≤Y.n
 n2:Y.n≤64
 o1:σ Y.yb=4
 o2:σ Y.sb=5
 pt: ∀i P p,y.ps.getD i none=some (P,p)→P.V.T=10+4*i∧iO X P B K σ w p
 c0:0≤y.count
 c1:y.count≤4294967296
theorem YIs.cells{X:Fx}{Y:Yx}{B:Bk}{K:Nat}{σ:Own}{w:World}{y:Ye}(h:YIs X Y B K σ w y):w.cell? ⟨Y.yb,0,none⟩=some (.pointer (some ⟨X.fb,0,none⟩))∧w.cell? ⟨Y.yb,1,none⟩=some (.slice (some ⟨Y.sb,0,none⟩) Y.n Y.n)∧w.cell? ⟨Y.yb,2,none⟩=some (.int .i64 y.count):=
 ⟨(LZ h.row).trans rfl,(LZ h.row).trans rfl,(LZ h.row).trans rfl⟩
theorem YIs.cell{X:Fx}{Y:Yx}{B:Bk}{K:Nat}{σ:Own}{w:World}{y:Ye}(h:YIs X Y B K σ w y){i:Nat}(hi:i<Y.n):w.cell? ⟨Y.sb,i,none⟩=some (oG (y.ps.getD i none)):=by
 refine(LZ h.sl).trans ?_
 have hl:i<y.ps.length:=by rw[h.len];exact hi
 simp[List.getD,hl]
theorem iM(X:Fx)(Y:Yx)(B:Bk)(K:Nat)(σ:Own)(y:Ye)(w:World)(h:YIs X Y B K σ w y):Calls Tryz.prog 27 #[.pointer (some ⟨Y.yb,0,none⟩)] w (fun e w'=>e= .returned (.bool false)∧w=w'):=by
 obtain⟨c0,c1,c2⟩:=h.cells
 clear h c1 c2
 go_enter Tryz.func27,Tryz.ntmps27
 go_wp2_with fail
 go_ret
 exact⟨rfl,rfl⟩
theorem lK(X:Fx)(Y:Yx)(B:Bk)(K:Nat)(σ:Own)(y:Ye)(id:Int)(hid:id<0)(w:World)(h:YIs X Y B K σ w y):Calls Tryz.prog 84 #[.pointer (some ⟨Y.yb,0,none⟩),.int .i64 id] w (fun e w'=>e= .returned (.tuple #[.pointer none,.int .i64 15])∧w=w'):=by
 have HN:=MI (iM X Y B K σ y w h)
 obtain⟨c0,c1,c2⟩:=h.cells
 clear h c0 c2
 go_enter Tryz.func84,Tryz.ntmps84
 go_wp2_with (go_at_call 27;refine HN.out.mono ?_;rintro e w' ⟨rfl,rfl⟩)
 go_ret2
 exact⟨rfl,rfl⟩
theorem lL(X:Fx)(Y:Yx)(B:Bk)(K:Nat)(σ:Own)(y:Ye)(id:Int)(hid:(Y.n:Int)≤id)(w:World)(h:YIs X Y B K σ w y):Calls Tryz.prog 84 #[.pointer (some ⟨Y.yb,0,none⟩),.int .i64 id] w (fun e w'=>e= .returned (.tuple #[.pointer none,.int .i64 15])∧w=w'):=by
 have HN:=MI (iM X Y B K σ y w h)
 obtain⟨c0,c1,c2⟩:=h.cells
 have hn:¬id<0:=by omega
 clear h c0 c2
 go_enter Tryz.func84,Tryz.ntmps84
 go_wp2_with (go_at_call 27;refine HN.out.mono ?_;rintro e w' ⟨rfl,rfl⟩)
 go_ret2
 exact⟨rfl,rfl⟩
theorem lJ(X:Fx)(Y:Yx)(B:Bk)(K:Nat)(σ:Own)(y:Ye)(i:Nat)(hi:i<Y.n)(hp:y.ps.getD i none=none)(w:World)(h:YIs X Y B K σ w y):Calls Tryz.prog 84 #[.pointer (some ⟨Y.yb,0,none⟩),.int .i64 (i:Int)] w (fun e w'=>e= .returned (.tuple #[.pointer none,.int .i64 7])∧w=w'):=by
 have HN:=MI (iM X Y B K σ y w h)
 obtain⟨c0,c1,c2⟩:=h.cells
 have hc:=h.cell hi
 rw[hp] at hc
 have hc':w.cell? ⟨Y.sb,i,none⟩=some (.pointer none):=hc
 have hn:¬(i:Int)<0:=by omega
 have hn2:¬(Y.n:Int)≤i:=by omega
 have hn3:(i:Int)<(Y.n:Int):=by omega
 clear h c0 c2 hc hp
 go_enter Tryz.func84,Tryz.ntmps84
 go_wp2_with (go_at_call 27;refine HN.out.mono ?_;rintro e w' ⟨rfl,rfl⟩)
 go_ret2
 exact⟨rfl,rfl⟩
theorem lI(X:Fx)(Y:Yx)(B:Bk)(K:Nat)(σ:Own)(y:Ye)(i:Nat)(hi:i<Y.n)(P:Px)(p:Pt)(hp:y.ps.getD i none=some (P,p))(w:World)(h:YIs X Y B K σ w y):Calls Tryz.prog 84 #[.pointer (some ⟨Y.yb,0,none⟩),.int .i64 (i:Int)] w (fun e w'=>e= .returned (.tuple #[.pointer (some ⟨P.pb,0,none⟩),()])∧w=w'):=by
 have HN:=MI (iM X Y B K σ y w h)
 obtain⟨c0,c1,c2⟩:=h.cells
 have hc:=h.cell hi
 rw[hp] at hc
 have hc':w.cell? ⟨Y.sb,i,none⟩=some (.pointer (some ⟨P.pb,0,none⟩)):=hc
 have hn:¬(i:Int)<0:=by omega
 have hn2:¬(Y.n:Int)≤i:=by omega
 have hn3:(i:Int)<(Y.n:Int):=by omega
 clear h c0 c2 hc hp
 go_enter Tryz.func84,Tryz.ntmps84
 go_wp2_with (go_at_call 27;refine HN.out.mono ?_;rintro e w' ⟨rfl,rfl⟩)
 go_ret2
 exact⟨rfl,rfl⟩
theorem iW(l:List Po){i:Nat}(h:i<l.length)(x:Po):(l.set i x).getD i none=x:=by simp[List.getD,h]
theorem getD_set_ne(l:List Po){i j:Nat}(h:i≠j)(x:Po):(l.set i x).getD j none=l.getD j none:=by simp[List.getD,List.getElem?_set,h]
theorem YIs.at{X:Fx}{Y:Yx}{B:Bk}{K:Nat}{σ:Own}{w:World}{y:Ye}(h:YIs X Y B K σ w y){i:Nat}{P:Px}{p:Pt}(e:y.ps.getD i none=some (P,p)):i<Y.n:=by
 apply Classical.byContradiction
 intro hn
 rw[←h.len] at hn
 simp[List.getD,hn] at e
theorem YIs.did{X:Fx}{Y:Yx}{B:Bk}{K L:Nat}{σ σ':Own}{w w':World}{y:Ye}(h:YIs X Y B K σ w y)(hl:K≤L){i:Nat}{P:Px}{p p':Pt}(e:y.ps.getD i none=some (P,p))(hk:af (FP σ P.V.T) w w')(he:Ext σ σ' w.heap.size)(hp:iO X P B L σ' w' p'):YIs X Y B L σ' w' {y with ps:=y.ps.set i (some (P,p'))}:=by
 have hi:=h.at e
 have hT:=(h.pt i P p e).1
 have hm:(y.ps.set i (some (P,p'))).map oG=y.ps.map oG:=by
  apply List.ext_getElem?
  intro j
  rw[List.map_set,List.getElem?_set]
  by_cases hj:i=j
  ·subst hj
   have hlt:i<y.ps.length:=by rw[h.len];exact hi
   have e2:y.ps[i]=some (P,p):=by simpa[List.getD,hlt] using e
   simp[hlt,e2,oG]
  ·rw[if_neg hj]
 refine⟨hk.heap h.row (fun q=>?_),?_,by rw[List.length_set];exact h.len,h.n1,h.n2,(he _ (L8 h.row)).trans h.o1,(he _ (L8 h.sl)).trans h.o2,fun j Q q hq=>?_,h.c0,h.c1⟩
 ·have:=h.o1
  unfold FP FV at q
  omega
 ·rw[hm]
  refine hk.heap h.sl (fun q=>?_)
  have:=h.o2
  unfold FP FV at q
  omega
 ·by_cases hj:i=j
  ·subst hj
   have hlt:i<y.ps.length:=by rw[h.len];exact hi
   have e3:(y.ps.set i (some (P,p'))).getD i none=some (P,p'):=iW _ hlt _
   rw[e3] at hq
   obtain⟨rfl,rfl⟩:=Prod.mk.inj (Option.some.inj hq)
   exact⟨hT,hp⟩
  ·have e3:(y.ps.set i (some (P,p'))).getD j none=y.ps.getD j none:=getD_set_ne _ hj _
   rw[e3] at hq
   obtain⟨h1,h2⟩:=h.pt j Q q hq
   refine⟨h1,((h2.ext he).keep hk (fun k hs hlt=>?_)).up hl⟩
   rw[he _ hlt]
   unfold FP FV at hs
   omega
theorem YIs.gone{X:Fx}{Y:Yx}{B:Bk}{K:Nat}{σ:Own}{w:World}{y:Ye}(h:YIs X Y B K σ w y)(i:Nat)(hi:i<Y.n):YIs X Y B K σ (w.setCell ⟨Y.sb,i,none⟩ (.pointer none)) {y with ps:=y.ps.set i none}:=by
 have hk:=aC w Y.sb i (.pointer none)
 have hne:Y.yb≠Y.sb:=fun e=>by have:=h.o1;have:=h.o2;rw[e] at*;omega
 refine⟨hk.heap h.row hne,?_,by rw[List.length_set];exact h.len,h.n1,h.n2,h.o1,h.o2,fun j Q q hq=>?_,h.c0,h.c1⟩
 ·refine(Mc h.sl).trans ?_
  rw[List.map_set]
  simp[oG]
 ·by_cases hj:i=j
  ·subst hj
   have hlt:i<y.ps.length:=by rw[h.len];exact hi
   have e3:(y.ps.set i none).getD i none=none:=iW _ hlt _
   rw[e3] at hq
   cases hq
  ·have e3:(y.ps.set i none).getD j none=y.ps.getD j none:=getD_set_ne _ hj _
   rw[e3] at hq
   obtain⟨h1,h2⟩:=h.pt j Q q hq
   refine⟨h1,h2.keep hk (fun k hs hlt=>?_)⟩
   have:=h.o2
   rw[hs]
   omega
def cZ(Y:Yx)(y:Ye)(id:Int)(g:Pt→Int×Pt):Int×Ye:=
 if id<0∨(Y.n:Int)≤id then(15,y) else
 match y.ps.getD id.toNat none with
 | none=>(7,y)
 | some q=>((g q.2).1,{y with ps:=y.ps.set id.toNat (some (q.1,(g q.2).2))})
def iT(Y:Yx)(y:Ye)(id:Int):Int×Ye:=
 if id<0∨(Y.n:Int)≤id then(15,y) else
 match y.ps.getD id.toNat none with
 | none=>(7,y)
 | some q=>(0,{y with ps:=y.ps.set id.toNat none})
def FO(σ:Own)(k:Nat):Prop:=4≤σ k
def o9(X:Fx)(Y:Yx)(B:Bk)(K:Nat)(σ:Own)(f:Fe)(r:Int×Ye)(w:World)(e:Ending)(w':World):Prop:=e= .returned (.int .i64 r.1)∧aK X σ w' B K f∧YIs X Y B K σ w' r.2∧af (FO σ) w w'
theorem eQ{X:Fx}{Y:Yx}{B:Bk}{K:Nat}{σ:Own}{f:Fe}{w:World}{y:Ye}(h:aK X σ w B K f)(hy:YIs X Y B K σ w y){c:Int}{r:Int×Ye}(hr:r=(c,y)){v:Value}(hv:v= .int .i64 c):o9 X Y B K σ f r w (.returned v) w:=by
 subst hr
 exact⟨by rw[hv],h,hy,af.refl _ _⟩
theorem IE(X:Fx)(Y:Yx)(B:Bk)(K:Nat)(σ:Own)(f:Fe)(y:Ye)(id:Int)(w:World)(h:aK X σ w B K f)(hy:YIs X Y B K σ w y):Calls Tryz.prog 62 #[.pointer (some ⟨Y.yb,0,none⟩),.int .i64 id] w (o9 X Y B K σ f (iT Y y id) w):=by
 by_cases h1:id<0
 ·have HP:=MI (lK X Y B K σ y id h1 w hy)
  have HE:=MI (fun v hv=>eQ (r:=iT Y y id) h hy (c:=15) (by unfold iT;rw[if_pos (.inl h1)]) (v:=v) hv)
  clear h hy h1
  go_enter Tryz.func62,Tryz.ntmps62
  go_wp2_with (go_at_call 84;refine HP.out.mono ?_;rintro e w' ⟨rfl,rfl⟩)
  go_ret
  exact HE.out _ rfl
 by_cases h2:(Y.n:Int)≤id
 ·have HP:=MI (lL X Y B K σ y id h2 w hy)
  have HE:=MI (fun v hv=>eQ (r:=iT Y y id) h hy (c:=15) (by unfold iT;rw[if_pos (.inr h2)]) (v:=v) hv)
  clear h hy h1 h2
  go_enter Tryz.func62,Tryz.ntmps62
  go_wp2_with (go_at_call 84;refine HP.out.mono ?_;rintro e w' ⟨rfl,rfl⟩)
  go_ret
  exact HE.out _ rfl
 obtain⟨i,rfl⟩: ∃i:Nat,id=(i:Int):=⟨id.toNat,by omega⟩
 have hi:i<Y.n:=by omega
 have hn:¬((i:Int)<0∨(Y.n:Int)≤i):=by omega
 cases hq:y.ps.getD i none with
 | none=>
  have HP:=MI (lJ X Y B K σ y i hi hq w hy)
  have HE:=MI (fun v hv=>eQ (r:=iT Y y (i:Int)) h hy (c:=7) (by unfold iT;rw[if_neg hn,Int.toNat_natCast,hq]) (v:=v) hv)
  clear h hy h1 h2 hn hq
  go_enter Tryz.func62,Tryz.ntmps62
  go_wp2_with (go_at_call 84;refine HP.out.mono ?_;rintro e w' ⟨rfl,rfl⟩)
  go_ret
  exact HE.out _ rfl
 | some q=>
  obtain⟨P,p⟩:=q
  have HP:=MI (lI X Y B K σ y i hi P p hq w hy)
  have HR:=MI (show iT Y y (i:Int)=(0,{y with ps:=y.ps.set i none}) by unfold iT;rw[if_neg hn,Int.toNat_natCast,hq])
  obtain⟨c0,c1,c2⟩:=hy.cells
  have hc:=hy.cell hi
  have g0:=frozen_of_row _ _ i _ _ hy.sl
  have hn3:(i:Int)<(Y.n:Int):=by omega
  have HK:=MI (aC w Y.sb i (.pointer none))
  have HY:=MI (hy.gone i hi)
  have HF:=MI (h.kept (HK.out.mono fun k _ e=>by rw[e,hy.o2];omega))
  have HO:=MI hy.o2
  clear h hy h1 h2 hn hq c0 c2
  go_enter Tryz.func62,Tryz.ntmps62
  go_wp2_with (go_at_call 84;refine HP.out.mono ?_;rintro e w' ⟨rfl,rfl⟩)
  go_ret
  rw[HR.out]
  exact⟨rfl,HF.out,HY.out,HK.out.mono fun k _ e=>by unfold FO;rw[e,HO.out];omega⟩
theorem fJ.put{X:Fx}{V:Vx}{B:Bk}{K:Nat}{σ:Own}{w w':World}{v v':Vo}{us:List Ku}(h:fJ X V B K σ w v us)(hm:v'.m=v.m)(hok:v'.Ok){pb:Nat}{cap:Nat}(hrow:dK w V.vb (some ⟨pb,0,none⟩) cap v)(hr:dK w' V.vb (some ⟨pb,0,none⟩) cap v')(hk:af (fun k=>k=V.vb) w w'):fJ X V B K σ w' v' us:=by
 obtain⟨pb2,cap2,h1,h2,h3,h4⟩:=h.row
 have e:(some (⟨pb2,0,none⟩:Addr),cap2)=(some ⟨pb,0,none⟩,cap):=by
  have a:=(dE h1).2.2.2.2.2.2.2.2.2.1
  have b:=(dE hrow).2.2.2.2.2.2.2.2.2.1
  rw[a] at b
  simp only[Option.some.injEq,Value.slice.injEq] at b
  rw[b.1];simp[b.2.2]
 simp only[Prod.mk.injEq,Option.some.injEq,Addr.mk.injEq,and_true] at e
 obtain⟨rfl,rfl⟩:=e
 have hne:pb2≠V.vb:=fun e=>by
  have hc:=h.ok.m.c0
  have h5:=h4 0 (by omega)
  rw[e,(dE hrow).1] at h5
  cases h5
 refine⟨h.i,by rw[hm];exact h.m,hok,by rw[hm];exact h.vH,h.t,⟨pb2,cap2,hr,h2,Nat.lt_of_lt_of_le h3 hk.size,fun k hkk=>hk.cell (h4 k (by rw[hm] at hkk;exact hkk)) (fun e=>hne e)⟩,h.own,fun k hkk=>?_,fun k hkk=>h.uo k (by rw[hm] at hkk;exact hkk)⟩
 rw[hm] at hkk⊢
 obtain⟨kv,lv,hcu⟩:=h.cur k hkk
 refine⟨kv,lv,hcu.keep hk (fun b e hl=>?_)⟩
 rw[e,h.own]
 show V.T≠V.T+1+k
 omega
theorem iO.DY{X:Fx}{P:Px}{B:Bk}{K:Nat}{σ:Own}{w w':World}{p:Pt}(h:iO X P B K σ w p){v':Vo}(hv:fJ X P.V B K σ w' v' p.us)(hk:af (fun k=>k=P.V.vb) w w'):iO X P B K σ w' {p with v:=v'}:=by
 have ho:=h.vo.own
 refine⟨hk.heap h.row (fun e=>?_),hv,hk.heap h.ev (fun e=>?_),h.sok,h.st,h.o1,h.o2⟩
 ·have:=h.o1;rw[e] at this;omega
 ·have:=h.o2;rw[e] at this;omega
theorem iO.env{X:Fx}{P:Px}{B:Bk}{K:Nat}{σ:Own}{w w':World}{p:Pt}(h:iO X P B K σ w p){q:Int×Int}(he:Nv.Sx 145 w' P.eb p.sh q)(hst:Envp.St q)(hk:af (fun k=>k=P.eb) w w'):iO X P B K σ w' {p with sl:=q}:=
 ⟨hk.heap h.row (fun e=>h.ne e),h.vo.keep hk (fun k e hl=>by have:=h.o2;rw[e];omega),he,h.sok,hst,h.o1,h.o2⟩
theorem I4(X:Fx)(Y:Yx)(B:Bk)(K:Nat)(σ:Own)(f:Fe)(y:Ye)(id:Int)(a:Int)(w:World)(h:aK X σ w B K f)(hy:YIs X Y B K σ w y):Calls Tryz.prog 63 #[.pointer (some ⟨Y.yb,0,none⟩),.int .i64 id,.int .i64 a] w (o9 X Y B K σ f (cZ Y y id (fun p=>((dJ p.v a).1,{p with v:=(dJ p.v a).2}))) w):=by
 by_cases h1:id<0
 ·have HP:=MI (lK X Y B K σ y id h1 w hy)
  have HE:=MI (fun v hv=>eQ (r:=cZ Y y id (fun p=>((dJ p.v a).1,{p with v:=(dJ p.v a).2}))) h hy (c:=15) (by unfold cZ;rw[if_pos (.inl h1)]) (v:=v) hv)
  clear h hy h1
  go_enter Tryz.func63,Tryz.ntmps63
  go_wp2_with (go_at_call 84;refine HP.out.mono ?_;rintro e w' ⟨rfl,rfl⟩)
  go_ret
  exact HE.out _ rfl
 by_cases h2:(Y.n:Int)≤id
 ·have HP:=MI (lL X Y B K σ y id h2 w hy)
  have HE:=MI (fun v hv=>eQ (r:=cZ Y y id (fun p=>((dJ p.v a).1,{p with v:=(dJ p.v a).2}))) h hy (c:=15) (by unfold cZ;rw[if_pos (.inr h2)]) (v:=v) hv)
  clear h hy h1 h2
  go_enter Tryz.func63,Tryz.ntmps63
  go_wp2_with (go_at_call 84;refine HP.out.mono ?_;rintro e w' ⟨rfl,rfl⟩)
  go_ret
  exact HE.out _ rfl
 obtain⟨i,rfl⟩: ∃i:Nat,id=(i:Int):=⟨id.toNat,by omega⟩
 have hi:i<Y.n:=by omega
 have hn:¬((i:Int)<0∨(Y.n:Int)≤i):=by omega
 cases hq:y.ps.getD i none with
 | none=>
  have HP:=MI (lJ X Y B K σ y i hi hq w hy)
  have HE:=MI (fun v hv=>eQ (r:=cZ Y y (i:Int) (fun p=>((dJ p.v a).1,{p with v:=(dJ p.v a).2}))) h hy (c:=7) (by unfold cZ;rw[if_neg hn,Int.toNat_natCast,hq]) (v:=v) hv)
  clear h hy h1 h2 hn hq
  go_enter Tryz.func63,Tryz.ntmps63
  go_wp2_with (go_at_call 84;refine HP.out.mono ?_;rintro e w' ⟨rfl,rfl⟩)
  go_ret
  exact HE.out _ rfl
 | some q=>
  obtain⟨P,p⟩:=q
  have HP:=MI (lI X Y B K σ y i hi P p hq w hy)
  have HR:=MI (show cZ Y y (i:Int) (fun p=>((dJ p.v a).1,{p with v:=(dJ p.v a).2}))=((dJ p.v a).1,{y with ps:=y.ps.set i (some (P,{p with v:=(dJ p.v a).2}))}) by unfold cZ;rw[if_neg hn,Int.toNat_natCast,hq])
  obtain⟨hT,hp⟩:=hy.pt i P p hq
  obtain⟨c0,c1,-⟩:=bf hp.row
  obtain⟨pb,cap,hrow,-⟩:=hp.vo.row
  have HC:=MI (EU P.V.vb (some ⟨pb,0,none⟩) cap p.v hp.vo.ok a w hrow)
  have hm:(dJ p.v a).2.m=p.v.m:=by unfold dJ;split<;>rfl
  have hok:=I5 hp.vo.ok a
  have HE:Hid (∀w',dK w' P.V.vb (some ⟨pb,0,none⟩) cap (dJ p.v a).2→af (fun k=>k=P.V.vb) w w'→∀v,v= .int .i64 (dJ p.v a).1→o9 X Y B K σ f (cZ Y y (i:Int) (fun p=>((dJ p.v a).1,{p with v:=(dJ p.v a).2}))) w (.returned v) w'):=by
   intro w' hr hk v hv
   rw[HR.out]
   have hvo:=hp.vo.put hm hok hrow hr hk
   have ho:=hp.vo.own
   exact⟨by rw[hv],h.kept (hk.mono fun k _ e=>by rw[e,ho];omega),hy.did Me hq (hk.mono fun k _ e=>by unfold FP FV;rw[e,ho];omega) (Ext.refl _ _) (hp.DY hvo hk),hk.mono fun k _ e=>by unfold FO;rw[e,ho];omega⟩
  unfold VoP at HC
  clear h hy h1 h2 hn hq hp hrow hm hok HR
  generalize dJ p.v a=r at*
  go_enter Tryz.func63,Tryz.ntmps63
  go_wp2_with (first | (go_at_call 84;refine HP.out.mono ?_;rintro e w' ⟨rfl,rfl⟩) | (go_at_call 98;refine HC.out.mono ?_;rintro e w' ⟨rfl,hr,hk⟩))
  go_ret
  exact HE.out _ hr hk _ rfl
theorem Gf(X:Fx)(Y:Yx)(B:Bk)(K:Nat)(σ:Own)(f:Fe)(y:Ye)(id:Int)(a:Int)(w:World)(h:aK X σ w B K f)(hy:YIs X Y B K σ w y):Calls Tryz.prog 64 #[.pointer (some ⟨Y.yb,0,none⟩),.int .i64 id,.int .i64 a] w (o9 X Y B K σ f (cZ Y y id (fun p=>((dI p.v a).1,{p with v:=(dI p.v a).2}))) w):=by
 by_cases h1:id<0
 ·have HP:=MI (lK X Y B K σ y id h1 w hy)
  have HE:=MI (fun v hv=>eQ (r:=cZ Y y id (fun p=>((dI p.v a).1,{p with v:=(dI p.v a).2}))) h hy (c:=15) (by unfold cZ;rw[if_pos (.inl h1)]) (v:=v) hv)
  clear h hy h1
  go_enter Tryz.func64,Tryz.ntmps64
  go_wp2_with (go_at_call 84;refine HP.out.mono ?_;rintro e w' ⟨rfl,rfl⟩)
  go_ret
  exact HE.out _ rfl
 by_cases h2:(Y.n:Int)≤id
 ·have HP:=MI (lL X Y B K σ y id h2 w hy)
  have HE:=MI (fun v hv=>eQ (r:=cZ Y y id (fun p=>((dI p.v a).1,{p with v:=(dI p.v a).2}))) h hy (c:=15) (by unfold cZ;rw[if_pos (.inr h2)]) (v:=v) hv)
  clear h hy h1 h2
  go_enter Tryz.func64,Tryz.ntmps64
  go_wp2_with (go_at_call 84;refine HP.out.mono ?_;rintro e w' ⟨rfl,rfl⟩)
  go_ret
  exact HE.out _ rfl
 obtain⟨i,rfl⟩: ∃i:Nat,id=(i:Int):=⟨id.toNat,by omega⟩
 have hi:i<Y.n:=by omega
 have hn:¬((i:Int)<0∨(Y.n:Int)≤i):=by omega
 cases hq:y.ps.getD i none with
 | none=>
  have HP:=MI (lJ X Y B K σ y i hi hq w hy)
  have HE:=MI (fun v hv=>eQ (r:=cZ Y y (i:Int) (fun p=>((dI p.v a).1,{p with v:=(dI p.v a).2}))) h hy (c:=7) (by unfold cZ;rw[if_neg hn,Int.toNat_natCast,hq]) (v:=v) hv)
  clear h hy h1 h2 hn hq
  go_enter Tryz.func64,Tryz.ntmps64
  go_wp2_with (go_at_call 84;refine HP.out.mono ?_;rintro e w' ⟨rfl,rfl⟩)
  go_ret
  exact HE.out _ rfl
 | some q=>
  obtain⟨P,p⟩:=q
  have HP:=MI (lI X Y B K σ y i hi P p hq w hy)
  have HR:=MI (show cZ Y y (i:Int) (fun p=>((dI p.v a).1,{p with v:=(dI p.v a).2}))=((dI p.v a).1,{y with ps:=y.ps.set i (some (P,{p with v:=(dI p.v a).2}))}) by unfold cZ;rw[if_neg hn,Int.toNat_natCast,hq])
  obtain⟨hT,hp⟩:=hy.pt i P p hq
  obtain⟨c0,c1,-⟩:=bf hp.row
  obtain⟨pb,cap,hrow,-⟩:=hp.vo.row
  have HC:=MI (ET P.V.vb (some ⟨pb,0,none⟩) cap p.v hp.vo.ok a w hrow)
  have hm:(dI p.v a).2.m=p.v.m:=by unfold dI;split<;>rfl
  have hok:=Ip hp.vo.ok a
  have HE:Hid (∀w',dK w' P.V.vb (some ⟨pb,0,none⟩) cap (dI p.v a).2→af (fun k=>k=P.V.vb) w w'→∀v,v= .int .i64 (dI p.v a).1→o9 X Y B K σ f (cZ Y y (i:Int) (fun p=>((dI p.v a).1,{p with v:=(dI p.v a).2}))) w (.returned v) w'):=by
   intro w' hr hk v hv
   rw[HR.out]
   have hvo:=hp.vo.put hm hok hrow hr hk
   have ho:=hp.vo.own
   exact⟨by rw[hv],h.kept (hk.mono fun k _ e=>by rw[e,ho];omega),hy.did Me hq (hk.mono fun k _ e=>by unfold FP FV;rw[e,ho];omega) (Ext.refl _ _) (hp.DY hvo hk),hk.mono fun k _ e=>by unfold FO;rw[e,ho];omega⟩
  unfold VoP at HC
  clear h hy h1 h2 hn hq hp hrow hm hok HR
  generalize dI p.v a=r at*
  go_enter Tryz.func64,Tryz.ntmps64
  go_wp2_with (first | (go_at_call 84;refine HP.out.mono ?_;rintro e w' ⟨rfl,rfl⟩) | (go_at_call 99;refine HC.out.mono ?_;rintro e w' ⟨rfl,hr,hk⟩))
  go_ret
  exact HE.out _ hr hk _ rfl
theorem zx(X:Fx)(Y:Yx)(B:Bk)(K:Nat)(σ:Own)(f:Fe)(y:Ye)(id:Int)(w:World)(h:aK X σ w B K f)(hy:YIs X Y B K σ w y):Calls Tryz.prog 67 #[.pointer (some ⟨Y.yb,0,none⟩),.int .i64 id] w (o9 X Y B K σ f (cZ Y y id (fun p=>(0,{p with sl:=Envp.rel p.sl}))) w):=by
 by_cases h1:id<0
 ·have HP:=MI (lK X Y B K σ y id h1 w hy)
  have HE:=MI (fun v hv=>eQ (r:=cZ Y y id (fun p=>(0,{p with sl:=Envp.rel p.sl}))) h hy (c:=15) (by unfold cZ;rw[if_pos (.inl h1)]) (v:=v) hv)
  clear h hy h1
  go_enter Tryz.func67,Tryz.ntmps67
  go_wp2_with (go_at_call 84;refine HP.out.mono ?_;rintro e w' ⟨rfl,rfl⟩)
  go_ret
  exact HE.out _ rfl
 by_cases h2:(Y.n:Int)≤id
 ·have HP:=MI (lL X Y B K σ y id h2 w hy)
  have HE:=MI (fun v hv=>eQ (r:=cZ Y y id (fun p=>(0,{p with sl:=Envp.rel p.sl}))) h hy (c:=15) (by unfold cZ;rw[if_pos (.inr h2)]) (v:=v) hv)
  clear h hy h1 h2
  go_enter Tryz.func67,Tryz.ntmps67
  go_wp2_with (go_at_call 84;refine HP.out.mono ?_;rintro e w' ⟨rfl,rfl⟩)
  go_ret
  exact HE.out _ rfl
 obtain⟨i,rfl⟩: ∃i:Nat,id=(i:Int):=⟨id.toNat,by omega⟩
 have hi:i<Y.n:=by omega
 have hn:¬((i:Int)<0∨(Y.n:Int)≤i):=by omega
 cases hq:y.ps.getD i none with
 | none=>
  have HP:=MI (lJ X Y B K σ y i hi hq w hy)
  have HE:=MI (fun v hv=>eQ (r:=cZ Y y (i:Int) (fun p=>(0,{p with sl:=Envp.rel p.sl}))) h hy (c:=7) (by unfold cZ;rw[if_neg hn,Int.toNat_natCast,hq]) (v:=v) hv)
  clear h hy h1 h2 hn hq
  go_enter Tryz.func67,Tryz.ntmps67
  go_wp2_with (go_at_call 84;refine HP.out.mono ?_;rintro e w' ⟨rfl,rfl⟩)
  go_ret
  exact HE.out _ rfl
 | some q=>
  obtain⟨P,p⟩:=q
  have HP:=MI (lI X Y B K σ y i hi P p hq w hy)
  have HR:=MI (show cZ Y y (i:Int) (fun p=>(0,{p with sl:=Envp.rel p.sl}))=(0,{y with ps:=y.ps.set i (some (P,{p with sl:=Envp.rel p.sl}))}) by unfold cZ;rw[if_neg hn,Int.toNat_natCast,hq])
  obtain⟨hT,hp⟩:=hy.pt i P p hq
  obtain⟨c0,c1,-⟩:=bf hp.row
  have HC:=MI (Nv.rel_any P.eb p.sh p.sl.1 p.sl.2 w hp.ev)
  have HE:Hid (∀w',Nv.Sx 145 w' P.eb p.sh (Envp.rel p.sl)→af (fun k=>k=P.eb) w w'→∀v,v= .int .i64 0→o9 X Y B K σ f (cZ Y y (i:Int) (fun p=>(0,{p with sl:=Envp.rel p.sl}))) w (.returned v) w'):=by
   intro w' hr hk v hv
   rw[HR.out]
   have ho:=hp.o2
   exact⟨by rw[hv],h.kept (hk.mono fun k _ e=>by rw[e,ho];omega),hy.did Me hq (hk.mono fun k _ e=>by unfold FP;rw[e,ho];exact .inr rfl) (Ext.refl _ _) (hp.env hr (Envp.rel_st hp.st) hk),hk.mono fun k _ e=>by unfold FO;rw[e,ho];omega⟩
  unfold Nv.mO at HC
  clear h hy h1 h2 hn hq hp HR
  go_enter Tryz.func67,Tryz.ntmps67
  go_wp2_with (first | (go_at_call 84;refine HP.out.mono ?_;rintro e w' ⟨rfl,rfl⟩) | (go_at_call 100;refine HC.out.mono ?_;rintro e w' ⟨rfl,hr,hk⟩))
  go_ret
  exact HE.out _ hr hk _ rfl
end Go.Proofs.YtnicjahcgnhogaaGreatDoor
