/- Part 15 of the walk: contracts of the program's functions, each for every input. No condition. -/
import Derived.Test.YtnicjahcgnhogaaGreatDoorU13
import Derived.Test.YtnicjahcgnhogaaGreatDoorUE0
set_option linter.unusedVariables false
set_option linter.unusedSimpArgs false
set_option maxRecDepth 100000
set_option maxHeartbeats 8000000
namespace Go.Proofs.YtnicjahcgnhogaaGreatDoor
open Go Go.RowKit Go.Calli
attribute [local irreducible] wpStill wpAnyH wpAnyS wpList Code.wp
structure Vx where
 vb:Nat
 i:Nat
 cs:List Nat
 T:Nat
def Vx.C(V:Vx)(m:Mt)(k:Nat):Kx:=⟨V.cs.getD k 0,V.T+1+k,V.i,k,m.len⟩
structure gp(X:Fx)(V:Vx)(B:Bk)(K:Nat)(σ:Own)(w:World)(v:Vo)(us:List Ku):Prop where
 i:V.i<B.dir.length
 m:v.m=B.dir.getD V.i m0
 ok:v.Ok
 xg:us.length=v.m.ch
 t:10≤V.T
 row: ∃pb cap,dQ w V.vb (some ⟨pb,0,none⟩) cap v∧σ pb=V.T∧pb<w.heap.size∧∀k,k<v.m.ch→w.cell? ⟨pb,k,none⟩=some (D9 (V.cs.getD k 0))
 own:σ V.vb=V.T
 cur: ∀k,k<v.m.ch→∃kv lv,dO X.fb (V.C v.m k) σ w kv lv (us.getD k u0)
 uo: ∀k,k<v.m.ch→UOk K (us.getD k u0)
def FV(σ:Own)(T k:Nat):Prop:=σ k=0∨σ k=2∨σ k=T∨σ k=T+1∨σ k=T+2
theorem gp.keep{X:Fx}{V:Vx}{B:Bk}{K:Nat}{σ:Own}{w w':World}{v:Vo}{us:List Ku}(h:gp X V B K σ w v us){S:Nat→Prop}(hk:ag S w w')(hS: ∀k,S k→k<w.heap.size→σ k≠V.T∧σ k≠V.T+1∧σ k≠V.T+2):gp X V B K σ w' v us:=by
 obtain⟨pb,cap,h1,h2,h3,h4⟩:=h.row
 have hc:=h.ok.m.c1
 refine⟨h.i,h.m,h.ok,h.xg,h.t,⟨pb,cap,hk.heap h1 (fun e=>(hS _ e h1.lt).1 h.own),h2,Nat.lt_of_lt_of_le h3 hk.size,fun k I=>hk.cell (h4 k I) (fun e=>(hS pb e h3).1 h2)⟩,h.own,fun k I=>?_,h.uo⟩
 obtain⟨kv,lv,J⟩:=h.cur k I
 refine⟨kv,lv,J.keep hk (fun b e hl=>?_)⟩
 have:=hS b e hl
 show σ b≠V.T+1+k
 have:k=0∨k=1:=aa
 rcases this with rfl | rfl<;>omega
theorem gp.aj{X:Fx}{V:Vx}{B:Bk}{K:Nat}{σ:Own}{w w':World}{v:Vo}{us:List Ku}(h:gp X V B K σ w v us)(hb:Below w.heap.size w w'):gp X V B K σ w' v us:=h.keep (S:=fun _=>False) (ag.au hb Me) (fun _ e=>e.elim)
theorem gp.ext{X:Fx}{V:Vx}{B:Bk}{K:Nat}{σ σ':Own}{w:World}{v:Vo}{us:List Ku}(h:gp X V B K σ w v us)(he:Ext σ σ' w.heap.size):gp X V B K σ' w v us:=by
 obtain⟨pb,cap,h1,h2,h3,h4⟩:=h.row
 refine⟨h.i,h.m,h.ok,h.xg,h.t,⟨pb,cap,h1,(he _ h3).trans h2,h3,h4⟩,(he _ h1.lt).trans h.own,fun k I=>?_,h.uo⟩
 obtain⟨kv,lv,J⟩:=h.cur k I
 exact⟨kv,lv,J.ext he⟩
theorem gp.up{X:Fx}{V:Vx}{B:Bk}{K L:Nat}{σ:Own}{w:World}{v:Vo}{us:List Ku}(h:gp X V B K σ w v us)(hl:K≤L):gp X V B L σ w v us:=⟨h.i,h.m,h.ok,h.xg,h.t,h.row,h.own,h.cur,fun k hk=>(h.uo k hk).mono hl⟩
theorem gp.kok{X:Fx}{V:Vx}{B:Bk}{K:Nat}{σ:Own}{w:World}{v:Vo}{us:List Ku}(h:gp X V B K σ w v us){k:Nat}(hk:k<v.m.ch):KOk B (V.C v.m k):=⟨h.i,by show k<(B.dir.getD V.i m0).ch;rw[←h.m];exact hk,by show v.m.len=(B.dir.getD V.i m0).len;rw[h.m]⟩
theorem gp.KO{X:Fx}{V:Vx}{B:Bk}{K L:Nat}{σ σ':Own}{w w':World}{v:Vo}{us:List Ku}(h:gp X V B K σ w v us)(hl:K≤L){k:Nat}(hk:k<v.m.ch){kv lv:Value}{u':Ku}(J:dO X.fb (V.C v.m k) σ' w' kv lv u')(R:UOk L u')(I:ag (FC σ (V.T+1+k)) w w')(he:Ext σ σ' w.heap.size):gp X V B L σ' w' v (us.set k u'):=by
 obtain⟨pb,cap,h1,h2,h3,h4⟩:=h.row
 have hc:=h.ok.m.c1
 have ht:=h.t
 have o:=I.size
 refine⟨h.i,h.m,h.ok,by rw[List.length_set];exact h.xg,h.t,⟨pb,cap,I.heap h1 (fun e=>by unfold FC at e;rw[h.own] at e;omega),(he _ h3).trans h2,aa,fun j hj=>I.cell (h4 j hj) (fun e=>by unfold FC at e;rw[h2] at e;omega)⟩,(he _ h1.lt).trans h.own,fun j hj=>?_,fun j hj=>?_⟩
 ·by_cases e:j=k
  ·subst e
   exact⟨kv,lv,by rw[show(us.set j u').getD j u0=u' by simp[List.getD,h.xg,hj]];exact J⟩
  ·obtain⟨kv2,lv2,h5⟩:=h.cur j hj
   refine⟨kv2,lv2,?_⟩
   rw[show(us.set k u').getD j u0=us.getD j u0 by simp[List.getD,List.getElem?_set,Ne.symm e]]
   refine(h5.ext he).keep I (fun b hb U=>?_)
   rw[he b U]
   show σ b≠V.T+1+j
   unfold FC at hb
   omega
 ·by_cases e:j=k
  ·subst e
   rw[show(us.set j u').getD j u0=u' by simp[List.getD,h.xg,hj]];exact R
  ·rw[show(us.set k u').getD j u0=us.getD j u0 by simp[List.getD,List.getElem?_set,Ne.symm e]]
   exact(h.uo j hj).mono hl
def yZ(B:Bk)(f f':Fe)(v v':Vo)(us us':List Ku)(l r:Int):Prop:=
 (v.done=true∧l=0∧r=0∧f'=f∧v'=v∧us'=us)∨
 (v.done=false∧v'=je v∧∃(f1:Fe)(a:Ku),JO B f f1 v.m 0 v.at_ (us.getD 0 u0) a l∧((v.m.ch=1∧r=l∧f'=f1∧us'=us.set 0 a)∨(v.m.ch=2∧∃b,JO B f1 f' v.m 1 v.at_ (us.getD 1 u0) b r∧us'=(us.set 0 a).set 1 b)))
def NextP(X:Fx)(V:Vx)(B:Bk)(K:Nat)(σ:Own)(f:Fe)(v:Vo)(us:List Ku)(w:World)(e:Ending)(w':World):Prop:=∃(l r:Int)(f':Fe)(v':Vo)(us':List Ku)(σ':Own),e= .returned (.agg #[.int .i64 l,.int .i64 r])∧yZ B f f' v v' us us' l r∧aN X σ' w' B (K+16) f'∧FeB (K+16) f'∧gp X V B (K+16) σ' w' v' us'∧ag (FV σ V.T) w w'∧Ext σ σ' w.heap.size
theorem gp.stepped{X:Fx}{V:Vx}{B:Bk}{K:Nat}{σ:Own}{w w':World}{v:Vo}{us:List Ku}(h:gp X V B K σ w v us)(hd:v.done=false){pb:Nat}{cap:Nat}(J:dQ w V.vb (some ⟨pb,0,none⟩) cap v)(hr:dQ w' V.vb (some ⟨pb,0,none⟩) cap (je v))(hk:ag (fun k=>k=V.vb) w w'):gp X V B K σ w' (je v) us:=by
 obtain⟨pb2,cap2,h1,h2,h3,h4⟩:=h.row
 have e:(some (⟨pb2,0,none⟩:Addr),cap2)=(some ⟨pb,0,none⟩,cap):=by
  have a:=(dJ h1).2.2.2.2.2.2.2.2.2.1
  have b:=(dJ J).2.2.2.2.2.2.2.2.2.1
  rw[a] at b
  simp only[Option.some.injEq,Value.slice.injEq] at b
  rw[b.1];simp[b.2.2]
 simp only[Prod.mk.injEq,Option.some.injEq,Addr.mk.injEq,and_true] at e
 obtain⟨rfl,rfl⟩:=e
 have hm:(je v).m=v.m:=by unfold je;split<;>(try split)<;>rfl
 have R:pb2≠V.vb:=fun e=>by
  have hc:=h.ok.m.c0
  have h5:=h4 0 aa
  rw[e,(dJ J).1] at h5
  cases h5
 refine⟨h.i,by rw[hm];exact h.m,KJ h.ok hd,by rw[hm];exact h.xg,h.t,⟨pb2,cap2,hr,h2,Nat.lt_of_lt_of_le h3 hk.size,fun k I=>hk.cell (h4 k (by rw[hm] at I;exact I)) (fun e=>R e)⟩,h.own,fun k I=>?_,fun k I=>h.uo k (by rw[hm] at I;exact I)⟩
 rw[hm] at I⊢
 obtain⟨kv,lv,U⟩:=h.cur k I
 refine⟨kv,lv,U.keep hk (fun b e hl=>?_)⟩
 rw[e,h.own]
 show V.T≠V.T+1+k
 omega
theorem next_any(X:Fx)(V:Vx)(B:Bk)(K:Nat)(hK:K≤480000)(σ:Own)(f:Fe)(hf:FeB K f)(v:Vo)(us:List Ku)(w:World)(h:aN X σ w B K f)(B3:gp X V B K σ w v us):Calls Tryz.prog 106 #[.pointer (some ⟨V.vb,0,none⟩)] w (NextP X V B K σ f v us w):=by
 have B4:=ae w (.cells #[(),()] 81)
 have hz:=L9 w (.cells #[(),()] 81)
 have hx:=fA σ (b:=w.heap.size) 3 Me
 have HF:=MI (h.fU B4 (b:=w.heap.size) 3 Me ar)
 have HV:=MI ((B3.ext hx).aj B4)
 have HE:=MI hx
 have A3:=MI (dN σ w.heap.size 3)
 have HB:=MI B4
 have B9: ∀l r:Int,(Tryz.prog.info? 81).map (·.size)=some (#[Value.int .i64 l,.int .i64 r]:Array Value).size:=fun l r=>by kernel_rfl
 have ht:=B3.t
 have G9:V.vb<w.heap.size:=by
  obtain⟨_,_,h1,_⟩:=B3.row
  exact h1.lt
 clear h B3 B4 hx
 go_enter Tryz.func106,Tryz.ntmps106
 go_upto_region 1 with fail
 generalize w.alloc (.cells #[(),()] 81)=W at*
 generalize fU σ w.heap.size 3=τ at*
 have E6:=L8 hz
 obtain⟨pb,cap,o,G4,H0,C0⟩:=HV.out.row
 have HD:=MI (xK V.vb (some ⟨pb,0,none⟩) cap v HV.out.ok W o)
 have H2:=HV.out.ok.m.c0
 have H3:=HV.out.ok.m.c1
 cases hd:v.done with
 | true=>
  rw[hd] at HD
  obtain⟨c0,c1⟩:=bW hz
  have f0:=frozen_of_row _ _ 0 _ _ hz
  have f1:=frozen_of_row _ _ 1 _ _ hz
  have U:=MI hd
  clear hd
  go_wp2_with (go_at_call 111;refine HD.out.mono ?_;rintro e w' ⟨rfl,rfl⟩)
  have C1:=(aA W w.heap.size 0 (.int .i64 0)).trans (aA (W.setCell ⟨w.heap.size,0,none⟩ (.int .i64 0)) w.heap.size 1 (.int .i64 0))
  exact bodyPost_ret (results_cell_row (fn:=Tryz.f106) rfl _ _ _ _ _ _ _ rfl (Mc (Mc hz)) Tryz.underlying81 rfl (B9 0 0)) rfl ⟨0,0,f,v,us,τ,rfl,.inl ⟨U.out,rfl,rfl,rfl,rfl,rfl⟩,(HF.out.kept (C1.mono fun k _ e=>by rw[e,A3.out];omega)).up aa,hf.up aa,(HV.out.keep C1 (fun k e _=>by rw[e,A3.out];omega)).up aa,(ag.au HB.out Me).andThen C1 (fun i hi e=>aa),HE.out⟩
 | false=>
  rw[hd] at HD
  have U:=MI hd
  clear hd
  have hd0:=C0 0 aa
  have G5:=MI C0
  obtain⟨kv0,lv0,C2⟩:=HV.out.cur 0 aa
  have E7:=xM X τ B K aa f hf (V.C v.m 0) (HV.out.kok aa) kv0 lv0 (us.getD 0 u0) (HV.out.uo 0 aa) V.vb (some ⟨pb,0,none⟩) cap v HV.out.ok HV.out.m W HF.out C2 o (by rw[HV.out.own];exact⟨by show V.T≠V.T+1+0;omega,ht⟩)
  have C3:Calls Tryz.prog 136 #[.pointer (some ⟨V.vb,0,none⟩),.pointer (some ⟨V.cs.getD 0 0,0,none⟩)] W (OW X τ B K f (V.C v.m 0) (us.getD 0 u0) v.m v.at_ W):=E7
  have G2:W.cell? ⟨pb,0,none⟩=some (.pointer (some ⟨V.cs.getD 0 0,0,none⟩)):=hd0
  generalize V.cs.getD 0 0=cb0 at*
  have C4:=MI C3
  unfold OW at C4
  have E8:=o
  obtain⟨c0,c1,c2,c3,c4,c5,c6,c7,c8,c9,c10,c11,c12,f10,f11,f12⟩:=dJ E8
  have G3:=MI o
  have H4:0<v.m.ch:=aa
  clear C0 hd0 E8 E7 C3 C2 o c0 c1 c2 c3 c4 c5 c6 c7 c8 c10 c11 c12 f10 f11 f12
  go_upto_region 5 with(first
   | (go_at_call 111;refine HD.out.mono ?_;rintro e w' ⟨rfl,rfl⟩)
   | (go_at_call 136;refine C4.out.mono ?_;rintro e w1 ⟨l,kv1,lv1,a1,σ1,f1,rfl,E9,F1,C5,C6,C7,A0,B5⟩))
  have F2:=A0.heap hz (fun e=>by unfold FC at e;rw[A3.out] at e;show False;have:(V.C v.m 0).t=V.T+1+0:=rfl;omega)
  have j:=MI (HV.out.KO (L:=K+8) aa (k:=0) aa C6 C7 A0 B5)
  have A4:=A0.heap G3.out (fun e=>by unfold FC at e;rw[HV.out.own] at e;have:(V.C v.m 0).t=V.T+1+0:=rfl;omega)
  have G6:=MI (show 1<v.m.ch→w1.cell? ⟨pb,1,none⟩=some (.pointer (some ⟨V.cs.getD 1 0,0,none⟩)) from fun h1=>A0.cell (G5.out 1 h1) (fun e=>by unfold FC at e;have:(V.C v.m 0).t=V.T+1+0:=rfl;have e4:τ pb=V.T:=G4;simp only at e;omega))
  have B6:=MI E9
  have F3:=MI ((ag.au (S:=FV σ V.T) HB.out Me).andThen A0 (fun i hi e=>by
   have e2:(V.C v.m 0).t=V.T+1+0:=rfl
   unfold FC at e;unfold FV;rw[HE.out i hi] at e;omega))
  have C8:=MI (HE.out.trans B5 (Nat.le_of_lt E6))
  have C9:=MI ((B5 _ E6).trans A3.out)
  have F4:=MI F1
  have D0:=MI C5
  have G8:W.heap.size≤w1.heap.size:=A0.size
  obtain⟨c0,c1,c2,c3,c4,c5,c6,c7,c8,c9,c10,c11,c12,f10,f11,f12⟩:=dJ A4
  have A5:=MI A4
  have F5:=MI F2
  clear E9 F1 C5 C6 C7 A0 B5 A4 F2 c0 c1 c2 c3 c4 c5 c6 c7 c8 c10 c11 c12 f10 f11 f12 C4 G2
  by_cases D1:v.m.ch=1
  ·have q1:¬1<v.m.ch:=aa
   have D2:=MI D1
   clear D1
   have R:=A5
   have A6:=F5
   have A1:=j
   have D3:=F4
   have B2:=D0
   have D4:=F3
   have A7:=C8
   have A8:=C9
   have A9:=MI (xJ V.vb (some ⟨pb,0,none⟩) cap v HV.out.ok U.out w1 R.out)
   obtain⟨y,hy⟩: ∃y,w1.heap[w.heap.size]? =some (.cells #[(),()] 81 (0,0))∧y=(0:Nat):=⟨0,A6.out,rfl⟩
   go_upto_region 8 with(go_at_call 137;refine A9.out.mono ?_;rintro e w5 ⟨rfl,B0,I⟩)
   have J:=I.heap A6.out (fun e=>by have:=HV.out.own;rw[←e,A3.out] at this;omega)
   have D5:=MI (A1.out.stepped U.out R.out B0 I)
   have D6:=MI (D3.out.kept (I.mono fun k _ e=>by rw[e,A1.out.own];omega))
   have D7:=MI (D4.out.andThen I (fun i hi e=>.inr (.inr (.inl (by rw[e,←A7.out V.vb aa];exact A1.out.own)))))
   have D8:=MI J
   obtain⟨d0,d1⟩:=bW J
   have g0:=frozen_of_row _ _ 0 _ _ J
   have g1:=frozen_of_row _ _ 1 _ _ J
   clear J B0 I A9 hy
   go_wp2_with fail
   have A2:=(aA w5 w.heap.size 0 (.int .i64 l)).trans (aA (w5.setCell ⟨w.heap.size,0,none⟩ (.int .i64 l)) w.heap.size 1 (.int .i64 l))
   exact bodyPost_ret (results_cell_row (fn:=Tryz.f106) rfl _ _ _ _ _ _ _ rfl (Mc (Mc D8.out)) Tryz.underlying81 rfl (B9 l l)) rfl ⟨l,l,_,je v,_,_,rfl,.inr ⟨U.out,rfl,⟨f1,a1,B6.out,.inl ⟨D2.out,rfl,rfl,rfl⟩⟩⟩,(D6.out.kept (A2.mono fun k _ e=>by rw[e,A8.out];omega)).up aa,B2.out.up aa,(D5.out.keep A2 (fun k e _=>by rw[e,A8.out];omega)).up aa,D7.out.andThen A2 (fun i hi e=>aa),A7.out⟩
  ·have q1:1<v.m.ch:=aa
   have D2:=MI (show v.m.ch=2 by omega)
   clear D1
   have G7:=G6.out q1
   obtain⟨kv1',lv1',D9⟩:=j.out.cur 1 q1
   have F6:(us.set 0 a1).getD 1 u0=us.getD 1 u0:=by simp[List.getD,List.getElem?_set]
   have E0:=xM X σ1 B (K+8) aa f1 D0.out (V.C v.m 1) (j.out.kok q1) kv1' lv1' ((us.set 0 a1).getD 1 u0) (j.out.uo 1 q1) V.vb (some ⟨pb,0,none⟩) cap v HV.out.ok j.out.m w1 F4.out D9 A5.out (by rw[j.out.own];exact⟨by show V.T≠V.T+1+1;omega,ht⟩)
   rw[F6] at E0
   have F7:Calls Tryz.prog 136 #[.pointer (some ⟨V.vb,0,none⟩),.pointer (some ⟨V.cs.getD 1 0,0,none⟩)] w1 (OW X σ1 B (K+8) f1 (V.C v.m 1) (us.getD 1 u0) v.m v.at_ w1):=E0
   generalize V.cs.getD 1 0=cb1 at*
   have E1:=MI F7
   unfold OW at E1
   clear E0 F7 D9 F6
   go_upto_region 7 with(go_at_call 136;refine E1.out.mono ?_;rintro e w2 ⟨r,kv2,lv2,a2,σ2,f2,rfl,F8,F9,E2,E3,E4,B1,B7⟩)
   have G0:w.heap.size<w1.heap.size:=aa
   have G1:=B1.heap F5.out (fun e=>by unfold FC at e;rw[C9.out] at e;have:(V.C v.m 1).t=V.T+1+1:=rfl;omega)
   have A1:=MI (j.out.KO (L:=K+16) aa (k:=1) q1 E3 (E4.mono aa) B1 B7)
   have B8:=B1.heap A5.out (fun e=>by unfold FC at e;rw[j.out.own] at e;have:(V.C v.m 1).t=V.T+1+1:=rfl;omega)
   have E5:=MI F8
   have D4:=MI (F3.out.andThen B1 (fun i hi e=>by
    have e2:(V.C v.m 1).t=V.T+1+1:=rfl
    unfold FC at e;unfold FV;rw[C8.out i hi] at e;omega))
   have A7:=MI (C8.out.trans B7 (Nat.le_of_lt G0))
   have A8:=MI ((B7 _ G0).trans C9.out)
   have D3:=MI F9
   have B2:=MI E2
   have R:=MI B8
   have A6:=MI G1
   clear F8 F9 E2 E3 E4 B1 B7 B8 G1 E1 G7 c9
   have A9:=MI (xJ V.vb (some ⟨pb,0,none⟩) cap v HV.out.ok U.out w2 R.out)
   obtain⟨y,hy⟩: ∃y,w2.heap[w.heap.size]? =some (.cells #[(),()] 81 (0,0))∧y=(0:Nat):=⟨0,A6.out,rfl⟩
   go_upto_region 8 with(go_at_call 137;refine A9.out.mono ?_;rintro e w5 ⟨rfl,B0,I⟩)
   have J:=I.heap A6.out (fun e=>by have:=HV.out.own;rw[←e,A3.out] at this;omega)
   have D5:=MI (A1.out.stepped U.out R.out B0 I)
   have D6:=MI (D3.out.kept (I.mono fun k _ e=>by rw[e,A1.out.own];omega))
   have D7:=MI (D4.out.andThen I (fun i hi e=>.inr (.inr (.inl (by rw[e,←A7.out V.vb aa];exact A1.out.own)))))
   have D8:=MI J
   obtain⟨d0,d1⟩:=bW J
   have g0:=frozen_of_row _ _ 0 _ _ J
   have g1:=frozen_of_row _ _ 1 _ _ J
   clear J B0 I A9 hy
   go_wp2_with fail
   have A2:=(aA w5 w.heap.size 0 (.int .i64 l)).trans (aA (w5.setCell ⟨w.heap.size,0,none⟩ (.int .i64 l)) w.heap.size 1 (.int .i64 r))
   exact bodyPost_ret (results_cell_row (fn:=Tryz.f106) rfl _ _ _ _ _ _ _ rfl (Mc (Mc D8.out)) Tryz.underlying81 rfl (B9 l r)) rfl ⟨l,r,_,je v,_,_,rfl,.inr ⟨U.out,rfl,⟨f1,a1,B6.out,.inr ⟨D2.out,a2,E5.out,rfl⟩⟩⟩,(D6.out.kept (A2.mono fun k _ e=>by rw[e,A8.out];omega)).up aa,B2.out.up aa,(D5.out.keep A2 (fun k e _=>by rw[e,A8.out];omega)).up aa,D7.out.andThen A2 (fun i hi e=>aa),A7.out⟩
structure Ls where
 v:Int
 c:Int
 b:Int
def ny(x:Ls):List Value:=[.int .i64 x.v,.int .i64 x.c,.int .i64 x.b]
def ls0:Ls:=⟨0,0,0⟩
theorem rZ(x:Ls):(ny x).length=3:=rfl
theorem Gx:(Tryz.prog.info? 215).map (fun i=>(i.zero,i.size,i.bytes))=some (some (.agg #[(),(),()]),3,24):=af
def oD(id:Int)(us:List Ku)(k:Nat):List Ls:=(us.getD k u0).lost.map (fun b=>⟨id,k,b⟩)
def iT(id:Int)(us:List Ku):Nat→List Ls
 | 0=>[]
 | k+1=>iT id us k++oD id us k
def Ku.clr(u:Ku):Ku:={u with lost:=[]}
def kJ(us:List Ku)(k:Nat):List Ku:=(us.take k).map Ku.clr++us.drop k
theorem Oz(us:List Ku)(k:Nat)(hk:k<us.length):(kJ us k).getD k u0=us.getD k u0:=by
 unfold kJ
 rw[List.getD,List.getElem?_append_right (by simp;omega),List.getD]
 simp
 rw[show k - min k us.length=0 by omega]
 simp
theorem Oy(us:List Ku)(k:Nat)(hk:k<us.length):(kJ us k).set k (us.getD k u0).clr=kJ us (k+1):=by
 apply List.ext_getElem?
 intro i
 unfold kJ
 rw[List.getElem?_set]
 by_cases hi:k=i
 ·subst hi
  rw[if_pos rfl,if_pos (by simp;omega),List.getElem?_append_left (by simp;omega)]
  simp[List.getD,hk]
 ·rw[if_neg hi]
  by_cases I:i<k
  ·rw[List.getElem?_append_left (by simp;omega),List.getElem?_append_left (by simp;omega)]
   simp[List.getElem?_take,I,show i<k+1 by omega]
  ·rw[List.getElem?_append_right (by simp;omega),List.getElem?_append_right (by simp;omega)]
   simp only[List.length_map,List.length_take,List.getElem?_drop]
   rw[show min k us.length=k by omega,show min (k+1) us.length=k+1 by omega,show k+(i - k)=i by omega,show k+1+(i - (k+1))=i by omega]
def FL(σ:Own)(T k:Nat):Prop:=σ k=T+1∨σ k=T+2
def LostP(X:Fx)(V:Vx)(B:Bk)(K:Nat)(σ:Own)(v:Vo)(us:List Ku)(id:Int)(w:World)(e:Ending)(w':World):Prop:=∃ao n cap,e= .returned (.slice ao n cap)∧bP ny 3 ls0 w' ao n (iT id us v.m.ch)∧(∀a,ao=some a→w.heap.size≤a.block)∧gp X V B K σ w' v (kJ us v.m.ch)∧ag (FL σ V.T) w w'
theorem yz(id:Int)(us:List Ku)(K:Nat)(h: ∀k,k<2→(us.getD k u0).lost.length≤K): ∀k,k≤2→(iT id us k).length≤k*K:=by
 intro k
 induction k with
 | zero=>intro _;simp[iT]
 | succ k ih=>
  intro hk
  have h1:=ih aa
  have h2:=h k aa
  simp only[iT,List.length_append,oD,List.length_map,Nat.succ_mul]
  omega
theorem gp.told{X:Fx}{V:Vx}{B:Bk}{K:Nat}{σ:Own}{w w':World}{v:Vo}{us:List Ku}(h:gp X V B K σ w v us){k:Nat}(hk:k<v.m.ch){kv:Value}(J:dO X.fb (V.C v.m k) σ w' kv (.slice none 0 0) {us.getD k u0 with lost:=[]})(R:ag (fun j=>j=(V.C v.m k).cb) w w')(I:σ (V.C v.m k).cb=V.T+1+k):gp X V B K σ w' v (us.set k (us.getD k u0).clr):=by
 have hu:=h.uo k hk
 exact h.KO Me hk J ⟨hu.f0,hu.f1,Nat.zero_le _,fun z hz=>by cases hz⟩ (R.mono fun b _ e=>.inr (.inr (by rw[e];exact I))) (Ext.refl _ _)
theorem Nh(X:Fx)(V:Vx)(B:Bk)(K:Nat)(hK:K≤500000)(σ:Own)(v:Vo)(us:List Ku)(id:Int)(w:World)(A1: ∀k,σ k≠0→k<w.heap.size)(I:gp X V B K σ w v us):Calls Tryz.prog 75 #[.pointer (some ⟨V.vb,0,none⟩),.int .i64 id] w (LostP X V B K σ v us id w):=by
 obtain⟨pb,cap,o,G5,G6,C1⟩:=I.row
 have HN:=MI (mM V.vb (some ⟨pb,0,none⟩) cap v I.ok w o)
 have G7:=I.ok.m.c0
 have G8:=I.ok.m.c1
 have A8:=I.xg
 obtain⟨c0,c1,c2,c3,c4,c5,c6,c7,c8,c9,c10,c11,c12,f10,f11,f12⟩:=dJ o
 have ht:=I.t
 have A9:=fun k (hk:k<v.m.ch)=>(I.uo k hk).l
 have HW:=MI (fun k (hk:k<v.m.ch)=>(I.uo k hk).wf)
 have HV:=MI I
 have E3:=MI C1
 have C2: ∀k,¬k<v.m.ch→us.getD k u0=u0:=fun k hk=>by simp[List.getD,A8,hk]
 have B0: ∀k,k<2→(us.getD k u0).lost.length≤K:=fun k _=>by
  by_cases h:k<v.m.ch
  ·exact A9 k h
  ·rw[C2 k h];exact Nat.zero_le _
 have E4:=MI (yz id us K B0)
 have E5:=MI A9
 have C3:=MI A8
 clear I o c0 c1 c2 c3 c4 c5 c6 c7 c8 c10 c11 c12 f10 f11 f12 C1 A9 B0 C2 A8
 go_enter Tryz.func75,Tryz.ntmps75
 go_upto_region 5 with(go_at_call 109;refine HN.out.mono ?_;rintro e w' ⟨rfl,rfl⟩)
 go_loopw [17,5] (fun v17 v5 wr=>∃j:Nat,j≤v.m.ch∧v17= .int .i64 (j:Int)∧wr.ownsRow w.heap.size 215 3 v5 (iT id us j).length ((iT id us j).flatMap ny)∧gp X V B K σ wr v (kJ us j)∧ag (FL σ V.T) w wr) (fun v17 _ _=>v.m.ch - aC v17)
 case atStart=>exact⟨0,aa,rfl,World.ownsRow_nil _ _ _ _,by rw[show kJ us 0=us by simp[kJ]];exact HV.out,ag.refl _ _⟩
 case round=>
  clear c9
  obtain⟨j,hj,rfl,A0,A2,A3⟩:=hrel
  by_cases R:j<v.m.ch
  ·have E6:wr.cell? ⟨pb,j,none⟩=some (.pointer (some ⟨V.cs.getD j 0,0,none⟩)):=A3.cell (E3.out j R) (fun e=>by unfold FL at e;simp only at e;omega)
   obtain⟨kv,lv,U⟩:=A2.cur j R
   have B1:(kJ us j).getD j u0=us.getD j u0:=Oz us j (by rw[C3.out];exact R)
   rw[B1] at U
   have A4:σ (V.C v.m j).cb=V.T+1+j:=U.own
   have E7: ∀z ∈ (us.getD j u0).lost,(Lit.int .i64 z).wf=true:=HW.out j R
   have C4:=BI X.fb (V.C v.m j) σ kv lv (us.getD j u0) E7 wr U
   have HM:Calls Tryz.prog 110 #[.pointer (some ⟨V.cs.getD j 0,0,none⟩)] wr (O8 X.fb (V.C v.m j) σ kv (us.getD j u0) wr):=C4
   have G9:=MI (show(V.C v.m j).cb=V.cs.getD j 0 from rfl)
   generalize V.cs.getD j 0=cbj at*
   have B2:=MI HM
   unfold O8 at B2
   have D9:=MI (Oy us j (by rw[C3.out];exact R))
   have E8:=E5.out j R
   have E9:=MI (E4.out j aa)
   have C5:=MI B1
   have F1:=MI U.row
   have F2:((V.C v.m j).t=V.T+1+j):=rfl
   have C6:oD id us j=(us.getD j u0).lost.map (fun b=>⟨id,j,b⟩):=rfl
   have C7:iT id us (j+1)=iT id us j++oD id us j:=rfl
   generalize C8:(us.getD j u0).lost=ll at*
   have C9:=MI C6
   have F3:=MI C7
   have H0:=MI C8
   have F4:=MI A2
   have F5:=MI A3
   have B3:=MI A0
   have D0:=MI A4
   have G1:(j:Int)<(v.m.ch:Int):=aa
   clear A2 U HM C4 A0 A3 B1 A4 C6 C7 C8
   go_upto_region 8 with(first
    | (go_at_call 110;refine B2.out.mono ?_;rintro e w2 ⟨lo,lc,rfl,D1,B4,B5,A5⟩))
   have D2:Hid (gp X V B K σ w2 v (kJ us (j+1))):=by
    have h1:=F4.out.told R (kv:=kv) (by rw[C5.out];exact B5) A5 D0.out
    rw[C5.out,D9.out] at h1
    exact h1
   have A6:=aB B3.out A5 (fun k e hs=>by
    obtain⟨cs,A4⟩:=ah B3.out e
    have h1:=F1.out
    rw[←hs,A4] at h1
    cases h1)
   have D3:=MI (F5.out.andThen A5 (S:=FL σ V.T) (fun i hi e=>by unfold FL;rw[e,D0.out];omega))
   have D4:=MI D1
   have E0:=MI B4
   have D5:=MI A6
   have G2:ll.length≤K:=E8
   clear D1 B4 B5 A5 A6 B2 E6
   go_loopw [25,5] (fun v25 v5 wi=>∃i:Nat,i≤ll.length∧v25= .int .i64 (i:Int)∧wi.ownsRow w.heap.size 215 3 v5 ((iT id us j).length+i) ((iT id us j++(oD id us j).take i).flatMap ny)∧gp X V B K σ wi v (kJ us (j+1))∧ag (FL σ V.T) w wi∧Ints .i64 wi lo ll.length ll) (fun v25 _ _=>ll.length - aC v25)
   case atStart=>exact⟨0,aa,rfl,by simpa using D5.out,D2.out,D3.out,D4.out⟩
   case round=>
    clear D5 D2 D3 D4
    obtain⟨i,hi,rfl,J,B6,B7,B8⟩:=hrel
    by_cases D6:i<ll.length
    ·obtain⟨a,c,rfl,D7,hc,G3,G4⟩:=B8.int D6
     have E1:=E0.out a rfl
     have H2:(iT id us j).length+i+1≤2000000:=by
      have h1:=E9.out
      have h2:j*K≤2*K:=Nat.mul_le_mul_right _ aa
      omega
     have H3:Hid (ny ⟨id,j,c⟩=[.int .i64 id,.int .i64 j,.int .i64 c]):=rfl
     have F6:Hid ((iT id us j++(oD id us j).take (i+1)).flatMap ny=(iT id us j++(oD id us j).take i).flatMap ny++[.int .i64 id,.int .i64 j,.int .i64 c]):=by
      have h1:(oD id us j).take (i+1)=(oD id us j).take i++[⟨id,j,c⟩]:=by
       rw[C9.out,←List.map_take,←List.map_take,gG ll i D6,D7.out,List.map_append]
       rfl
      show _=_
      rw[h1,←List.append_assoc,List.flatMap_append]
      rfl
     have F7:=MI B8
     have F8:=MI B6
     have D8:=MI B7
     have A7:=MI J
     clear B8 B6 B7 J D7
     go_wp2_with (at_builtin;refine iI rfl (.tmp 29) (.tmp 34) 32 215 3 rfl Tryz.underlying32 Gx rfl aa w.heap.size _ _ _ rfl A7.out [.int .i64 id,.int .i64 j,.int .i64 c] rfl rfl (by simp[Value.oneCell']) aa aE D8.out.size ?_;intro v' w3 C0 B9)
     refine⟨⟨i+1,aa,aD,by rw[F6.out];exact C0,F8.out.keep B9 (fun k e _=>?_),D8.out.andThen B9 (fun k hk e=>?_),F7.out.kept B9 (fun x hx e=>?_)⟩,by simp[aC];omega⟩
     ·have h1:=(A7.out.lt k e).1
      have h2:σ k=0:=Classical.byContradiction fun hn=>by have:=A1 k hn;omega
      rw[h2]
      omega
     ·have h1:=(A7.out.lt k e).1
      omega
     ·cases hx
      have h1:=(A7.out.lt _ e).1
      have h2:=A1 a.block (by rw[E1,F2];omega)
      omega
    ·obtain rfl:i=ll.length:=aa
     have F9:¬ll.length<ll.length:=aa
     have HN:Hid (wr.ownsRow w.heap.size 215 3 u5 (iT id us (j+1)).length ((iT id us (j+1)).flatMap ny)):=by
      have h1:(oD id us j).length=ll.length:=by rw[C9.out,List.length_map]
      rw[List.take_of_length_le aa] at J
      show wr.ownsRow _ _ _ _ _ _
      rw[F3.out,List.length_append,h1]
      exact J
     clear J
     go_wp2_with fail
     exact⟨⟨j+1,aa,aD,HN.out,B6,B7⟩,by simp[aC];omega⟩
  ·obtain rfl:j=v.m.ch:=aa
   obtain⟨ao,cap5,rfl,H4,E2,G0⟩:=jG ls0 rZ aa A0
   have F9:¬v.m.ch<v.m.ch:=aa
   go_wp2_with fail
   go_ret
   exact⟨ao,_,cap5,rfl,E2,fun a ha=>(G0 a ha).1,A2,A3⟩
structure Px where
 pb:Nat
 eb:Nat
 V:Vx
structure Pt where
 v:Vo
 us:List Ku
 sh:Envp.Sh
 sl:Int×Int
 l:Int
 r:Int
 since:Int
structure jv(X:Fx)(P:Px)(B:Bk)(K:Nat)(σ:Own)(w:World)(p:Pt):Prop where
 row:w.heap[P.pb]? =some (.cells #[.pointer (some ⟨P.V.vb,0,none⟩),.pointer (some ⟨P.eb,0,none⟩),.int .i64 p.l,.int .i64 p.r,.int .i64 p.since] 100 (0,0))
 vo:gp X P.V B K σ w p.v p.us
 ev:Nv.Sx 145 w P.eb p.sh p.sl
 sok:p.sh.Ok
 st:Envp.St p.sl
 o1:σ P.pb=P.V.T+3
 o2:σ P.eb=P.V.T+3
def FP(σ:Own)(T k:Nat):Prop:=FV σ T k∨σ k=T+3
theorem bz{w:World}{b:Nat}{a c d e f:Value}{T:Nat}(h:w.heap[b]? =some (.cells #[a,c,d,e,f] T (0,0))):w.cell? ⟨b,0,none⟩=some a∧w.cell? ⟨b,1,none⟩=some c∧w.cell? ⟨b,2,none⟩=some d∧w.cell? ⟨b,3,none⟩=some e∧w.cell? ⟨b,4,none⟩=some f:=
 ⟨LY h rfl,LY h rfl,LY h rfl,LY h rfl,LY h rfl⟩
theorem jv.ne{X:Fx}{P:Px}{B:Bk}{K:Nat}{σ:Own}{w:World}{p:Pt}(h:jv X P B K σ w p):P.pb≠P.eb:=fun e=>by
 have a:=h.row
 have b:=h.ev
 unfold Nv.Sx at b
 rw[e,b] at a
 simp at a
theorem jv.keep{X:Fx}{P:Px}{B:Bk}{K:Nat}{σ:Own}{w w':World}{p:Pt}(h:jv X P B K σ w p){S:Nat→Prop}(hk:ag S w w')(hS: ∀k,S k→k<w.heap.size→σ k≠P.V.T∧σ k≠P.V.T+1∧σ k≠P.V.T+2∧σ k≠P.V.T+3):jv X P B K σ w' p:=
 ⟨hk.heap h.row (fun e=>(hS _ e (L8 h.row)).2.2.2 h.o1),h.vo.keep hk (fun k e hl=>⟨(hS k e hl).1,(hS k e hl).2.1,(hS k e hl).2.2.1⟩),hk.heap h.ev (fun e=>(hS _ e (L8 h.ev)).2.2.2 h.o2),h.sok,h.st,h.o1,h.o2⟩
theorem jv.ext{X:Fx}{P:Px}{B:Bk}{K:Nat}{σ σ':Own}{w:World}{p:Pt}(h:jv X P B K σ w p)(he:Ext σ σ' w.heap.size):jv X P B K σ' w p:=
 ⟨h.row,h.vo.ext he,h.ev,h.sok,h.st,(he _ (L8 h.row)).trans h.o1,(he _ (L8 h.ev)).trans h.o2⟩
theorem jv.up{X:Fx}{P:Px}{B:Bk}{K L:Nat}{σ:Own}{w:World}{p:Pt}(h:jv X P B K σ w p)(hl:K≤L):jv X P B L σ w p:=⟨h.row,h.vo.up hl,h.ev,h.sok,h.st,h.o1,h.o2⟩
def SndC(X:Fx)(P:Px)(B:Bk)(K:Nat)(σ:Own)(f:Fe)(p:Pt)(w:World)(v4 v5:Value)(wx:World):Prop:=∃(b:Nat)(l r:Int)(f1:Fe)(v1:Vo)(us1:List Ku)(σ1:Own)(w1:World),v4= .pointer (some ⟨b,0,none⟩)∧v5= .int .i64 (Envp.vl p.sh p.sl)∧yZ B f f1 p.v v1 p.us us1 l r∧aN X σ1 w1 B (K+16) f1∧FeB (K+16) f1∧gp X P.V B (K+16) σ1 w1 v1 us1∧ag (FV σ P.V.T) w w1∧Ext σ σ1 w.heap.size∧w.heap.size≤b∧wx.heap[b]? =some (.cells #[.int .i64 l,.int .i64 r] 81 (0,0))∧Nv.Sx 145 wx P.eb p.sh (Envp.nx p.sh p.sl)∧ag (fun k=>k=P.eb∨k=b) w1 wx∧(b<w1.heap.size→σ1 b=3)
def SndP(X:Fx)(P:Px)(B:Bk)(K:Nat)(σ:Own)(f:Fe)(p:Pt)(w:World)(e:Ending)(w':World):Prop:=∃(l r:Int)(f':Fe)(v':Vo)(us':List Ku)(σ':Own),e= .returned (.tuple #[.int .i64 (jI l p.l (Envp.vl p.sh p.sl)),.int .i64 (jI r p.r (Envp.vl p.sh p.sl))])∧yZ B f f' p.v v' p.us us' l r∧aN X σ' w' B (K+16) f'∧FeB (K+16) f'∧jv X P B (K+16) σ' w' {p with v:=v',us:=us',sl:=Envp.nx p.sh p.sl}∧ag (FP σ P.V.T) w w'∧Ext σ σ' w.heap.size
theorem snd_end{X:Fx}{P:Px}{B:Bk}{K:Nat}{σ:Own}{f:Fe}{p:Pt}{w wx:World}(hp:jv X P B K σ w p)(R:Envp.St (Envp.nx p.sh p.sl)){b:Nat}{l r:Int}{f1:Fe}{v1:Vo}{us1:List Ku}{σ1:Own}{w1:World}(hR:yZ B f f1 p.v v1 p.us us1 l r)(hF:aN X σ1 w1 B (K+16) f1)(hB:FeB (K+16) f1)(hV:gp X P.V B (K+16) σ1 w1 v1 us1)(hk:ag (FV σ P.V.T) w w1)(he:Ext σ σ1 w.heap.size)(hb:w.heap.size≤b)(hs:Nv.Sx 145 wx P.eb p.sh (Envp.nx p.sh p.sl))(I:ag (fun k=>k=P.eb∨k=b) w1 wx)(ho:b<w1.heap.size→σ1 b=3){v:Value}(hv:v= .tuple #[.int .i64 (jI l p.l (Envp.vl p.sh p.sl)),.int .i64 (jI r p.r (Envp.vl p.sh p.sl))]):SndP X P B K σ f p w (.returned v) wx:=by
 have ht:=hp.vo.t
 have U:=L8 hp.ev
 have j:=L8 hp.row
 have J:σ1 P.eb=P.V.T+3:=(he _ U).trans hp.o2
 have o:σ1 P.pb=P.V.T+3:=(he _ j).trans hp.o1
 have A0:=hp.ne
 have h3: ∀k,k<w1.heap.size→(k=P.eb∨k=b)→σ1 k=P.V.T+3∨σ1 k=3:=fun k hl e=>by
  rcases e with rfl | rfl
  ·exact .inl J
  ·exact .inr (ho hl)
 refine⟨l,r,f1,v1,us1,σ1,by rw[hv],hR,hF.kept (I.mono fun k hl e=>by rcases h3 k hl e with h | h<;>omega),hB,⟨?_,hV.keep I (fun k e hl=>by rcases h3 k hl e with h | h<;>omega),hs,hp.sok,R,o,J⟩,?_,he⟩
 ·refine I.heap (hk.heap hp.row (fun e=>?_)) (fun e=>?_)
  ·unfold FV at e;have:=hp.o1;omega
  ·rcases e with e | e
   ·exact A0 e
   ·omega
 ·refine(hk.mono (fun k _ e=>.inl e)).andThen I (fun i hi e=>?_)
  rcases e with rfl | rfl
  ·exact .inr hp.o2
  ·omega
theorem Nv.Sx.al{T:Nat}{w:World}{b:Nat}{x:Envp.Sh}{q:Int×Int}(h:Nv.Sx T w b x q)(o:Obj):Nv.Sx T (w.alloc o) b x q:=(heap_alloc_old w o (L8 h)).trans h
theorem Nv.Sx.st{T:Nat}{w:World}{b g:Nat}{x:Envp.Sh}{q:Int×Int}(h:Nv.Sx T w b x q)(n:Nat)(v:Value)(I:b≠g):Nv.Sx T (w.setCell ⟨g,n,none⟩ v) b x q:=(aA w g n v).heap h I
theorem iD{w:World}{b o g n m:Nat}{v u t:Value}(I:b≠g)(h:w.cell? ⟨b,o,none⟩=some v):((w.setCell ⟨g,n,none⟩ u).setCell ⟨g,m,none⟩ t).cell? ⟨b,o,none⟩=some v:=(aA _ g m t).cell ((aA w g n u).cell h I) I
theorem cO{w:World}{a:Addr}{v:Value}{o:Obj}(h:w.cell? a=some v):(w.alloc o).cell? a=some v:=(ag.au (S:=fun _=>False) (ae w o) Me).cell h (fun e=>e)
theorem heap_alloc_old'{w:World}{o x:Obj}{b:Nat}(h:w.heap[b]? =some x):(w.alloc o).drew.heap[b]? =some x:=(heap_alloc_old w o (L8 h)).trans h
theorem Ih(X:Fx)(P:Px)(B:Bk)(K:Nat)(hK:K≤480000)(σ:Own)(f:Fe)(hf:FeB K f)(p:Pt)(w:World)(h:aN X σ w B K f)(hp:jv X P B K σ w p):Calls Tryz.prog 74 #[.pointer (some ⟨P.pb,0,none⟩)] w (SndP X P B K σ f p w):=by
 have B8: ∀l r:Int,(#[Value.int .i64 l,.int .i64 r]:Array Value).all (·.oneCell')=true:=fun l r=>by simp[Value.oneCell']
 have B9: ∀l r:Int,(Tryz.prog.info? 81).map (·.size)=some (#[Value.int .i64 l,.int .i64 r]:Array Value).size:=fun l r=>by kernel_rfl
 have ht:=hp.vo.t
 have C0:=L8 hp.ev
 have C1:=L8 hp.row
 have J:P.pb≠w.heap.size:=aa
 have B1:P.eb≠w.heap.size:=aa
 have C4:=hp.o2
 have C5:=hp.o1
 have j:=hp.ne
 have hZ:Hid (Below w.heap.size w (w.alloc (.cells #[(),()] 81)).drew):=(ae w (.cells #[(),()] 81)).drew
 have hz:(w.alloc (.cells #[(),()] 81)).drew.heap[w.heap.size]? =some (.cells #[(),()] 81 (0,0)):=L9 w (.cells #[(),()] 81)
 have hx:=fA σ (b:=w.heap.size) 3 Me
 have B3:=MI (h.fU hZ.out (b:=w.heap.size) 3 Me ar)
 have B4:=MI ((hp.vo.ext hx).aj hZ.out)
 have B5:=MI (dN σ w.heap.size 3)
 have HX:=MI hx
 have HF:=MI (h.aj (Below.refl w.heap.size w).drew)
 have HV:=MI (hp.vo.aj (Below.refl w.heap.size w).drew)
 have HN:=MI (fun w h1 h2=>next_any X P.V B K hK σ f hf p.v p.us w h1 h2)
 have A2:=MI (fun w h1 h2=>next_any X P.V B K hK (fU σ w.heap.size 3) f hf p.v p.us w h1 h2)
 clear A2
 generalize fU σ w.heap.size 3=τ at*
 have A2:=MI (fun w h1 h2=>next_any X P.V B K hK τ f hf p.v p.us w h1 h2)
 have HE:=MI (fun w h1=>Nv.next_any P.eb p.sh p.sl.1 p.sl.2 hp.sok hp.st w h1)
 obtain⟨c0,c1,c2,c3,c4⟩:=bz hp.row
 have HP:=MI hp
 have B6:=MI hp.ev
 clear h hx hp
 unfold NextP at HN A2
 unfold Nv.G8 at HE
 go_enter Tryz.func74,Tryz.ntmps74
 go_upto_region 1 with fail
 go_cut [4,5] (fun v4 v5 wx=>SndC X P B K σ f p w v4 v5 wx)
 case first=>
  go_region_held3 (fun w'=>w'.cell? ⟨P.pb,0,none⟩=some (.pointer (some ⟨P.V.vb,0,none⟩))∧w'.cell? ⟨P.pb,1,none⟩=some (.pointer (some ⟨P.eb,0,none⟩))) (first | go_keep | exact⟨iD J c0,iD J c1⟩ | exact⟨iD A6 c0,iD A6 c1⟩) ((first
   | (go_at_call 106;first
    | ((with_reducible refine(HN.out w.drew HF.out HV.out).mono ?_);rintro e w1 ⟨l,r,f1,v1,us1,σ1,rfl,A7,A8,o,A9,R,A3⟩;have A0:=R.heap HP.out.row (fun e=>by unfold FV at e;omega);have A1:Nv.Sx 145 w1 P.eb p.sh (p.sl.1,p.sl.2):=R.heap B6.out (fun e=>by unfold FV at e;omega);obtain⟨c0,c1,-⟩:=bz A0;have B2:w.heap.size≤w1.heap.size:=R.size;have A6:P.pb≠w1.heap.size:=aa)
    | ((with_reducible refine(A2.out _ B3.out B4.out).mono ?_);rintro e w1 ⟨l,r,f1,v1,us1,σ1,rfl,A7,A8,o,A9,R,A3⟩;have A0:=R.heap (heap_alloc_old' HP.out.row) (fun e=>by unfold FV at e;rw[HX.out _ C1] at e;omega);have A1:Nv.Sx 145 w1 P.eb p.sh (p.sl.1,p.sl.2):=R.heap (heap_alloc_old' B6.out) (fun e=>by unfold FV at e;rw[HX.out _ C0] at e;omega);have A4:=R.heap hz (fun e=>by unfold FV at e;rw[B5.out] at e;omega);obtain⟨c0,c1,-⟩:=bz A0;have B2:w.heap.size+1≤w1.heap.size:=(by have:=R.size;simpa using this);have A6:P.pb≠w1.heap.size:=aa;have d0:=(bW A4).1;have d1:=(bW A4).2;have g0:=frozen_of_row _ _ 0 _ _ A4;have g1:=frozen_of_row _ _ 1 _ _ A4))
   | (go_at_call 107;first
    | ((with_reducible refine(HE.out w1 A1).mono ?_);rintro e w2 ⟨rfl,A5,I⟩;have c0:=I.cell (p:=⟨P.pb,0,none⟩) (v:=.pointer (some ⟨P.V.vb,0,none⟩)) (by first | exact c0 | exact cO c0 | exact iD J c0) j;have c1:=I.cell (p:=⟨P.pb,1,none⟩) (v:=.pointer (some ⟨P.eb,0,none⟩)) (by first | exact c1 | exact cO c1 | exact iD J c1) j;(first | (have U:=I.heap A4 (fun e=>aa);have d0:=(bW U).1;have d1:=(bW U).2;have g0:=frozen_of_row _ _ 0 _ _ U;have g1:=frozen_of_row _ _ 1 _ _ U) | skip))
    | ((with_reducible refine(HE.out _ (A1.al _)).mono ?_);rintro e w2 ⟨rfl,A5,I⟩;have c0:=I.cell (p:=⟨P.pb,0,none⟩) (v:=.pointer (some ⟨P.V.vb,0,none⟩)) (by first | exact c0 | exact cO c0 | exact iD J c0) j;have c1:=I.cell (p:=⟨P.pb,1,none⟩) (v:=.pointer (some ⟨P.eb,0,none⟩)) (by first | exact c1 | exact cO c1 | exact iD J c1) j;(try (have U:=I.heap (L9 w1 (.cells #[(),()] 81)) (fun e=>aa);have d0:=(bW U).1;have d1:=(bW U).2;have g0:=frozen_of_row _ _ 0 _ _ U;have g1:=frozen_of_row _ _ 1 _ _ U)))
    | ((with_reducible refine(HE.out _ ((A1.st _ _ B1).st _ _ B1)).mono ?_);rintro e w2 ⟨rfl,A5,I⟩;have c0:=I.cell (p:=⟨P.pb,0,none⟩) (v:=.pointer (some ⟨P.V.vb,0,none⟩)) (by first | exact c0 | exact cO c0 | exact iD J c0) j;have c1:=I.cell (p:=⟨P.pb,1,none⟩) (v:=.pointer (some ⟨P.eb,0,none⟩)) (by first | exact c1 | exact cO c1 | exact iD J c1) j;(skip)))))
  ·go_wp2_with fail
   go_meet
   have C3:=I.size
   exact⟨w2.heap.size,l,r,f1,v1,us1,σ1,w1,rfl,rfl,A7,A8,o,A9,(ag.refl _ w).drew.trans R,A3,aa,L9 _ _,Nv.Sx.al A5 _,(I.mono (fun k _ e=>.inl e)).alloc _,fun h=>aa⟩
  ·go_wp2_with fail
   go_meet
   exact⟨w1.heap.size,l,r,f1,v1,us1,σ1,w1,rfl,rfl,A7,A8,o,A9,(ag.refl _ w).drew.trans R,A3,B2,Mc (Mc U),(Nv.Sx.st A5 _ _ aa).st _ _ aa,(((ag.au (ae w1 _) Me).trans (I.mono (fun k _ e=>.inl e))).setCell (p:=⟨w1.heap.size,0,none⟩) (.inr (.inr rfl)) _).setCell (p:=⟨w1.heap.size,1,none⟩) (.inr (.inr rfl)) _,fun h=>aa⟩
  ·go_wp2_with fail
   go_meet
   exact⟨w.heap.size,l,r,f1,v1,us1,σ1,w1,rfl,rfl,A7,A8,o,A9,(ag.au hZ.out Me).andThen R (fun i hi e=>by unfold FV at e⊢;rwa [HX.out i hi] at e),HX.out.trans A3 ar,Me,Mc (Mc U),(Nv.Sx.st A5 _ _ aa).st _ _ aa,((I.mono (fun k _ e=>.inl e)).setCell (p:=⟨w.heap.size,0,none⟩) (.inr (.inr rfl)) _).setCell (p:=⟨w.heap.size,1,none⟩) (.inr (.inr rfl)) _,fun h=>(A3 _ ar).trans B5.out⟩
 case rest=>
  obtain⟨b,l,r,f1,v1,us1,σ1,w1,rfl,rfl,hR,hF,hB,hV,hk,he,hb,hz,hs,I,ho⟩:=hcut
  obtain⟨W2,rfl⟩: ∃w',w'=wc:=⟨_,rfl⟩
  have B7:=MI (fun wx (h1:Nv.Sx 145 wx P.eb p.sh (Envp.nx p.sh p.sl)) h2 v hv=>snd_end HP.out (Envp.nx_st HP.out.sok HP.out.st) hR hF hB hV hk he hb (wx:=wx) h1 h2 ho (v:=v) hv)
  have B0:=I.heap (hk.heap HP.out.row (fun e=>by unfold FV at e;omega)) (fun e=>by have:=hk.size;omega)
  obtain⟨c0,c1,c2,c3,c4⟩:=bz B0
  obtain⟨d0,d1⟩:=bW hz
  have HL:=MI (fun x vol w=>Nc x vol (Envp.vl p.sh p.sl) w)
  unfold Qt at HL
  have HS:=MI hs
  have C2:=MI I
  clear hR hF hB hV hk he hz hs I B0 HN A2 HE HF HV B3 B4 B9 B8 hZ HX
  go_upto_region 2 with fail
  go_quiet ((go_at_call 108;exact Calls.quiet_of (HL.out _ _ _)))
  go_wp2_with fail
  go_ret2
  exact B7.out (W2.drewN _) HS.out (C2.out.drewN _) _ rfl
end Go.Proofs.YtnicjahcgnhogaaGreatDoor
