/- Part 27 of the walk: contracts of the program's functions, each for every input. No condition. -/
import Derived.Test.YtnicjahcgnhogaaGreatDoorU25
set_option linter.unusedVariables false
set_option linter.unusedSimpArgs false
set_option maxRecDepth 100000
set_option maxHeartbeats 8000000
namespace Go.Proofs.YtnicjahcgnhogaaGreatDoor
open Go Go.RowKit Go.Calli
attribute [local irreducible] wpStill wpAnyH wpAnyS wpList Code.wp
def CdOk(size:Int)(w:World)(e:Ending)(w':World):Prop:=∃cb,e= .returned (.tuple #[.pointer (some ⟨cb,0,none⟩),()])∧Below w.heap.size w w'∧w.heap.size≤cb∧mF w' cb size
theorem EU(size:Int)(h1:24≤size)(h2:size≤96)(w:World):Calls Tryz.prog 54 #[.int .i64 size] w (CdOk size w):=
 (tJ size w).mono (fun e w' h=>by
  obtain⟨hb,⟨h3,-⟩ | ⟨-,-,cb,he,hc,hC⟩⟩:=h
  ·omega
  ·exact⟨cb,he,hb,hc,hC⟩)
theorem fill54(m:Mt):Instr.fill (fun i=>some (i*9,9)) ((Array.range (1*9)).map ((Value.agg #[.string ⟨#[]⟩,(),(),(),.bool false,(),(),(),()]).cells[· %(Value.agg #[.string ⟨#[]⟩,(),(),(),.bool false,(),(),(),()]).cells.size]!)) [(0,Value.agg (aF m))]=some (aF m):=by
 kernel_rfl
theorem Gv:(Tryz.prog.info? 54).map (fun i=>(i.zero,i.size,i.bytes))=some (some (.agg #[.string ⟨#[]⟩,(),(),(),.bool false,(),(),(),()]),9,80):=af
theorem I9(m:Mt): ∀v ∈ aV m,v.oneCell'=true:=fun v hv=>by
 unfold aV at hv
 simp only[List.mem_cons,List.not_mem_nil,or_false] at hv
 rcases hv with rfl | rfl | rfl | rfl | rfl | rfl | rfl | rfl | rfl<;>rfl
theorem E8{w:World}{b:Nat}{m:Mt}(h:w.heap[b]? =some (.cells (aF m) 54 (0,0))): ∀j u,(aV m)[j]? =some u→w.cell? ((⟨b,0,none⟩:Addr).add j)=some u:=fun j u hu=>by
 rw[add0,Nat.zero_add,LZ h,show aF m=(aV m).toArray from rfl,List.getElem?_toArray]
 exact hu
theorem info2:(Tryz.prog.info? 2).map (fun i=>(i.zero,i.size,i.bytes))=some (some (.int .i64 0),1,8):=af
structure LmB(σ:Own)(b0:Nat)(w:World)(lv mv:Value)(L M:List Int):Prop where
 l:w.ownsRow b0 2 1 lv L.length (iL L)
 m:w.ownsRow b0 2 1 mv M.length (iL M)
 lo: ∀b,lv.ownBlock=some b→σ b=3
 mo: ∀b,mv.ownBlock=some b→σ b=3
 sep: ∀b,lv.ownBlock=some b→mv.ownBlock=some b→False
theorem LmB.keep{σ:Own}{b0:Nat}{w w':World}{lv mv:Value}{L M:List Int}(h:LmB σ b0 w lv mv L M){S:Nat→Prop}(hk:ag S w w')(hS: ∀k,S k→k<w.heap.size→(∃cs,w.heap[k]? =some (.cells cs 2 (0,0)))→σ k≠3):LmB σ b0 w' lv mv L M:=
 ⟨aB h.l hk (fun k e hs=>by
  obtain⟨cs,I⟩:=ah h.l e
  exact hS k hs (L8 I) ⟨cs,I⟩ (h.lo k e)),aB h.m hk (fun k e hs=>by
  obtain⟨cs,I⟩:=ah h.m e
  exact hS k hs (L8 I) ⟨cs,I⟩ (h.mo k e)),h.lo,h.mo,h.sep⟩
theorem LmB.ext{σ σ':Own}{b0:Nat}{w:World}{lv mv:Value}{L M:List Int}(h:LmB σ b0 w lv mv L M)(he:Ext σ σ' w.heap.size):LmB σ' b0 w lv mv L M:=
 ⟨h.l,h.m,fun b e=>by
  obtain⟨cs,I⟩:=ah h.l e
  exact(he _ (L8 I)).trans (h.lo b e),fun b e=>by
  obtain⟨cs,I⟩:=ah h.m e
  exact(he _ (L8 I)).trans (h.mo b e),h.sep⟩
theorem LmB.nil(σ:Own)(b0:Nat)(w:World):LmB σ b0 w (.slice none 0 0) (.slice none 0 0) [] []:=⟨World.ownsRow_nil _ _ _ _,World.ownsRow_nil _ _ _ _,(fun b e=>by cases e),(fun b e=>by cases e),(fun b e=>by cases e)⟩
theorem LmB.grow{σ:Own}{b0:Nat}{w w3 w4:World}{lv mv lv' mv':Value}{L M:List Int}{a b:Int}(h:LmB σ b0 w lv mv L M)(h1:w3.ownsRow b0 2 1 lv' (L.length+1) (iL L++[.int .i64 a]))(k1:ag (fun k=>lv.ownBlock=some k) w w3)(o1: ∀k,lv'.ownBlock=some k→lv.ownBlock=some k∨w.heap.size≤k)(h2:w4.ownsRow b0 2 1 mv' (M.length+1) (iL M++[.int .i64 b]))(k2:ag (fun k=>mv.ownBlock=some k) w3 w4)(o2: ∀k,mv'.ownBlock=some k→mv.ownBlock=some k∨w3.heap.size≤k):LmB (aG σ w.heap.size w4.heap.size 3) b0 w4 lv' mv' (L++[a]) (M++[b]):=by
 have j:=k1.size
 have o:=k2.size
 have J: ∀k,lv'.ownBlock=some k→k<w3.heap.size:=fun k e=>by
  obtain⟨cs,I⟩:=ah h1 e
  exact L8 I
 have U: ∀k,mv'.ownBlock=some k→k<w4.heap.size:=fun k e=>by
  obtain⟨cs,I⟩:=ah h2 e
  exact L8 I
 have R: ∀k,mv.ownBlock=some k→k<w.heap.size:=fun k e=>by
  obtain⟨cs,I⟩:=ah h.m e
  exact L8 I
 refine⟨?_,?_,fun k e=>?_,fun k e=>?_,fun k e e2=>?_⟩
 ·have h3:=aB h1 k2 (fun k e hs=>by
   rcases o1 k e with h4 | h4
   ·exact h.sep k h4 hs
   ·have:=R k hs;omega)
  simpa[iL] using h3
 ·simpa[iL] using h2
 ·rcases Nat.lt_or_ge k w.heap.size with hl | hl
  ·rw[dW σ 3 hl]
   rcases o1 k e with h4 | h4
   ·exact h.lo k h4
   ·omega
  ·have:=J k e
   exact aX σ 3 hl aa
 ·rcases Nat.lt_or_ge k w.heap.size with hl | hl
  ·rw[dW σ 3 hl]
   rcases o2 k e with h4 | h4
   ·exact h.mo k h4
   ·omega
  ·exact aX σ 3 hl (U k e)
 ·have h5:=J k e
  rcases o2 k e2 with h4 | h4
  ·rcases o1 k e with h6 | h6
   ·exact h.sep k h6 h4
   ·have:=R k h4;omega
  ·omega
structure OnS(X:Fx)(Y:Yx)(B:Bk)(K:Nat)(σ:Own)(rb:Nat)(ov lv0 ev0:Value)(w:World)(lv mv:Value)(wr:World)(σ':Own)(f':Fe)(y':Ye)(r':Rp)(L M:List Int)(lv1 ev1:Value):Prop where
 ext:Ext σ σ' w.heap.size
 fe:aN X σ' wr B K f'
 fb:FeB K f'
 ys:YIs X Y B K σ' wr y'
 rp:pM σ' wr rb ov lv1 ev1 0 0 r'
 lm:LmB σ' w.heap.size wr lv mv L M
 out:wr.heap[w.heap.size]? =some (.cells #[(),()] 81 (0,0))
 oo:σ' w.heap.size=3
 k:ag (FG σ rb lv0 ev0) w wr
 l1: ∀k,lv1.ownBlock=some k→lv0.ownBlock=some k∨w.heap.size≤k
 e1: ∀k,ev1.ownBlock=some k→ev0.ownBlock=some k∨w.heap.size≤k
theorem OnS.drew{X:Fx}{Y:Yx}{B:Bk}{K:Nat}{σ:Own}{rb:Nat}{ov lv0 ev0:Value}{w:World}{lv mv:Value}{wr:World}{σ':Own}{f':Fe}{y':Ye}{r':Rp}{L M:List Int}{lv1 ev1:Value}(h:OnS X Y B K σ rb ov lv0 ev0 w lv mv wr σ' f' y' r' L M lv1 ev1):OnS X Y B K σ rb ov lv0 ev0 w lv mv wr.drew σ' f' y' r' L M lv1 ev1:=
 have hb:=(Below.refl wr.heap.size wr).drew
 ⟨h.ext,h.fe.aj hb,h.fb,h.ys.aj hb,h.rp.aj hb,h.lm.keep (S:=fun _=>False) (ag.au hb Me) (fun _ e=>e.elim),h.out,h.oo,h.k.drew,h.l1,h.e1⟩
theorem OnS.snd{X:Fx}{Y:Yx}{B:Bk}{K:Nat}{σ:Own}{rb:Nat}{ov lv0 ev0:Value}{w:World}{lv mv:Value}{wr:World}{σ':Own}{f':Fe}{y':Ye}{r':Rp}{L M:List Int}{lv1 ev1:Value}(h:OnS X Y B K σ rb ov lv0 ev0 w lv mv wr σ' f' y' r' L M lv1 ev1){i:Nat}{P:Px}{p p2:Pt}(hq:y'.ps.getD i none=some (P,p)){w2:World}{σ2:Own}{f2:Fe}(hF:aN X σ2 w2 B (K+16) f2)(hB:FeB (K+16) f2)(hP:jv X P B (K+16) σ2 w2 p2)(hK:ag (FP σ' P.V.T) wr w2)(hE:Ext σ' σ2 wr.heap.size):OnS X Y B (K+16) σ rb ov lv0 ev0 w lv mv w2 σ2 f2 {y' with ps:=y'.ps.set i (some (P,p2))} r' L M lv1 ev1:=by
 have hT:=(h.ys.pt i P p hq).1
 have hs:=h.k.size
 have I:=L8 h.out
 have n3: ∀k,FP σ' P.V.T k→k<wr.heap.size→σ2 k≠3:=fun k e hl=>by
  rw[hE k hl];unfold FP FV at e;omega
 have n3': ∀k,FP σ' P.V.T k→k<wr.heap.size→σ' k≠3:=fun k e hl=>by
  unfold FP FV at e;omega
 exact⟨h.ext.trans hE hs,hF,hB,h.ys.did aa hq hK hE hP,(h.rp.ext hE).keep hK n3,(h.lm.ext hE).keep hK (fun k e hl _=>n3 k e hl),hK.heap h.out (fun e=>n3' _ e I h.oo),(hE _ I).trans h.oo,h.k.andThen hK (fun i hi e=>by
  have e1:=h.ext i hi
  unfold FP FV at e
  unfold FG FR
  omega),h.l1,h.e1⟩
theorem OnS.grow{X:Fx}{Y:Yx}{B:Bk}{K:Nat}{σ:Own}{rb:Nat}{ov lv0 ev0:Value}{w:World}{lv mv:Value}{wr:World}{σ':Own}{f':Fe}{y':Ye}{r':Rp}{L M:List Int}{lv1 ev1:Value}(h:OnS X Y B K σ rb ov lv0 ev0 w lv mv wr σ' f' y' r' L M lv1 ev1){w3 w4:World}{lv' mv':Value}{a b:Int}(h1:w3.ownsRow w.heap.size 2 1 lv' (L.length+1) (iL L++[.int .i64 a]))(k1:ag (fun k=>lv.ownBlock=some k) wr w3)(o1: ∀k,lv'.ownBlock=some k→lv.ownBlock=some k∨wr.heap.size≤k)(h2:w4.ownsRow w.heap.size 2 1 mv' (M.length+1) (iL M++[.int .i64 b]))(k2:ag (fun k=>mv.ownBlock=some k) w3 w4)(o2: ∀k,mv'.ownBlock=some k→mv.ownBlock=some k∨w3.heap.size≤k):OnS X Y B K σ rb ov lv0 ev0 w lv' mv' w4 (aG σ' wr.heap.size w4.heap.size 3) f' y' r' (L++[a]) (M++[b]) lv1 ev1:=by
 have hs:=h.k.size
 have U:=L8 h.out
 have hk:ag (fun k=>lv.ownBlock=some k∨mv.ownBlock=some k) wr w4:=(k1.mono fun k _ e=>.inl e).andThen k2 (fun i hi e=>.inr e)
 have h3: ∀k,(lv.ownBlock=some k∨mv.ownBlock=some k)→σ' k=3:=fun k e=>e.elim (h.lm.lo k) (h.lm.mo k)
 have ht: ∀k,(lv.ownBlock=some k∨mv.ownBlock=some k)→∃cs,wr.heap[k]? =some (.cells cs 2 (0,0)):=fun k e=>e.elim (ah h.lm.l) (ah h.lm.m)
 have hb: ∀k,(lv.ownBlock=some k∨mv.ownBlock=some k)→w.heap.size≤k:=fun k e=>e.elim (fun e=>(h.lm.l.lt k e).1) (fun e=>(h.lm.m.lt k e).1)
 have hx:=dA σ' wr.heap.size w4.heap.size 3
 have R:pM σ' w4 rb ov lv1 ev1 0 0 r':=by
  refine⟨hk.heap h.rp.row (fun e=>?_),h.rp.own,aB h.rp.lost hk (fun k e hs=>?_),aB h.rp.ended hk (fun k e hs=>?_),h.rp.lo,h.rp.eo⟩
  ·obtain⟨cs,I⟩:=ht _ e
   exact aI h.rp.row I aq rfl
  ·obtain⟨cs,I⟩:=ht _ hs
   obtain⟨ds,J⟩:=ah h.rp.lost e
   exact aI I J aq rfl
  ·obtain⟨cs,I⟩:=ht _ hs
   obtain⟨ds,J⟩:=ah h.rp.ended e
   exact aI I J aq rfl
 have j:Ext σ' (aG σ' wr.heap.size w4.heap.size 3) wr.heap.size:=hx
 refine⟨h.ext.trans hx hs,h.fe.aG (hk.mono fun k _ e=>by rw[h3 k e];exact Nat.le_refl 3) 3,h.fb,?_,?_,h.lm.grow h1 k1 o1 h2 k2 o2,?_,(hx _ U).trans h.oo,h.k.andThen hk (fun i hi e=>by have:=hb i e;omega),h.l1,h.e1⟩
 ·exact(h.ys.ext hx).keep hk (fun k e hl=>by rw[hx k hl,h3 k e];decide)
 ·refine⟨R.row,(hx _ (L8 h.rp.row)).trans h.rp.own,R.lost,R.ended,fun b e=>?_,fun b e=>?_⟩
  ·obtain⟨ds,J⟩:=ah h.rp.lost e
   exact(hx _ (L8 J)).trans (h.rp.lo b e)
  ·obtain⟨ds,J⟩:=ah h.rp.ended e
   exact(hx _ (L8 J)).trans (h.rp.eo b e)
 ·refine hk.heap h.out (fun e=>?_)
  obtain⟨cs,I⟩:=ht _ e
  exact aI h.out I aq rfl
theorem OnS.lost{X:Fx}{Y:Yx}{B:Bk}{K:Nat}{σ:Own}{rb:Nat}{ov lv0 ev0:Value}{w:World}{lv mv:Value}{wr:World}{σ':Own}{f':Fe}{y':Ye}{r':Rp}{L M:List Int}{lv1 ev1:Value}(h:OnS X Y B K σ rb ov lv0 ev0 w lv mv wr σ' f' y' r' L M lv1 ev1){i:Nat}{P:Px}{p:Pt}{us:List Ku}(hq:y'.ps.getD i none=some (P,p)){w5:World}(hV:gp X P.V B K σ' w5 p.v us)(hK:ag (FL σ' P.V.T) wr w5):OnS X Y B K σ rb ov lv0 ev0 w lv mv w5 σ' f' {y' with ps:=y'.ps.set i (some (P,{p with us:=us}))} r' L M lv1 ev1:=by
 have hs:=h.k.size
 have R:=L8 h.out
 have hT:=(h.ys.pt i P p hq).1
 have hp:=(h.ys.pt i P p hq).2
 have I: ∀k,FL σ' P.V.T k→11≤σ' k:=fun k e=>by unfold FL at e;omega
 have J:=h.ys.did Me hq (hK.mono fun k _ e=>by unfold FL at e;unfold FP FV;omega) (Ext.refl σ' _) (hp.clr hV hK)
 refine⟨h.ext,h.fe.kept (hK.mono fun k _ e=>by have:=I k e;omega),h.fb,J,h.rp.keep hK (fun k e hl=>by have:=I k e;omega),h.lm.keep hK (fun k e hl _=>by have:=I k e;omega),hK.heap h.out (fun e=>by have:=I _ e;have:=h.oo;omega),h.oo,h.k.andThen hK (fun k hk e=>?_),h.l1,h.e1⟩
 have h1:=I k e
 have h2:=h.ext k hk
 unfold FG FR
 omega
theorem OnS.put{X:Fx}{Y:Yx}{B:Bk}{K:Nat}{σ:Own}{rb:Nat}{ov lv0 ev0:Value}{w:World}{lv mv:Value}{wr:World}{σ':Own}{f':Fe}{y':Ye}{r':Rp}{L M:List Int}{lv1 ev1:Value}(h:OnS X Y B K σ rb ov lv0 ev0 w lv mv wr σ' f' y' r' L M lv1 ev1){lv2 ev2:Value}{r2:Rp}{w6:World}{c:Nat}{v':Value}(o:(w6.setCell ⟨rb,c,none⟩ v').heap[rb]? =some (.cells #[ov,lv2,ev2,(),()] 35 (0,0)))(hl:w6.ownsRow 0 215 3 lv2 r2.lost.length (r2.lost.flatMap ny))(he:w6.ownsRow 0 3 1 ev2 r2.ended.length (iL r2.ended))(k2:ag (fun k=>lv1.ownBlock=some k∨ev1.ownBlock=some k) wr w6)(ol: ∀k,lv2.ownBlock=some k→lv1.ownBlock=some k∨wr.heap.size≤k)(oe: ∀k,ev2.ownBlock=some k→ev1.ownBlock=some k∨wr.heap.size≤k):OnS X Y B K σ rb ov lv0 ev0 w lv mv (w6.setCell ⟨rb,c,none⟩ v') (aG σ' wr.heap.size w6.heap.size 3) f' y' r2 L M lv2 ev2:=by
 have hs:=h.k.size
 have A3:=k2.size
 have A0:=L8 h.out
 have A1:=L8 h.rp.row
 have hx:=dA σ' wr.heap.size w6.heap.size 3
 have R:ag (fun k=>lv1.ownBlock=some k∨ev1.ownBlock=some k∨k=rb) wr (w6.setCell ⟨rb,c,none⟩ v'):=(k2.mono fun k _ e=>e.elim .inl (fun e=>.inr (.inl e))).setCell (p:=⟨rb,c,none⟩) (.inr (.inr (.inr rfl))) _
 have h3: ∀k,(lv1.ownBlock=some k∨ev1.ownBlock=some k∨k=rb)→σ' k=3:=fun k e=>e.elim (h.rp.lo k) (fun e=>e.elim (h.rp.eo k) (fun e=>e▸h.rp.own))
 have ht: ∀k,(lv1.ownBlock=some k∨ev1.ownBlock=some k∨k=rb)→∃cs t,t≠2∧t≠81∧wr.heap[k]? =some (.cells cs t (0,0)):=fun k e=>by
  rcases e with e | e | e
  ·obtain⟨cs,J⟩:=ah h.rp.lost e
   exact⟨cs,215,aq,aq,J⟩
  ·obtain⟨cs,J⟩:=ah h.rp.ended e
   exact⟨cs,3,aq,aq,J⟩
  ·exact⟨_,35,aq,aq,e▸h.rp.row⟩
 have krb:ag (fun k=>k=rb) w6 (w6.setCell ⟨rb,c,none⟩ v'):=aA _ _ _ _
 have n3: ∀k,(lv1.ownBlock=some k∨wr.heap.size≤k)→k<w6.heap.size→aG σ' wr.heap.size w6.heap.size 3 k=3:=fun k e hl=>by
  rcases Nat.lt_or_ge k wr.heap.size with h1 | h1
  ·rw[dW σ' 3 h1]
   rcases e with e | e
   ·exact h.rp.lo k e
   ·omega
  ·exact aX σ' 3 h1 hl
 have n4: ∀k,(ev1.ownBlock=some k∨wr.heap.size≤k)→k<w6.heap.size→aG σ' wr.heap.size w6.heap.size 3 k=3:=fun k e hl=>by
  rcases Nat.lt_or_ge k wr.heap.size with h1 | h1
  ·rw[dW σ' 3 h1]
   rcases e with e | e
   ·exact h.rp.eo k e
   ·omega
  ·exact aX σ' 3 h1 hl
 have U: ∃cs t,t=35∧w6.heap[rb]? =some (.cells cs t (0,0)):=by
  refine⟨_,35,rfl,k2.heap h.rp.row (fun e=>?_)⟩
  rcases e with e | e
  ·obtain⟨ds,I⟩:=ah h.rp.lost e
   exact aI h.rp.row I aq rfl
  ·obtain⟨ds,I⟩:=ah h.rp.ended e
   exact aI h.rp.row I aq rfl
 obtain⟨rs,rt,A2,j⟩:=U
 subst A2
 refine⟨h.ext.trans hx hs,?_,h.fb,(h.ys.ext hx).keep R (fun k e hl=>by rw[hx k hl,h3 k e];decide),⟨o,(hx _ A1).trans h.rp.own,aB hl krb (fun k e hs=>?_),aB he krb (fun k e hs=>?_),fun b e=>?_,fun b e=>?_⟩,(h.lm.ext hx).keep R (fun k e hl hc=>?_),R.heap h.out (fun e=>?_),(hx _ A0).trans h.oo,h.k.andThen R (fun k hk e=>?_),fun k e=>?_,fun k e=>?_⟩
 ·have h7:=h.fe.aG (R.mono fun k _ e=>by rw[h3 k e];exact Nat.le_refl 3) 3
  rw[show(w6.setCell ⟨rb,c,none⟩ v').heap.size=w6.heap.size by simp] at h7
  exact h7
 ·obtain⟨ds,I⟩:=ah hl e
  subst hs
  exact aI j I aq rfl
 ·obtain⟨ds,I⟩:=ah he e
  subst hs
  exact aI j I aq rfl
 ·obtain⟨ds,I⟩:=ah hl e
  exact n3 b (ol b e) (L8 I)
 ·obtain⟨ds,I⟩:=ah he e
  exact n4 b (oe b e) (L8 I)
 ·obtain⟨cs,t,h1,h2,J⟩:=ht k e
  obtain⟨ds,I⟩:=hc
  exact absurd rfl (aI J I h1)
 ·obtain⟨cs,t,h1,h2,J⟩:=ht _ e
  exact aI J h.out h2 rfl
 ·rcases e with e | e | e
  ·rcases h.l1 k e with h4 | h4
   ·exact .inr (.inr (.inl h4))
   ·omega
  ·rcases h.e1 k e with h4 | h4
   ·exact .inr (.inr (.inr h4))
   ·omega
  ·exact .inr (.inl e)
 ·rcases ol k e with h4 | h4
  ·exact h.l1 k h4
  ·exact .inr aa
 ·rcases oe k e with h4 | h4
  ·exact h.e1 k h4
  ·exact .inr aa
theorem OnS.gone{X:Fx}{Y:Yx}{B:Bk}{K:Nat}{σ:Own}{rb:Nat}{ov lv0 ev0:Value}{w:World}{lv mv:Value}{wr:World}{σ':Own}{f':Fe}{y':Ye}{r':Rp}{L M:List Int}{lv1 ev1:Value}(h:OnS X Y B K σ rb ov lv0 ev0 w lv mv wr σ' f' y' r' L M lv1 ev1){i:Nat}(hi:i<Y.n):OnS X Y B K σ rb ov lv0 ev0 w lv mv (wr.setCell ⟨Y.sb,i,none⟩ (.pointer none)) σ' f' {y' with ps:=y'.ps.set i none} r' L M lv1 ev1:=by
 have hk:=aA wr Y.sb i (.pointer none)
 have ho:=h.ys.o2
 exact⟨h.ext,h.fe.kept (hk.mono fun k _ e=>by rw[e,ho];omega),h.fb,h.ys.gone i hi,h.rp.keep hk (fun k e _=>by rw[e,ho];decide),h.lm.keep hk (fun k e _ _=>by rw[e,ho];decide),hk.heap h.out (fun e=>by have:=h.oo;rw[e,ho] at this;omega),h.oo,h.k.andThen hk (fun k hl e=>by
  have:=h.ext k hl
  unfold FG FR
  rw[e] at this⊢
  omega),h.l1,h.e1⟩
theorem gp.lossLe{X:Fx}{V:Vx}{B:Bk}{K:Nat}{σ:Own}{w:World}{v:Vo}{us:List Ku}(h:gp X V B K σ w v us)(id:Int):(iT id us v.m.ch).length≤2*K:=by
 have h1:=yz id us K (fun k _=>by
  by_cases hk:k<v.m.ch
  ·exact(h.uo k hk).l
  ·have:us.getD k u0=u0:=by simp[List.getD,h.xg,hk]
   rw[this];exact Nat.zero_le _) v.m.ch h.ok.m.c1
 have h2:v.m.ch*K≤2*K:=Nat.mul_le_mul_right _ h.ok.m.c1
 omega
theorem OnS.up{X:Fx}{Y:Yx}{B:Bk}{K K2:Nat}{σ:Own}{rb:Nat}{ov lv0 ev0:Value}{w:World}{lv mv:Value}{wr:World}{σ':Own}{f':Fe}{y':Ye}{r':Rp}{L M:List Int}{lv1 ev1:Value}(h:OnS X Y B K σ rb ov lv0 ev0 w lv mv wr σ' f' y' r' L M lv1 ev1)(hl:K≤K2):OnS X Y B K2 σ rb ov lv0 ev0 w lv mv wr σ' f' y' r' L M lv1 ev1:=⟨h.ext,h.fe.up hl,h.fb.up hl,h.ys.up hl,h.rp,h.lm,h.out,h.oo,h.k,h.l1,h.e1⟩
theorem OnS.fin{X:Fx}{Y:Yx}{B:Bk}{K:Nat}{σ:Own}{rb:Nat}{ov lv0 ev0:Value}{w:World}{lv mv:Value}{wr:World}{σ':Own}{f':Fe}{y':Ye}{r':Rp}{L M:List Int}{lv1 ev1:Value}(h:OnS X Y B K σ rb ov lv0 ev0 w lv mv wr σ' f' y' r' L M lv1 ev1){w':World}(hk:ag (fun k=>k=w.heap.size) wr w'):aN X σ' w' B K f'∧YIs X Y B K σ' w' y'∧pM σ' w' rb ov lv1 ev1 0 0 r'∧ag (FG σ rb lv0 ev0) w w':=by
 have ho:=h.oo
 refine⟨h.fe.kept (hk.mono fun k _ e=>by rw[e,ho];exact Nat.le_refl 3),h.ys.keep hk (fun k e _=>by rw[e,ho];decide),⟨hk.heap h.rp.row (aI h.rp.row h.out aq),h.rp.own,aB h.rp.lost hk (fun k e hs=>?_),aB h.rp.ended hk (fun k e hs=>?_),h.rp.lo,h.rp.eo⟩,h.k.andThen hk (fun i hi e=>aa)⟩
 ·obtain⟨ds,I⟩:=ah h.rp.lost e
  subst hs
  exact aI h.out I aq rfl
 ·obtain⟨ds,I⟩:=ah h.rp.ended e
  subst hs
  exact aI h.out I aq rfl
def OneP(X:Fx)(Y:Yx)(B:Bk)(K:Nat)(σ:Own)(f:Fe)(y:Ye)(r:Rp)(rb:Nat)(ov lv0 ev0:Value)(w:World)(e:Ending)(w':World):Prop:=∃(l m:Int)(f':Fe)(y':Ye)(r':Rp)(lv1 ev1:Value)(σ':Own),e= .returned (.agg #[.int .i64 l,.int .i64 m])∧OneR B Y.n f f' y y' r r' l m∧Ext σ σ' w.heap.size∧aN X σ' w' B (K+16*Y.n) f'∧FeB (K+16*Y.n) f'∧YIs X Y B (K+16*Y.n) σ' w' y'∧pM σ' w' rb ov lv1 ev1 0 0 r'∧ag (FG σ rb lv0 ev0) w w'∧(∀k,lv1.ownBlock=some k→lv0.ownBlock=some k∨w.heap.size≤k)∧(∀k,ev1.ownBlock=some k→ev0.ownBlock=some k∨w.heap.size≤k)∧r'.lost.length≤r.lost.length+1000000*Y.n∧r'.ended.length≤r.ended.length+Y.n
def OnL(X:Fx)(Y:Yx)(B:Bk)(K:Nat)(σ:Own)(f:Fe)(y:Ye)(r:Rp)(rb:Nat)(ov lv0 ev0:Value)(w:World)(i:Nat)(lv mv:Value)(wr:World)(σ':Own)(f':Fe)(y':Ye)(r':Rp)(L M:List Int)(lv1 ev1:Value):Prop:=OnS X Y B (K+16*i) σ rb ov lv0 ev0 w lv mv wr σ' f' y' r' L M lv1 ev1∧yY B f y r i f' y' r' L M∧L.length≤i∧M.length≤i∧(∀z ∈ L,(Lit.int .i64 z).wf=true)∧(∀z ∈ M,(Lit.int .i64 z).wf=true)∧r'.lost.length≤r.lost.length+1000000*i∧r'.ended.length≤r.ended.length+i
theorem FQ{L:List Int}{a:Int}(h: ∀z ∈ L,(Lit.int .i64 z).wf=true)(ha:(Lit.int .i64 a).wf=true): ∀z ∈ L++[a],(Lit.int .i64 z).wf=true:=fun z hz=>by
 rcases List.mem_append.1 hz with h1 | h1
 ·exact h z h1
 ·rw[List.mem_singleton.1 h1];exact ha
theorem GG{w:World}{b0:Nat}{v:Value}{L:List Int}(h:w.ownsRow b0 2 1 v L.length (iL L))(hw: ∀z ∈ L,(Lit.int .i64 z).wf=true)(hm:L.length≤maxLen): ∃ao cap,v= .slice ao L.length cap∧Ints .i64 w ao L.length L:=by
 obtain⟨ao,cap,hv,-,hr,-⟩:=mZ h
 exact⟨ao,cap,hv,hr.ints hm hw⟩
theorem one_any(X:Fx)(Y:Yx)(B:Bk)(K:Nat)(hK:K≤470000)(H0:Y.n≤16)(σ:Own)(f:Fe)(hf:FeB K f)(y:Ye)(r:Rp)(H3:r.lost.length≤100000000000)(H4:r.ended.length≤100000000)(rb:Nat)(ov lv0 ev0:Value)(w:World)(h:aN X σ w B K f)(hy:YIs X Y B K σ w y)(D2:pM σ w rb ov lv0 ev0 0 0 r):Calls Tryz.prog 39 #[.pointer (some ⟨Y.yb,0,none⟩),.pointer (some ⟨rb,0,none⟩)] w (OneP X Y B K σ f y r rb ov lv0 ev0 w):=by
 have hZ:Hid (Below w.heap.size w (w.alloc (.cells #[(),()] 81))):=ae w _
 have hx:=fA σ (b:=w.heap.size) 3 Me
 have D3:Hid (OnL X Y B K σ f y r rb ov lv0 ev0 w 0 (.slice none 0 0) (.slice none 0 0) (w.alloc (.cells #[(),()] 81)) (fU σ w.heap.size 3) f y r [] [] lv0 ev0):=
  ⟨⟨hx,h.fU hZ.out (b:=w.heap.size) 3 Me ar,hf,(hy.ext hx).aj hZ.out,(D2.ext hx).aj hZ.out,LmB.nil _ _ _,L9 w _,dN _ _ _,ag.au hZ.out Me,fun k e=>.inl e,fun k e=>.inl e⟩,⟨rfl,rfl,rfl,rfl,rfl⟩,Me,Me,(fun z hz=>by cases hz),(fun z hz=>by cases hz),aa,aa⟩
 obtain⟨c0,c1,c2⟩:=hy.cells
 have c1':=cO (o:=.cells #[(),()] 81) c1
 have F9:=MI (show w.heap.size+0=w.heap.size by omega)
 clear c0 c1 c2 h hy D2 hx hZ F9
 go_enter Tryz.func39,Tryz.ntmps39
 go_wp2_with fail
 go_loopw [16,5,6] (fun v16 v5 v6 wr=>∃(i:Nat)(σ':Own)(f':Fe)(y':Ye)(r':Rp)(L M:List Int)(lv1 ev1:Value),i≤Y.n∧v16= .int .i64 (i:Int)∧OnL X Y B K σ f y r rb ov lv0 ev0 w i v5 v6 wr σ' f' y' r' L M lv1 ev1) (fun v16 _ _ _=>Y.n - aC v16)
 case atStart=>exact⟨0,_,_,_,_,_,_,_,_,aa,rfl,D3.out⟩
 case round=>
  clear c1' D3
  obtain⟨i,σ',f',y',r',L,M,lv1,ev1,hi,rfl,hS,hR,H5,H6,A8,A9,G0,G1⟩:=hrel
  by_cases j:i<Y.n
  ·have A0:=hS.ys.cell j
   have F4:(i:Int)<(Y.n:Int):=aa
   cases hq:y'.ps.getD i none with
   | none=>
    rw[hq] at A0
    have di:wr.cell? ⟨Y.sb,i,none⟩=some (.pointer none):=A0
    have F5:=MI (show OnL X Y B K σ f y r rb ov lv0 ev0 w (i+1) u5 u6 wr σ' f' y' r' L M lv1 ev1 from⟨hS.up aa,⟨f',y',r',L,M,hR,.inl ⟨hq,rfl,rfl,rfl,rfl,rfl⟩⟩,aa,aa,A8,A9,aa,aa⟩)
    clear hS hR A0 hq
    go_wp2_with fail
    exact⟨⟨i+1,σ',f',y',r',L,M,lv1,ev1,aa,aD,F5.out⟩,by simp[aC];omega⟩
   | some q=>
    obtain⟨P,p⟩:=q
    rw[hq] at A0
    have di:wr.cell? ⟨Y.sb,i,none⟩=some (.pointer (some ⟨P.pb,0,none⟩)):=A0
    obtain⟨hT,hp⟩:=hS.ys.pt i P p hq
    have B7:=MI (Ih X P B (K+16*i) aa σ' f' hS.fb p wr hS.fe hp)
    unfold SndP at B7
    have HS:=MI hS
    have HR:=MI hR
    have HQ:=MI hq
    clear hS hR A0 hp hq
    go_upto_region 7 with(go_at_call 74;refine B7.out.mono ?_;rintro e w2 ⟨l,r2,f2,v2,us2,σ2,rfl,hN,D4,D5,D6,D7,D8⟩)
    have D9:=BK l p.l (Envp.vl p.sh p.sl)
    have E0:=BK r2 p.r (Envp.vl p.sh p.sl)
    have HN:Hid (∀lo p3,lo=iT i us2 v2.m.ch→p3={p with v:=v2,us:=kJ us2 v2.m.ch,sl:=Envp.nx p.sh p.sl}→yX B f' f2 i P p p3 (jI l p.l (Envp.vl p.sh p.sl)) (jI r2 p.r (Envp.vl p.sh p.sl)) lo):=fun lo p3 h1 h2=>⟨l,r2,v2,us2,hN,rfl,rfl,h1,h2⟩
    have A1:=HS.out.snd HQ.out D4 D5 D6 D7 D8
    generalize jI l p.l (Envp.vl p.sh p.sl)=a at*
    generalize jI r2 p.r (Envp.vl p.sh p.sl)=b at*
    obtain⟨p2,B8⟩: ∃p2,p2={p with v:=v2,us:=us2,sl:=Envp.nx p.sh p.sl}:=⟨_,rfl⟩
    rw[←B8] at A1
    have B0:=MI B8
    have E1:({y' with ps:=y'.ps.set i (some (P,p2))}:Ye).ps.getD i none=some (P,p2):=jm _ (by rw[HS.out.ys.len];exact j) _
    have B1:=MI E1
    have A2:Hid ({y' with ps:=y'.ps.set i (some (P,p2))}=({y' with ps:=y'.ps.set i (some (P,p2))}:Ye)):=rfl
    obtain⟨y2,B9⟩: ∃y2,y2=({y' with ps:=y'.ps.set i (some (P,p2))}:Ye):=⟨_,rfl⟩
    rw[←B9] at A1 B1
    have B2:=MI B9
    have E2:=MI A1
    have C0:=A1.k.size
    have B3:=A1.lm
    clear hN D4 D5 D6 D7 D8 B8 E1 B9 A2 A1 B7 di
    go_upto_region 8 with(first
     | (at_builtin;refine dY rfl (.tmp 28) (.tmp 30) 68 2 1 rfl Tryz.underlying68 info2 rfl aq w.heap.size _ _ _ rfl B3.l [.int .i64 a] rfl rfl (by simp[Value.oneCell']) aa aE C0 ?_;intro lv' w3 h1 k1 o1;have E3:=aB B3.m k1 (fun k e hs=>B3.sep k hs e);have C1:w.heap.size≤w3.heap.size:=Nat.le_trans C0 k1.size)
     | (at_builtin;refine dY rfl (.tmp 32) (.tmp 34) 68 2 1 rfl Tryz.underlying68 info2 rfl aq w.heap.size _ _ _ rfl E3 [.int .i64 b] rfl rfl (by simp[Value.oneCell']) aa aE C1 ?_;intro mv' w4 h2 k2 o2))
    have A3:=E2.out.grow h1 k1 o1 h2 k2 o2
    obtain⟨σ3,hσ3⟩: ∃σ3,σ3=aG σ2 w2.heap.size w4.heap.size 3:=⟨_,rfl⟩
    rw[←hσ3] at A3
    obtain⟨lo,A4⟩: ∃lo,lo=iT (i:Int) us2 v2.m.ch:=⟨_,rfl⟩
    obtain⟨p3,B4⟩: ∃p3,p3={p with v:=v2,us:=kJ us2 v2.m.ch,sl:=Envp.nx p.sh p.sl}:=⟨_,rfl⟩
    have E4:=MI (HN.out lo p3 A4 B4)
    have C2:{p2 with us:=kJ us2 v2.m.ch}=p3:=by rw[B0.out,B4]
    obtain⟨y3,B5⟩: ∃y3,y3=({y2 with ps:=y2.ps.set i (some (P,p3))}:Ye):=⟨_,rfl⟩
    have E5:y3.ps.getD i none=some (P,p3):=by
     rw[B5]
     refine jm _ ?_ _
     rw[B2.out]
     show i<(y'.ps.set i _).length
     rw[List.length_set,HS.out.ys.len]
     exact j
    have A2:=MI B5
    have G2:=MI E5
    have C3:=MI A3.drew
    have H7:=MI A4
    have H8:=MI B4
    have C4:p2.v=v2:=by rw[B0.out]
    have hu2:p2.us=us2:=by rw[B0.out]
    have HV:=MI (A3.drew.ys.pt i P p2 B1.out).2
    have HL:=MI (Nh X P.V B (K+16*i+16) aa σ3 p2.v p2.us i w4.drew A3.drew.fe.tX HV.out.vo)
    have A5:=MI (HV.out.vo.lossLe i)
    rw[C4,hu2] at HL A5
    rw[←A4] at A5
    unfold LostP at HL
    rw[←A4] at HL
    obtain⟨d0,d1,-⟩:=bz HV.out.row
    obtain⟨e0,e1,e2,e3,e4⟩:=bz C3.out.rp.row
    have hle:=A5.out
    have HG:Hid (∀w5,gp X P.V B (K+16*i+16) σ3 w5 v2 (kJ us2 v2.m.ch)→ag (FL σ3 P.V.T) w4.drew w5→OnS X Y B (K+16*i+16) σ rb ov lv0 ev0 w lv' mv' w5 σ3 f2 y3 r' (L++[a]) (M++[b]) lv1 ev1):=by
     intro w5 hv hk
     have h9:=C3.out.lost B1.out (us:=kJ us2 v2.m.ch) (by rw[C4];exact hv) hk
     rw[C2,←B5] at h9
     exact h9
    clear A4 B4 B5 E5 C2 h1 k1 o1 h2 k2 o2 A3 C0 B3 E3 C1 d1 e0 e2 e3 e4 C4 hu2 hσ3
    go_cut [] (fun wx=>∃(σ7:Own)(lv7:Value),OnS X Y B (K+16*i+16) σ rb ov lv0 ev0 w lv' mv' wx σ7 f2 y3 ⟨r'.lost++lo,r'.ended⟩ (L++[a]) (M++[b]) lv7 ev1)
    case first=>
     go_region_law (first
      | (refine iQ rfl (.tmp 40) (.tmp 46) 32 32 rfl rfl rfl F6 ?_)
      | (go_simp;go_at_call 75;refine HL.out.mono ?_;rintro e w5 ⟨ao,n,cap,rfl,A7,H9,G3,G4⟩;have J:=HG.out w5 G3 G4;have C5:lo.length=n:=A7.hlen;obtain⟨v',w6,F6,E6,C6,G5⟩:=lh (P:=Tryz.prog) w5 32 32 215 3 Tryz.underlying32 Gx rfl aq 0 lv1 r'.lost.length _ J.rp.lost ao n cap (lo.flatMap ny) (by rw[flat_length ny 3 rZ,C5]) (fun a e=>by subst e;exact A7.flat rZ aq) (fun h0=>by obtain⟨a,ha,-⟩:=A7.cell 0 h0;exact⟨a,ha⟩) (fun u hu=>by obtain⟨x,-,hx⟩:=List.mem_flatMap.1 hu;simp only[ny,List.mem_cons,List.not_mem_nil,or_false] at hx;rcases hx with rfl | rfl | rfl<;>rfl) aa aE (Nat.zero_le _);obtain⟨so,sc,rfl⟩:=dh E6;have e1:=(bz J.rp.row).2.1;have C7:=C6.heap J.rp.row (fun e=>by obtain⟨ds,R⟩:=ah J.rp.lost e;exact aI J.rp.row R aq rfl);have g1:=(bz C7).2.1;have z1:=frozen_of_row _ _ 1 _ _ C7))
     all_goals go_wp2_with fail
     all_goals go_meet
     all_goals refine⟨_,_,J.put (r2:=⟨r'.lost++lo,r'.ended⟩) (c:=1) ((Mc C7).trans rfl) ?_ (aB J.rp.ended C6 (fun k e hs=>?_)) (C6.mono fun k _ e=>.inl e) G5 (fun k e=>.inl e)⟩
     all_goals first | (rw[List.length_append,List.flatMap_append,C5];exact E6) | (obtain⟨cs,C8⟩:=ah J.rp.lost hs;obtain⟨ds,R⟩:=ah J.rp.ended e;exact aI C8 R aq rfl)
    case rest=>
     obtain⟨σ7,lv7,C9⟩:=hcut
     obtain⟨W7,rfl⟩: ∃w',w'=wc:=⟨_,rfl⟩
     have E7:=(C9.ys.pt i P p3 G2.out).2
     have HO:=MI (MM X P B (K+16*i+16) σ7 p3 W7 E7)
     have G6:Hid (∀z,({y3 with ps:=y3.ps.set i z}:Ye)={y' with ps:=y'.ps.set i z}):=fun z=>by rw[A2.out,B2.out];simp
     have F7:Hid (y3={y' with ps:=y'.ps.set i (some (P,p3))}):=by show _=_;rw[A2.out,B2.out];simp
     have E8:Hid (K+16*i+16=K+16*(i+1)):=by show _=_;omega
     have D0:=MI (FQ A8 D9)
     have D1:=MI (FQ A9 E0)
     have I0:(i:Int)<(Y.n:Int):=F4
     have H2:=A5.out
     have I:=MI C9
     clear HS E2 C3 HL A5 HG HN HV E7 C9 B2 A2 B1 B0 D9 E0 e1 d0 hle
     cases U:p3.over with
     | true=>
      rw[U] at HO
      have hE:=MI U
      have HF:Hid (∀σ8 ev8 W8,OnS X Y B (K+16*i+16) σ rb ov lv0 ev0 w lv' mv' W8 σ8 f2 y3 ⟨r'.lost++lo,r'.ended++[(i:Int)]⟩ (L++[a]) (M++[b]) lv7 ev8→OnL X Y B K σ f y r rb ov lv0 ev0 w (i+1) lv' mv' (W8.setCell ⟨Y.sb,i,none⟩ (.pointer none)) σ8 f2 {y' with ps:=y'.ps.set i none} ⟨r'.lost++lo,r'.ended++[(i:Int)]⟩ (L++[a]) (M++[b]) lv7 ev8):=by
       intro σ8 ev8 W8 h8
       have h9:=h8.gone j
       rw[G6.out,E8.out] at h9
       refine⟨h9,⟨f',y',r',L,M,HR.out,.inr ⟨P,p,p3,a,b,lo,HQ.out,E4.out,?_,?_,rfl,rfl⟩⟩,by simp;omega,by simp;omega,D0.out,D1.out,by simp;omega,by simp;omega⟩
       ·unfold vz;rw[if_pos hE.out]
       ·rw[if_pos hE.out]
      have E9:=MI I.out.rp.ended
      obtain⟨-,-,b2,-,-⟩:=bz I.out.rp.row
      obtain⟨p0,p1,p2'⟩:=I.out.ys.cells
      have pi:=I.out.ys.cell j
      clear U
      go_upto_region 11 with(first
       | (go_at_call 76;refine HO.out.mono ?_;rintro e w' ⟨rfl,rfl⟩)
       | (at_builtin;refine dY rfl (.tmp 56) (.tmp 58) 33 3 1 rfl Tryz.underlying33 Gu rfl aq 0 _ _ _ rfl E9.out [.int .i64 i] rfl rfl (by simp[Value.oneCell']) aa aE (Nat.zero_le _) ?_;intro ev' w8 h8 k8 o8;obtain⟨so,sc,rfl⟩:=dh h8;have B6:=k8.heap I.out.rp.row (fun e=>by obtain⟨ds,R⟩:=ah I.out.rp.ended e;exact aI I.out.rp.row R aq rfl);have b2:=(bz B6).2.2.1;have z2:=frozen_of_row _ _ 2 _ _ B6))
      have A6:OnS X Y B (K+16*i+16) σ rb ov lv0 ev0 w lv' mv' _ _ f2 y3 ⟨r'.lost++lo,r'.ended++[(i:Int)]⟩ (L++[a]) (M++[b]) lv7 _:=I.out.put (r2:=⟨r'.lost++lo,r'.ended++[(i:Int)]⟩) (c:=2) ((Mc B6).trans rfl) (aB I.out.rp.lost k8 (fun k e hs=>by
       obtain⟨cs,C8⟩:=ah I.out.rp.ended hs
       obtain⟨ds,R⟩:=ah I.out.rp.lost e
       exact aI C8 R aq rfl)) (by rw[List.length_append,show iL (r'.ended++[(i:Int)])=iL r'.ended++[.int .i64 i] by simp[iL]];exact h8) (k8.mono fun k _ e=>.inr e) (fun k e=>.inl e) o8
      have G7:=MI (HF.out _ _ _ A6)
      obtain⟨p0,p1,p2'⟩:=A6.ys.cells
      have pi:=A6.ys.cell j
      have zi:=frozen_of_row _ _ i _ _ A6.ys.sl
      clear A6 h8 k8 o8 B6 I E9 HF
      go_wp2_with fail
      exact⟨⟨i+1,_,_,_,_,_,_,_,_,aa,aD,G7.out⟩,by simp[aC];omega⟩
     | false=>
      rw[U] at HO
      have HF:Hid (OnL X Y B K σ f y r rb ov lv0 ev0 w (i+1) lv' mv' W7 σ7 f2 y3 ⟨r'.lost++lo,r'.ended⟩ (L++[a]) (M++[b]) lv7 ev1):=by
       have h9:=I.out
       rw[E8.out] at h9
       refine⟨h9,⟨f',y',r',L,M,HR.out,.inr ⟨P,p,p3,a,b,lo,HQ.out,E4.out,?_,?_,rfl,rfl⟩⟩,by simp;omega,by simp;omega,D0.out,D1.out,by simp;omega,by simp;omega⟩
       ·unfold vz;rw[if_neg (by rw[U];decide)];exact F7.out
       ·rw[if_neg (by rw[U];decide),List.append_nil]
      clear U I
      go_wp2_with (go_at_call 76;refine HO.out.mono ?_;rintro e w' ⟨rfl,rfl⟩)
      exact⟨⟨i+1,_,_,_,_,_,_,_,_,aa,aD,HF.out⟩,by simp[aC];omega⟩
  ·obtain rfl:i=Y.n:=aa
   have C5:¬(Y.n:Int)<(Y.n:Int):=aa
   obtain⟨lo,lc,hu5,F1⟩:=GG hS.lm.l A8 aE
   obtain⟨mo,mc,G8,F2⟩:=GG hS.lm.m A9 aE
   subst hu5
   subst G8
   have HM:=MI (Gn lo L.length lc L wr F1)
   have F3:=MI (fun m=>Gn mo M.length mc M (wr.drewN m) (F2.kept ((ag.refl (fun _=>False) wr).drewN m) (fun _ _ e=>e)))
   have HS:=MI hS
   have HR:=MI hR
   clear hS hR F1 F2 A8 A9
   unfold Qt at HM F3
   obtain⟨q0,q1⟩:=bW HS.out.out
   have HO:=MI HS.out.out
   have z0:=frozen_of_row _ _ 0 _ _ HO.out
   have z1:=frozen_of_row _ _ 1 _ _ HO.out
   have F8:(Tryz.prog.info? 81).map (·.size)=some 2:=af
   go_wp2_with (first
    | (go_at_call 77;first | ((with_reducible refine HM.out.mono ?_);rintro e w1 ⟨rfl,m1,rfl⟩) | ((with_reducible refine(F3.out m1).mono ?_);rintro e w2 ⟨rfl,m2,rfl⟩)))
   have G9:ag (fun k=>k=w.heap.size) wr (((wr.drewN (m1+m2)).setCell ⟨w.heap.size,0,none⟩ (.int .i64 (jl (pK L)))).setCell ⟨w.heap.size,1,none⟩ (.int .i64 (jl (pK M)))):=(((ag.refl (fun k=>k=w.heap.size) wr).drewN (m1+m2)).setCell (p:=⟨w.heap.size,0,none⟩) (.inr rfl) _).setCell (p:=⟨w.heap.size,1,none⟩) (.inr rfl) _
   obtain⟨k1,k2,k3,k4⟩:=HS.out.fin G9
   exact bodyPost_ret (results_cell_row rfl _ _ w.heap.size 81 _ (0,0) _ rfl (Mc (Mc HO.out)) Tryz.underlying81 rfl F8) rfl ⟨_,_,f',y',r',lv1,ev1,σ',rfl,⟨L,M,HR.out,rfl,rfl⟩,HS.out.ext,k1,HS.out.fb,k2,k3,k4,HS.out.l1,HS.out.e1,G0,G1⟩
def stV(x:Int×Int):List Value:=[.int .i64 x.1,.int .i64 x.2]
theorem zA(x:Int×Int):(stV x).length=2:=rfl
theorem Ny:(Tryz.prog.info? 81).map (fun i=>(i.zero,i.size,i.bytes))=some (some (.agg #[(),()]),2,16):=af
def lG:Array Value:=#[.slice none 0 0,.slice none 0 0,.slice none 0 0,(),()]
def uq(B:Bk)(n:Nat)(f:Fe)(y:Ye):Nat→Fe→Ye→Rp→List (Int×Int)→Prop
 | 0,f',y',r',O=>f'=f∧y'=y∧r'=⟨[],[]⟩∧O=[]
 | k+1,f',y',r',O'=>∃f1 y1 r1 O l m,uq B n f y k f1 y1 r1 O∧OneR B n f1 f' y1 y' r1 r' l m∧O'=O++[(l,m)]
structure RnS(X:Fx)(Y:Yx)(B:Bk)(K:Nat)(σ:Own)(w:World)(wr:World)(σ':Own)(f':Fe)(y':Ye)(r':Rp)(O:List (Int×Int))(ov lv ev:Value):Prop where
 ext:Ext σ σ' w.heap.size
 fe:aN X σ' wr B K f'
 fb:FeB K f'
 ys:YIs X Y B K σ' wr y'
 rp:pM σ' wr (w.heap.size+1) ov lv ev 0 0 r'
 out:wr.ownsRow 0 81 2 ov O.length (O.flatMap stV)
 oo: ∀b,ov.ownBlock=some b→σ' b=3
 res:wr.heap[w.heap.size]? =some (.cells lG 35 (0,0))
 ro:σ' w.heap.size=3
 k:ag (FR σ) w wr
 n0: ∀k,ov.ownBlock=some k→w.heap.size≤k
 n1: ∀k,lv.ownBlock=some k→w.heap.size≤k
 n2: ∀k,ev.ownBlock=some k→w.heap.size≤k
theorem yg{w w':World}{B e size n:Nat}{v:Value}{xs:List Value}(h:w.ownsRow B e size v n xs)(hb:Below w.heap.size w w'):w'.ownsRow B e size v n xs:=aB (S:=fun _=>False) h (ag.au hb Me) (fun _ _ e=>e)
theorem RnS.drew{X:Fx}{Y:Yx}{B:Bk}{K:Nat}{σ:Own}{w:World}{wr:World}{σ':Own}{f':Fe}{y':Ye}{r':Rp}{O:List (Int×Int)}{ov lv ev:Value}(h:RnS X Y B K σ w wr σ' f' y' r' O ov lv ev):RnS X Y B K σ w wr.drew σ' f' y' r' O ov lv ev:=
 have hb:=(Below.refl wr.heap.size wr).drew
 ⟨h.ext,h.fe.aj hb,h.fb,h.ys.aj hb,h.rp.aj hb,yg h.out hb,h.oo,h.res,h.ro,h.k.drew,h.n0,h.n1,h.n2⟩
theorem RnS.drewN{X:Fx}{Y:Yx}{B:Bk}{K:Nat}{σ:Own}{w:World}{wr:World}{σ':Own}{f':Fe}{y':Ye}{r':Rp}{O:List (Int×Int)}{ov lv ev:Value}(h:RnS X Y B K σ w wr σ' f' y' r' O ov lv ev)(m:Nat):RnS X Y B K σ w (wr.drewN m) σ' f' y' r' O ov lv ev:=
 have hb:Below wr.heap.size wr (wr.drewN m):=below_drewN MB m
 ⟨h.ext,h.fe.aj hb,h.fb,h.ys.aj hb,h.rp.aj hb,yg h.out hb,h.oo,h.res,h.ro,h.k.drewN m,h.n0,h.n1,h.n2⟩
theorem RnS.one{X:Fx}{Y:Yx}{B:Bk}{K:Nat}{σ:Own}{w:World}{wr:World}{σ':Own}{f':Fe}{y':Ye}{r':Rp}{O:List (Int×Int)}{ov lv ev:Value}(h:RnS X Y B K σ w wr σ' f' y' r' O ov lv ev){w2:World}{σ2:Own}{f2:Fe}{y2:Ye}{r2:Rp}{lv2 ev2:Value}{L:Nat}(hE:Ext σ' σ2 wr.heap.size)(hF:aN X σ2 w2 B L f2)(hB:FeB L f2)(hY:YIs X Y B L σ2 w2 y2)(hR:pM σ2 w2 (w.heap.size+1) ov lv2 ev2 0 0 r2)(hK:ag (FG σ' (w.heap.size+1) lv ev) wr w2)(hl: ∀k,lv2.ownBlock=some k→lv.ownBlock=some k∨wr.heap.size≤k)(he: ∀k,ev2.ownBlock=some k→ev.ownBlock=some k∨wr.heap.size≤k):RnS X Y B L σ w w2 σ2 f2 y2 r2 O ov lv2 ev2:=by
 have hs:=h.k.size
 have R:=L8 h.res
 have nt: ∀k cs t,wr.heap[k]? =some (.cells cs t (0,0))→σ' k=3→k≠w.heap.size+1→t≠215→t≠3→¬FG σ' (w.heap.size+1) lv ev k:=fun k cs t hc h3 hn h1 h2 e=>by
  unfold FG FR at e
  rcases e with e | e | e | e
  ·omega
  ·exact hn e
  ·obtain⟨ds,J⟩:=ah h.rp.lost e
   exact aI hc J h1 rfl
  ·obtain⟨ds,J⟩:=ah h.rp.ended e
   exact aI hc J h2 rfl
 refine⟨h.ext.trans hE hs,hF,hB,hY,hR,aB h.out hK (fun k e=>?_),fun b e=>?_,hK.heap h.res (nt _ _ _ h.res h.ro aa aq aq),(hE _ R).trans h.ro,h.k.andThen hK (fun k hk e=>?_),h.n0,fun k e=>?_,fun k e=>?_⟩
 ·obtain⟨cs,I⟩:=ah h.out e
  exact nt k cs 81 I (h.oo k e) (fun e2=>by subst e2;exact aI h.rp.row I aq rfl) aq aq
 ·obtain⟨cs,I⟩:=ah h.out e
  exact(hE _ (L8 I)).trans (h.oo b e)
 ·have h1:=h.ext k hk
  unfold FG at e
  rcases e with e | e | e | e
  ·unfold FR at e⊢;omega
  ·omega
  ·have:=h.n1 k e;omega
  ·have:=h.n2 k e;omega
 ·rcases hl k e with h1 | h1
  ·exact h.n1 k h1
  ·omega
 ·rcases he k e with h1 | h1
  ·exact h.n2 k h1
  ·omega
theorem RnS.lay{X:Fx}{Y:Yx}{B:Bk}{K:Nat}{σ:Own}{w:World}{wr:World}{σ':Own}{f':Fe}{y':Ye}{r':Rp}{O:List (Int×Int)}{ov lv ev:Value}(h:RnS X Y B K σ w wr σ' f' y' r' O ov lv ev){w3:World}{v':Value}{a b:Int}(ho:w3.ownsRow 0 81 2 v' (O.length+1) (O.flatMap stV++stV (a,b)))(hk:ag (fun k=>ov.ownBlock=some k) wr w3)(hn: ∀k,v'.ownBlock=some k→ov.ownBlock=some k∨wr.heap.size≤k):RnS X Y B K σ w (w3.setCell ⟨w.heap.size+1,0,none⟩ v') (aG σ' wr.heap.size w3.heap.size 3) f' y' r' (O++[(a,b)]) v' lv ev:=by
 have hs:=h.k.size
 have o:=hk.size
 have U:=L8 h.res
 have j:=L8 h.rp.row
 have hx:=dA σ' wr.heap.size w3.heap.size 3
 have k1:ag (fun k=>k=w.heap.size+1) w3 (w3.setCell ⟨w.heap.size+1,0,none⟩ v'):=aA _ _ _ _
 have k7:ag (fun k=>ov.ownBlock=some k∨k=w.heap.size+1) wr (w3.setCell ⟨w.heap.size+1,0,none⟩ v'):=(hk.mono fun k _ e=>.inl e).setCell (p:=⟨w.heap.size+1,0,none⟩) (.inr (.inr rfl)) _
 have h3: ∀k,(ov.ownBlock=some k∨k=w.heap.size+1)→σ' k=3:=fun k e=>e.elim (h.oo k) (fun e=>e▸h.rp.own)
 have nt: ∀k cs t,wr.heap[k]? =some (.cells cs t (0,0))→t≠81→k≠w.heap.size+1→¬(ov.ownBlock=some k∨k=w.heap.size+1):=fun k cs t hc h1 h2 e=>by
  rcases e with e | e
  ·obtain⟨ds,J⟩:=ah h.out e
   exact aI hc J h1 rfl
  ·exact h2 e
 have R:w3.heap[w.heap.size+1]? =some (.cells #[ov,lv,ev,(),()] 35 (0,0)):=hk.heap h.rp.row (fun e=>by
  obtain⟨ds,J⟩:=ah h.out e
  exact aI h.rp.row J aq rfl)
 refine⟨h.ext.trans hx hs,?_,h.fb,(h.ys.ext hx).keep k7 (fun k e hl=>by rw[hx k hl,h3 k e];decide),⟨(Mc R).trans rfl,(hx _ j).trans h.rp.own,aB h.rp.lost k7 (fun k e=>?_),aB h.rp.ended k7 (fun k e=>?_),fun b e=>?_,fun b e=>?_⟩,?_,fun b e=>?_,k7.heap h.res (nt _ _ _ h.res aq aa),(hx _ U).trans h.ro,h.k.andThen k7 (fun k A0 e=>?_),fun k e=>?_,h.n1,h.n2⟩
 ·have h7:=h.fe.aG (k7.mono fun k _ e=>by rw[h3 k e];exact Nat.le_refl 3) 3
  rw[show(w3.setCell ⟨w.heap.size+1,0,none⟩ v').heap.size=w3.heap.size by simp] at h7
  exact h7
 ·obtain⟨cs,I⟩:=ah h.rp.lost e
  exact nt k cs 215 I aq (fun e2=>by subst e2;exact aI h.rp.row I aq rfl)
 ·obtain⟨cs,I⟩:=ah h.rp.ended e
  exact nt k cs 3 I aq (fun e2=>by subst e2;exact aI h.rp.row I aq rfl)
 ·obtain⟨cs,I⟩:=ah h.rp.lost e
  exact(hx _ (L8 I)).trans (h.rp.lo b e)
 ·obtain⟨cs,I⟩:=ah h.rp.ended e
  exact(hx _ (L8 I)).trans (h.rp.eo b e)
 ·have h5:=aB ho k1 (fun k e hs=>by
   obtain⟨cs,I⟩:=ah ho e
   subst hs
   exact aI R I aq rfl)
  simpa[List.flatMap_append] using h5
 ·obtain⟨cs,I⟩:=ah ho e
  rcases Nat.lt_or_ge b wr.heap.size with hl | hl
  ·rw[dW σ' 3 hl]
   rcases hn b e with h1 | h1
   ·exact h.oo b h1
   ·omega
  ·exact aX σ' 3 hl (L8 I)
 ·rcases e with e | e
  ·have:=h.n0 k e;omega
  ·omega
 ·rcases hn k e with h1 | h1
  ·exact h.n0 k h1
  ·omega
end Go.Proofs.YtnicjahcgnhogaaGreatDoor
