/- Part 21 of the walk: contracts of the program's functions, each for every input. No condition. -/
import Derived.Test.YtnicjahcgnhogaaGreatDoorQ19
import Derived.Test.YtnicjahcgnhogaaGreatDoorQ12
import Derived.Test.YtnicjahcgnhogaaGreatDoorQ03
import Derived.Test.YtnicjahcgnhogaaGreatDoorQ09
import Derived.Test.YtnicjahcgnhogaaGreatDoorQ13
import Derived.Test.YtnicjahcgnhogaaGreatDoorQ06
import Derived.Test.YtnicjahcgnhogaaGreatDoorQ01
set_option linter.unusedVariables false
set_option linter.unusedSimpArgs false
set_option maxRecDepth 100000
set_option maxHeartbeats 8000000
namespace Go.Proofs.YtnicjahcgnhogaaGreatDoor
open Go Go.RowKit Go.Calli
attribute [local irreducible] wpStill wpAnyH wpAnyS wpList Code.wp
theorem jH(z:List Int)(tv:Value)(hz:z.length=28):(Tryz.prog.info? 196).map (·.size)=some (frC z tv).size:=by rw[bC _ _ hz];kernel_rfl
theorem mV{l:List Int}(h:l.length=4): ∃a b c d,l=[a,b,c,d]:=by
 match l,h with
 | [a,b,c,d],_=>exact⟨a,b,c,d,rfl⟩
theorem yB{l:List Int}(h:l.length=16): ∃q0 q1 q2 q3 q4 q5 q6 q7 q8 q9 q10 q11 q12 q13 q14 q15,l=[q0,q1,q2,q3,q4,q5,q6,q7,q8,q9,q10,q11,q12,q13,q14,q15]:=by
 match l,h with
 | [q0,q1,q2,q3,q4,q5,q6,q7,q8,q9,q10,q11,q12,q13,q14,q15],_=>exact⟨q0,q1,q2,q3,q4,q5,q6,q7,q8,q9,q10,q11,q12,q13,q14,q15,rfl⟩
theorem KX(g s wd q:List Int)(hg:g.length=4)(hs:s.length=4)(hw:wd.length=4)(hq:q.length=16)(ao:Option Addr)(n c:Nat):Tryz.prog.built 196 [(0,.agg (iA g)),(1,.slice ao n c),(2,.agg (iA s)),(3,.agg (iA wd)),(4,.agg (iA q))]=some (frC (g++s++wd++q) (.slice ao n c)):=by
 obtain⟨g0,g1,g2,g3,rfl⟩:=mV hg
 obtain⟨s0,s1,s2,s3,rfl⟩:=mV hs
 obtain⟨w0,w1,w2,w3,rfl⟩:=mV hw
 obtain⟨q0,q1,q2,q3,q4,q5,q6,q7,q8,q9,q10,q11,q12,q13,q14,q15,rfl⟩:=yB hq
 kernel_rfl
def dS(b g s:List Int)(ts:List (Int×Int)):List Int:=g++s++kY (gX (jZ b ts) s)++gX (jZ b ts) s
theorem rwB{w w':World}{b:Nat}{o:Obj}(h:w.heap[b]? =some o)(hb:Below w.heap.size w w'):w'.heap[b]? =some o:=(hb.block b (L8 h)).trans h
theorem qI(b g s:List Int)(ts:List (Int×Int))(hg:g.length=4)(hs:s.length=4):(dS b g s ts).length=28:=by
 unfold dS kY
 simp only[List.length_append,hg,hs,pz,qJ]
structure ToS(w:World)(b g s:List Int)(w':World):Prop where
 z0:w'.heap[w.heap.size]? =some (.cells (iA b) 194 (0,0))
 z1:w'.heap[w.heap.size+1]? =some (.cells (iA g) 191 (0,0))
 z2:w'.heap[w.heap.size+2]? =some (.cells (iA s) 306 (0,0))
 z3:w'.heap[w.heap.size+3]? =some (.cells #[(),(),(),(),.slice none 0 0,(),(),(),(),(),(),(),(),(),(),(),(),(),(),(),(),(),(),(),(),(),(),(),()] 196 (0,0))
 hb:Below w.heap.size w w'
theorem ToS.next{w:World}{b g s:List Int}{w1 w2:World}(h:ToS w b g s w1)(hb:Below w1.heap.size w1 w2):ToS w b g s w2:=
 ⟨rwB h.z0 hb,rwB h.z1 hb,rwB h.z2 hb,rwB h.z3 hb,h.hb.trans (hb.mono h.hb.size)⟩
theorem ToS.set{w:World}{b g s:List Int}{w1:World}(h:ToS w b g s w1){k:Nat}(hk:w.heap.size+4≤k)(cs:Array Value):ToS w b g s (w1.setRow k cs):=
 ⟨(setRow_other _ _ _ _ (by omega)).trans h.z0,(setRow_other _ _ _ _ (by omega)).trans h.z1,(setRow_other _ _ _ _ (by omega)).trans h.z2,(setRow_other _ _ _ _ (by omega)).trans h.z3,below_setRow h.hb (by omega) _⟩
structure ToT(w:World)(g s q:List Int)(qb:Nat)(w':World):Prop where
 z1:w'.heap[w.heap.size+1]? =some (.cells (iA g) 191 (0,0))
 z2:w'.heap[w.heap.size+2]? =some (.cells (iA s) 306 (0,0))
 q:w'.heap[qb]? =some (.cells (iA q) 194 (0,0))
 hb:Below w.heap.size w w'
 ne:qb≠w.heap.size+3
theorem ToT.next{w:World}{g s q:List Int}{qb:Nat}{w1 w2:World}(h:ToT w g s q qb w1)(hb:Below w1.heap.size w1 w2):ToT w g s q qb w2:=
 ⟨rwB h.z1 hb,rwB h.z2 hb,rwB h.q hb,h.hb.trans (hb.mono h.hb.size),h.ne⟩
theorem ToT.set{w:World}{g s q:List Int}{qb:Nat}{w1:World}(h:ToT w g s q qb w1)(cs:Array Value):ToT w g s q qb (w1.setRow (w.heap.size+3) cs):=
 ⟨(setRow_other _ _ _ _ (by omega)).trans h.z1,(setRow_other _ _ _ _ (by omega)).trans h.z2,(setRow_other _ _ _ _ h.ne).trans h.q,below_setRow h.hb (by omega) _,h.ne⟩
def ToC(w:World)(b g s q:List Int)(v9:Value)(wx:World):Prop:=∃qb,v9= .pointer (some ⟨qb,0,none⟩)∧wx.heap[qb]? =some (.cells (iA q) 194 (0,0))∧ToS w b g s wx
theorem IA(b g s:List Int)(hb:b.length=16)(hwf: ∀z ∈ b,(Lit.int .i64 z).wf=true)(hg:g.length=4)(hs:s.length=4)(ao:Option Addr)(n cap:Nat)(ts:List (Int×Int))(w:World)(h:bH ed 2 (0,0) w ao n ts):Calls Tryz.prog 201 #[.agg (iA b),.agg (iA g),.agg (iA s),.slice ao n cap] w (fun e w'=>e= .returned (.agg (frC (dS b g s ts) (.slice ao n cap)))∧Below w.heap.size w w'):=by
 have hb0:=ae w (.cells (iA b) 194)
 have hz0:=L9 w (.cells (iA b) 194)
 have e0:(w.alloc (.cells (iA b) 194)).heap.size=w.heap.size+1:=World.size_alloc _ _
 generalize hW0:w.alloc (.cells (iA b) 194)=W0 at*
 have hb1:=ae W0 (.cells (iA g) 191)
 have hz1:=L9 W0 (.cells (iA g) 191)
 have e1:(W0.alloc (.cells (iA g) 191)).heap.size=W0.heap.size+1:=World.size_alloc _ _
 generalize hW1:W0.alloc (.cells (iA g) 191)=W1 at*
 have hb2:=ae W1 (.cells (iA s) 306)
 have hz2:=L9 W1 (.cells (iA s) 306)
 have e2:(W1.alloc (.cells (iA s) 306)).heap.size=W1.heap.size+1:=World.size_alloc _ _
 generalize hW2:W1.alloc (.cells (iA s) 306)=W2 at*
 have hb3:=ae W2 (.cells #[(),(),(),(),.slice none 0 0,(),(),(),(),(),(),(),(),(),(),(),(),(),(),(),(),(),(),(),(),(),(),(),()] 196)
 have hz3:=L9 W2 (.cells #[(),(),(),(),.slice none 0 0,(),(),(),(),(),(),(),(),(),(),(),(),(),(),(),(),(),(),(),(),(),(),(),()] 196)
 rw[e0] at hz1 e1
 rw[e1] at hz2 e2
 rw[e2] at hz3
 have hz2:=rwB hz2 hb3
 have hz1:=rwB (rwB hz1 hb2) hb3
 have hz0:=rwB (rwB (rwB hz0 hb1) hb2) hb3
 have hB:=((hb0.trans (hb1.mono hb0.size)).trans (hb2.mono (hb0.trans (hb1.mono hb0.size)).size)).trans (hb3.mono ((hb0.trans (hb1.mono hb0.size)).trans (hb2.mono (hb0.trans (hb1.mono hb0.size)).size)).size)
 subst hW2 hW1 hW0
 clear hb0 hb1 hb2 hb3 e0 e1 e2
 have hi0:(Tryz.prog.info? 194).map (·.size)=some (iA b).size:=by rw[az,hb];kernel_rfl
 have hi1:(Tryz.prog.info? 191).map (·.size)=some (iA g).size:=by rw[az,hg];kernel_rfl
 have hi2:(Tryz.prog.info? 306).map (·.size)=some (iA s).size:=by rw[az,hs];kernel_rfl
 have hT:=MI (fun W (hb':Below w.heap.size w W)=>yU b hb ao n cap ts W (h.ah hb'))
 have hStep:=MI (fun W=>Fb (jZ b ts) s (by rw[zI];exact hb) hs W)
 have hWid:=MI (fun W=>Bi (gX (jZ b ts) s) (qJ _ _) (IG _ _) W)
 have hql:=qJ (jZ b ts) s
 have HTO:Hid (dS b g s ts=g++s++kY (gX (jZ b ts) s)++gX (jZ b ts) s):=rfl
 have hwl:Hid ((kY (gX (jZ b ts) s)).length=4):=pz _ _
 have hto:=MI (qI b g s ts hg hs)
 generalize hq:gX (jZ b ts) s=q at*
 generalize jZ b ts=ob at*
 clear hq
 go_enter Tryz.func201,Tryz.ntmps201
 go_upto_region 1 with fail
 generalize (((w.alloc (.cells (iA b) 194)).alloc (.cells (iA g) 191)).alloc (.cells (iA s) 306)).alloc (.cells #[(),(),(),(),.slice none 0 0,(),(),(),(),(),(),(),(),(),(),(),(),(),(),(),(),(),(),(),(),(),(),(),()] 196)=W at*
 have HZ0:=MI hz0
 have HZ1:=MI hz1
 have HZ2:=MI hz2
 have HZ3:=MI hz3
 have HB:=MI hB
 have hqi:(Tryz.prog.info? 194).map (·.size)=some (iA q).size:=by rw[az,hql];kernel_rfl
 have hqz:(#[(),(),(),(),(),(),(),(),(),(),(),(),(),(),(),()]:Array Value).size=(iA q).size:=by rw[az,hql];rfl
 have hbu:=MI (KX g s (kY q) q hg hs hwl.out hql ao n cap)
 have hfi:(Tryz.prog.info? 196).map (·.size)=some (frC (g++s++kY q++q) (.slice ao n cap)).size:=jH _ _ (by rw[←HTO.out];exact hto.out)
 have hfz:(#[(),(),(),(),.slice none 0 0,(),(),(),(),(),(),(),(),(),(),(),(),(),(),(),(),(),(),(),(),(),(),(),()]:Array Value).size=(frC (g++s++kY q++q) (.slice ao n cap)).size:=by rw[bC _ _ (by rw[←HTO.out];exact hto.out)];rfl
 have hfo:=dC (g++s++kY q++q) ao n cap
 have hS0:ToS w b g s W.drew:=⟨hz0,hz1,hz2,hz3,hB.drew⟩
 have hS4:w.heap.size+4≤W.drew.heap.size:=L8 hz3
 clear hz0 hz1 hz2 hz3 hB hb hg hs hwf h
 go_cut [9] (fun v9 wx=>ToC w b g s q v9 wx)
 case first=>
  refine wp_region_noPanic ?_
  refine wp_region_held_drew (S:=fun w'=>ToS w b g s w') (by kernel_rfl) ?_ (fun hHeld=>?_)
  ·exact hS0
  refine MG 1 ?_ ?_ (by assumption) ?_
  rotate_left
  ·(intro w hSw;(try dsimp only at hSw);go_simp;try with_reducible rfl)
  try simp only[Act.put,aS]
  refine wpAnyH_take (i:=0) (v:=.agg (iA b)) rfl (by kernel_rfl) (by kernel_rfl) (by kernel_rfl) (fun _ _ _ h=>h) (aU (by kernel_rfl) 194 (.tmp 4) rfl w.heap.size rfl 194 (iA b) (0,0) _ (fun w h=>h.z0) Tryz.underlying194 rfl hi0) (by assumption) ?_
  try simp only[Act.put,aS]
  refine wpAnyH_take (i:=3) (v:=.agg (iA s)) rfl (by kernel_rfl) (by kernel_rfl) (by kernel_rfl) (fun _ _ _ h=>h) (aU (by kernel_rfl) 306 (.tmp 6) rfl (w.heap.size+2) rfl 306 (iA s) (0,0) _ (fun w h=>h.z2) Tryz.underlying306 rfl hi2) (by assumption) ?_
  try simp only[Act.put,aS]
  refine wpAnyH_ready (rs:=[2,5]) (by kernel_rfl) (by simp) ?_
  refine AllReadyH.cons rfl (fun K hK=>?_) ?_
  ·go_simp
   go_at_call 200;refine(hT.out _ hHeld.hb).mono ?_;rintro e w2 ⟨rfl,hb2⟩;have hs2:=hb2.size
   refine hK.out _ _ ?_ (fun hHeld=>?_)
   ·(try dsimp only);exact hHeld.next hb2
   clear hK K
   try simp only[Act.put,aS]
   refine wpAnyH_ready (rs:=[4,5]) (by kernel_rfl) (by simp) ?_
   refine AllReadyH.cons rfl (fun K hK=>?_) ?_
   ·go_simp
    go_at_call 227;refine(hStep.out _).mono ?_;rintro e w3 ⟨rfl,hb3⟩;have hs3:=hb3.size
    refine hK.out _ _ ?_ (fun hHeld=>?_)
    ·(try dsimp only);exact hHeld.next hb3
    clear hK K
    try simp only[Act.put,aS]
    refine wpAnyH_ready (rs:=[5]) (by kernel_rfl) (by simp) ?_
    refine AllReadyH.cons rfl (fun K hK=>?_) AllReadyH.nil
    go_simp
    refine hK.out _ _ ?_ (fun hHeld=>?_)
    ·(try dsimp only);exact hHeld.next (ae _ _)
    clear hK K
    try simp only[Act.put,aS]
    have hqr:=L9 w3 (.cells #[(),(),(),(),(),(),(),(),(),(),(),(),(),(),(),()] 194)
    refine wpAnyH_ready (rs:=[6]) (by kernel_rfl) (by simp) ?_
    refine AllReadyH.cons rfl (fun K hK=>?_) AllReadyH.nil
    rw[if_pos (by kernel_rfl)]
    refine wp_store_row 194 (.tmp 9) (.tmp 14) rfl w3.heap.size (iA q) rfl rfl 194 #[(),(),(),(),(),(),(),(),(),(),(),(),(),(),(),()] hqr hqi hqz (bP _) ?_
    refine hK.out _ _ ?_ (fun hHeld=>?_)
    ·(try dsimp only);exact hHeld.set (by omega) _
    clear hK K
    try simp only[Act.put,aS]
    refine wpAnyH_done (by kernel_rfl) ?_ _
    refine NoPanic.normal ?_
    go_wp2_with fail
    go_meet
    exact⟨_,rfl,setRow_heap _ _ _ _ _ _ hqr,hHeld⟩
   refine AllReadyH.cons rfl (fun K hK=>?_) ?_
   ·go_simp
    refine hK.out _ _ ?_ (fun hHeld=>?_)
    ·(try dsimp only);exact hHeld.next (ae _ _)
    clear hK K
    try simp only[Act.put,aS]
    have hqr:=L9 w2 (.cells #[(),(),(),(),(),(),(),(),(),(),(),(),(),(),(),()] 194)
    refine wpAnyH_ready (rs:=[4]) (by kernel_rfl) (by simp) ?_
    refine AllReadyH.cons rfl (fun K hK=>?_) AllReadyH.nil
    go_simp
    go_at_call 227;refine(hStep.out _).mono ?_;rintro e w3 ⟨rfl,hb3⟩;have hs3:=hb3.size
    refine hK.out _ _ ?_ (fun hHeld=>?_)
    ·(try dsimp only);exact hHeld.next hb3
    clear hK K
    try simp only[Act.put,aS]
    have hqr:=rwB hqr hb3
    refine wpAnyH_ready (rs:=[6]) (by kernel_rfl) (by simp) ?_
    refine AllReadyH.cons rfl (fun K hK=>?_) AllReadyH.nil
    rw[if_pos (by kernel_rfl)]
    refine wp_store_row 194 (.tmp 9) (.tmp 14) rfl w2.heap.size (iA q) rfl rfl 194 #[(),(),(),(),(),(),(),(),(),(),(),(),(),(),(),()] hqr hqi hqz (bP _) ?_
    refine hK.out _ _ ?_ (fun hHeld=>?_)
    ·(try dsimp only);exact hHeld.set (by omega) _
    clear hK K
    try simp only[Act.put,aS]
    refine wpAnyH_done (by kernel_rfl) ?_ _
    refine NoPanic.normal ?_
    go_wp2_with fail
    go_meet
    exact⟨_,rfl,setRow_heap _ _ _ _ _ _ hqr,hHeld⟩
   exact AllReadyH.nil
  refine AllReadyH.cons rfl (fun K hK=>?_) ?_
  ·go_simp
   refine hK.out _ _ ?_ (fun hHeld=>?_)
   ·(try dsimp only);exact hHeld.next (ae _ _)
   clear hK K
   try simp only[Act.put,aS]
   have hqr:=L9 W.drew (.cells #[(),(),(),(),(),(),(),(),(),(),(),(),(),(),(),()] 194)
   refine wpAnyH_ready (rs:=[2]) (by kernel_rfl) (by simp) ?_
   refine AllReadyH.cons rfl (fun K hK=>?_) AllReadyH.nil
   go_simp
   go_at_call 200;refine(hT.out _ hHeld.hb).mono ?_;rintro e w2 ⟨rfl,hb2⟩;have hs2:=hb2.size
   refine hK.out _ _ ?_ (fun hHeld=>?_)
   ·(try dsimp only);exact hHeld.next hb2
   clear hK K
   try simp only[Act.put,aS]
   have hqr:=rwB hqr hb2
   refine wpAnyH_ready (rs:=[4]) (by kernel_rfl) (by simp) ?_
   refine AllReadyH.cons rfl (fun K hK=>?_) AllReadyH.nil
   go_simp
   go_at_call 227;refine(hStep.out _).mono ?_;rintro e w3 ⟨rfl,hb3⟩;have hs3:=hb3.size
   refine hK.out _ _ ?_ (fun hHeld=>?_)
   ·(try dsimp only);exact hHeld.next hb3
   clear hK K
   try simp only[Act.put,aS]
   have hqr:=rwB hqr hb3
   refine wpAnyH_ready (rs:=[6]) (by kernel_rfl) (by simp) ?_
   refine AllReadyH.cons rfl (fun K hK=>?_) AllReadyH.nil
   rw[if_pos (by kernel_rfl)]
   refine wp_store_row 194 (.tmp 9) (.tmp 14) rfl W.drew.heap.size (iA q) rfl rfl 194 #[(),(),(),(),(),(),(),(),(),(),(),(),(),(),(),()] hqr hqi hqz (bP _) ?_
   refine hK.out _ _ ?_ (fun hHeld=>?_)
   ·(try dsimp only);exact hHeld.set (by omega) _
   clear hK K
   try simp only[Act.put,aS]
   refine wpAnyH_done (by kernel_rfl) ?_ _
   refine NoPanic.normal ?_
   go_wp2_with fail
   go_meet
   exact⟨_,rfl,setRow_heap _ _ _ _ _ _ hqr,hHeld⟩
  exact AllReadyH.nil
 case rest=>
  obtain⟨wx,rfl⟩: ∃w',w'=wc:=⟨_,rfl⟩
  obtain⟨qb,rfl,hq,hS⟩:=hcut
  have hz3:wx.drew.heap[w.heap.size+3]? =_:=hS.z3
  have hne:qb≠w.heap.size+3:=fun e=>aF hq hS.z3 (by decide) e
  have hT0:ToT w g s q qb wx.drew:=⟨hS.z1,hS.z2,hq,hS.hb.drew,hne⟩
  clear hS hq
  go_upto_region 2 with fail
  refine wp_region_noPanic ?_
  refine wp_region_held_drew (S:=fun w'=>ToT w g s q qb w') (by kernel_rfl) ?_ (fun hHeld=>?_)
  ·exact hT0
  refine MG 1 ?_ ?_ (by assumption) ?_
  rotate_left
  ·(intro w hSw;(try dsimp only at hSw);go_simp;try with_reducible rfl)
  try simp only[Act.put,aS]
  refine wpAnyH_take (i:=0) (v:=.agg (iA g)) rfl (by kernel_rfl) (by kernel_rfl) (by kernel_rfl) (fun _ _ _ h=>h) (aU (by kernel_rfl) 191 (.tmp 5) rfl (w.heap.size+1) rfl 191 (iA g) (0,0) _ (fun w h=>h.z1) Tryz.underlying191 rfl hi1) (by assumption) ?_
  try simp only[Act.put,aS]
  refine wpAnyH_take (i:=2) (v:=.agg (iA s)) rfl (by kernel_rfl) (by kernel_rfl) (by kernel_rfl) (fun _ _ _ h=>h) (aU (by kernel_rfl) 306 (.tmp 6) rfl (w.heap.size+2) rfl 306 (iA s) (0,0) _ (fun w h=>h.z2) Tryz.underlying306 rfl hi2) (by assumption) ?_
  try simp only[Act.put,aS]
  refine wpAnyH_take (i:=3) (v:=.agg (iA q)) rfl (by kernel_rfl) (by kernel_rfl) (by kernel_rfl) (fun _ _ _ h=>h) (aU (by kernel_rfl) 194 (.tmp 9) rfl qb rfl 194 (iA q) (0,0) _ (fun w h=>h.q) Tryz.underlying194 rfl hqi) (by assumption) ?_
  try simp only[Act.put,aS]
  refine wpAnyH_take (i:=5) (v:=.agg (iA q)) rfl (by kernel_rfl) (by kernel_rfl) (by kernel_rfl) (fun _ _ _ h=>h) (aU (by kernel_rfl) 194 (.tmp 9) rfl qb rfl 194 (iA q) (0,0) _ (fun w h=>h.q) Tryz.underlying194 rfl hqi) (by assumption) ?_
  try simp only[Act.put,aS]
  refine wpAnyH_ready (rs:=[4]) (by kernel_rfl) (by simp) ?_
  refine AllReadyH.cons rfl (fun K hK=>?_) AllReadyH.nil
  go_simp
  go_at_call 228;refine(hWid.out _).mono ?_;rintro e w4 ⟨rfl,hb4⟩;have hz3:=rwB hz3 hb4
  refine hK.out _ _ ?_ (fun hHeld=>?_)
  ·(try dsimp only);exact hHeld.next hb4
  clear hK K
  try simp only[Act.put,aS]
  refine wpAnyH_take (i:=6) (v:=.agg (frC (g++s++kY q++q) (.slice ao n cap))) rfl (by kernel_rfl) (by kernel_rfl) (by kernel_rfl) (fun _ _ _ h=>h) (kD (by kernel_rfl) 196 _ rfl (frC (g++s++kY q++q) (.slice ao n cap)) (Eq.trans (b:=Tryz.prog.built 196 [(0,.agg (iA g)),(1,.slice ao n cap),(2,.agg (iA s)),(3,.agg (iA (kY q))),(4,.agg (iA q))]) (by kernel_rfl) hbu.out)) (by assumption) ?_
  try simp only[Act.put,aS]
  refine wpAnyH_ready (rs:=[7]) (by kernel_rfl) (by simp) ?_
  refine AllReadyH.cons rfl (fun K hK=>?_) AllReadyH.nil
  rw[if_pos (by kernel_rfl)]
  refine wp_store_row 196 (.tmp 8) (.tmp 21) rfl (w.heap.size+3) (frC (g++s++kY q++q) (.slice ao n cap)) rfl rfl 196 #[(),(),(),(),.slice none 0 0,(),(),(),(),(),(),(),(),(),(),(),(),(),(),(),(),(),(),(),(),(),(),(),()] hz3 hfi hfz hfo ?_
  refine hK.out _ _ ?_ (fun hHeld=>?_)
  ·(try dsimp only);exact hHeld.set _
  clear hK K
  try simp only[Act.put,aS]
  refine wpAnyH_done (by kernel_rfl) ?_ _
  refine NoPanic.normal ?_
  go_wp2_with fail
  exact bodyPost_ret (results_cell_row (fn:=Tryz.f201) rfl _ _ _ _ _ _ _ rfl (setRow_heap _ _ _ _ _ _ hz3) Tryz.underlying196 rfl hfi) rfl ⟨by rw[HTO.out],hHeld.hb⟩
def rgB(l:List Int):Bool:=l.all (fun v=>decide (-32768≤v∧v<32768))
theorem xZ(ao:Option Addr)(n cap:Nat)(zs:List Int)(w:World)(h:Ints .i64 w ao n zs):Calls Tryz.prog 128 #[.slice ao n cap] w (fun e w'=>e= .returned (.bool (rgB zs))∧w=w'):=by
 have hlm:=h.lim
 unfold maxLen at hlm
 have hno:Hid (∀k,k<n→¬(-32768≤zs.getD k 0∧zs.getD k 0<32768)→rgB zs=false):=fun k hk hn=>by
  unfold rgB
  refine List.all_eq_false.2 ⟨zs.getD k 0,?_,by simpa using hn⟩
  rw[show zs.getD k 0=zs[k]'(by rw[h.hlen];exact hk) by simp[List.getD,show k<zs.length by rw[h.hlen];exact hk]]
  exact List.getElem_mem _
 have hyes:Hid ((∀k,k<n→-32768≤zs.getD k 0∧zs.getD k 0<32768)→rgB zs=true):=fun hk=>by
  unfold rgB
  rw[List.all_eq_true]
  intro v hv
  obtain⟨i,hi,rfl⟩:=List.getElem_of_mem hv
  have:=hk i (by rw[←h.hlen];exact hi)
  rw[show zs.getD i 0=zs[i] by simp[List.getD,hi]] at this
  exact decide_eq_true this
 have HI:=MI h
 clear h
 generalize rgB zs=R at*
 go_enter Tryz.func128,Tryz.ntmps128
 go_upto_region 2 with fail
 go_loop [7] (fun v7=>∃j:Nat,j≤n∧v7= .int .i64 (j:Int)∧Hid (∀k,k<j→-32768≤zs.getD k 0∧zs.getD k 0<32768)) (fun v7=>n - aG v7)
 case atStart=>exact⟨0,by omega,rfl,fun k hk=>by omega⟩
 case round=>
  obtain⟨j,hj,rfl,hok⟩:=hrel
  by_cases hjn:j<n
  ·obtain⟨a,c,rfl,hc,hcell,-⟩:=HI.out.int hjn
   by_cases h1:c< -32768
   ·go_wp2_with fail
    go_ret
    exact⟨aN (hno.out j hjn (by rw[hc.out];omega)).symm,rfl⟩
   ·by_cases h2:32768≤c
    ·go_wp2_with fail
     go_ret
     exact⟨aN (hno.out j hjn (by rw[hc.out];omega)).symm,rfl⟩
    ·go_wp2_with fail
     go_round
     case rel=>exact⟨j+1,by omega,by go_num,fun k hk=>by
      by_cases e:k=j
      ·subst e;rw[hc.out];omega
      ·exact hok.out k (by omega)⟩
     case measure=>simp[aG];omega
  ·obtain rfl:j=n:=by omega
   go_wp2_with fail
   go_ret
   exact⟨aN (hyes.out hok.out).symm,rfl⟩
theorem hu2: ∃i2:TypeInfo,Tryz.prog.info? 2=some i2∧i2.zero=some (.int .i64 0)∧i2.size=1∧i2.bytes=8:=⟨_,rfl,rfl,rfl,rfl⟩
def jw(l z:List Int)(j:Nat):List Int:=l.take j++z.drop j
theorem uG(l z:List Int):jw l z 0=z:=rfl
theorem nX(l z:List Int)(j:Nat)(hj:j≤l.length)(hl:l.length≤z.length):(jw l z j).length=z.length:=by unfold jw;simp;omega
theorem qV(l z:List Int)(j:Nat)(hj:j<l.length)(hl:l.length≤z.length):(jw l z j).set j (l.getD j 0)=jw l z (j+1):=by
 unfold jw
 have h1:(l.take j).length=j:=by simp;omega
 rw[List.set_append_right _ _ (by omega),h1,Nat.sub_self,List.drop_eq_getElem_cons (show j<z.length by omega),List.set_cons_zero,fU l j hj,List.append_assoc]
 rfl
theorem qW(l z:List Int)(hl:l.length≤z.length):jw l z l.length=l++z.drop l.length:=by unfold jw;rw[List.take_length]
def WideP(n:Nat)(l:List Int)(w:World)(e:Ending)(w':World):Prop:=∃g,e= .returned (.slice (some ⟨g,0,none⟩) n n)∧w.heap.size≤g∧Blk .i64 w' g 2 l∧Below w.heap.size w w'
theorem Ib(ao:Option Addr)(n cap:Nat)(zs:List Int)(hn:n≤100000)(w:World)(h:Ints .i64 w ao n zs):Calls Tryz.prog 129 #[.slice ao n cap] w (WideP n zs w):=by
 obtain⟨i2,hu1,hu2',hu3,hu4⟩:=hu2
 have HI:=MI h
 have HL:=MI h.hlen
 clear h
 go_enter Tryz.func129,Tryz.ntmps129
 go_upto_region 3 with(at_make;refine wpList_make_full _ rfl _ _ 68 rfl w.heap.size 2 _ _ _ Tryz.underlying68 hu1 hu2' hu3 _ _ _ _ n rfl rfl rfl rfl (by rw[hu4];omega) (by unfold maxLen;omega) Me ?_;intro w3 hown hgrow)
 have hb3:Below w.heap.size w w3:=((af.refl (fun _=>False) w).grown hgrow (fun k hk=>by cases hk)).bg Me (fun _ _ e=>e.elim)
 have hB3:=MI (uA hown)
 have HB:=MI hb3
 clear hgrow hown hb3
 go_loopw [11] (fun v11 wr=>∃j:Nat,j≤n∧v11= .int .i64 (j:Int)∧Blk .i64 wr w.heap.size 2 (jw zs (List.replicate n 0) j)∧Below w.heap.size w wr) (fun v11 _=>n - aG v11)
 case atStart=>exact⟨0,by omega,rfl,by rw[uG];exact hB3.out,HB.out⟩
 case round=>
  clear hB3 HB
  obtain⟨j,hj,rfl,hB,hb⟩:=hrel
  by_cases hjn:j<n
  ·obtain⟨a,c,rfl,hc,hcell,-⟩:=(HI.out.ah hb).int hjn
   have hl:=nX zs (List.replicate n 0) j (by rw[HL.out];omega) (by rw[HL.out];simp)
   have hcb:=hB.cell (i:=j) (by rw[hl];simpa using hjn)
   have hfb:=hB.frozen j
   have hset:=hB.set j (zs.getD j 0)
   rw[qV zs _ j (by rw[HL.out];exact hjn) (by rw[HL.out];simp),hc.out] at hset
   have HS:=MI hset
   have Hb:=MI hb
   clear hB hb hset hl hc
   go_wp2_with fail
   exact⟨⟨j+1,by omega,by go_num,HS.out,Hb.out.setCell (p:=⟨w.heap.size,j,none⟩) Me _⟩,by simp[aG];omega⟩
  ·obtain rfl:j=n:=by omega
   have hE:Blk .i64 wr w.heap.size 2 zs:=by
    have h1:=qW zs (List.replicate j 0) (by rw[HL.out];simp)
    rw[HL.out,List.drop_of_length_le (by simp),List.append_nil] at h1
    rw[←h1];exact hB
   have HE:=MI hE
   have Hb:=MI hb
   clear hB hb hE
   go_wp2_with fail
   go_ret
   exact⟨_,rfl,Me,HE.out,Hb.out⟩
theorem hu194: ∃i2:TypeInfo,Tryz.prog.info? 194=some i2∧i2.zero=some (.agg #[(),(),(),(),(),(),(),(),(),(),(),(),(),(),(),()])∧i2.size=16∧i2.bytes=128:=⟨_,rfl,rfl,rfl,rfl⟩
theorem zQ{w:World}{base g n e:Nat}{size:Nat}{cs:Array Value}(hs:cs.size=size)(h0:0<size)(hz: ∀i,i<cs.size→cs[i]? =some (.int .i64 0))(h:w.ownsRow base e size (.slice (some ⟨g,0,none⟩) n n) n (madeCells (Value.agg cs).cells (n*size)).toList):Blk .i64 w g e (List.replicate (n*size) 0):=by
 have h2:=zG h
 have h3:(Value.agg cs).cells=cs:=rfl
 rw[h3,zS cs (.int .i64 0) (by omega) hz] at h2
 unfold Blk
 rw[List.map_replicate]
 exact h2
def jS(l:List Int):List Int:=jw l (List.replicate (bu l.length*16) 0) l.length
theorem DC(n:Nat):n≤bu n*16:=by unfold bu;omega
theorem Jr(l:List Int):(jS l).length=bu l.length*16:=by
 have:=DC l.length
 unfold jS
 rw[nX _ _ _ Me (by simp;omega)]
 simp
theorem padL_wf{l:List Int}(h: ∀z ∈ l,(Lit.int .i64 z).wf=true): ∀z ∈ jS l,(Lit.int .i64 z).wf=true:=by
 intro z hz
 have:=DC l.length
 unfold jS at hz
 rw[qW _ _ (by simp;omega)] at hz
 rcases List.mem_append.1 hz with h1 | h1
 ·exact h z h1
 ·have h2:=List.mem_of_mem_drop h1
  rw[List.eq_of_mem_replicate h2];rfl
def BlsP(z:List Int)(c T:Nat)(w:World)(e:Ending)(w':World):Prop:=∃g,e= .returned (.slice (some ⟨g,0,none⟩) c c)∧w.heap.size≤g∧Blk .i64 w' g T z∧Below w.heap.size w w'
theorem vk(ao:Option Addr)(n cap:Nat)(zs:List Int)(hn:n≤100000)(w:World)(h:Ints .i64 w ao n zs):Calls Tryz.prog 160 #[.slice ao n cap] w (BlsP (jS zs) (bu n) 194 w):=by
 obtain⟨i2,hu1,hu2',hu3,hu4⟩:=hu194
 have HI:=MI h
 have HL:=MI h.hlen
 have hC:=MI (fun W=>count_any n (by omega) W)
 have hcg:=DC n
 have hcl:bu n≤100000:=by unfold bu;omega
 have HP:Hid (jS zs=jw zs (List.replicate (bu n*16) 0) n):=by unfold Hid jS;rw[h.hlen]
 clear h
 generalize bu n=c at*
 go_enter Tryz.func160,Tryz.ntmps160
 go_upto_region 3 with(first
  | (go_at_call 121;refine(hC.out _).mono ?_;rintro e w' ⟨rfl,hw⟩;obtain rfl:=hw.symm)
  | (at_make;refine wpList_make_full _ rfl _ _ 237 rfl w.heap.size 194 _ _ _ Tryz.underlying237 hu1 hu2' hu3 _ _ _ _ c rfl rfl rfl rfl (by rw[hu4];omega) (by unfold maxLen;omega) Me ?_;intro w3 hown hgrow))
 have hb3:Below w.heap.size w w3:=((af.refl (fun _=>False) w).grown hgrow (fun k hk=>by cases hk)).bg Me (fun _ _ e=>e.elim)
 have hB3:=MI (zQ rfl (by decide) (fun i hi=>by
  have hi2:i<16:=hi
  rcases i with _ | _ | _ | _ | _ | _ | _ | _ | _ | _ | _ | _ | _ | _ | _ | _ | i<;>first | rfl | omega) hown)
 have HB:=MI hb3
 clear hgrow hown hb3
 go_loopw [12] (fun v12 wr=>∃j:Nat,j≤n∧v12= .int .i64 (j:Int)∧Blk .i64 wr w.heap.size 194 (jw zs (List.replicate (c*16) 0) j)∧Below w.heap.size w wr) (fun v12 _=>n - aG v12)
 case atStart=>exact⟨0,by omega,rfl,by rw[uG];exact hB3.out,HB.out⟩
 case round=>
  clear hB3 HB
  obtain⟨j,hj,rfl,hB,hb⟩:=hrel
  by_cases hjn:j<n
  ·obtain⟨a,x,rfl,hc,hcell,-⟩:=(HI.out.ah hb).int hjn
   have hl:=nX zs (List.replicate (c*16) 0) j (by rw[HL.out];omega) (by rw[HL.out];simp;omega)
   have hcb:=hB.cell (i:=j) (by rw[hl];simp;omega)
   have hfb:=hB.frozen j
   have hset:=hB.set j (zs.getD j 0)
   rw[qV zs _ j (by rw[HL.out];exact hjn) (by rw[HL.out];simp;omega),hc.out] at hset
   have HS:=MI hset
   have Hb:=MI hb
   have hdm:j/16*16+j%16=j:=by omega
   have hd1:j/16<c:=by omega
   have hd2:j%16<16:=Nat.mod_lt _ (by decide)
   have htm:(j:Int).tmod 16=((j%16:Nat):Int):=rfl
   obtain⟨ov,hov⟩: ∃ov,wr.cell? ⟨w.heap.size,j,none⟩=some ov:=⟨_,hcb⟩
   have hcb2:wr.cell? ⟨w.heap.size,j/16*16+j%16,none⟩=some ov:=by rw[hdm];exact hov
   have hfb2:wr.frozen? ⟨w.heap.size,j/16*16+j%16,none⟩=false:=by rw[hdm];exact hfb
   clear hB hb hset hl hc hcb hfb hov
   have HDM:=MI hdm
   clear hdm
   generalize hr:j%16=r at*
   clear hr
   go_wp2_with fail
   trace_state
   exact⟨⟨j+1,by omega,by go_num,by rw[HDM.out];exact HS.out,by rw[HDM.out];exact Hb.out.setCell (p:=⟨w.heap.size,j,none⟩) Me _⟩,by simp[aG];omega⟩
  ·obtain rfl:j=n:=by omega
   have hE:Blk .i64 wr w.heap.size 194 (jS zs):=by rw[HP.out];exact hB
   have HE:=MI hE
   have Hb:=MI hb
   clear hB hb hE
   go_wp2_with fail
   go_ret
   exact⟨_,rfl,Me,HE.out,Hb.out⟩
theorem atZ_bd(g:List Int)(i:Nat)(hg:g.length=4)(hi:i<16):0≤atZ g i∧atZ g i≤3:=by
 unfold atZ
 split
 ·rename_i h
  exact uJ h (i/4) (by omega)
 ·omega
def upL(b g:List Int):List Int:=(List.range 16).map (fun i=>wrap64 (b.getD i 0*2^(atZ g i).toNat))
theorem ji(b g:List Int):(upL b g).length=16:=by simp[upL]
theorem DZ(b g:List Int)(i:Nat)(h:i<16):(upL b g).getD i 0=wrap64 (b.getD i 0*2^(atZ g i).toNat):=by simp[upL,List.getD,h]
theorem upL_wf(b g:List Int): ∀z ∈ upL b g,(Lit.int .i64 z).wf=true:=fun z hz=>by
 unfold upL at hz
 obtain⟨i,_,rfl⟩:=List.mem_map.1 hz
 exact wrap64_wf _
theorem EW(b g:List Int)(hb:b.length=16)(hg:g.length=4)(w:World):Calls Tryz.prog 162 #[.agg (iA b),.agg (iA g)] w (fun e w'=>e= .returned (.agg (iA (upL b g)))∧Below w.heap.size w w'):=by
 have hb0:=ae w (.cells (iA b) 194)
 have hz0:=L9 w (.cells (iA b) 194)
 have hb1:=ae (w.alloc (.cells (iA b) 194)) (.cells (iA g) 191)
 have hz1:=L9 (w.alloc (.cells (iA b) 194)) (.cells (iA g) 191)
 have hb2:=ae ((w.alloc (.cells (iA b) 194)).alloc (.cells (iA g) 191)) (.cells #[(),(),(),(),(),(),(),(),(),(),(),(),(),(),(),()] 194)
 have hz2:=L9 ((w.alloc (.cells (iA b) 194)).alloc (.cells (iA g) 191)) (.cells #[(),(),(),(),(),(),(),(),(),(),(),(),(),(),(),()] 194)
 have hz1:=rwB hz1 hb2
 have hz0:=rwB (rwB hz0 hb1) hb2
 have hB:=(hb0.trans (hb1.mono hb0.size)).trans (hb2.mono (hb0.trans (hb1.mono hb0.size)).size)
 simp only[World.size_alloc] at hz1 hz2
 clear hb0 hb1 hb2
 have HG:=MI (fun i hi W=>yF g hg i hi W)
 have HAT:=MI (fun i hi=>atZ_bd g i hg hi)
 have HM:=MI (fun j (hj:j<16)=>qV (upL b g) b j (by rw[ji];exact hj) (by rw[ji,hb];exact Nat.le_refl _))
 have HL:=MI (fun j (hj:j≤16)=>(nX (upL b g) b j (by rw[ji];exact hj) (by rw[ji,hb];exact Nat.le_refl _)).trans hb)
 have HGT:=MI (fun j (hj:j<16)=>show(jw (upL b g) b j).getD j 0=b.getD j 0 by
  unfold jw
  rw[List.getD_eq_getElem?_getD,List.getElem?_append_right (by rw[List.length_take];exact Nat.min_le_left _ _),List.getD_eq_getElem?_getD]
  simp[ji,List.getElem?_drop,show min j 16=j by omega])
 have HX:=MI (fun i hi=>DZ b g i hi)
 have HA:Hid (jw (upL b g) b 16=upL b g):=by
  have:=qW (upL b g) b (by rw[ji,hb];exact Nat.le_refl _)
  rw[ji,List.drop_of_length_le (by omega),List.append_nil] at this
  exact this
 have HUL:=MI (ji b g)
 have HB:=MI hB
 have HZ0:=MI hz0
 have HZ1:=MI hz1
 have HZ2:=MI hz2
 obtain⟨g0,g1,g2,g3,rfl⟩:=mV hg
 clear hz0 hz1 hz2 hB hb hg
 go_enter Tryz.func162,Tryz.ntmps162
 go_upto_region 2 with fail
 generalize ((w.alloc (.cells (iA b) 194)).alloc (.cells (iA [g0,g1,g2,g3]) 191)).alloc (.cells #[(),(),(),(),(),(),(),(),(),(),(),(),(),(),(),()] 194)=W at*
 generalize hU:upL b [g0,g1,g2,g3]=U at*
 have HU:=MI hU
 clear hU
 go_loopw [6] (fun v6 wr=>∃j:Nat,j≤16∧v6= .int .i64 (j:Int)∧wr.heap[w.heap.size]? =some (.cells (iA (jw U b j)) 194 (0,0))∧wr.heap[w.heap.size+1]? =some (.cells (iA [g0,g1,g2,g3]) 191 (0,0))∧wr.heap[w.heap.size+1+1]? =some (.cells #[(),(),(),(),(),(),(),(),(),(),(),(),(),(),(),()] 194 (0,0))∧Below w.heap.size w wr) (fun v6 _=>16 - aG v6)
 case atStart=>exact⟨0,by omega,rfl,HZ0.out,HZ1.out,HZ2.out,HB.out⟩
 case round=>
  clear HZ0 HZ1 HZ2 HB
  obtain⟨j,hj,rfl,h0,h1,h2,hB⟩:=hrel
  by_cases hj16:j<16
  ·have hx:=HX.out j hj16
   have hcb:=aH (k:=j) h0 (by rw[HL.out j hj];exact hj16)
   rw[HGT.out j hj16] at hcb
   have hfb:=aj h0 j
   have hset: ∀(W1:World),W1.heap[w.heap.size]? =some (.cells (iA (jw U b j)) 194 (0,0))→(W1.setCell ⟨w.heap.size,j,none⟩ (.int .i64 (wrap64 (b.getD j 0*2^(atZ [g0,g1,g2,g3] j).toNat)))).heap[w.heap.size]? =some (.cells (iA (jw U b (j+1))) 194 (0,0)):=fun W1 h=>by
    have h5:=bJ h j (U.getD j 0)
    rw[HM.out j hj16,hx] at h5
    exact h5
   have h1e:wr.heap[w.heap.size+1]? =some (.cells #[.int .i64 g0,.int .i64 g1,.int .i64 g2,.int .i64 g3] 191 (0,0)):=h1
   obtain⟨d0,d1,d2,d3⟩:=bi h1e
   have hat:=HAT.out j hj16
   have hgt:=MI (fun W=>HG.out j hj16 W)
   obtain⟨k,hk⟩: ∃k:Nat,atZ [g0,g1,g2,g3] j=(k:Int):=⟨(atZ [g0,g1,g2,g3] j).toNat,by omega⟩
   rw[hk] at hgt hset hat
   rw[Int.toNat_natCast] at hset
   have hmk:min k 64=k:=by omega
   have HS:=MI hset
   have H0:=MI h0
   have H1:=MI h1
   have H2:=MI h2
   have HB:=MI hB
   have hlt:=L8 h0
   clear hset hx hk h0 h1 h2 hB h1e hat
   generalize b.getD j 0=x at*
   go_upto_region 4 with fail
   go_region_law (go_simp;go_at_call 192;refine(hgt.out _).mono ?_;rintro e w2 ⟨rfl,hb2⟩;have hcb2:=(hb2.cell (p:=⟨w.heap.size,j,none⟩) (by exact hlt)).trans hcb;have hz2:=rwB (w:=wr.drew) H0.out hb2;have hfb2:=aj hz2 j)
   all_goals go_wp2_with fail
   all_goals refine⟨⟨j+1,by omega,by go_num,HS.out _ hz2,(heap_setCell_other _ _ _ _ (by show w.heap.size+1≠w.heap.size;omega)).trans (rwB (w:=wr.drew) H1.out hb2),(heap_setCell_other _ _ _ _ (by show w.heap.size+1+1≠w.heap.size;omega)).trans (rwB (w:=wr.drew) H2.out hb2),(HB.out.drew.trans (hb2.mono HB.out.size)).setCell (p:=⟨w.heap.size,j,none⟩) Me _⟩,by simp[aG];omega⟩
  ·obtain rfl:j=16:=by omega
   rw[HA.out] at h0
   have hi2:(Tryz.prog.info? 194).map (·.size)=some (iA U).size:=by rw[az,HUL.out];kernel_rfl
   have hsz:(#[(),(),(),(),(),(),(),(),(),(),(),(),(),(),(),()]:Array Value).size=(iA U).size:=by rw[az,HUL.out];rfl
   go_wp2_with (first | ((with_reducible refine MC 194 2 ?_);refine wpList_load_row rfl 194 (.tmp 2) rfl w.heap.size rfl 194 (iA U) (0,0) _ h0 Tryz.underlying194 rfl hi2 ?_) | ((with_reducible refine MF 194 4 18 ?_);refine wpList_store_row rfl 194 (.tmp 4) (.tmp 18) rfl _ (iA U) rfl rfl 194 (#[(),(),(),(),(),(),(),(),(),(),(),(),(),(),(),()]) h2 hi2 hsz (bP _) ?_))
   exact bodyPost_ret (results_cell_row (fn:=Tryz.f162) rfl _ _ _ _ _ _ _ rfl (setRow_heap _ _ _ _ _ _ h2) Tryz.underlying194 rfl hi2) rfl ⟨by rw[HU.out],below_setRow hB (by omega) _⟩
end Go.Proofs.YtnicjahcgnhogaaGreatDoor
