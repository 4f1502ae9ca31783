/- Part 25 of the walk: contracts of the program's functions, each for every input. No condition. -/
import Derived.Test.YtnicjahcgnhogaaGreatDoorU23
import Derived.Test.YtnicjahcgnhogaaGreatDoorU20
set_option linter.unusedVariables false
set_option linter.unusedSimpArgs false
set_option maxRecDepth 100000
set_option maxHeartbeats 8000000
namespace Go.Proofs.YtnicjahcgnhogaaGreatDoor
open Go Go.RowKit Go.Calli
attribute [local irreducible] wpStill wpAnyH wpAnyS wpList Code.wp
def frB(z:List Int)(ts:List (Int×Int))(size:Nat):List Int:=(frW z ts).bs++List.replicate (size - (frW z ts).bs.length) 0
def B9P(z:List Int)(ts:List (Int×Int))(size:Nat)(w:World)(e:Ending)(w':World):Prop:=∃(ao:Option Addr)(m c:Nat)(err:Int),e= .returned (.tuple #[.slice ao m c,.int .i64 err])∧Below w.heap.size w w'∧(err=0→m=size∧(frB z ts size).length=size∧∃g,ao=some ⟨g,0,none⟩∧w.heap.size≤g∧w'.ownsRow w.heap.size 5 1 (.slice (some ⟨g,0,none⟩) size c) size ((frB z ts size).map (.int .u8)))∧(fQ z ts=true→(frW z ts).bs.length≤size→err=0)
theorem fb_of{z:List Int}{ts:List (Int×Int)}{size:Nat}(hs:size≤96){w:World}{e:Ending}{w':World}(h:FbP z ts size w e w'):B9P z ts size w e w':=by
 obtain⟨hb,h | ⟨h1,h | ⟨h2,g,h3,h4,h5⟩⟩⟩:=h
 ·exact⟨none,0,0,4,h.2,hb,(fun e=>by cases e),(fun h1=>by rw[h.1] at h1;cases h1)⟩
 ·exact⟨none,0,0,3,h.2,hb,(fun e=>by cases e),(fun _ h2=>aa)⟩
 ·refine⟨_,size,size,0,h3,hb,fun _=>⟨rfl,?_,g,rfl,h4,?_⟩,fun _ _=>rfl⟩
  ·unfold frB;simp;omega
  ·have hl:(frB z ts size).length=size:=by unfold frB;simp;omega
   have hL:((frB z ts size).map (Value.int .u8)).length=size:=by rw[List.length_map];exact hl
   refine⟨by rw[hL];omega,.inr ⟨g,size,_,rfl,h4,h5,Me,aE,?_,?_⟩⟩
   ·rw[List.size_toArray];exact hL.trans (Nat.mul_one _).symm
   ·exact List.take_of_length_le (Nat.le_of_eq (hL.trans (Nat.mul_one _).symm))
theorem C9(cb size:Nat)(B3:0<size)(hs:size≤96)(gb:Nat)(z:List Int)(hz:z.length=28)(ao:Option Addr)(n cap:Nat)(ts:List (Int×Int))(w:World)(hC:mF w cb (size:Int))(A0:w.heap[gb]? =some (.cells (frC z (.slice ao n cap)) 196 (0,0)))(hT:bP eY 2 (0,0) w ao n ts):Calls Tryz.prog 94 #[.pointer (some ⟨cb,0,none⟩),.slice (some ⟨gb,0,none⟩) 1 1] w (B9P z ts size w):=by
 have HC:=MI hC
 have HR:=MI A0
 have HT:=MI hT
 have A1:=kw z (.slice ao n cap) hz
 have B4:(#[(),(),(),(),.slice none 0 0,(),(),(),(),(),(),(),(),(),(),(),(),(),(),(),(),(),(),(),(),(),(),(),()]:Array Value).size=(frC z (.slice ao n cap)).size:=by rw[bM _ _ hz];rfl
 have B5:=dH z ao n cap
 have B6:=MI (fun W h=>(EK z hz ao n cap ts size hs W h).mono (fun e w' h=>fb_of hs h))
 clear hC A0 hT
 go_enter Tryz.func94,Tryz.ntmps94
 go_upto_region 5 with fail
 go_loopw [6,15] (fun v6 v15 wr=>Below w.heap.size w wr∧((v15= .int .i64 0∧v6= .slice none 0 0)∨(v15= .int .i64 1∧fQ z ts=fQ z ts∧(frB z ts size).length=size∧∃g c,v6= .slice (some ⟨g,0,none⟩) size c∧w.heap.size≤g∧wr.ownsRow w.heap.size 5 1 v6 size ((frB z ts size).map (.int .u8))))) (fun _ v15 _=>1 - aC v15)
 case atStart=>exact⟨Below.refl _ _,.inl ⟨rfl,rfl⟩⟩
 case round=>
  obtain⟨hb,⟨rfl,rfl⟩ | ⟨rfl,-,J,g,c,rfl,hg,hO⟩⟩:=hrel
  ·have hr:=rwB HR.out (show Below w.heap.size w wr from hb)
   have HB:=MI hb
   clear hb
   go_upto_region 7 with(first
    | ((with_reducible refine MC 196 17 ?_);refine wpList_load_row rfl 196 (.tmp 17) rfl gb rfl 196 (frC z (.slice ao n cap)) (0,0) _ hr Tryz.underlying196 rfl A1 ?_)
    | ((with_reducible refine MF 196 8 18 ?_);refine wpList_store_row rfl 196 (.tmp 8) (.tmp 18) rfl _ (frC z (.slice ao n cap)) rfl rfl 196 (#[(),(),(),(),.slice none 0 0,(),(),(),(),(),(),(),(),(),(),(),(),(),(),(),(),(),(),(),(),(),(),(),()]) (L9 _ _) A1 B4 B5 ?_))
   have A5:Below wr.heap.size wr ((wr.alloc (.cells #[(),(),(),(),.slice none 0 0,(),(),(),(),(),(),(),(),(),(),(),(),(),(),(),(),(),(),(),(),(),(),(),()] 196)).setRow wr.heap.size (frC z (.slice ao n cap))):=below_setRow (ae wr (.cells #[(),(),(),(),.slice none 0 0,(),(),(),(),(),(),(),(),(),(),(),(),(),(),(),(),(),(),(),(),(),(),(),()] 196)) Me _
   have A6:=Md (frC z (.slice ao n cap)) (L9 wr (.cells #[(),(),(),(),.slice none 0 0,(),(),(),(),(),(),(),(),(),(),(),(),(),(),(),(),(),(),(),(),(),(),(),()] 196))
   have R:=HB.out.trans (A5.mono HB.out.size)
   clear hr A5
   generalize (wr.alloc (.cells #[(),(),(),(),.slice none 0 0,(),(),(),(),(),(),(),(),(),(),(),(),(),(),(),(),(),(),(),(),(),(),(),()] 196)).setRow wr.heap.size (frC z (.slice ao n cap))=X at*
   generalize wr.heap.size=xb at*
   have A7:=(HC.out.aj R).size
   have A8:=MI R
   have B7:=MI (B6.out X.drew (HT.out.aj R.drew))
   clear R HB
   refine wp_region_noPanic ?_
   refine wp_region_held_drew (S:=fun w'=>w'.heap[xb]? =some (.cells (frC z (.slice ao n cap)) 196 (0,0))∧w'.cell? ⟨cb,32,none⟩=some (.int .i64 (size:Int))) af ?_ (fun I=>?_)
   ·exact⟨A6,A7⟩
   refine ba 1 ?_
   try simp only[Act.put,aS]
   refine ba 2 ?_
   try simp only[Act.put,aS]
   refine ba 3 ?_
   try simp only[Act.put,aS]
   refine ba 4 ?_
   try simp only[Act.put,aS]
   refine wpAnyH_take (i:=0) (v:=.agg (frC z (.slice ao n cap))) rfl af af af (fun _ _ _ h=>h) (aZ af 196 (.tmp 8) rfl xb rfl 196 (frC z (.slice ao n cap)) (0,0) _ (fun w h=>h.1) Tryz.underlying196 rfl A1) aw ?_
   try simp only[Act.put,aS]
   refine bj 5 (fun K hK=>?_)
   go_simp
   go_at_call 133;refine B7.out.mono ?_;rintro e w4 ⟨bo,bm,bc,err,rfl,U,A9,B8⟩
   refine hK.out _ _ ?_ (fun I=>?_)
   ·(try dsimp only);exact⟨rwB I.1 U,(U.cell (World.block_lt_of_cell? _ _ I.2)).trans I.2⟩
   clear hK K
   try simp only[Act.put,aS]
   refine ba 6 ?_
   try simp only[Act.put,aS]
   refine ba 7 ?_
   try simp only[Act.put,aS]
   refine ba 8 ?_
   try simp only[Act.put,aS]
   refine ba 9 ?_
   try simp only[Act.put,aS]
   refine ba 10 ?_
   try simp only[Act.put,aS]
   refine wpAnyH_done af ?_ _
   refine NoPanic.normal ?_
   have B9:=A8.out.size
   have A2:Below w.heap.size w w4:=A8.out.trans ((((Below.refl _ X).drew).trans U).mono B9)
   have A3:=MI A2
   clear A2 U I A6 A7
   by_cases he:err=0
   case neg=>
    have C3:(err !=0)=true:=by simpa using he
    go_wp2_with fail
    go_ret2
    exact⟨none,0,0,err,rfl,A3.out,(fun h=>absurd h he),B8⟩
   subst he
   obtain⟨rfl,J,g4,rfl,C0,B0⟩:=A9 rfl
   have C1:((frB z ts bm).map (Value.int .u8)).length=bm*1:=by rw[List.length_map,J,Nat.mul_one]
   have A4: ∀j u,((frB z ts bm).map (Value.int .u8))[j]? =some u→w4.cell? ((⟨g4,0,none⟩:Addr).add j)=some u:=fun j u hu=>B0.cells (g:=g4) rfl j u hu
   have B2:w4.ownsRow w.heap.size 5 1 (.slice none 0 0) 0 []:=World.ownsRow_nil _ _ _ _
   have B1:=A3.out.size
   clear B0 A9 C0
   go_wp2_with (at_builtin;refine dU rfl (.tmp 31) (.tmp 32) 63 5 1 rfl Tryz.underlying63 info5 rfl aq w.heap.size _ 0 [] rfl B2 ⟨g4,0,none⟩ bm bc ((frB z ts bm).map (Value.int .u8)) C1 rfl A4 (lD _ _) aa aE B1 ?_;intro v6 w6 o C2;rw[List.nil_append,Nat.zero_add] at o;obtain⟨g6,c6,rfl⟩:=lC o B3)
   exact⟨⟨A3.out.trans (C2.aW B1 (fun k hk e=>by cases e)),.inr ⟨rfl,trivial,J,g6,c6,rfl,jH o rfl,o⟩⟩,by simp[aC]⟩
  ·have HB:=MI hb
   have HO:=MI hO
   clear hb hO
   go_wp2_with fail
   go_ret2
   exact⟨_,size,c,0,rfl,HB.out,(fun _=>⟨rfl,J,g,rfl,hg,HO.out⟩),(fun _ _=>rfl)⟩
def uf(zs:List Int)(m:Mt)(l:List Int)(size:Nat):List Int:=kH (aT zs m.first (frB (exF l).z [] size)) m.sums 4 (gm (frB (exF l).z [] size)).toNat 4
structure sZ(m:Mt)(l:List Int)(size:Nat):Prop where
 ch:m.ch=1
 ex:jW l.length l (size:Int)
 rt:fQ (exF l).z []=true
 ln:(frW (exF l).z []).bs.length≤size
 b8:W8 (frB (exF l).z [] size)
structure LyS(w0 w:World)(ib cb size:Nat)(m:Mt)(s:Sr)(L:Nat)(zs:List Int)(wr:World):Prop where
 im:Blk .u8 wr ib 5 zs
 len:zs.length=L
 w8:W8 zs
 mt:wr.heap[w.heap.size]? =some (.cells (aF m) 54 (0,0))
 sr:wr.heap[w.heap.size+1]? =some (.cells (srA s) 76 (0,0))
 cd:mF wr cb (size:Int)
 k:ag (fun k=>k=ib) w wr
 b0:Below w0.heap.size w0 wr
theorem LyS.next{w0 w:World}{ib cb size:Nat}{m:Mt}{s:Sr}{L:Nat}{zs:List Int}{w1 w2:World}(h:LyS w0 w ib cb size m s L zs w1)(hb:Below w1.heap.size w1 w2):LyS w0 w ib cb size m s L zs w2:=
 ⟨h.im.aj hb,h.len,h.w8,rwB h.mt hb,rwB h.sr hb,h.cd.aj hb,h.k.below hb h.k.size,h.b0.trans (hb.mono h.b0.size)⟩
theorem LyS.put{w0 w:World}{ib cb size:Nat}{m:Mt}{s:Sr}{L:Nat}{zs zs2:List Int}{w1 w2:World}(h:LyS w0 w ib cb size m s L zs w1)(hB:Blk .u8 w2 ib 5 zs2)(hl:zs2.length=L)(h8:W8 zs2)(hk:ag (fun k=>k=ib) w1 w2)(hi:w0.heap.size≤ib):LyS w0 w ib cb size m s L zs2 w2:=
 ⟨hB,hl,h8,hk.heap h.mt (fun e=>aI h.mt h.im aq e),hk.heap h.sr (fun e=>aI h.sr h.im aq e),⟨hk.heap h.cd.row (fun e=>aI h.cd.row h.im aq e)⟩,h.k.trans hk,h.b0.trans (hk.aW h.b0.size (fun k I e=>by have e2:k=ib:=e;omega))⟩
theorem EH:(Tryz.prog.info? 76).map (fun i=>(i.zero,i.size,i.bytes))=some (some (.agg #[.string ⟨#[]⟩,(),.bool false,(),(),.slice none 0 0]),6,72):=af
def Pg(n:Nat)(rows:List Value)(w:World)(e:Ending)(w':World):Prop:=∃g cap,e= .returned (.slice (some ⟨g,0,none⟩) n cap)∧w'.ownsRow w.heap.size 76 6 (.slice (some ⟨g,0,none⟩) n cap) n rows∧Below w.heap.size w w'
theorem CY(b cap n:Nat)(o:0<n)(hn:n≤1000)(rows:List Value)(hl:rows.length=n*6)(h1: ∀v ∈ rows,v.oneCell'=true)(w:World)(h: ∀j u,rows[j]? =some u→w.cell? ((⟨b,0,none⟩:Addr).add j)=some u):Calls Tryz.prog 89 #[.slice (some ⟨b,0,none⟩) n cap] w (Pg n rows w):=by
 have H:=MI h
 have heq: ∀W,(binOp .eql 22 (.slice (some ⟨b,0,none⟩) n cap) (.slice none 0 0)).run Tryz.prog W= .ok (.bool false) W:=fun W=>Lib.run_eql_slice_nil W 22 76 _ _ _ _ _ Tryz.underlying22
 clear h
 go_enter Tryz.func89,Tryz.ntmps89
 go_upto_region 3 with fail
 have I:=ae w (.cells #[] 76)
 have A0:(w.alloc (.cells #[] 76)).ownsRow w.heap.size 76 6 (.slice (some ⟨w.heap.size,0,none⟩) 0 0) 0 []:=⟨rfl,.inr ⟨w.heap.size,0,#[],rfl,Me,L9 _ _,Me,aE,rfl,rfl⟩⟩
 have R: ∀j u,rows[j]? =some u→(w.alloc (.cells #[] 76)).cell? ((⟨b,0,none⟩:Addr).add j)=some u:=fun j u hu=>(I.cell (World.block_lt_of_cell? w _ (H.out j u hu))).trans (H.out j u hu)
 have U:=I.size
 go_wp2_with (at_builtin;refine dU rfl (.tmp 5) (.tmp 6) 22 76 6 rfl Tryz.underlying22 EH rfl aq w.heap.size _ 0 [] rfl A0 ⟨b,0,none⟩ n cap rows hl rfl R h1 aa aE U ?_;intro v7 w2 J A1;rw[List.nil_append,Nat.zero_add] at J;obtain⟨g2,c2,rfl⟩:=lC J o)
 go_ret
 exact⟨g2,c2,rfl,J,I.trans (A1.aW U (fun k hk e=>by have e2:some w.heap.size=some k:=e;injection e2 with e3;omega))⟩
def kR(s:Sr):Prop:=ku s.nl=true∧(1≤s.rate∧s.rate≤192000)∧((1≤s.cs.length∧s.cs.length≤2)∧1≤gQ s∧gQ s≤1048576)∧oG s.loop s.ls s.le (gQ s)=true∧(∀k,k<s.cs.length→(s.cs.getD k []).length=gQ s)∧(∀k,k<s.cs.length→∀j,j<gQ s→-32768≤(s.cs.getD k []).getD j 0∧(s.cs.getD k []).getD j 0<32768)
def ChkP(s:Sr)(w:World)(e:Ending)(w':World):Prop:=∃err:Int,e= .returned (.int .i64 err)∧Below w.heap.size w w'∧(err=0↔kR s)
theorem chk_no{s:Sr}{w w':World}{err:Int}(hb:Below w.heap.size w w')(h0:err≠0)(hn:¬kR s):ChkP s w (.returned (.int .i64 err)) w':=⟨err,rfl,hb,fun h=>absurd h h0,fun h=>absurd h hn⟩
theorem CZ(s:Sr)(w:World)(h:wW w s):Calls Tryz.prog 87 #[.agg (srA s)] w (ChkP s w):=by
 have A1:=ae w (.cells (srA s) 76)
 have A2:=L9 w (.cells (srA s) 76)
 have hO:=h.aj A1
 have A9:=MI (vP s _ hO)
 have HB:=MI A1
 have I:=MI (fun W=>vX s.nl h.nb h.nl W)
 have J:=MI (fun W=>xG s.loop s.ls s.le (gQ s) W)
 have B4:(Tryz.prog.info? 76).map (·.size)=some (srA s).size:=af
 have U:=MI (fun(hn:¬kR s)(err:Int)(h0:err≠0) W (hb:Below w.heap.size w W)=>chk_no hb h0 hn)
 have C0:=MI (show kR s↔_ from Iff.rfl)
 have HO:=MI hO
 have hn:=h.n
 clear h A1 hO
 go_enter Tryz.func87,Tryz.ntmps87
 go_upto_region 2 with(first | ((with_reducible refine MC 76 1 ?_);refine wpList_load_row rfl 76 (.tmp 1) rfl w.heap.size rfl 76 (srA s) (0,0) _ A2 Tryz.underlying76 rfl B4 ?_) | (go_at_call 92;refine A9.out.mono ?_;rintro e w1 ⟨rfl,o⟩))
 change Code.wp _ _ _ _ w1
 have B0:=rwB A2 o
 have B1:=MI (HO.out.aj o)
 have R:=MI (HB.out.trans (o.mono HB.out.size))
 obtain⟨a0,a1,a2,a3,a4,a5⟩:=eX B0
 clear o B0 HB HO A9 A2
 have C1:Hid (gQ s=gQ s):=rfl
 cases c1:ku s.nl with
 | false=>
  rw[c1] at I
  go_wp2_with (first | (go_at_call 119;refine(I.out _).mono ?_;rintro e w2 ⟨rfl,rfl⟩) | (go_at_call 120;refine(J.out _).mono ?_;rintro e w2 ⟨rfl,rfl⟩))
  go_ret
  exact U.out (fun h=>by have h1:=h.1;rw[c1] at h1;cases h1) 10 aq _ R.out
 | true=>
 rw[c1] at I
 go_upto_region 4 with(first | (go_at_call 119;refine(I.out _).mono ?_;rintro e w2 ⟨rfl,rfl⟩) | (go_at_call 120;refine(J.out _).mono ?_;rintro e w2 ⟨rfl,rfl⟩))
 by_cases c2:s.rate<1
 ·go_wp2_with (first | (go_at_call 119;refine(I.out _).mono ?_;rintro e w2 ⟨rfl,rfl⟩) | (go_at_call 120;refine(J.out _).mono ?_;rintro e w2 ⟨rfl,rfl⟩))
  go_ret
  exact U.out (fun h=>by have:=h.2.1.1;omega) 14 aq _ R.out
 by_cases c3:192000<s.rate
 ·go_wp2_with (first | (go_at_call 119;refine(I.out _).mono ?_;rintro e w2 ⟨rfl,rfl⟩) | (go_at_call 120;refine(J.out _).mono ?_;rintro e w2 ⟨rfl,rfl⟩))
  go_ret
  exact U.out (fun h=>by have:=h.2.1.2;omega) 14 aq _ R.out
 go_upto_region 6 with fail
 by_cases c4:(s.cs.length:Int)<1
 ·go_wp2_with (first | (go_at_call 119;refine(I.out _).mono ?_;rintro e w2 ⟨rfl,rfl⟩) | (go_at_call 120;refine(J.out _).mono ?_;rintro e w2 ⟨rfl,rfl⟩))
  go_ret
  exact U.out (fun h=>by have:=h.2.2.1.1.1;omega) 12 aq _ R.out
 by_cases c5:2<(s.cs.length:Int)
 ·go_wp2_with (first | (go_at_call 119;refine(I.out _).mono ?_;rintro e w2 ⟨rfl,rfl⟩) | (go_at_call 120;refine(J.out _).mono ?_;rintro e w2 ⟨rfl,rfl⟩))
  go_ret
  exact U.out (fun h=>by have:=h.2.2.1.1.2;omega) 12 aq _ R.out
 by_cases c6:(gQ s:Int)<1
 ·go_wp2_with (first | (go_at_call 119;refine(I.out _).mono ?_;rintro e w2 ⟨rfl,rfl⟩) | (go_at_call 120;refine(J.out _).mono ?_;rintro e w2 ⟨rfl,rfl⟩))
  go_ret
  exact U.out (fun h=>by have:=h.2.2.1.2.1;omega) 12 aq _ R.out
 by_cases c7:1048576<(gQ s:Int)
 ·go_wp2_with (first | (go_at_call 119;refine(I.out _).mono ?_;rintro e w2 ⟨rfl,rfl⟩) | (go_at_call 120;refine(J.out _).mono ?_;rintro e w2 ⟨rfl,rfl⟩))
  go_ret
  exact U.out (fun h=>by have:=h.2.2.1.2.2;omega) 12 aq _ R.out
 go_upto_region 8 with fail
 cases c8:oG s.loop s.ls s.le (gQ s) with
 | false=>
  rw[c8] at J
  go_wp2_with (first | (go_at_call 119;refine(I.out _).mono ?_;rintro e w2 ⟨rfl,rfl⟩) | (go_at_call 120;refine(J.out _).mono ?_;rintro e w2 ⟨rfl,rfl⟩))
  go_ret
  exact U.out (fun h=>by have:=h.2.2.2.1;rw[c8] at this;cases this) 13 aq _ R.out
 | true=>
 rw[c8] at J
 go_upto_region 11 with(first | (go_at_call 119;refine(I.out _).mono ?_;rintro e w2 ⟨rfl,rfl⟩) | (go_at_call 120;refine(J.out _).mono ?_;rintro e w2 ⟨rfl,rfl⟩))
 go_loop [58] (fun v58=>∃i:Nat,i≤s.cs.length∧v58= .int .i64 (i:Int)∧Hid (∀k,k<i→(s.cs.getD k []).length=gQ s)) (fun v58=>s.cs.length - aC v58)
 case atStart=>exact⟨0,aa,rfl,fun k hk=>aa⟩
 case round=>
  obtain⟨i,hi,rfl,A3⟩:=hrel
  by_cases B2:i<s.cs.length
  ·have B7:(i:Int)<(s.cs.length:Int):=aa
   obtain⟨a,ao,cap,hd,hc,hI⟩:=B1.out.c i B2
   rw[hd] at a5
   have B5:=hI.lim
   unfold maxLen at B5
   clear hI
   by_cases c9:(s.cs.getD i []).length=gQ s
   ·have c9b:Hid ((s.cs.getD i []).length=gQ s):=c9
    rw[c9] at hc
    go_wp2_with fail
    exact⟨⟨i+1,aa,aD,fun k hk=>by
     rcases Nat.lt_or_ge k i with h5 | h5
     ·exact A3 k h5
     ·obtain rfl:k=i:=aa
      exact c9b⟩,by simp[aC];omega⟩
   ·have c9n:=U.out (fun h=>c9 (h.2.2.2.2.1 i B2)) 12 aq _ R.out
    generalize (s.cs.getD i []).length=q at*
    have c9i:¬((q:Int)=(gQ s:Int)):=aa
    have c9k:((q:Int)==(gQ s:Int))=false:=beq_eq_false_iff_ne.2 c9i
    go_wp2_with fail
    go_ret
    exact c9n
  ·obtain rfl:i=s.cs.length:=aa
   go_upto_region 17 with fail
   go_loop [70] (fun v70=>∃j:Nat,j≤s.cs.length∧v70= .int .i64 (j:Int)∧Hid (∀k,k<j→∀x,x<gQ s→-32768≤(s.cs.getD k []).getD x 0∧(s.cs.getD k []).getD x 0<32768)) (fun v70=>s.cs.length - aC v70)
   case atStart=>exact⟨0,aa,rfl,fun k hk=>aa⟩
   case round=>
    obtain⟨j,hj,rfl,A4⟩:=hrel
    by_cases A0:j<s.cs.length
    ·have B8:(j:Int)<(s.cs.length:Int):=aa
     obtain⟨a,ao,cap,hd,hc,hI⟩:=B1.out.c j A0
     rw[A3 j A0] at hc hI
     have HI:=MI hI
     rw[hd] at a5
     clear hI
     go_upto_region 20 with fail
     go_loop [76] (fun v76=>∃x:Nat,x≤gQ s∧v76= .int .i64 (x:Int)∧Hid (∀y,y<x→-32768≤(s.cs.getD j []).getD y 0∧(s.cs.getD j []).getD y 0<32768)) (fun v76=>gQ s - aC v76)
     case atStart=>exact⟨0,aa,rfl,fun k hk=>aa⟩
     case round=>
      obtain⟨x,hx,rfl,A5⟩:=hrel
      by_cases A6:x<gQ s
      ·have B9:(x:Int)<(gQ s:Int):=aa
       obtain⟨b,c,rfl,A7,B6,-⟩:=HI.out.int A6
       by_cases h1:c< -32768
       ·have A8:=U.out (fun h=>by have:=(h.2.2.2.2.2 j A0 x A6).1;rw[A7.out] at this;omega) 5 aq _ R.out
        go_wp2_with fail
        go_ret
        exact A8
       ·by_cases h2:32768≤c
        ·have A8:=U.out (fun h=>by have:=(h.2.2.2.2.2 j A0 x A6).2;rw[A7.out] at this;omega) 5 aq _ R.out
         go_wp2_with fail
         go_ret
         exact A8
        ·go_wp2_with fail
         exact⟨⟨x+1,aa,aD,fun y hy=>by
          rcases Nat.lt_or_ge y x with h5 | h5
          ·exact A5 y h5
          ·obtain rfl:y=x:=aa
           rw[A7.out]
           omega⟩,by simp[aC];omega⟩
      ·obtain rfl:x=gQ s:=aa
       have B3:Hid (∀k,k<j+1→∀x,x<gQ s→-32768≤(s.cs.getD k []).getD x 0∧(s.cs.getD k []).getD x 0<32768):=fun k hk=>by
        rcases Nat.lt_or_ge k j with h5 | h5
        ·exact A4 k h5
        ·obtain rfl:k=j:=aa
         exact A5
       go_wp2_with fail
       exact⟨⟨_,_,_,.int .i64 ((j+1:Nat):Int),⟨j+1,aa,rfl,B3⟩,rfl,rfl,rfl,aD⟩,by simp[aC];omega⟩
    ·obtain rfl:j=s.cs.length:=aa
     go_wp2_with fail
     go_ret
     exact⟨0,rfl,R.out,fun _=>⟨c1,⟨aa,aa⟩,⟨⟨aa,aa⟩,aa,aa⟩,c8,A3,A4⟩,fun _=>rfl⟩
def Z76:Array Value:=#[.string ⟨#[]⟩,(),.bool false,(),(),.slice none 0 0]
theorem srV_one(s:Sr): ∀v ∈ srV s,v.oneCell'=true:=fun v hv=>by
 unfold srV at hv
 simp only[List.mem_cons,List.not_mem_nil,or_false] at hv
 rcases hv with rfl | rfl | rfl | rfl | rfl | rfl<;>rfl
theorem fill76(s:Sr):Instr.fill (fun i=>some (i*6,6)) ((Array.range (1*6)).map ((Value.agg #[.string ⟨#[]⟩,(),.bool false,(),(),.slice none 0 0]).cells[· %(Value.agg #[.string ⟨#[]⟩,(),.bool false,(),(),.slice none 0 0]).cells.size]!)) [(0,Value.agg (srA s))]=some (srA s):=by
 kernel_rfl
theorem E5{w:World}{b:Nat}{s:Sr}(h:w.heap[b]? =some (.cells (srA s) 76 (0,0))): ∀j u,(srV s)[j]? =some u→w.cell? ((⟨b,0,none⟩:Addr).add j)=some u:=fun j u hu=>by
 rw[add0,Nat.zero_add,LZ h,show srA s=(srV s).toArray from rfl,List.getElem?_toArray]
 exact hu
def fZ(bs:List Int):Mt:=⟨strOfNums (pO (bs.take 32)),bH bs 32 4,bH bs 36 4,(bs.getD 56 0).toNat,decide (bs.getD 57 0=1),bH bs 40 4,bH bs 44 4,bH bs 48 4,bH bs 52 4⟩
def zJ(bs:List Int)(k:Nat):Bool:=(List.range k).all (fun j=>decide (bs.getD (58+j) 0=0))
def okM(bs:List Int):Bool:=zJ bs 6&&(decide (bs.getD 57 0≤1)&&nI (fZ bs))
def vL(bs:List Int)(k:Nat):List Int:=(List.range 6).map (fun j=>if j<k then((bH bs (32+4*j) 4:Nat):Int) else 0)
theorem zn(bs:List Int)(k:Nat):(vL bs k).length=6:=by simp[vL]
theorem vL_set(bs:List Int)(k:Nat)(h:k<6):(vL bs k).set k ((bH bs (32+4*k) 4:Nat):Int)=vL bs (k+1):=by
 apply List.ext_getElem (by rw[List.length_set,zn,zn])
 intro j h1 h2
 rw[zn] at h2
 rw[List.getElem_set]
 simp only[vL,List.getElem_map,List.getElem_range]
 by_cases hj:k=j
 ·subst hj;simp
 ·rw[if_neg hj]
  by_cases h3:j<k
  ·rw[if_pos h3,if_pos aa]
  ·rw[if_neg h3,if_neg aa]
def G6:Array Value:=#[.string ⟨#[]⟩,(),(),(),.bool false,(),(),(),()]
theorem byte_at{w:World}{ib o n:Nat}{bs:List Int}(h:Ints .u8 w (some ⟨ib,o,none⟩) n bs){i:Nat}(hi:i<n): ∃c:Nat,Hid (bs.getD i 0=(c:Int))∧w.cell? ⟨ib,o+i,none⟩=some (.int .u8 c)∧c<256:=by
 obtain⟨a,c,ha,h1,h2,h3⟩:=h.byte hi
 cases ha
 rw[add0] at h2
 exact⟨c,h1,h2,h3⟩
theorem IX(bs:List Int)(k:Nat):zJ bs (k+1)=(zJ bs k&&decide (bs.getD (58+k) 0=0)):=by
 unfold zJ
 rw[List.range_succ,List.all_append]
 simp
theorem Eb(bs:List Int)(k:Nat)(hk:k<6)(h:bs.getD (58+k) 0≠0):zJ bs 6=false:=by
 unfold zJ
 rw[←Bool.not_eq_true,List.all_eq_true]
 intro h2
 exact h (of_decide_eq_true (h2 k (List.mem_range.2 hk)))
theorem ni{w:World}{b:Nat}{m:Mt}{T:Nat}(h:w.heap[b]? =some (.cells (aF m) T (0,0))):w.rangeAt b 0 (aV m):=fun j v hv=>by
 rw[Nat.zero_add]
 refine(LZ h).trans ?_
 show(aV m).toArray[j]? =some v
 simpa using hv
theorem yj{w:World}{b T:Nat}{cs:Array Value}(h:w.heap[b]? =some (.cells cs T (0,0))):w.frozen? ⟨b,0,none⟩=false∧w.frozen? ⟨b,1,none⟩=false∧w.frozen? ⟨b,2,none⟩=false∧w.frozen? ⟨b,3,none⟩=false∧w.frozen? ⟨b,4,none⟩=false∧w.frozen? ⟨b,5,none⟩=false∧w.frozen? ⟨b,6,none⟩=false∧w.frozen? ⟨b,7,none⟩=false∧w.frozen? ⟨b,8,none⟩=false:=
 ⟨L6 h,L6 h,L6 h,L6 h,L6 h,L6 h,L6 h,L6 h,L6 h⟩
theorem nM(m:Mt):(Tryz.prog.info? 54).map (·.size)=some (aF m).size:=af
theorem heap_drew{w:World}{b:Nat}{o:Obj}(h:w.heap[b]? =some o):w.drew.heap[b]? =some o:=h
theorem set9(w:World)(b:Nat)(m:Mt):((((((((w.setCell ⟨b,0,none⟩ (.string m.nm)).setCell ⟨b,1,none⟩ (.int .i64 m.len)).setCell ⟨b,2,none⟩ (.int .i64 m.rate)).setCell ⟨b,3,none⟩ (.int .i64 m.ch)).setCell ⟨b,4,none⟩ (.bool m.loop)).setCell ⟨b,5,none⟩ (.int .i64 m.ls)).setCell ⟨b,6,none⟩ (.int .i64 m.le)).setCell ⟨b,7,none⟩ (.int .i64 m.sums)).setCell ⟨b,8,none⟩ (.int .i64 m.first)=w.setCells b 0 (aV m):=by simp only[aV,World.setCells]
def OZ(bs:List Int)(w:World)(e:Ending)(w':World):Prop:=∃m,e= .returned (.tuple #[.agg (aF m),.bool (okM bs)])∧m=fZ bs∧Below w.heap.size w w'
theorem JE(ib o:Nat)(n cap:Nat)(bs:List Int)(F4:64≤n)(hn:n≤60000)(E8:n≤cap)(w:World)(h:Ints .u8 w (some ⟨ib,o,none⟩) n bs):Calls Tryz.prog 48 #[.slice (some ⟨ib,o,none⟩) n cap] w (OZ bs w):=by
 have hb:=ae w (.cells G6 54)
 have hz:=L9 w (.cells G6 54)
 have hI:=h.aj hb
 have A2:Byt bs:=fun z hz=>by have:=bounds_u8 (h.wf z hz);omega
 have J:=yM (P:=Tryz.prog) (hI.take (show 32≤n by omega)) 63 5 9 cap rfl rfl rfl
 have hlen:=h.hlen
 have A9:=MI (Kw (bs.take 32) (A2.take 32) (by rw[List.length_take];omega) (by rw[List.length_take];omega) (w.alloc (.cells G6 54)))
 have HI:=MI hI
 have HB:=MI hb
 have HH:=MI h
 have HZ:=MI hz
 have F5:=MI A2
 clear h hb hz hI A2
 unfold G6 at*
 obtain⟨nm,B0⟩: ∃nm,nm=strOfNums (pO (bs.take 32)):=⟨_,rfl⟩
 rw[←B0] at A9
 have D2:=MI B0
 clear B0
 go_enter Tryz.func48,Tryz.ntmps48
 go_upto_region 2 with(go_at_call 80;refine A9.out.mono ?_;rintro e w' ⟨rfl,rfl⟩)
 generalize w.alloc (.cells #[.string ⟨#[]⟩,(),(),(),.bool false,(),(),(),()] 54)=W1 at*
 have C8:w.heap.size<W1.heap.size:=L8 HZ.out
 have C0:(W1.alloc (.cells #[(),(),(),(),(),()] 163)).heap[W1.heap.size]? =some (.cells (iA (vL bs 0)) 163 (0,0)):=L9 W1 _
 have B1:=ae W1 (.cells #[(),(),(),(),(),()] 163)
 have C1:=MI (bD HB.out B1)
 have C2:=MI (cZ HZ.out B1 C8)
 have C3:=MI C0
 clear B1 C0 J A9
 go_wp2_with fail
 generalize W1.alloc (.cells #[(),(),(),(),(),()] 163)=W2 at*
 generalize W1.heap.size=vb at*
 go_loopw [14] (fun v14 wr=>∃k:Nat,k≤6∧v14= .int .i64 (k:Int)∧wr.heap[vb]? =some (.cells (iA (vL bs k)) 163 (0,0))∧Hid (Below w.heap.size w wr)∧Hid (wr.heap[w.heap.size]? =some (.cells #[.string ⟨#[]⟩,(),(),(),.bool false,(),(),(),()] 54 (0,0)))) (fun v14 _=>6 - aC v14)
 case atStart=>exact⟨0,aa,rfl,C3.out,C1,C2⟩
 case round=>
  clear C3 C1 C2
  obtain⟨k,hk,rfl,hv,hB,hZ⟩:=hrel
  by_cases j:k<6
  ·have hc:=aH hv (k:=k) (by rw[zn];exact j)
   have hf:=frozen_of_row _ _ k _ _ hv
   have D3:Hid (∀wx,Below w.heap.size w wx→Calls Tryz.prog 45 #[.slice (some ⟨ib,o,none⟩) n cap,.int .i64 (32+4*(k:Int)),.int .i64 4] wx (fun e w'=>e= .returned (.int .i64 ((bH bs (32+4*k) 4:Nat):Int))∧wx=w')):=fun wx D4=>by
    have h1:=sO (some ⟨ib,o,none⟩) n cap bs (32+4*k) 4 aq aa hn wx (HH.out.aj D4)
    rw[show((32+4*k:Nat):Int)=32+4*(k:Int) by omega] at h1
    exact h1
   have B2:=vL_set bs k j
   have HV:Hid ((wr.setCell ⟨vb,k,none⟩ (.int .i64 ((bH bs (32+4*k) 4:Nat):Int))).heap[vb]? =some (.cells (iA (vL bs (k+1))) 163 (0,0))):=by
    have h1:=bY hv k ((bH bs (32+4*k) 4:Nat):Int)
    rw[B2] at h1
    exact h1
   have D5:Hid (∀v,Below w.heap.size w (wr.setCell ⟨vb,k,none⟩ v)):=fun v=>hB.out.setCell (p:=⟨vb,k,none⟩) (show w.heap.size≤vb by omega) v
   have D6:Hid (∀v,(wr.setCell ⟨vb,k,none⟩ v).heap[w.heap.size]? =some (.cells #[.string ⟨#[]⟩,(),(),(),.bool false,(),(),(),()] 54 (0,0))):=fun v=>(aA wr vb k v).heap hZ.out aa
   generalize ((bH bs (32+4*k) 4:Nat):Int)=x at*
   generalize (vL bs k).getD k 0=x0 at*
   have C9:(k:Int)<6:=aa
   clear B2 hv
   go_wp2_with (go_at_call 45;refine(D3.out _ hB.out).mono ?_;rintro e w' ⟨rfl,rfl⟩)
   exact⟨⟨k+1,aa,aD,HV.out,D5.out _,D6.out _⟩,by simp[aC];omega⟩
  ·obtain rfl:k=6:=aa
   have e6:vL bs 6=[((bH bs 32 4:Nat):Int),((bH bs 36 4:Nat):Int),((bH bs 40 4:Nat):Int),((bH bs 44 4:Nat):Int),((bH bs 48 4:Nat):Int),((bH bs 52 4:Nat):Int)]:=by simp[vL,List.range,List.range.loop]
   rw[e6] at hv
   clear e6
   have HM:Hid (fZ bs=⟨nm,bH bs 32 4,bH bs 36 4,(bs.getD 56 0).toNat,decide (bs.getD 57 0=1),bH bs 40 4,bH bs 44 4,bH bs 48 4,bH bs 52 4⟩):=by rw[D2.out];rfl
   have HO:Hid (okM bs=(zJ bs 6&&(decide (bs.getD 57 0≤1)&&nI (fZ bs)))):=rfl
   generalize bH bs 32 4=r0 at*
   generalize bH bs 36 4=r1 at*
   generalize bH bs 40 4=r2 at*
   generalize bH bs 44 4=r3 at*
   generalize bH bs 48 4=r4 at*
   generalize bH bs 52 4=r5 at*
   have B3:=HH.out.aj hB.out
   obtain⟨c56,D7,d56,E9⟩:=byte_at B3 (i:=56) aa
   obtain⟨c57,D8,d57,F1⟩:=byte_at B3 (i:=57) aa
   have A6:Hid (fZ bs=⟨nm,r0,r1,c56,decide ((c57:Int)=1),r2,r3,r4,r5⟩):=by rw[HM.out,D7.out,D8.out];rfl
   have v0:=aH hv (k:=0) (show 0<6 by decide)
   have v1:=aH hv (k:=1) (show 1<6 by decide)
   have v2:=aH hv (k:=2) (show 2<6 by decide)
   have v3:=aH hv (k:=3) (show 3<6 by decide)
   have v4:=aH hv (k:=4) (show 4<6 by decide)
   have v5:=aH hv (k:=5) (show 5<6 by decide)
   simp only[List.getD_cons_zero,List.getD_cons_succ] at v0 v1 v2 v3 v4 v5
   obtain⟨lp,A0⟩: ∃lp,lp=decide ((c57:Int)=1):=⟨_,rfl⟩
   rw[←A0] at A6
   have D9:((c57:Int)==1)=lp:=by rw[A0];rfl
   have E0:decide ((c57:Int)=1)=lp:=A0.symm
   have E1:decide (c57=1)=lp:=by rw[A0];simp;omega
   obtain⟨m,hm⟩: ∃m,m=fZ bs:=⟨_,rfl⟩
   rw[←hm] at A6 HO
   have A7:=MI hm
   have A1:aF m=#[.string nm,.int .i64 r0,.int .i64 r1,.int .i64 c56,.bool lp,.int .i64 r2,.int .i64 r3,.int .i64 r4,.int .i64 r5]:=by rw[A6.out];rfl
   have C4:=MI A1
   have B4:=L8 hZ.out
   have i56:(56:Int)<(n:Int):=aa
   have i57:(57:Int)<(n:Int):=aa
   have D0:IntKind.i64.wrap (c56:Int)=(c56:Int):=IntWalk.i64_in _ aa
   clear hv B3 HM HI HZ HB A0 hm A1 hk j
   go_upto_region 8 with fail
   go_cut [7] (fun v7 wx=>∃mb,v7= .pointer (some ⟨mb,0,none⟩)∧w.heap.size<mb∧wx.heap[mb]? =some (.cells (aF m) 54 (0,0))∧wx.heap[w.heap.size]? =some (.cells #[.string ⟨#[]⟩,(),(),(),.bool false,(),(),(),()] 54 (0,0))∧Below w.heap.size w wx)
   case first=>
    have F6:=run_storeAt_new (P:=Tryz.prog) wr.drew 54 #[.string ⟨#[]⟩,(),(),(),.bool false,(),(),(),()] #[.string nm,.int .i64 r0,.int .i64 r1,.int .i64 c56,.bool lp,.int .i64 r2,.int .i64 r3,.int .i64 r4,.int .i64 r5] af rfl (by simp[Value.oneCell'])
    go_region_held3 (fun w'=>(w'.cell? ⟨vb,0,none⟩=some (.int .i64 r0)∧w'.cell? ⟨vb,1,none⟩=some (.int .i64 r1)∧w'.cell? ⟨vb,2,none⟩=some (.int .i64 r2)∧w'.cell? ⟨vb,3,none⟩=some (.int .i64 r3)∧w'.cell? ⟨vb,4,none⟩=some (.int .i64 r4)∧w'.cell? ⟨vb,5,none⟩=some (.int .i64 r5))∧w'.cell? ⟨ib,o+56,none⟩=some (.int .u8 c56)∧w'.cell? ⟨ib,o+57,none⟩=some (.int .u8 c57)) (first | exact⟨⟨cO v0,cO v1,cO v2,cO v3,cO v4,cO v5⟩,cO d56,cO d57⟩ | go_keep) (fail)
    all_goals go_wp2_with fail
    all_goals go_meet
    all_goals exact⟨wr.heap.size,rfl,B4,by rw[C4.out];exact L9 wr _,(heap_alloc_old wr _ B4).trans hZ.out,(ji hB.out _).drew⟩
   case rest=>
    obtain⟨mb,rfl,F7,A3,C5,B5⟩:=hcut
    obtain⟨W7,rfl⟩: ∃w',w'=wc:=⟨_,rfl⟩
    clear v0 v1 v2 v3 v4 v5 d56 d57 D9 E0 E1 D0 hZ hB B4 C4 A6
    have C6:=HH.out.aj B5
    have B6:=MI C6
    have I:=ni A3
    have A4:=MI A3
    have U:=MI C5
    have B7:=MI B5
    have e58:(58:Int)≤64:=aq
    have c64:(64:Int)≤(cap:Int):=aa
    clear C6 A3 C5 B5
    go_wp2_with fail
    go_loopw [50] (fun v50 wx=>∃k:Nat,k≤6∧v50= .int .i64 (k:Int)∧Hid (zJ bs k=true)∧W7=wx) (fun v50 _=>6 - aC v50)
    case atStart=>exact⟨0,aa,rfl,rfl,rfl⟩
    case round=>
     obtain⟨k,hk,rfl,hP,rfl⟩:=hrel
     by_cases j:k<6
     ·obtain⟨c,J,hc,E2⟩:=byte_at B6.out (i:=58+k) aa
      rw[show o+(58+k)=o+58+k by omega] at hc
      have C9:(k:Int)<6:=aa
      by_cases h0:c=0
      ·subst h0
       have E3:=MI (show zJ bs (k+1)=true by rw[IX,hP.out,J.out];rfl)
       clear I
       go_wp2_with fail
       exact⟨⟨k+1,aa,aD,E3.out,trivial⟩,by simp[aC];omega⟩
      ·have hF:=MI (show okM bs=false by rw[HO.out,Eb bs k j (by rw[J.out];omega)];rfl)
       have F8:((c:Int)==0)=false:=by simp;omega
       clear I
       go_wp2_with (first
        | (with_reducible refine MC 54 7 ?_;refine wpList_load_row rfl 54 (.tmp 7) rfl mb rfl 54 (aF m) (0,0) _ A4.out Tryz.underlying54 rfl (nM m) ?_)
        | (with_reducible refine MF 54 2 56 ?_;refine wpList_store_row rfl 54 (.tmp 2) (.tmp 56) rfl w.heap.size (aF m) rfl rfl 54 _ U.out (nM m) rfl (ja m) ?_))
       exact bodyPost_ret (results_cell_tmp (fn:=Tryz.f48) (p:=2) (q:=3) (ty:=54) rfl _ _ _ _ _ _ _ rfl (setRow_heap _ _ _ _ _ _ U.out) Tryz.underlying54 rfl (nM m)) rfl ⟨m,by rw[hF.out];rfl,A7.out,below_setRow B7.out Me _⟩
     ·obtain rfl:k=6:=aa
      obtain⟨c,J,hc,E2⟩:=byte_at B6.out (i:=57) aa
      obtain⟨a0,a1,a2,a3,a4,a5,a6,a7,a8⟩:=dR I
      obtain⟨b0,b1,b2,b3,b4,b5,b6,b7,b8⟩:=dR (ni (m:=m0) U.out)
      obtain⟨z0,z1,z2,z3,z4,z5,z6,z7,z8⟩:=yj U.out
      have D1:Hid (∀wx v,Below w.heap.size w wx→v=okM bs→OZ bs w (.returned (.tuple #[.agg (aF m),.bool v])) (wx.setCells w.heap.size 0 (aV m))):=fun wx v hb hv=>⟨m,by rw[hv],A7.out,lK _ hb Me 0⟩
      have C7:Hid (∀(wx:World)(cs:Array Value),wx.heap[w.heap.size]? =some (.cells cs 54 (0,0))→cs.size=9→(wx.setCells w.heap.size 0 (aV m)).heap[w.heap.size]? =some (.cells (aF m) 54 (0,0))):=fun wx cs h1 h2=>by
       have h3:=iR (aV m) wx w.heap.size 0 cs 54 h1
       rw[spl_all cs (aV m) (by rw[h2];rfl)] at h3
       exact h3
      have E4:Hid (∀(wx:World)(cs:Array Value),wx.heap[w.heap.size]? =some (.cells cs 54 (0,0))→cs.size=9→(wx.setCells w.heap.size 0 (aV m)).drew.heap[w.heap.size]? =some (.cells (aF m) 54 (0,0))):=fun wx cs h1 h2=>heap_drew (C7.out wx cs h1 h2)
      have E5:Hid (∀(wx:World) v,Below w.heap.size w wx→v=okM bs→OZ bs w (.returned (.tuple #[.agg (aF m),.bool v])) (wx.setCells w.heap.size 0 (aV m)).drew):=fun wx v hb hv=>⟨m,by rw[hv],A7.out,(lK _ hb Me 0).drew⟩
      have i57':(57:Int)<(n:Int):=aa
      have F9:¬(6:Int)<6:=aq
      clear I
      by_cases h1:c≤1
      ·have hF:=MI (show okM bs=nI m by rw[HO.out,hP.out,J.out,decide_eq_true aa];rfl)
       have E6:(c:Int)≤1:=aa
       have B8:m.nm.size≤1000000:=by
        rw[A7.out]
        show(strOfNums (pO (bs.take 32))).size≤_
        rw[strOfNums_size]
        have h5:(pO (bs.take 32)).length≤32:=by
         unfold pO
         rw[List.length_take,List.length_take]
         omega
        omega
       have HR:=MI (xw m B8 W7.drew)
       have A1:aF m=#[.string m.nm,.int .i64 m.len,.int .i64 m.rate,.int .i64 m.ch,.bool m.loop,.int .i64 m.ls,.int .i64 m.le,.int .i64 m.sums,.int .i64 m.first]:=rfl
       rw[A1] at HR
       obtain⟨R,hR⟩: ∃R,R=nI m:=⟨_,rfl⟩
       rw[←hR] at HR hF
       clear A1 B8 hR
       go_upto_region 15 with fail
       go_region_law (go_simp;go_at_call 81;refine HR.out.mono ?_;rintro e w4 ⟨rfl,A8⟩;have B9:=cZ (w:=W7.drew) A4.out A8 (L8 A4.out);have A5:=cZ (w:=W7.drew) U.out A8 (L8 U.out);obtain⟨p0,p1,p2,p3,p4,p5,p6,p7,p8⟩:=dR (ni B9);obtain⟨q0,q1,q2,q3,q4,q5,q6,q7,q8⟩:=dR (ni (m:=m0) A5);obtain⟨y0,y1,y2,y3,y4,y5,y6,y7,y8⟩:=yj A5;have E7:=(B6.out.aj (MB.drew)).aj A8;obtain⟨c2,F2,G0,F3⟩:=byte_at E7 (i:=57) aa)
       all_goals dsimp only[Act.put]
       all_goals go_wp2_with fail
       all_goals simp only[set9]
       all_goals exact bodyPost_ret (results_cell_tmp (fn:=Tryz.f48) (p:=2) (q:=3) (ty:=54) rfl _ _ w.heap.size 54 (aF m) (0,0) _ rfl (C7.out w4 _ A5 rfl) Tryz.underlying54 rfl (nM m)) rfl (D1.out w4 R (bD B7.out.drew A8) hF.out.symm)
      ·have hF:=MI (show okM bs=false by rw[HO.out,hP.out,J.out,decide_eq_false aa];rfl)
       have E6:¬(c:Int)≤1:=aa
       go_upto_region 15 with fail
       go_region_law (fail)
       all_goals dsimp only[Act.put]
       all_goals go_wp2_with fail
       all_goals simp only[set9]
       all_goals exact bodyPost_ret (results_cell_tmp (fn:=Tryz.f48) (p:=2) (q:=3) (ty:=54) rfl _ _ w.heap.size 54 (aF m) (0,0) _ rfl (E4.out W7 _ U.out rfl) Tryz.underlying54 rfl (nM m)) rfl (E5.out W7 false B7.out hF.out.symm)
end Go.Proofs.YtnicjahcgnhogaaGreatDoor
