/- Part 33 of the walk: contracts of the program's functions, each for every input. No condition. -/
import Derived.Test.YtnicjahcgnhogaaGreatDoorU31
set_option linter.unusedVariables false
set_option linter.unusedSimpArgs false
set_option maxRecDepth 100000
set_option maxHeartbeats 8000000
namespace Go.Proofs.YtnicjahcgnhogaaGreatDoor
open Go Go.RowKit Go.Calli
attribute [local irreducible] wpStill wpAnyH wpAnyS wpList Code.wp
structure um(w:World)(s:Sr):Prop where
 nb:Byt s.nl
 nl:s.nl.length≤9223372036854775807
 n:s.cs.length≤9223372036854775807
 c: ∀k,k<s.cs.length→∃a ao cap,s.d=some a∧w.cell? (a.add k)=some (.slice ao (s.cs.getD k []).length cap)∧(s.cs.getD k []).length≤cap∧Ints .i64 w ao (s.cs.getD k []).length (s.cs.getD k [])
theorem um.aj{w w':World}{s:Sr}(h:um w s)(hb:Below w.heap.size w w'):um w' s:=
 ⟨h.nb,h.nl,h.n,fun k hk=>by
  obtain⟨a,ao,cap,h1,h2,h3,h4⟩:=h.c k hk
  exact⟨a,ao,cap,h1,(hb.cell (World.block_lt_of_cell? w _ h2)).trans h2,h3,h4.aj hb⟩⟩
def jL(s:Sr)(d:Option Addr)(c:Nat):Sr:=⟨s.nl.take 100,s.rate,s.loop,s.ls,s.le,d,c,(s.cs.take 4).map (fun l=>l.take 150)⟩
structure SrX(w0 w:World)(s:Sr):Prop where
 nb:Byt s.nl
 nl:s.nl.length≤1000000000000
 n:s.cs.length≤1000000
 c: ∀k,k<s.cs.length→∃a ao cap,s.d=some a∧w.cell? (a.add k)=some (.slice ao (s.cs.getD k []).length cap)∧Ints .i64 w0 ao (s.cs.getD k []).length (s.cs.getD k [])
theorem SrX.ok{w0 w:World}{s:Sr}(h:SrX w0 w s)(hb:Below w0.heap.size w0 w):wW w s:=
 ⟨h.nb,h.nl,h.n,fun k hk=>by
  obtain⟨a,ao,cap,h1,h2,h3⟩:=h.c k hk
  exact⟨a,ao,cap,h1,h2,h3.aj hb⟩⟩
theorem SrX.kept{S:Nat→Prop}{w0 w w':World}{s:Sr}(h:SrX w0 w s)(hk:ag S w w')(hS: ∀a,s.d=some a→¬S a.block):SrX w0 w' s:=
 ⟨h.nb,h.nl,h.n,fun k I=>by
  obtain⟨a,ao,cap,h1,h2,h3⟩:=h.c k I
  exact⟨a,ao,cap,h1,hk.cell h2 (by rw[Addr.add_block];exact hS a h1),h3⟩⟩
def SrT(w:World)(s:Sr):Prop:=∀a,s.d=some a→∃c fr,w.heap[a.block]? =some (.cells c 33 fr)
def FewAP(s:Sr)(w0 w:World)(e:Ending)(w':World):Prop:=∃d c,e= .returned (.agg (srA (jL s d c)))∧Below w.heap.size w w'∧SrX w0 w' (jL s d c)∧SrT w' (jL s d c)
theorem info33b:(Tryz.prog.info? 33).map (fun i=>(i.zero,i.size,i.bytes))=some (some (.slice none 0 0),1,24):=af
theorem Jp(s:Sr)(w0 w:World)(h:um w0 s)(B0:Below w0.heap.size w0 w):Calls Tryz.prog 60 #[.agg (srA s)] w (FewAP s w0 w):=by
  have B8:Hid (∀k,k<s.cs.length→∃a ao cap,s.d=some a∧w.cell? (a.add k)=some (.slice ao (s.cs.getD k []).length cap)∧(s.cs.getD k []).length≤cap∧Ints .i64 w0 ao (s.cs.getD k []).length (s.cs.getD k [])):=(fun k hk=>by
    obtain⟨a,ao,cap,h1,h2,h3,h4⟩:=h.c k hk
    exact⟨a,ao,cap,h1,(B0.cell (World.block_lt_of_cell? w0 _ h2)).trans h2,h3,h4⟩)
  have A1:=ae w (.cells (srA s) 76)
  have I:=L9 w (.cells (srA s) 76)
  have A2:=ae (w.alloc (.cells (srA s) 76)) (.cells uk 76)
  have o:=L9 (w.alloc (.cells (srA s) 76)) (.cells uk 76)
  have I:=rwB I A2
  have hB:=A1.trans (A2.mono A1.size)
  rw[World.size_alloc] at o
  have HB:=MI hB
  have E9:=h.nl
  have F1:=h.n
  have B9:=MI h.nb
  obtain⟨nl,rate,loop,ls,le,d,dc,cs⟩:=s
  clear A1 A2 hB h B0
  go_enter Tryz.func60,Tryz.ntmps60
  go_upto_region 1 with fail
  change Code.wp _ _ _ _ ((w.alloc (.cells (srA ⟨nl,rate,loop,ls,le,d,dc,cs⟩) 76)).alloc (.cells uk 76))
  generalize (w.alloc (.cells (srA ⟨nl,rate,loop,ls,le,d,dc,cs⟩) 76)).alloc (.cells uk 76)=W at*
  have F2:=HB.out.size
  obtain⟨a0,a1,a2,a3,a4,a5⟩:=eX I
  have C0:W.frozen? ⟨w.heap.size,0,none⟩=false:=L6 I
  have F3:(strOfNums nl).size=nl.length:=strOfNums_size _
  go_upto_if 9 with fail
  go_cut [] (fun wx=>wx.heap[w.heap.size]? =some (.cells (srA ⟨nl.take 100,rate,loop,ls,le,d,dc,cs⟩) 76 (0,0))∧wx.heap[w.heap.size+1]? =some (.cells uk 76 (0,0))∧ag (fun k=>k=w.heap.size) W wx)
  case first=>
    by_cases E3:100<nl.length
    · have h1:(100:Int)<((strOfNums nl).size:Int):=aa
      go_wp2_with fail
      go_meet
      rw[lS,List.drop_zero]
      have hr:=jy [] [.int .i64 rate,.bool loop,.int .i64 ls,.int .i64 le,.slice d cs.length dc] (.string (strOfNums nl)) (.string (strOfNums (nl.take 100))) I
      exact⟨hr,(aA W w.heap.size 0 _).heap o aa,aA W w.heap.size 0 _⟩
    · have h1:¬(100:Int)<((strOfNums nl).size:Int):=aa
      go_wp2_with fail
      go_meet
      rw[List.take_of_length_le aa]
      exact⟨I,o,ag.refl _ _⟩
  case rest=>
    obtain⟨A3,A4,A5⟩:=hcut
    have C1:Hid (∀k,k<cs.length→∃a ao cap,d=some a∧wc.cell? (a.add k)=some (.slice ao (cs.getD k []).length cap)∧(cs.getD k []).length≤cap∧Ints .i64 w0 ao (cs.getD k []).length (cs.getD k [])):=fun k hk=>by
      have C2:Below w.heap.size w wc:=((ag.au (S:=fun _=>False) HB.out Me).andThen A5 (fun q hq e=>aa)).aW Me (fun _ _ e=>e)
      obtain⟨a,ao,cap,h1,h2,h3,h4⟩:=B8.out k hk
      exact⟨a,ao,cap,h1,(C2.cell (World.block_lt_of_cell? w _ h2)).trans h2,h3,h4⟩
    have C3:Hid (Below w.heap.size w wc):=((ag.au (S:=fun _=>False) HB.out Me).andThen A5 (fun q hq e=>aa)).aW Me (fun _ _ e=>e)
    have E4:w.heap.size+1<wc.heap.size:=L8 A4
    clear a0 a1 a2 a3 a4 a5 C0 I o A5
    go_upto_region 5 with fail
    go_loopw [3,4,5] (fun v3 v4 v5 wr=>∃(i:Nat)(X:List (Option Addr×Nat×Nat)),i≤4∧i≤cs.length∧v4= .int .i64 (i:Int)∧X.length=i∧wr.ownsRow wc.heap.size 33 1 v3 i (X.map (fun x=>Value.slice x.1 x.2.1 x.2.2))∧Hid (∀k,k<i→(X.getD k (none,0,0)).2.1=((cs.getD k []).take 150).length∧Ints .i64 w0 (X.getD k (none,0,0)).1 ((cs.getD k []).take 150).length ((cs.getD k []).take 150))∧Below wc.heap.size wc wr) (fun _ v4 _ _=>4 - aC v4)
    case atStart=>exact⟨0,[],aa,aa,rfl,rfl,World.ownsRow_nil _ _ _ _,fun k hk=>aa,Below.refl _ _⟩
    case round=>
      obtain⟨i,X,F4,F5,rfl,B1,hO,hX,hb⟩:=hrel
      obtain⟨a3,c3,rfl⟩:=dh hO
      obtain⟨b0,b1,b2,b3,b4,b5⟩:=eX (rwB A3 hb)
      have b5:wr.cell? ⟨w.heap.size,5,none⟩=some (.slice d cs.length dc):=b5
      by_cases C4:i<4∧i<cs.length
      · obtain⟨F6,C5⟩:=C4
        have E5:(i:Int)<4:=aa
        have E6:(i:Int)<(cs.length:Int):=aa
        obtain⟨a,ao,cap,rfl,R,hlen,hI⟩:=C1.out i C5
        have F7:=(hb.cell (World.block_lt_of_cell? wc _ R)).trans R
        have B2:=MI hI
        have C6:=hI.lim
        unfold maxLen at C6
        have HO:=MI hO
        have A6:=MI hb
        generalize B3:cs.getD i []=li at*
        have C7:=MI B3
        clear hI R hO hb b0 b1 b2 b3 b4 B3
        go_upto_if 32 with fail
        go_cut [5] (fun v5 wx=>v5= .slice ao (li.take 150).length cap∧wr=wx)
        case first=>
          by_cases E7:150<li.length
          · have h1:(150:Int)<(li.length:Int):=aa
            have h2:(150:Int)≤(cap:Int):=aa
            have e:(li.take 150).length=150:=by rw[List.length_take];omega
            obtain⟨av,C8,-⟩:=B2.out.cell 0 aa
            subst C8
            go_wp2_with fail
            go_meet
            exact⟨by rw[e],rfl⟩
          · have h1:¬(150:Int)<(li.length:Int):=aa
            have e:(li.take 150).length=li.length:=by rw[List.length_take];omega
            go_wp2_with fail
            go_meet
            exact⟨by rw[e],rfl⟩
        case rest=>
          obtain⟨rfl,rfl⟩:=hcut
          have C9:=A6.out.size
          have D0:Hid (∀k,k<i+1→((X++[(ao,(li.take 150).length,cap)]).getD k (none,0,0)).2.1=((cs.getD k []).take 150).length∧Ints .i64 w0 ((X++[(ao,(li.take 150).length,cap)]).getD k (none,0,0)).1 ((cs.getD k []).take 150).length ((cs.getD k []).take 150)):=fun k hk=>by
            by_cases D1:k<i
            · rw[show(X++[(ao,(li.take 150).length,cap)]).getD k (none,0,0)=X.getD k (none,0,0) by simp[List.getD,List.getElem?_append_left (show k<X.length by omega)]]
              exact hX.out k D1
            · obtain rfl:k=i:=aa
              rw[show(X++[(ao,(li.take 150).length,cap)]).getD k (none,0,0)=(ao,(li.take 150).length,cap) by simp[List.getD,List.getElem?_append_right (show X.length≤k by omega),B1],C7.out]
              refine⟨rfl,?_⟩
              have h5:=B2.out.take (n:=(li.take 150).length) (by rw[List.length_take];omega)
              rw[show li.take (li.take 150).length=li.take 150 by
                rw[List.length_take]
                rcases Nat.le_total li.length 150 with h | h
                · rw[Nat.min_eq_right h,List.take_of_length_le Me,List.take_of_length_le h]
                · rw[Nat.min_eq_left h]] at h5
              exact h5
          generalize hq:(li.take 150).length=q at*
          go_wp2_with (at_builtin;refine iI rfl (.tmp 35) (.tmp 37) 74 33 1 rfl Tryz.underlying74 info33b rfl aq wc.heap.size _ i _ rfl HO.out [.slice ao q cap] rfl rfl (by simp[Value.oneCell']) aa aE C9 ?_;intro v26 w5 D2 D3)
          have D4: ∀z,(Value.slice a3 i c3).ownBlock=some z→wc.heap.size≤z:=fun z hz=>jH HO.out hz
          exact⟨⟨i+1,X++[(ao,q,cap)],aa,aa,aD,by simp[B1],by rw[List.map_append];exact D2,D0,((ag.au (S:=fun _=>False) A6.out Me).andThen D3 (fun z hz e=>by have:=D4 z e;omega)).aW Me (fun _ _ e=>e)⟩,by simp[aC];omega⟩
      · have E8:(i<cs.length∧i=4)∨i=cs.length:=aa
        have HO:=MI hO
        have A6:=MI hb
        have U:=rwB A3 hb
        have A7:=rwB A4 hb
        have A0:=aA wr w.heap.size 5 (.slice a3 i c3)
        have D5:((cs.take 4).map (fun l=>l.take 150)).length=i:=by rw[List.length_map,List.length_take];omega
        have j:=jy [.string (strOfNums (nl.take 100)),.int .i64 rate,.bool loop,.int .i64 ls,.int .i64 le] [] (.slice d cs.length dc) (.slice a3 i c3) U
        have j:(wr.setCell ⟨w.heap.size,5,none⟩ (.slice a3 i c3)).heap[w.heap.size]? =some (.cells (srA (jL ⟨nl,rate,loop,ls,le,d,dc,cs⟩ a3 c3)) 76 (0,0)):=by
          unfold srA jL
          simp only[D5]
          exact j
        have A8:=A0.heap A7 aa
        have B4:Below w.heap.size w (wr.setCell ⟨w.heap.size,5,none⟩ (.slice a3 i c3)):=((ag.au (S:=fun _=>False) (bD C3.out hb) Me).andThen A0 (fun q hq e=>aa)).aW Me (fun _ _ e=>e)
        have A9:(Tryz.prog.info? 76).map (·.size)=some (srA (jL ⟨nl,rate,loop,ls,le,d,dc,cs⟩ a3 c3)).size:=af
        have B7:(srA (jL ⟨nl,rate,loop,ls,le,d,dc,cs⟩ a3 c3)).all (·.oneCell')=true:=af
        have F8:=ay U 5
        have J:(wr.setCell ⟨w.heap.size,5,none⟩ (.slice a3 i c3)).ownsRow wc.heap.size 33 1 (.slice a3 i c3) i (X.map (fun x=>Value.slice x.1 x.2.1 x.2.2)):=aB hO A0 (fun q hq e=>by have:=jH hO hq;omega)
        have B5:=below_setRow B4 (show w.heap.size≤w.heap.size+1 by omega) (srA (jL ⟨nl,rate,loop,ls,le,d,dc,cs⟩ a3 c3))
        have J:=aB J (aK _ (w.heap.size+1) (srA (jL ⟨nl,rate,loop,ls,le,d,dc,cs⟩ a3 c3))) (fun q hq e=>by have:=jH hO hq;omega)
        have B6:SrX w0 ((wr.setCell ⟨w.heap.size,5,none⟩ (.slice a3 i c3)).setRow (w.heap.size+1) (srA (jL ⟨nl,rate,loop,ls,le,d,dc,cs⟩ a3 c3))) (jL ⟨nl,rate,loop,ls,le,d,dc,cs⟩ a3 c3):=by
          refine⟨fun x hx=>B9.out x (List.mem_of_mem_take hx),by show(nl.take 100).length≤_;rw[List.length_take];omega,by show((cs.take 4).map (fun l=>l.take 150)).length≤_;omega,fun k hk=>?_⟩
          have hk:k<i:=by have h:k<((cs.take 4).map (fun l=>l.take 150)).length:=hk;omega
          obtain⟨D6,D7⟩:=hX.out k hk
          have hg:((cs.take 4).map (fun l=>l.take 150)).getD k []=(cs.getD k []).take 150:=by
            simp[List.getD,List.getElem?_map,List.getElem?_take,show k<4 by omega,show k<cs.length by omega]
          show ∃a ao cap,a3=some a∧_∧_
          rw[show(jL ⟨nl,rate,loop,ls,le,d,dc,cs⟩ a3 c3).cs.getD k []=(cs.getD k []).take 150 from hg]
          rcases J.2 with⟨h1,h2⟩ | ⟨g,c,cur,h1,-⟩
          · omega
          · cases h1
            refine⟨_,(X.getD k (none,0,0)).1,(X.getD k (none,0,0)).2.2,rfl,?_,?_⟩
            · rw[←D6]
              exact J.cells (g:=g) rfl k _ (by rw[List.getElem?_map,List.getElem?_eq_getElem aa];simp[List.getD,show k<X.length by omega])
            · exact D7
        have D8:=MI B6
        have HG:Hid (SrT ((wr.setCell ⟨w.heap.size,5,none⟩ (.slice a3 i c3)).setRow (w.heap.size+1) (srA (jL ⟨nl,rate,loop,ls,le,d,dc,cs⟩ a3 c3))) (jL ⟨nl,rate,loop,ls,le,d,dc,cs⟩ a3 c3)):=fun a e=>by
          rcases J.2 with⟨h1,h2⟩ | ⟨g,c,cur,h1,F9,D9,-⟩
          · cases h1;cases e
          · cases h1;cases e;exact⟨_,_,D9⟩
        have E0:=MI B5
        have E1:=Md (srA (jL ⟨nl,rate,loop,ls,le,d,dc,cs⟩ a3 c3)) A8
        clear A0 J B6 B4 B5 hO hb A3 A4 U A7 b0 b1 b2 b3 b4
        generalize E2:wr.setCell ⟨w.heap.size,5,none⟩ (.slice a3 i c3)=X9 at*
        by_cases G0:i<cs.length
        all_goals (
          first
            | (have h1:(i:Int)<(cs.length:Int):=aa
               have h2:¬(i:Int)<4:=aa
               go_upto_region 11 with fail)
            | (have h1:¬(i:Int)<(cs.length:Int):=aa
               go_upto_region 11 with fail)
          go_upto_region 12 with fail
          try rw[E2]
          go_wp2_with (first
            | ((with_reducible refine MC 76 1 ?_);refine wpList_load_row rfl 76 (.tmp 1) rfl w.heap.size rfl 76 (srA (jL ⟨nl,rate,loop,ls,le,d,dc,cs⟩ a3 c3)) (0,0) _ j Tryz.underlying76 rfl A9 ?_)
            | ((with_reducible refine MF 76 2 41 ?_);refine wpList_store_row rfl 76 (.tmp 2) (.tmp 41) rfl _ (srA (jL ⟨nl,rate,loop,ls,le,d,dc,cs⟩ a3 c3)) rfl rfl 76 uk A8 A9 rfl B7 ?_))
          exact bodyPost_ret (results_cell_row (fn:=Tryz.f60) rfl _ _ (w.heap.size+1) 76 _ (0,0) _ rfl E1 Tryz.underlying76 rfl A9) rfl ⟨a3,c3,rfl,E0.out,D8.out,HG.out⟩)
theorem F6{w:World}{ao:Option Addr}{n i:Nat}{L:List Sr}(h:bP srV 6 sr0 w ao n L)(hi:i<n): ∃b o,ao=some ⟨b,o,none⟩∧w.rangeAt b (o+i*6) (srV (L.getD i sr0)):=by
 obtain⟨a,rfl,hc⟩:=h.cell 0 aa
 have h0:=hc 0 _ rfl
 rw[Nat.zero_mul,jV,jV] at h0
 obtain⟨b,o,sp⟩:=a
 have hs:sp=none:=by
  unfold World.cell? at h0
  cases sp with
  | none=>rfl
  | some x=>
   simp at h0
   split at h0<;>simp at h0
 subst hs
 obtain⟨a2,I,J⟩:=h.cell i hi
 cases I
 refine⟨b,o,rfl,fun j v hv=>?_⟩
 have:=J j v hv
 rwa [Addr.add_mid,Addr.add_mid] at this
theorem six_of(s:Sr):(srV s).length=6:=rfl
theorem own_smr{w:World}{B n:Nat}{v:Value}{X:List Sr}(h:w.ownsRow B 76 6 v n (X.flatMap srV))(hn:n<12)(I: ∀s ∈ X,wW w s): ∃ao cap,v= .slice ao n cap∧SmR w ao n X:=by
 obtain⟨ao,cap,rfl,hc,hR,ha⟩:=jG sr0 six_of aq h
 refine⟨ao,cap,rfl,hR.hlen,hn,fun i hi=>?_,I⟩
 obtain⟨b,o,rfl,hr⟩:=F6 hR hi
 obtain⟨-,ho,-,-⟩:=ha _ rfl
 have ho:o=0:=ho
 subst ho
 rw[Nat.zero_add] at hr
 exact⟨b,rfl,hr⟩
theorem xR{w0 w w':World}{s:Sr}(h:SrX w0 w s∧SrT w s)(hb:Below w.heap.size w w'):SrX w0 w' s∧SrT w' s:=
 ⟨h.1.kept (S:=fun _=>False) (ag.au hb Me) (fun _ _ h=>h),fun a ha=>by
  obtain⟨c,fr,h1⟩:=h.2 a ha
  exact⟨c,fr,rwB h1 hb⟩⟩
theorem AQ{w0 w w':World}{s:Sr}{B n:Nat}{v:Value}{xs:List Value}(hO:w.ownsRow B 76 6 v n xs)(hk:ag (fun k=>v.ownBlock=some k) w w')(h:SrX w0 w s∧SrT w s):SrX w0 w' s∧SrT w' s:=by
 have I: ∀a,s.d=some a→¬v.ownBlock=some a.block:=fun a ha e=>by
  obtain⟨c,fr,h1⟩:=h.2 a ha
  rcases hO.2 with⟨rfl,rfl⟩ | ⟨g,cap,cur,rfl,hb,hg,-⟩
  ·cases e
  ·cases e
   have:=hg.symm.trans h1
   simp at this
 exact⟨h.1.kept hk I,fun a ha=>by
  obtain⟨c,fr,h1⟩:=h.2 a ha
  exact⟨c,fr,hk.heap h1 (I a ha)⟩⟩
def FewSP(n:Nat)(L:List Sr)(w:World)(e:Ending)(w':World):Prop:=∃ao cap X,e= .returned (.slice ao (min n 8) cap)∧Below w.heap.size w w'∧SmR w' ao (min n 8) X∧(min n 8=0→ao=none)∧∀k,k<min n 8→∃d c,X.getD k sr0=jL (L.getD k sr0) d c
theorem Jq(ao:Option Addr)(n cap:Nat)(L:List Sr)(w:World)(h:bP srV 6 sr0 w ao n L)(hs: ∀s ∈ L,um w s):Calls Tryz.prog 20 #[.slice ao n cap] w (FewSP n L w):=by
 have H:=MI h
 have HS:=MI hs
 have D8:=h.hlen
 have B8:=h.lim
 unfold maxLen at B8
 have hF:=MI (fun s W h hb=>Jp s w W h hb)
 unfold FewAP at hF
 have A8:(Tryz.prog.info? 76).map (·.size)=some (srV sr0).length:=af
 obtain⟨ie,B9,C0,U,-⟩:=info_parts EH
 clear h hs
 go_enter Tryz.func20,Tryz.ntmps20
 go_upto_region 3 with fail
 go_loopw [3,4] (fun v3 v4 wr=>∃(i:Nat)(X:List Sr),i≤n∧i≤8∧v4= .int .i64 (i:Int)∧X.length=i∧Hid (i=0→v3= .slice none 0 0)∧wr.ownsRow w.heap.size 76 6 v3 i (X.flatMap srV)∧Below w.heap.size w wr∧Hid (∀k,k<i→∃d c,X.getD k sr0=jL (L.getD k sr0) d c)∧Hid (∀s ∈ X,SrX w wr s∧SrT wr s)) (fun _ v4 _=>8 - aC v4)
 case atStart=>exact⟨0,[],aa,aa,rfl,rfl,fun _=>rfl,World.ownsRow_nil _ _ _ _,Below.refl _ _,fun k hk=>aa,fun s hs=>by cases hs⟩
 case round=>
  obtain⟨i,X,D9,E0,rfl,A9,C1,hO,hB,hX,B0⟩:=hrel
  obtain⟨a3,c3,rfl⟩:=dh hO
  have HB:=MI hB
  have HO:=MI hO
  have HR:=MI (H.out.aj hB)
  clear hB hO
  by_cases C2:i<n∧i<8
  ·obtain⟨g1,g2⟩:=C2
   have h1:(i:Int)<(n:Int):=aa
   have h2:(i:Int)<8:=aa
   obtain⟨b,o,rfl,hr⟩:=F6 HR.out g1
   have A0:L.getD i sr0 ∈ L:=by rw[List.getD,List.getElem?_eq_getElem aa];exact List.getElem_mem _
   have C3:=MI (hF.out _ wr (HS.out _ A0) HB.out)
   have C4:¬1*ie.size>2^24:=by rw[U];decide
   have C5:¬1*ie.size=0:=by rw[U];decide
   clear hF A0
   generalize B1:L.getD i sr0=s at*
   have C6:=MI B1
   have A8:(Tryz.prog.info? 76).map (·.size)=some (srV s).length:=af
   clear B1
   go_wp2_with (first
    | ((with_reducible refine MC 76 18 ?_);refine wpList_load_mid rfl 76 (.tmp 18) rfl b (o+i*6) rfl (srV s) _ hr Tryz.underlying76 rfl A8 ?_;rw[show(srV s).toArray=srA s from rfl])
    | (go_at_call 60;refine C3.out.mono ?_;rintro e w2 ⟨d2,k2,rfl,I,B2,B3⟩;have j:=fill76 (jL s d2 k2);rw[←U] at j;have R:=ae w2 (.cells (srA (jL s d2 k2)) 76);have C7:=L9 w2 (.cells (srA (jL s d2 k2)) 76);have A1:=aQ HO.out (I.trans (R.mono I.size));have A2:=(bD HB.out I).trans (R.mono ((bD HB.out I).size));have B4:=xR ⟨B2,B3⟩ R;have B6:=A2.size;have A7:=E5 C7;have A3:=I.trans (R.mono I.size);have B7:=MI A3;have C8:=MI B4;have C9:=MI A2;have D0:=MI (show ∃d c,jL s d2 k2=jL s d c from⟨_,_,rfl⟩);clear R I B2 B3 A3 B4 A2;generalize E1:jL s d2 k2=s2 at*)
    | ((with_reducible show wpList _ _ _ (Oper.mk _ (Op.buildSlice 22 _ _) _ _ _ _::_) _ _);refine wpList_buildSlice rfl 22 76 1 _ rfl (srA s2) ie (.agg #[.string ⟨#[]⟩,(),.bool false,(),(),.slice none 0 0]) Tryz.underlying22 B9 C0 C4 C5 (Eq.trans (congrArg (Instr.fill _ _) (show _=[(0,Value.agg (srA s2))] by kernel_rfl)) j) ?_)
    | (at_builtin;refine dU rfl (.tmp 15) (.tmp 21) 22 76 6 rfl Tryz.underlying22 EH rfl aq w.heap.size _ i _ rfl A1 ⟨w2.heap.size,0,none⟩ 1 1 (srV s2) rfl rfl A7 (srV_one s2) aa aE B6 ?_;intro v26 w5 D1 A4))
   have D2: ∀z,(Value.slice a3 i c3).ownBlock=some z→w.heap.size≤z:=fun z hz=>jH HO.out hz
   have D3:Below w.heap.size w w5:=((ag.au (S:=fun _=>False) C9.out Me).andThen A4 (fun z hz e=>by have:=D2 z e;omega)).aW Me (fun _ _ e=>e)
   exact⟨⟨i+1,X++[s2],aa,aa,aD,by simp[A9],fun e=>aa,by rw[List.flatMap_append];simpa using D1,D3,fun k hk=>by
    by_cases D4:k<i
    ·rw[show(X++[s2]).getD k sr0=X.getD k sr0 by simp[List.getD,List.getElem?_append_left (show k<X.length by omega)]]
     exact hX.out k D4
    ·obtain rfl:k=i:=aa
     rw[show(X++[s2]).getD k sr0=s2 by simp[List.getD,List.getElem?_append_right (show X.length≤k by omega),A9],C6.out]
     exact D0.out,fun x hx=>by
    rcases List.mem_append.1 hx with h | h
    ·exact AQ A1 A4 (xR (B0.out x h) B7.out)
    ·rw[List.mem_singleton] at h
     subst h
     exact AQ A1 A4 C8.out⟩,by simp[aC];omega⟩
  ·have J:min n 8=i:=aa
   have D5:=hX.out
   obtain⟨ax,cx,hv,B5⟩:=own_smr HO.out aa (fun s hs=>(B0.out s hs).1.ok HB.out)
   cases hv
   have D6:=MI B5
   clear B5
   have A5:FewSP n L w (.returned (.slice a3 i c3)) wr:=⟨a3,c3,X,by rw[J],HB.out,by rw[J];exact D6.out,fun e=>by have h5:=C1.out aa;cases h5;rfl,by rw[J];exact hX.out⟩
   have A6:=MI A5
   clear D5 J A5
   have D7:(¬i<n)∨(i<n∧¬i<8):=aa
   rcases D7 with g1 | ⟨g1,g2⟩
   ·have h1:¬(i:Int)<(n:Int):=aa
    go_wp2_with fail
    go_ret
    exact A6.out
   ·have h1:(i:Int)<(n:Int):=aa
    have h2:¬(i:Int)<8:=aa
    go_wp2_with fail
    go_ret
    exact A6.out
def zf(size:Int)(L:List Sr)(s:Sr)(l:List Int):Prop:=L=[s]∧s.cs=[l]∧s.nl.length≤100∧l.length≤150∧kR s∧24≤size∧size≤96∧PkX s l size.toNat
def MadeR(bs:List Int)(V S R:Int)(w w':World)(p:Option Addr):Prop:=bs.length≤60000∧nV bs V S R=0∧∃X Y σ rb,p=some ⟨rb,0,none⟩∧(Y.n:Int)=V∧(X.n:Int)=S∧aN X σ w' (fK bs) 0 ⟨Cch.tZ bs X.n R,0,0⟩∧YIs X Y (fK bs) 0 σ w' (xy Y.n)∧eU X Y σ w' rb sh0 (0,0)∧∀k,k<w.heap.size→σ k=1
def MadeAP(size:Int)(L:List Sr)(V S R:Int)(w:World)(e:Ending)(w':World):Prop:=∃p:Option Addr,e= .returned (.pointer p)∧Below w.heap.size w w'∧(p≠none→∃bs,MadeR bs V S R w w' p∧∀s l,zf size L s l→bs=PkZ s l size.toNat)∧(∀s l,zf size L s l→nV (PkZ s l size.toNat) V S R=0→p≠none)
def OX(size:Int)(L:List Sr)(w:World)(e:Ending)(w':World):Prop:=∃(ao:Option Addr)(LL cap:Nat)(err:Int),e= .returned (.tuple #[.slice ao LL cap,.int .i64 err])∧Below w.heap.size w w'∧(err=0→LL≤60000∧∃ib zs,ao=some ⟨ib,0,none⟩∧cap=LL∧w.heap.size≤ib∧zs.length=LL∧W8 zs∧Blk .u8 w' ib 5 zs∧(∀s l,L=[s]→s.cs=[l]→PkX s l size.toNat→zs=PkZ s l size.toNat))∧(∀s l,L=[s]→s.cs=[l]→kR s→24≤size→size≤96→PkX s l size.toNat→err=0)
theorem Ec(size:Int)(h:size<24∨96<size)(ao:Option Addr)(n cap:Nat)(L:List Sr)(w:World):Calls Tryz.prog 19 #[.int .i64 size,.slice ao n cap] w (OX size L w):=by
 have hC:=MI ((tJ size w).mono (fun e w' (h2:CdP size w e w')=>show Below w.heap.size w w'∧e= .returned (.tuple #[.pointer none,.int .i64 12]) from by
  obtain⟨hb,⟨-,h3⟩ | ⟨h3,h4,-⟩⟩:=h2
  ·exact⟨hb,h3⟩
  ·omega))
 have H:=MI h
 clear h
 go_enter Tryz.func19,Tryz.ntmps19
 go_wp2_with (go_at_call 54;refine hC.out.mono ?_;rintro e w1 ⟨I,rfl⟩)
 go_ret2
 exact⟨none,0,0,12,rfl,I,(fun h=>absurd h aq),(fun s l _ _ _ h1 h2 _=>(by have:=H.out;omega))⟩
theorem Ee(size:Int)(ao:Option Addr)(n cap:Nat)(L:List Sr)(I:n=0→ao=none)(J: ∀s ∈ L,∀l ∈ s.cs,l.length≤150)(w:World)(h:SmR w ao n L):Calls Tryz.prog 19 #[.int .i64 size,.slice ao n cap] w (OX size L w):=by
 by_cases hs:size<24∨96<size
 ·exact Ec size hs ao n cap L w
 ·obtain⟨sz,rfl⟩: ∃sz:Nat,size=(sz:Int):=⟨size.toNat,aa⟩
  refine(Ed sz aa aa ao n cap L I J w h).mono (fun e w' h=>?_)
  obtain⟨ao,LL,cap,err,h1,h2,h3,h4⟩:=h
  exact⟨ao,LL,cap,err,h1,h2,h3,fun s l a b c _ _ d=>h4 s l a b c d⟩
theorem N8{s:Sr}{l:List Int}(h:s.cs=[l])(hn:s.nl.length≤100)(hl:l.length≤150)(d:Option Addr)(c:Nat):jL s d c={s with d:=d,dc:=c}:=by
 unfold jL
 rw[h,List.take_of_length_le hn]
 simp[List.take_of_length_le hl,h]
theorem NM{X:List Sr}{x:Sr}(h:X.length=1)(e:X.getD 0 sr0=x):X=[x]:=by
 match X,h with
 | [a],_=>rw[←e];rfl
theorem Jo{L X:List Sr}{m:Nat}(hx:X.length=m)(h: ∀k,k<m→∃d c,X.getD k sr0=jL (L.getD k sr0) d c): ∀s ∈ X,∀l ∈ s.cs,l.length≤150:=fun s hs l hl=>by
 obtain⟨k,hk,rfl⟩:=List.getElem_of_mem hs
 obtain⟨d,c,e⟩:=h k aa
 rw[show X.getD k sr0=X[k] by simp[List.getD,hk]] at e
 rw[e] at hl
 obtain⟨q,-,rfl⟩:=List.mem_map.1 (show l ∈ ((L.getD k sr0).cs.take 4).map (fun l=>l.take 150) from hl)
 rw[List.length_take];omega
theorem yw(size V S R:Int)(ao:Option Addr)(n cap:Nat)(L:List Sr)(w:World)(h:bP srV 6 sr0 w ao n L)(hs: ∀s ∈ L,um w s):Calls Tryz.prog 5 #[.int .i64 size,.slice ao n cap,.agg #[.int .i64 V,.int .i64 S,.int .i64 R]] w (MadeAP size L V S R w):=by
 have B3:=h.hlen
 have U:=ae w (.cells #[.int .i64 V,.int .i64 S,.int .i64 R] 24)
 have A6:=L9 w (.cells #[.int .i64 V,.int .i64 S,.int .i64 R] 24)
 have hF:=MI (Jq ao n cap L _ (h.aj U) (fun s B4=>(hs s B4).aj U))
 have HB:=MI U
 have HZ:=MI A6
 have A7:(Tryz.prog.info? 24).map (·.size)=some 3:=af
 clear hs h U A6
 go_enter Tryz.func5,Tryz.ntmps5
 go_upto_region 2 with(first
  | (go_at_call 20;refine hF.out.mono ?_;rintro e w2 ⟨ao2,c2,X,rfl,j,o,B5,A1⟩;have A8:=MI (Ee size ao2 (min n 8) c2 X B5 (Jo o.len A1) w2 o))
  | (go_at_call 19;refine A8.out.mono ?_;rintro e w3 ⟨ao3,LL,c3,err,rfl,A2,A0,A9⟩))
 have B0:=rwB (rwB HZ.out j) A2
 have I:=MI ((HB.out.trans (j.mono HB.out.size)).trans (A2.mono (HB.out.trans (j.mono HB.out.size)).size))
 have HX:Hid (∀s l,zf size L s l→∃d c,X=[{s with d:=d,dc:=c}]):=fun s l h=>by
  obtain⟨h1,h2,h3,h4,-⟩:=h
  have hn:n=1:=by rw[←B3,h1];rfl
  obtain⟨d,c,e⟩:=A1 0 aa
  rw[h1,show([s].getD 0 sr0)=s from rfl,N8 h2 h3 h4] at e
  exact⟨d,c,NM (by rw[o.len];omega) e⟩
 have B6:Hid (∀s l,zf size L s l→err=0):=fun s l h=>by
  obtain⟨d,c,e⟩:=HX.out s l h
  have h5:=A9 _ l e h.2.1 h.2.2.2.2.1 h.2.2.2.2.2.1 h.2.2.2.2.2.2.1 h.2.2.2.2.2.2.2
  exact h5
 clear j A2 o A1 A8 A9
 by_cases he:err=0
 case neg=>
  have C0:(err==0)=false:=by simpa using he
  clear A0
  go_wp2_with fail
  go_ret
  exact⟨none,rfl,I.out,fun h=>absurd rfl h,fun s l h _=>absurd (B6.out s l h) he⟩
 subst he
 obtain⟨C1,ib,zs,rfl,B7,C2,B8,B9,A3,A4⟩:=A0 rfl
 obtain rfl:LL=c3:=B7.symm
 have B1:Hid (∀s l,zf size L s l→zs=PkZ s l size.toNat):=fun s l h=>by
  obtain⟨d,c,e⟩:=HX.out s l h
  have h5:=A4 _ l e h.2.1 h.2.2.2.2.2.2.2
  exact h5
 have B2:=MI (Iq (some ⟨ib,0,none⟩) LL LL zs aa Me V S R w3 (Blk.ints A3 LL B8 aE B9))
 by_cases hE:nV zs V S R=0
 ·clear A4 A0 A3
  go_upto_region 5 with(first | ((with_reducible refine MC 24 5 ?_);refine wpList_load_row rfl 24 (.tmp 5) rfl w.heap.size rfl 24 (#[.int .i64 V,.int .i64 S,.int .i64 R]) (0,0) _ B0 Tryz.underlying24 rfl A7 ?_) | (go_at_call 16;refine B2.out.mono ?_;rintro e w4 ⟨J,⟨h5,-⟩ | ⟨-,X2,Y,σ,rb,rfl,hx⟩⟩;exact absurd hE h5))
  have A5:=MI (I.out.trans (J.mono I.out.size))
  clear J
  go_wp2_with fail
  go_ret
  exact⟨some ⟨rb,0,none⟩,rfl,A5.out,fun _=>⟨zs,⟨aa,hE,X2,Y,σ,rb,rfl,hx.1,hx.2.1,hx.2.2.1,hx.2.2.2.1,hx.2.2.2.2.1,fun k hk=>hx.2.2.2.2.2 k (Nat.lt_of_lt_of_le hk I.out.size)⟩,B1.out⟩,fun _ _ _ _ h=>by cases h⟩
 ·have C3:(nV zs V S R==0)=false:=by simpa using hE
  have HE:=MI hE
  clear A4 A0 A3
  go_upto_region 5 with(first | ((with_reducible refine MC 24 5 ?_);refine wpList_load_row rfl 24 (.tmp 5) rfl w.heap.size rfl 24 (#[.int .i64 V,.int .i64 S,.int .i64 R]) (0,0) _ B0 Tryz.underlying24 rfl A7 ?_) | (go_at_call 16;refine B2.out.mono ?_;rintro e w4 ⟨J,⟨-,rfl⟩ | ⟨h5,-⟩⟩;rotate_left;exact absurd h5 HE.out))
  have A5:=MI (I.out.trans (J.mono I.out.size))
  clear J
  go_wp2_with fail
  go_ret
  exact⟨none,rfl,A5.out,fun h=>absurd rfl h,fun s l h h2=>absurd (by rw[B1.out s l h];exact h2) HE.out⟩
theorem chkA(d:Option Addr)(dc:Nat):kR (sA d dc):=by
 refine⟨show ku [97]=true by kernel_rfl,show(1:Int)≤1∧(1:Int)≤192000 by decide,show(1≤1∧1≤2)∧1≤2∧2≤1048576 by decide,show oG false 0 0 2=true by kernel_rfl,fun k hk=>?_,fun k hk j hj=>?_⟩
 ·have h1:k<1:=hk
  obtain rfl:k=0:=aa
  rfl
 ·have h1:k<1:=hk
  have h2:j<2:=hj
  obtain rfl:k=0:=aa
  have h3:j=0∨j=1:=aa
  rcases h3 with rfl | rfl
  ·show(-32768:Int)≤50∧(50:Int)<32768;decide
  ·show(-32768:Int)≤60∧(60:Int)<32768;decide
theorem pA1:nN IMG=false:=af
theorem pA2:jK IMG=false:=af
theorem pA3:mD IMG=false:=by
 unfold mD
 rw[show IMG.take (16+64*nOf IMG)=[67,65,76,49,0,0,0,192,0,1,55,0,0,0,0,0,97,0,0,0,0,0,0,0,0,0,0,0,0,0,0,0,0,0,0,0,0,0,0,0,0,0,0,0,0,0,0,0,0,0,0,2,0,0,0,1,0,0,0,0,0,0,0,0,0,0,0,84,0,0,0,96,1,0,0,0,0,0,0,0] by kernel_rfl,chAll]
 kernel_rfl
theorem pA4:(List.range (nOf IMG)).any (iG IMG)=false:=af
theorem pA5:fD IMG=false:=af
theorem pA6:IMG.length=192:=af
theorem pA7:nOf IMG=1:=af
theorem errA:nV IMG 1 1 0=0:=by
 have h:fF IMG=0:=by
  unfold fF
  rw[pA6,pA1,pA2,pA3,pA4,pA5,pA7]
  rfl
 unfold nV
 rw[h]
 rfl
theorem madeA(b0 c0:Nat)(d:Option Addr)(dc:Nat)(w:World)(hS:um w (sA d dc))(h:w.rangeAt b0 0 (srV (sA d dc))):Calls Tryz.prog 5 #[.int .i64 55,.slice (some ⟨b0,0,none⟩) 1 c0,.agg #[.int .i64 1,.int .i64 1,()]] w (MadeP IMG 1 1 0 w):=by
 have hR:bP srV 6 sr0 w (some ⟨b0,0,none⟩) 1 [sA d dc]:=⟨rfl,aE,fun i hi=>⟨_,rfl,fun j u hu=>by
  obtain rfl:i=0:=aa
  rw[Addr.add_mid,Addr.add_mid,Nat.zero_mul]
  exact h j u hu⟩⟩
 refine(yw 55 1 1 0 (some ⟨b0,0,none⟩) 1 c0 [sA d dc] w hR (fun s hs=>by rw[List.mem_singleton] at hs;rw[hs];exact hS)).mono (fun e w' h5=>?_)
 obtain⟨p,rfl,hb,h1,h2⟩:=h5
 have hX:zf 55 [sA d dc] (sA d dc) [50,60]:=⟨rfl,rfl,show 1≤100 by decide,show 2≤150 by decide,chkA d dc,aq,aq,by unfold PkX;rw[show(55:Int).toNat=55 from rfl,plLA];exact layX⟩
 have hz:PkZ (sA d dc) [50,60] (55:Int).toNat=IMG:=imgA d dc
 obtain⟨bs,⟨-,-,X,Y,σ,rb,rfl,x1,x2,x3,x4,x5,x6⟩,I⟩:=h1 (h2 _ _ hX (by rw[hz];exact errA))
 have e:=(I _ _ hX).trans hz
 subst e
 exact⟨hb,fun _=>⟨X,Y,σ,rb,rfl,x1,x2,x3,x4,x5,x6⟩⟩
theorem srokA{w:World}{d g:Nat}{cd:Nat}(h1:w.heap[d]? =some (.cells #[.slice (some ⟨g,0,none⟩) 2 2] 33 (0,0)))(h2:w.heap[g]? =some (.cells #[.int .i64 50,.int .i64 60] 3 (0,0))):um w (sA (some ⟨d,0,none⟩) cd):=by
 refine⟨fun x hx=>?_,show 1≤9223372036854775807 by decide,show 1≤9223372036854775807 by decide,fun k hk=>?_⟩
 ·have h:x=97:=by simpa[sA] using hx
  subst h
  decide
 ·have h3:k<1:=hk
  obtain rfl:k=0:=aa
  refine⟨⟨d,0,none⟩,some ⟨g,0,none⟩,2,rfl,?_,show 2≤2 by decide,?_⟩
  ·exact LY h1 rfl
  ·refine⟨rfl,show 2≤2^63 - 1 by decide,fun i hi=>⟨_,rfl,?_⟩,fun z hz=>?_⟩
   ·have h4:i<2:=hi
    have h5:i=0∨i=1:=aa
    rcases h5 with rfl | rfl
    ·exact LY h2 rfl
    ·exact LY h2 rfl
   ·have h4:z=50∨z=60:=by simpa[sA] using hz
    rcases h4 with rfl | rfl<;>decide
end Go.Proofs.YtnicjahcgnhogaaGreatDoor
namespace Go.Proofs.YtnicjahcgnhogaaGreatDoor
open Go Go.RowKit Go.Calli Go.Dskp Go.Maps
attribute [local irreducible] wpStill wpAnyH wpAnyS wpList Code.wp
theorem wH{X:Fx}{σ:Own}{w w':World}{B:Bk}{K:Nat}{f:Fe}(h:aN X σ w B K f){m m':Nat}(hm:m≤f.c.mx){d':Dk}(J:d'.Ok)(I:d'.img=f.c.d.img)(hr:d'.r=f.c.d.r)(o:m'≤m+1)(hD:Cch.Dsk w' X.A.b X.A.mb X.A.ib X.A.kap m' d')(hk:ag (fun k=>k=X.A.b∨k=X.A.mb) w w'):aN X σ w' B (K+1) {f with c:={f.c with d:=d',mx:=f.c.mx+1}}:=by
 have s0:=h.s0
 have R:σ X.A.b=0:=s0 _ (.inr (.inr (.inl rfl)))
 have U:σ X.A.mb=0:=s0 _ (.inr (.inr (.inr rfl)))
 have h0: ∀k,(k=X.A.b∨k=X.A.mb)→σ k=0:=fun k e=>e.elim (fun e=>e▸R) (fun e=>e▸U)
 obtain⟨ms,hS,hM⟩:=h.ca.slots
 obtain⟨d1,d2,d3,d4,d5,d6⟩:=h.ca.uh
 have hl:=h.lim.mono (j:=96*(K+1)) aa
 refine⟨hk.heap h.row (fun e=>by have:=h0 _ e;have:=h.tf;omega),⟨hk.heap h.ca.row (fun e=>e.elim (fun e=>d2 e.symm) (fun e=>d3 e.symm)),⟨ms,hS.kept hk (fun e=>e.elim (fun e=>d4 e.symm) (fun e=>d5 e.symm)),hM.kept (hk.mono fun k _ e=>e.elim (fun e=>.inr (.inr (.inl e))) (fun e=>.inr (.inr (.inr e))))⟩,⟨m',by show m'≤f.c.mx+1;omega,hD⟩,h.ca.len,h.ca.hand,h.ca.uh,h.ca.away.mono hk.size⟩,h.bk.kept hk (fun k hT e=>by have:=h.tb k hT;have:=h0 k e;omega),h.tb,h.tf,h.n1,h.cok,⟨hl.h0,hl.h1,hl.m0,hl.m1,hl.t0,hl.t1,hl.l0,hl.l1,J,by show d'.r≤_;rw[hr];exact hl.r,by show f.c.mx+1≤_;have:=h.lim.mx;omega,hl.r0,hl.r1⟩,by show d'.img=B.img;rw[I];exact h.img⟩
theorem Oa{X:Fx}{σ:Own}{w w':World}{B:Bk}{K:Nat}{f:Fe}(h:aN X σ w B K f)(p:Int)(I:Cch.iH (X.ad σ) w' X.n (Cch.evC f.c p))(hk:ag (X.ad σ).S w w'):aN X σ w' B (K+1) {f with c:=Cch.evC f.c p}:=by
 refine h.span hk I ?_ ((h.lim.ev p).mono aa) ?_
 ·exact(Cch.evC_ok h.cok p).1
 ·unfold Cch.evC
  split<;>exact h.img
structure Ac where
 k:Int
 v:Int
 nm:ByteArray
 n:Int
 m:Int
 p:Int
 x:Int
def acA(a:Ac):Array Value:=#[.int .i64 a.k,.int .i64 a.v,.string a.nm,.int .i64 a.n,.int .i64 a.m,.int .i64 a.p,.int .i64 a.x]
structure Ac.Wf(a:Ac):Prop where
 n:(Lit.int .i64 a.n).wf=true
 m:(Lit.int .i64 a.m).wf=true
structure Tl where
 err:Int
 n:Int
 ov:Value
 lv:Value
 ev:Value
 fr:Int
 rd:Int
def tlA(t:Tl):Array Value:=#[.int .i64 t.err,.int .i64 t.n,t.ov,t.lv,t.ev,.int .i64 t.fr,.int .i64 t.rd]
def qT(err n:Int):Tl:=⟨err,n,.slice none 0 0,.slice none 0 0,.slice none 0 0,0,0⟩
structure Rs where
 f:Fe
 y:Ye
 sh:Envp.Sh
def lM(f:Fe)(a:Ac):Fe:=
 if a.k=7 then{f with c:=Cch.evC f.c a.n} else if a.k=8 then{f with c:={f.c with d:=flS f.c.d a.n a.m,mx:=f.c.mx+1}} else if a.k=9 then{f with c:={f.c with d:=spS f.c.d a.n a.m (a.x%256),mx:=f.c.mx+1}} else if a.k=10 then{f with c:={f.c with d:=hlS f.c.d a.n,mx:=f.c.mx+1}} else f
def mg(f:Fe)(a:Ac):Tl:=
 if a.k=7 then qT 0 (if Cch.evB f.c a.n then 1 else 0) else if a.k=8 then qT (flE f.c.d a.n) 0 else if a.k=9 then qT (spE f.c.d a.n a.m) 0 else if a.k=10 then qT (flE f.c.d a.n) 0 else qT 1 0
def RenT(B:Bk)(n:Nat)(s s':Rs)(k:Nat)(t:Tl)(O:List (Int×Int))(r:Rp):Prop:=uq B n s.f s.y k s'.f s'.y r O∧O.length=k∧s'.sh=s.sh∧t.err=0∧t.n=0∧(∃oo oc,t.ov= .slice oo O.length oc)∧(∃lo lc,t.lv= .slice lo r.lost.length lc)∧(∃eo ec,t.ev= .slice eo r.ended.length ec)∧t.fr=s'.f.fr - s.f.fr∧t.rd=s'.f.c.d.r - s.f.c.d.r
def dS(B:Bk)(Y:Yx)(a:Ac)(s s':Rs)(t:Tl)(O:List (Int×Int))(r:Rp):Prop:=
 if a.k=6 then((a.n<0∨256<a.n)∧s'=s∧t=qT 5 0∧O=[])∨(0≤a.n∧a.n≤256∧RenT B Y.n s s' a.n.toNat t O r)
 else O=[]∧(if a.k=1 then(fG B.dir a.nm=false∧s'=s∧t=qT 7 0)∨(fG B.dir a.nm=true∧∃P:Px,P.V.i=eH B.dir a.nm∧s'={s with y:=⟨s.y.ps.set (gy Y s.y) (some (P,mQ (B.dir.getD (eH B.dir a.nm) m0) s.sh (s.y.count+1))),s.y.count+1⟩}∧t=qT 0 (gy Y s.y))
 else if a.k=2 then s'={s with y:=(iP Y s.y a.v).2}∧t=qT (iP Y s.y a.v).1 0
 else if a.k=3 then s'={s with y:=(dn Y s.y a.v (fun p=>((dL p.v a.n).1,{p with v:=(dL p.v a.n).2}))).2}∧t=qT (dn Y s.y a.v (fun p=>((dL p.v a.n).1,{p with v:=(dL p.v a.n).2}))).1 0
 else if a.k=4 then s'={s with y:=(dn Y s.y a.v (fun p=>((dK p.v a.p).1,{p with v:=(dK p.v a.p).2}))).2}∧t=qT (dn Y s.y a.v (fun p=>((dK p.v a.p).1,{p with v:=(dK p.v a.p).2}))).1 0
 else if a.k=5 then s'={s with y:=(dn Y s.y a.v (lL a.n a.m)).2}∧t=qT (dn Y s.y a.v (lL a.n a.m)).1 0
 else if a.k=11 then s'=(if Nv.okB ⟨a.n,a.n,a.x,a.m⟩=true then{s with sh:=⟨a.n,a.n,a.x,a.m⟩} else s)∧t=qT (if Nv.okB ⟨a.n,a.n,a.x,a.m⟩=true then 0 else 1) 0
 else if a.k=12 then s'={s with y:=(dn Y s.y a.v (fun p=>(0,{p with sl:=Envp.rel p.sl}))).2}∧t=qT (dn Y s.y a.v (fun p=>(0,{p with sl:=Envp.rel p.sl}))).1 0
 else s'={s with f:=lM s.f a}∧t=mg s.f a)
end Go.Proofs.YtnicjahcgnhogaaGreatDoor
