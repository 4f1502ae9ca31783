/- Part 31 of the walk: contracts of the program's functions, each for every input. No condition. -/
import Derived.Test.YtnicjahcgnhogaaGreatDoorU29
set_option linter.unusedVariables false
set_option linter.unusedSimpArgs false
set_option maxRecDepth 100000
set_option maxHeartbeats 8000000
namespace Go.Proofs.YtnicjahcgnhogaaGreatDoor
open Go Go.RowKit Go.Calli
attribute [local irreducible] wpStill wpAnyH wpAnyS wpList Code.wp
def Io(z:List Int)(i:Nat):List Int:=(z.drop (i*16)).take 16
theorem Lt{z:List Int}{c i:Nat}(hz:z.length=c*16)(hi:i<c):(Io z i).length=16:=by
 unfold Io
 rw[List.length_take,List.length_drop]
 omega
theorem Jf(cb:Nat)(size:Int)(E3:size<55)(ao:Option Addr)(n cap:Nat)(l:List Int)(hn:n≤10000)(C3: ∀z ∈ l,(Lit.int .i64 z).wf=true)(w:World)(hC:mF w cb size)(hI:Ints .i64 w ao n l):Calls Tryz.prog 130 #[.pointer (some ⟨cb,0,none⟩),.slice ao n cap] w (zg (aO n) size w):=by
 obtain⟨i2,C4,C1,C5,C6⟩:=hu191
 have C7:=MI (fun W=>count_any n aa W)
 have E4:aO n≤10000:=by unfold aO;omega
 have B2:=hI.hlen
 have B3:=Bj l
 have C8:=Gh C3
 rw[B2] at B3
 have HC:=MI hC
 have HI:=MI hI
 have C9:=MI (fun W h=>yK cb size W h)
 have A1:=MI (fun W h=>ql ao n cap l aa W h)
 unfold BlsP at A1
 generalize kF l=z at*
 clear hC hI B2
 generalize aO n=c at*
 go_enter Tryz.func130,Tryz.ntmps130
 go_upto_region 2 with(first
  | (go_at_call 121;refine(C7.out _).mono ?_;rintro e w' ⟨rfl,hw⟩;obtain rfl:=hw.symm)
  | (at_make;refine wpList_make_full _ rfl _ _ 235 rfl w.heap.size 191 _ _ _ Tryz.underlying235 C4 C1 C5 _ _ _ _ c rfl rfl rfl rfl (by rw[C6];omega) aE Me ?_;intro w3 A2 R))
 have U:Below w.heap.size w w3:=((ag.refl (fun _=>False) w).grown R (fun k hk=>by cases hk)).aW Me (fun _ _ e=>e.elim)
 have A3:=MI (vN rfl aq (fun i hi=>by
  have E5:i<4:=hi
  rcases i with _ | _ | _ | _ | i<;>first | rfl | omega) A2)
 have HB:=MI U
 have hE:=MI (C9.out w3 (HC.out.aj U))
 have A4:=MI (A1.out w3 (HI.out.aj U))
 clear R A2 U A1
 have hd:decide (55≤size)=false:=decide_eq_false aa
 rw[hd] at hE
 go_upto_region 5 with(first
  | (go_at_call 159;refine hE.out.mono ?_;rintro e w' ⟨rfl,hw⟩;obtain rfl:=hw.symm)
  | (go_at_call 160;refine A4.out.mono ?_;rintro e w4 ⟨b,rfl,E6,B4,A5⟩))
 have B5:=MI (A3.out.aj A5)
 have B6:=MI (HB.out.trans (A5.mono HB.out.size))
 have E1:=A3.out.lt
 have A6:=MI B4
 have E7:w.heap.size<b:=aa
 clear A5 hE A4 HB A3 B4
 go_loopw [6,7,18] (fun v6 v7 v18 wr=>∃(i:Nat)(gs:List Int),i≤c∧v18= .int .i64 (i:Int)∧gs.length=c*4∧Blk .i64 wr w.heap.size 191 gs∧Blk .i64 wr b 194 z∧Below w.heap.size w wr) (fun _ _ v18 _=>c - aC v18)
 case atStart=>exact⟨0,_,aa,rfl,ar,B5.out,A6.out,B6.out⟩
 case round=>
  clear B5 A6 B6
  obtain⟨i,gs,hi,rfl,J,hG,hZ,I⟩:=hrel
  by_cases D0:i<c
  ·have E2:(i:Int)<(c:Int):=aa
   have j:=Lt B3 D0
   have B7:wr.rangeAt b (i*16) (iL (Io z i)):=Blk.range (k:=.i64) hZ (i*16) 16 aa
   have D1: ∀x ∈ Io z i,(Lit.int .i64 x).wf=true:=fun x hx=>C8 x (List.mem_of_mem_drop (List.mem_of_mem_take hx))
   have B8:=MI (fun W=>gof_any (Io z i) j D1 W)
   unfold GofP at B8
   generalize Io z i=row at*
   have D2:(Tryz.prog.info? 194).map (·.size)=some (iL row).length:=by rw[bU,j];kernel_rfl
   have B9:(Tryz.prog.info? 194).map (·.size)=some (iA row).size:=by rw[az,j];kernel_rfl
   have D3:(#[(),(),(),(),(),(),(),(),(),(),(),(),(),(),(),()]:Array Value).size=(iA row).size:=by rw[az,j];rfl
   have A7:=L9 wr (.cells (#[(),(),(),(),(),(),(),(),(),(),(),(),(),(),(),()]) 194)
   go_upto_region 7 with(first
    | (with_reducible refine MC 194 21 ?_;refine wpList_load_mid rfl 194 (.tmp 21) rfl b (i*16) rfl (iL row) _ B7 Tryz.underlying194 rfl D2 ?_;rw[show(iL row).toArray=iA row from rfl])
    | (with_reducible refine MF 194 7 22 ?_;refine wpList_store_row rfl 194 (.tmp 7) (.tmp 22) rfl _ (iA row) rfl rfl 194 (#[(),(),(),(),(),(),(),(),(),(),(),(),(),(),(),()]) A7 B9 D3 (bV _) ?_))
   have o:=below_setRow (ae wr (.cells (#[(),(),(),(),(),(),(),(),(),(),(),(),(),(),(),()]) 194)) Me (iA row)
   have C2:=Md (iA row) A7
   have A8:=Blk.aj hG o
   have D4:=MI (Blk.aj hZ o)
   have B0:=MI (bD I o)
   have D5:=MI A8
   have E8:=A8.lt
   clear hG hZ I o A8 A7 B7
   generalize (wr.alloc (.cells (#[(),(),(),(),(),(),(),(),(),(),(),(),(),(),(),()]) 194)).setRow wr.heap.size (iA row)=W7 at*
   generalize wr.heap.size=q7 at*
   go_upto_region 8 with(first
    | (with_reducible refine MC 194 7 ?_;refine wpList_load_row rfl 194 (.tmp 7) rfl q7 rfl 194 (iA row) (0,0) _ C2 Tryz.underlying194 rfl B9 ?_)
    | (go_at_call 161;refine(B8.out _).mono ?_;rintro e w8 ⟨g4,A0,rfl,A9⟩;have C0:=Blk.aj D5.out A9;have D6:=uK C0 (i*4) (iA g4).size (by rw[az,A0,List.size_toArray,List.length_map,J];omega);have D7:(Tryz.prog.info? 191).map (·.size)=some (iA g4).size:=by(rw[az,A0];kernel_rfl))
    | (with_reducible refine MF 191 27 26 ?_;refine wpList_store_mid rfl 191 (.tmp 27) (.tmp 26) rfl w.heap.size (i*4) (iA g4) rfl rfl D6 D7 (bV _) ?_))
   have D8:=Blk.setCells (vs:=g4) C0 (i*4) (by rw[A0,J];omega)
   have D9:ag (fun q=>q=w.heap.size) w8 (w8.setCells w.heap.size (i*4) (iA g4).toList):=ag.setCells _ (ag.refl (fun q=>q=w.heap.size) w8) (.inr rfl) (i*4)
   have E0:=Blk.kept (Blk.aj D4.out A9) D9 aa
   have B1:=kN (bD B0.out A9) Me (i*4) (iA g4).toList
   go_wp2_with fail
   exact⟨⟨i+1,_,aa,aD,by rw[gu _ _ _ (by rw[A0,J];omega)];exact J,D8,E0,B1⟩,by simp[aC];omega⟩
  ·obtain rfl:i=c:=aa
   have E9:¬(i:Int)<(i:Int):=aa
   have HE:Hid (zg i size w (.returned (.slice (some ⟨w.heap.size,0,none⟩) i i)) wr):=⟨_,gs,rfl,Me,J,hG,I,fun h=>aa⟩
   clear hG hZ I
   go_wp2_with fail
   go_ret
   exact HE.out
theorem Jg(cb:Nat)(size:Int)(ao:Option Addr)(n cap:Nat)(l:List Int)(hn:n≤10000)(I: ∀z ∈ l,(Lit.int .i64 z).wf=true)(w:World)(hC:mF w cb size)(hI:Ints .i64 w ao n l):Calls Tryz.prog 130 #[.pointer (some ⟨cb,0,none⟩),.slice ao n cap] w (zg (aO n) size w):=
 yF cb size ao n cap l hn I w (fun h=>Jf cb size h ao n cap l hn I w hC hI) hC hI
theorem putB_w8{x:Wr}(h:W8 x.bs)(v i:Nat):W8 (putB x v i).bs:=by
 show W8 (orB (IY x) (x.n/8) (x.n%8) (jo v i))
 unfold orB
 refine wf_set ?_ _ (or_wf _ _)
 unfold IY
 split
 ·intro z hz
  rcases List.mem_append.1 hz with h1 | h1
  ·exact h z h1
  ·rw[List.mem_singleton.1 h1];decide
 ·exact h
theorem lU{x:Wr}(h:W8 x.bs)(v k:Nat):W8 (jh x v k).bs:=by
 induction k generalizing x with
 | zero=>exact h
 | succ k ih=>exact ih (putB_w8 h v k)
theorem frW_w8(z:List Int)(ts:List (Int×Int)):W8 (frW z ts).bs:=by
 have h0:W8 wr0.bs:=lU (fun z hz=>by cases hz) _ _
 have h1: ∀j,W8 (gS z j).bs:=fun j=>by
  induction j with
  | zero=>exact h0
  | succ j ih=>exact lU ih _ _
 have h2: ∀j,W8 (tS z ts j).bs:=fun j=>by
  induction j with
  | zero=>exact lU (h1 4) _ _
  | succ j ih=>exact lU (lU ih _ _) _ _
 have h3: ∀j,W8 (sS z ts j).bs:=fun j=>by
  induction j with
  | zero=>exact h2 _
  | succ j ih=>exact lU (lU ih _ _) _ _
 have h4: ∀j,W8 (qS z ts j).bs:=fun j=>by
  induction j with
  | zero=>exact h3 _
  | succ j ih=>exact lU ih _ _
 exact h4 16
theorem frB_w8(z:List Int)(ts:List (Int×Int))(size:Nat):W8 (frB z ts size):=fun x hx=>by
 rcases List.mem_append.1 hx with h1 | h1
 ·exact frW_w8 z ts x h1
 ·rw[List.eq_of_mem_replicate h1];decide
theorem GK{base ib:Nat}{w w':World}{v:Value}{fs:List Fm}{zs:List Int}(h:qo base w v fs)(hB:Blk .u8 w ib 5 zs)(hk:ag (fun k=>k=ib) w w'):qo base w' v fs:=by
 refine⟨aB h.own hk (fun k J e=>?_),fun f hf=>?_⟩
 ·obtain⟨cs,R⟩:=ah h.own J
  subst e
  exact aI R hB aq rfl
 ·have hq:=h.ok f hf
  refine⟨hq.z,hq.t.vW hk (fun h0 a ha e=>?_),hq.n,hq.ne⟩
  obtain⟨a2,I,hc⟩:=hq.t.cell 0 h0
  have e2:a2=a:=by rw[ha] at I;cases I;rfl
  subst e2
  have h1:=hc 0 _ rfl
  rw[Nat.zero_mul,jV,jV] at h1
  have e:a2.block=ib:=e
  obtain⟨b,o,sp⟩:=a2
  obtain rfl:b=ib:=e
  unfold World.cell? at h1
  rw[show w.heap[b]? =_ from hB] at h1
  simp only at h1
  split at h1
  ·cases h1
  ·rw[List.getElem?_toArray,List.getElem?_map] at h1
   cases hz:zs[o]? with
   | none=>rw[hz] at h1;cases h1
   | some q=>rw[hz] at h1;cases h1
theorem NV{α:Type}(g:α→List Value)(s:Nat)(d:α)(fs:List α)(h: ∀f ∈ fs,(g f).length=s)(j:Nat)(hj:j<fs.length):((fs.flatMap g).drop (j*s)).take s=g (fs.getD j d):=by
 induction fs generalizing j with
 | nil=>simp at hj
 | cons f fs ih=>
  have hf:=h f ar
  rw[List.flatMap_cons]
  cases j with
  | zero=>rw[Nat.zero_mul,List.drop_zero,List.take_append_of_le_length aa,List.take_of_length_le aa];rfl
  | succ j=>
   rw[Nat.succ_mul,show j*s+s=(g f).length+j*s by omega,←List.drop_drop,List.drop_left']
   ·exact ih (fun x hx=>h x (by simp[hx])) j (by simpa using hj)
   ·rfl
def fm0:Fm:=⟨[],none,0,0,[]⟩
theorem fs_row{base:Nat}{w:World}{g m c:Nat}{fs:List Fm}(h:qo base w (.slice (some ⟨g,0,none⟩) m c) fs)(hm:fs.length=m)(j:Nat)(hj:j<fs.length):w.rangeAt g (j*29) (fmV (fs.getD j fm0)):=by
 have ho:=h.own
 rw[hm] at ho
 have:=oW ho (j*29) 29
 rwa [NV fmV 29 fm0 fs (fun f hf=>zY (h.ok f hf).z) j hj] at this
theorem zX(cb:Nat)(size:Int)(ao:Option Addr)(n cap:Nat)(l:List Int)(I:0<n)(hn:n≤10000)(w:World)(hC:mF w cb size)(hI:Ints .i64 w ao n l):Calls Tryz.prog 93 #[.pointer (some ⟨cb,0,none⟩),.slice ao n cap] w (FrsP n l size w):=by
 have hc:aO n≤10000:=by unfold aO;omega
 exact zW cb size ao n cap l I hn w hC hI (fun _ b hb _ W=>Cm b hb W) (fun _ g W J hB=>Jg cb size _ n n l hn hI.wf W J (Blk.ints hB n hI.hlen aE hI.wf)) (fun _=>meet193 _ hc)
def FrAP(n:Nat)(l:List Int)(size:Int)(w:World)(e:Ending)(w':World):Prop:=∃(v:Value)(err:Int),e= .returned (.tuple #[v,.int .i64 err])∧Below w.heap.size w w'∧((err≠0∧¬jW n l size)∨(err=0∧∃fs,fs.length=aO n∧qo w.heap.size w' v fs∧(jW n l size→fs=[exF l])))
theorem Ji{F:Nat}{A:Array Value}{n:Nat}{l:List Int}{size:Int}{w:World}(h:Calls Tryz.prog F A w (FrsP n l size w)):Calls Tryz.prog F A w (FrAP n l size w):=h.mono (fun e w' h=>by
 obtain⟨hb,⟨err,h1,h2,h3⟩ | ⟨v,fs,h1,h2,h3,h4⟩⟩:=h
 ·exact⟨_,err,h2,hb,.inl ⟨h1,h3⟩⟩
 ·exact⟨v,0,h1,hb,.inr ⟨rfl,fs,h2,h3,h4⟩⟩)
def LayAP(ib L:Nat)(zs:List Int)(m:Mt)(cs:List (List Int))(size:Nat)(w:World)(e:Ending)(w':World):Prop:=∃(zs':List Int)(err:Int),e= .returned (.int .i64 err)∧zs'.length=L∧W8 zs'∧Blk .u8 w' ib 5 zs'∧ag (fun k=>k=ib) w w'∧∀l,cs=[l]→sZ m l size→err=0∧zs'=uf zs m l size
theorem Jc(w0:World)(ib L cap cb size:Nat)(I5:0<size)(I6:size≤96)(m:Mt)(s:Sr)(n:Nat)(I7:0<n)(hn:n≤10000)(D0:m.ch=s.cs.length)(G0:s.cs.length≤2)(hlen: ∀k,k<s.cs.length→(s.cs.getD k []).length=n)(zs:List Int)(I8:L≤cap)(H8:cap≤60000)(hf:m.first+size*(aO n*s.cs.length)≤L)(I9:m.sums+4*(aO n*s.cs.length)≤L)(w:World)(D1:Below w0.heap.size w0 w)(G1:w0.heap.size≤ib)(hS: ∀W,ag (fun k=>k=ib) w W→wW W s)(hB:Blk .u8 w ib 5 zs)(hL:zs.length=L)(h8:W8 zs)(hC:mF w cb (size:Int)):Calls Tryz.prog 58 #[.slice (some ⟨ib,0,none⟩) L cap,.agg (aF m),.agg (srA s),.pointer (some ⟨cb,0,none⟩)] w (LayAP ib L zs m s.cs size w):=by
 obtain⟨NS,B4⟩: ∃NS,NS=size*(aO n*s.cs.length):=⟨_,rfl⟩
 obtain⟨NQ,D2⟩: ∃NQ,NQ=aO n*s.cs.length:=⟨_,rfl⟩
 rw[←D2] at B4 hf I9
 rw[←B4] at hf
 have M0:0<aO n:=by unfold aO;omega
 have M1:aO n≤10000:=by unfold aO;omega
 obtain⟨nl,rate,loop,ls,le,d,dc,cs⟩:=s
 have D0:m.ch=cs.length:=D0
 have G0:cs.length≤2:=G0
 have H9:Hid (∀k,k<cs.length→(cs.getD k []).length=n):=hlen
 have J0:=MI B4
 have J1:Hid (NQ=aO n*cs.length):=D2
 have D3:=ae w (.cells (aF m) 54)
 have B5:=L9 w (.cells (aF m) 54)
 have D4:=ae (w.alloc (.cells (aF m) 54)) (.cells (srA ⟨nl,rate,loop,ls,le,d,dc,cs⟩) 76)
 have B6:=L9 (w.alloc (.cells (aF m) 54)) (.cells (srA ⟨nl,rate,loop,ls,le,d,dc,cs⟩) 76)
 have B5:=rwB B5 D4
 have A5:=D3.trans (D4.mono D3.size)
 rw[World.size_alloc] at B6
 have G2:LyS w0 w ib cb size m ⟨nl,rate,loop,ls,le,d,dc,cs⟩ L zs ((w.alloc (.cells (aF m) 54)).alloc (.cells (srA ⟨nl,rate,loop,ls,le,d,dc,cs⟩) 76)):=
  ⟨hB.aj A5,hL,h8,B5,B6,hC.aj A5,(ag.refl _ w).below A5 Me,D1.trans (A5.mono D1.size)⟩
 have G3:=MI G2
 have HS:=MI hS
 have HF:=MI (fun ao cp l W hC hI=>Ji (zX cb size ao n cp l I7 hn W hC hI))
 have HY:=MI (fun gb z ao c ts (fn:Nat) W hC hr hz hT=>C9 cb size I5 I6 gb z hz ao fn c ts W hC hr hT)
 have G4:Hid (∀l,cs=[l]→l.length=n):=fun l e=>by
  have:=hlen 0 (by show 0<cs.length;rw[e];exact Nat.one_pos)
  rw[show(⟨nl,rate,loop,ls,le,d,dc,cs⟩:Sr).cs=[l] from e] at this
  exact this
 clear D3 D4 B5 A5 hB hC G2 D1 hS hlen B4 D2
 obtain⟨a0,a1,a2,a3,a4,a5⟩:=eX B6
 clear B6
 go_enter Tryz.func58,Tryz.ntmps58
 go_upto_region 2 with fail
 change Code.wp _ _ _ _ ((w.alloc (.cells (aF m) 54)).alloc (.cells (srA ⟨nl,rate,loop,ls,le,d,dc,cs⟩) 76))
 generalize (w.alloc (.cells (aF m) 54)).alloc (.cells (srA ⟨nl,rate,loop,ls,le,d,dc,cs⟩) 76)=W at*
 clear a0 a1 a2 a3 a4 a5
 go_loopw [21] (fun v21 wr=>∃(k:Nat)(zk:List Int),k≤cs.length∧v21= .int .i64 (k:Int)∧LyS w0 w ib cb size m ⟨nl,rate,loop,ls,le,d,dc,cs⟩ L zk wr∧Hid (∀l,cs=[l]→sZ m l size→(k=0→zk=zs)∧(k=1→zk=uf zs m l size))) (fun v21 _=>cs.length - aC v21)
 case atStart=>exact⟨0,zs,aa,rfl,G3.out,fun l e h=>⟨fun _=>rfl,fun e=>by cases e⟩⟩
 case round=>
  clear G3
  obtain⟨k,zk,hk,rfl,hR,hE⟩:=hrel
  by_cases B7:k<cs.length
  ·have M3:(k:Int)<(cs.length:Int):=aa
   obtain⟨a,ao,cp,hd,hc,hI⟩:=(HS.out wr hR.k).c k B7
   obtain rfl:d=some a:=hd
   have hl:=H9.out k B7
   have hc:wr.cell? (a.add k)=some (.slice ao (cs.getD k []).length cp):=hc
   have hI:Ints .i64 wr ao (cs.getD k []).length (cs.getD k []):=hI
   rw[hl] at hc hI
   have G5:Hid (∀l,cs=[l]→k=0∧cs.getD k []=l):=fun l e=>by
    have h1:k<1:=by rw[e] at B7;exact B7
    obtain rfl:k=0:=aa
    exact⟨rfl,by rw[e];rfl⟩
   have hP:=MI (HF.out ao cp (cs.getD k []) wr hR.cd hI)
   have HR:=MI hR
   clear hR hI hl
   generalize cs.getD k []=lk at*
   go_upto_region 5 with(go_at_call 93;refine hP.out.mono ?_;rintro e w2 ⟨v,err,rfl,G6,G7⟩)
   have A0:=HR.out.next G6
   have A1:=MI A0
   have D5:=MI G7
   clear G6 A0 G7 HR hc
   by_cases he:err=0
   case neg=>
    have J2:(err==0)=false:=by simpa using he
    go_wp2_with fail
    go_ret
    exact⟨zk,err,rfl,A1.out.len,A1.out.w8,A1.out.im,A1.out.k,fun l e h=>by
     rcases D5.out with⟨-,h2⟩ | ⟨h2,-⟩
     ·have h3:=(G5.out l e).2
      rw[h3] at h2
      have h4:=h.ex
      rw[G4.out l e] at h4
      exact absurd h4 h2
     ·exact absurd h2 he⟩
   subst he
   have J3: ∃fs,fs.length=aO n∧qo wr.heap.size w2 v fs∧(jW n lk (size:Int)→fs=[exF lk]):=by
    rcases D5.out with⟨h1,-⟩ | ⟨-,h2⟩
    ·exact absurd rfl h1
    ·exact h2
   obtain⟨fs,A6,A7,G8⟩:=J3
   obtain⟨g,c,rfl⟩:=lC A7.own aa
   obtain⟨bs,A7⟩: ∃bs,qo bs w2 (.slice (some ⟨g,0,none⟩) fs.length c) fs:=⟨_,A7⟩
   rw[A6]
   have D6:Hid (∀l,cs=[l]→sZ m l size→k=0∧fs=[exF l]):=fun l e h=>by
    obtain⟨h1,h2⟩:=G5.out l e
    have h4:=h.ex
    rw[G4.out l e] at h4
    rw[←h2] at h4⊢
    exact⟨h1,G8 h4⟩
   have J4:=MI A7
   clear A7 G8 D5
   go_upto_region 8 with fail
   go_loopw [37] (fun v37 wq=>∃(j:Nat)(zj:List Int),j≤aO n∧v37= .int .i64 (j:Int)∧LyS w0 w ib cb size m ⟨nl,rate,loop,ls,le,some a,dc,cs⟩ L zj wq∧Hid (qo bs wq (.slice (some ⟨g,0,none⟩) (aO n) c) fs)∧Hid (∀l,cs=[l]→sZ m l size→(j=0→zj=zs)∧(j=1→zj=uf zs m l size))) (fun v37 _=>aO n - aC v37)
   case atStart=>exact⟨0,zk,aa,rfl,A1.out,by rw[←A6];exact J4.out,fun l e h=>⟨fun _=>(hE.out l e h).1 (D6.out l e h).1,fun e=>by cases e⟩⟩
   case round=>
    obtain⟨j,zj,hj,rfl,B8,A8,D7⟩:=hrel
    by_cases M5:j<aO n
    ·have M4:(j:Int)<(aO n:Int):=aa
     have B9:j<fs.length:=aa
     have D8:fs.getD j fm0 ∈ fs:=by rw[List.getD,List.getElem?_eq_getElem B9];exact List.getElem_mem _
     have D9:=A8.out.ok _ D8
     have A2:=D9.z
     have hT:=D9.t
     have hr:=fs_row A8.out A6 j B9
     have E0:Hid (∀l,cs=[l]→sZ m l size→k=0∧j=0∧fs.getD j fm0=exF l):=fun l e h=>by
      obtain⟨h1,h2⟩:=D6.out l e h
      rw[h2] at B9
      obtain rfl:j=0:=by have:j<1:=B9;omega
      exact⟨h1,rfl,by rw[h2];rfl⟩
     have J5:=MI B8
     clear D8 D9 B8
     generalize J6:fs.getD j fm0=f at*
     clear J6
     obtain⟨q,hq⟩: ∃q,q=j*cs.length+k:=⟨_,rfl⟩
     have G9:q+1≤NQ:=by
      rw[J1.out,hq]
      have h1:(j+1)*cs.length≤aO n*cs.length:=Nat.mul_le_mul_right _ aa
      rw[Nat.succ_mul] at h1
      omega
     obtain⟨jc,H0⟩: ∃jc,jc=j*cs.length:=⟨_,rfl⟩
     obtain⟨qs,C0⟩: ∃qs,qs=q*size:=⟨_,rfl⟩
     have I0:qs+size≤NS:=by
      rw[J0.out,C0]
      have h1:(q+1)*size≤NQ*size:=Nat.mul_le_mul_right _ G9
      rw[Nat.succ_mul] at h1
      rw[Nat.mul_comm size NQ]
      exact h1
     obtain⟨pos,I1⟩: ∃pos,pos=m.first+qs:=⟨_,rfl⟩
     obtain⟨sp,J7⟩: ∃sp,sp=m.sums+4*q:=⟨_,rfl⟩
     have M6:IntKind.i64.wrap ((j:Int)*(cs.length:Int))=(jc:Int):=by
      rw[show(j:Int)*(cs.length:Int)=(jc:Int) by rw[H0,Int.natCast_mul]]
      exact IntWalk.i64_in _ aa
     have M7:IntKind.i64.wrap ((jc:Int)+(k:Int))=(q:Int):=by
      rw[IntWalk.i64_in _ aa];omega
     have J8:IntKind.i64.wrap ((q:Int)*(size:Int))=(qs:Int):=by
      rw[show(q:Int)*(size:Int)=(qs:Int) by rw[C0,Int.natCast_mul]]
      exact IntWalk.i64_in _ aa
     have C1:IntKind.i64.wrap ((m.first:Int)+(qs:Int))=(pos:Int):=by
      rw[IntWalk.i64_in _ aa];omega
     have C2:IntKind.i64.wrap (4*(q:Int))=((4*q:Nat):Int):=by
      rw[IntWalk.i64_in _ aa];omega
     have C3:IntKind.i64.wrap ((m.sums:Int)+((4*q:Nat):Int))=(sp:Int):=by
      rw[IntWalk.i64_in _ aa];omega
     have HQ:Hid (∀l,cs=[l]→sZ m l size→pos=m.first∧sp=m.sums):=fun l e h=>by
      obtain⟨h1,h2,-⟩:=E0.out l e h
      subst h1;subst h2
      obtain rfl:q=0:=by rw[hq];simp
      rw[Nat.zero_mul] at C0
      exact⟨aa,aa⟩
     have M8:pos+size≤L:=aa
     have I2:sp+4≤L:=aa
     clear hq G9 H0 C0 I0 I1 J7
     have E1:=zY A2
     have B2:(Tryz.prog.info? 196).map (·.size)=some (fmV f).length:=by rw[E1];kernel_rfl
     have C4:(Tryz.prog.info? 196).map (·.size)=some (fmA f).size:=kw _ _ A2
     have E2:(#[(),(),(),(),.slice none 0 0,(),(),(),(),(),(),(),(),(),(),(),(),(),(),(),(),(),(),(),(),(),(),(),()]:Array Value).size=(fmA f).size:=(bM _ _ A2).symm
     have E3:(fmA f).all (·.oneCell')=true:=dH _ _ _ _
     have o:=GV f.z A2 f.ao f.n f.cap
     obtain⟨ie,J9,K0,B3,-⟩:=info_parts zQ
     rw[←B3] at o
     have K1:¬1*ie.size>2^24:=by rw[B3];decide
     have K2:¬1*ie.size=0:=by rw[B3];decide
     have I3:(fmV f).toArray=fmA f:=rfl
     go_upto_region 10 with(first
      | ((with_reducible refine MC 196 40 ?_);refine wpList_load_mid rfl 196 (.tmp 40) rfl g (j*29) rfl (fmV f) _ hr Tryz.underlying196 rfl B2 ?_;rw[I3])
      | ((with_reducible refine MF 196 14 41 ?_);refine wpList_store_row rfl 196 (.tmp 14) (.tmp 41) rfl _ (fmA f) rfl rfl 196 (#[(),(),(),(),.slice none 0 0,(),(),(),(),(),(),(),(),(),(),(),(),(),(),(),(),(),(),(),(),(),(),(),()]) (L9 _ _) C4 E2 E3 ?_))
     have A9:Below wr.heap.size wr ((wr.alloc (.cells #[(),(),(),(),.slice none 0 0,(),(),(),(),(),(),(),(),(),(),(),(),(),(),(),(),(),(),(),(),(),(),(),()] 196)).setRow wr.heap.size (fmA f)):=below_setRow (ae wr (.cells #[(),(),(),(),.slice none 0 0,(),(),(),(),(),(),(),(),(),(),(),(),(),(),(),(),(),(),(),(),(),(),(),()] 196)) Me _
     have E4:=Md (fmA f) (L9 wr (.cells #[(),(),(),(),.slice none 0 0,(),(),(),(),(),(),(),(),(),(),(),(),(),(),(),(),(),(),(),(),(),(),(),()] 196))
     have H2:=J5.out.next A9
     have H3:=A8.out.below A9
     have hT:=hT.aj A9
     change Code.wp _ _ _ _ ((wr.alloc (.cells #[(),(),(),(),.slice none 0 0,(),(),(),(),(),(),(),(),(),(),(),(),(),(),(),(),(),(),(),(),(),(),(),()] 196)).setRow wr.heap.size (fmA f))
     generalize (wr.alloc (.cells #[(),(),(),(),.slice none 0 0,(),(),(),(),(),(),(),(),(),(),(),(),(),(),(),(),(),(),(),(),(),(),(),()] 196)).setRow wr.heap.size (fmA f)=X at*
     generalize wr.heap.size=fb0 at*
     have B0:=ae X (.cells (fmA f) 196)
     have E5:=L9 X (.cells (fmA f) 196)
     have E6:=H2.next B0
     have E7:=MI (HY.out X.heap.size f.z f.ao f.cap f.ts f.n _ E6.cd E5 A2 (hT.aj B0))
     have K3:=MI (H3.below B0)
     have C5:=MI E6
     clear H2 E6 hT hr H3 A8
     go_upto_region 11 with(first
      | ((with_reducible refine MC 196 14 ?_);refine wpList_load_row rfl 196 (.tmp 14) rfl fb0 rfl 196 (fmA f) (0,0) _ E4 Tryz.underlying196 rfl C4 ?_)
      | ((with_reducible show wpList _ _ _ (Oper.mk _ (Op.buildSlice 188 _ _) _ _ _ _::_) _ _);refine wpList_buildSlice rfl 188 196 1 _ rfl (fmA f) ie (.agg #[(),(),(),(),.slice none 0 0,(),(),(),(),(),(),(),(),(),(),(),(),(),(),(),(),(),(),(),(),(),(),(),()]) Tryz.underlying188 J9 K0 K1 K2 (Eq.trans (congrArg (Instr.fill _ _) (show _=[(0,Value.agg (fmA f))] by kernel_rfl)) o) ?_)
      | (go_at_call 94;refine E7.out.mono ?_;rintro e w4 ⟨ao4,m4,c4,err4,rfl,C6,h0,h1⟩))
     have A4:=C5.out.next C6
     have K4:=MI (K3.out.below C6)
     have K5:Hid (∀l,cs=[l]→sZ m l size→err4=0):=fun l e h=>by
      obtain⟨-,-,h3⟩:=E0.out l e h
      subst h3
      exact h1 h.rt h.ln
     by_cases E8:err4=0
     case neg=>
      have J2:(err4==0)=false:=by simpa using E8
      have J:=MI A4
      clear A4 C6 h0 h1 E4 E5 B0 A9 o E3 E2 C4 B2 E1 A2 E7 C5 A1
      go_wp2_with fail
      go_ret
      exact⟨zj,err4,rfl,J.out.len,J.out.w8,J.out.im,J.out.k,fun l e h=>absurd (K5.out l e h) E8⟩
     subst E8
     obtain⟨K6,E9,g4,rfl,M9,H4⟩:=h0 rfl
     obtain rfl:size=m4:=K6.symm
     clear h1
     go_upto_region 13 with fail
     have N0:=C5.out.im.lt
     have I4:g4≠ib:=aa
     have F1:=A4.mt
     obtain⟨m0',m1',m2',m3',m4',m5',m6',m7',m8'⟩:=fP F1
     rw[D0] at m3'
     have F2:w.heap.size≠ib:=aI F1 A4.im aq
     have J:=MI A4
     have H5:=MI H4
     have A3:=MI E9
     have F3:=MI (frB_w8 f.z f.ts size)
     obtain⟨zB,F4⟩: ∃zB,zB=kH (aT zj pos (frB f.z f.ts size)) sp 4 (gm (frB f.z f.ts size)).toNat 4:=⟨_,rfl⟩
     have C7:=MI F4
     have K7:Hid (∀l,cs=[l]→sZ m l size→zB=uf zs m l size):=fun l e h=>by
      obtain⟨h1,h2,h3⟩:=E0.out l e h
      obtain⟨h4,h5⟩:=HQ.out l e h
      have h6:=(D7.out l e h).1 h2
      subst h6;subst h3
      rw[F4,h4,h5]
      rfl
     clear F4
     clear A4 H4 E9 C6 E4 E5 B0 A9 o E3 E2 C4 B2 E1 A2 E7 C5 A1
     generalize frB f.z f.ts size=fb at*
     go_upto_region 14 with fail
     clear m0' m1' m2' m3' m4' m5' m6' m7' m8'
     have F5:=MI (qY cb (size:Int) w4.drew ⟨J.out.cd.row⟩)
     have F6:=fun W=>xW ib 0 L cap pos aa aa I8 H8 W
     rw[Nat.zero_add] at F6
     have K8:Nat.min size (L - pos)=size:=Nat.min_eq_left aa
     have K9: ∀ty,(Builtin.copy_ #[63,63] ty #[.slice (some ⟨ib,pos,none⟩) (L - pos) (cap - pos),.slice (some ⟨g4,0,none⟩) size c4]).run Tryz.prog w4.drew= .ok (goInt size) (w4.drew.setCells ib pos (fb.map (.int .u8))):=fun ty=>lY (P:=Tryz.prog) w4.drew 63 63 ty 5 ib pos (L - pos) (cap - pos) ⟨g4,0,none⟩ size c4 1 size (fb.map (.int .u8)) Tryz.underlying63 af K8 (by rw[List.length_map,A3.out,Nat.mul_one]) (H5.out.cells rfl) (fun j hj=>by
       rw[List.length_map,A3.out] at hj
       have h5:=J.out.im.cell (i:=pos+j) (by rw[J.out.len];omega)
       rw[show w4.drew.cell? ⟨ib,pos+j,none⟩=_ from h5]
       rfl) (fun j hj=>J.out.im.frozen _) (lD _ _)
     have C8:w4.drew.heap[w.heap.size]? =some (.cells (aF m) 54 (0,0)):=J.out.mt
     have F7:ag (fun k=>k=ib) w4.drew (w4.drew.setCells ib pos (fb.map (.int .u8))):=ag.setCells (S:=fun k=>k=ib) _ (ag.refl (fun k=>k=ib) w4.drew) (.inr rfl) pos
     have H6:LyS w0 w ib cb size m ⟨nl,rate,loop,ls,le,some a,dc,cs⟩ L (aT zj pos fb) (w4.drew.setCells ib pos (fb.map (.int .u8))):=(J.out.next (Below.refl _ w4).drew).put (Blk.setCells (vs:=fb) (show Blk .u8 w4.drew ib 5 zj from J.out.im) pos (by rw[A3.out,J.out.len];omega)) (by rw[gu _ _ _ (by rw[A3.out,J.out.len];omega)];exact J.out.len) (Dv J.out.w8 _ F3.out) F7 G1
     have U:=MI H6
     have F8:=MI F7
     clear H6 F7
     refine wp_region_noPanic ?_
     refine wp_region_held_drew (S:=fun w'=>w'.heap[w.heap.size]? =some (.cells (aF m) 54 (0,0))) af ?_ (fun I=>?_)
     ·exact C8
     refine ba 0 ?_
     try simp only[Act.put,aS]
     refine ba 1 ?_
     try simp only[Act.put,aS]
     refine MG 2 ?_ ?_ aw ?_
     rotate_left
     ·(intro w' R;obtain⟨a0,a1,a2,a3,a4,a5,a6,a7,a8⟩:=fP R;(try dsimp only at*);go_simp;try with_reducible rfl)
     try simp only[Act.put,aS]
     refine ba 3 ?_
     try simp only[Act.put,aS]
     refine ba 4 ?_
     try simp only[Act.put,aS]
     refine ba 9 ?_
     try simp only[Act.put,aS]
     refine bj 5 (fun K hK=>?_)
     go_simp
     go_at_call 95;refine F5.out.mono ?_;rintro e w5 ⟨rfl,rfl⟩
     refine hK.out _ _ ?_ (fun I=>?_)
     ·(try dsimp only);exact I
     clear hK K
     try simp only[Act.put,aS]
     refine wpAnyH_take (i:=6) (v:=.int .i64 (qs:Int)) rfl af af af (fun _ _ _ h=>h) (Or.inl ⟨af,?_⟩) aw ?_
     ·(intro w R;(try dsimp only at R);go_simp;try (first | rfl | exact J8))
     try simp only[Act.put,aS]
     refine wpAnyH_take (i:=7) (v:=.int .i64 (pos:Int)) rfl af af af (fun _ _ _ h=>h) (Or.inl ⟨af,?_⟩) aw ?_
     ·(intro w R;(try dsimp only at R);go_simp;try (first | rfl | exact C1 | exact C2 | exact C3 | exact IntWalk.i64_in _ aa | (rw[IntWalk.i64_in _ aa];omega)))
     try simp only[Act.put,aS]
     refine wpAnyH_take (i:=8) (v:=.slice (some ⟨ib,pos,none⟩) (L - pos) (cap - pos)) rfl af af af (fun _ _ _ h=>h) (mG af 63 (.tmp 58) (.tmp 65) rfl rfl rfl F6) aw ?_
     try simp only[Act.put,aS]
     refine bj 10 (fun K hK=>?_)
     go_simp
     refine hK.out _ _ ?_ (fun I=>?_)
     ·(try dsimp only);exact(F8.out.heap I F2)
     clear hK K
     try simp only[Act.put,aS]
     refine wpAnyH_done af ?_ _
     refine NoPanic.normal ?_
     go_upto_region 15 with fail
     generalize w4.drew.setCells ib pos (fb.map (.int .u8))=X5 at*
     have H7:Ints .u8 X5.drew (some ⟨g4,0,none⟩) size fb:=⟨A3.out,aE,fun i hi=>⟨_,rfl,by
      have hg:(fb.map (Value.int .u8))[i]? =some (.int .u8 (fb.getD i 0)):=by
       rw[List.getElem?_map,List.getElem?_eq_getElem (by rw[A3.out];exact hi)]
       simp[List.getD,List.getElem?_eq_getElem (show i<fb.length by rw[A3.out];exact hi)]
      have h5:=H5.out.cells (g:=g4) rfl i _ hg
      rw[add0] at h5⊢
      exact F8.out.cell (show w4.drew.cell? _=_ from h5) (fun e=>I4 e)⟩,F3.out⟩
     have L0:=MI (sum_any (some ⟨g4,0,none⟩) size c4 fb X5.drew H7)
     have N1:=wJ fb F3.out
     have B1:=lF ib 0 L cap (aT zj pos fb) sp 4 (gm fb).toNat aq I2 (by rw[U.out.len];omega) (by rw[U.out.len];omega) aa X5.drew (show Blk .u8 X5.drew ib 5 _ from U.out.im)
     generalize gm fb=cr at*
     obtain⟨cn,rfl⟩: ∃cn:Nat,cr=(cn:Int):=⟨cr.toNat,aa⟩
     rw[Int.toNat_natCast] at B1 C7
     rw[Nat.zero_add,←C7.out,show((4:Nat):Int)=4 from rfl] at B1
     have B1:=MI B1
     have L1:X5.drew.heap[w.heap.size]? =some (.cells (aF m) 54 (0,0)):=U.out.mt
     have N2:IntKind.i64.wrap (cn:Int)=(cn:Int):=IntWalk.i64_in _ aa
     have L2:Hid (W8 zB):=by unfold Hid;rw[C7.out];exact qG U.out.w8 _ _ _ _
     have L3:Hid (zB.length=L):=by unfold Hid;rw[C7.out,kG];exact U.out.len
     clear H7 C8 K9 F6 F5 I
     refine wp_region_noPanic ?_
     refine wp_region_held_drew (S:=fun w'=>w'.heap[w.heap.size]? =some (.cells (aF m) 54 (0,0))) af ?_ (fun I=>?_)
     ·exact L1
     refine ba 0 ?_
     try simp only[Act.put,aS]
     refine ba 1 ?_
     try simp only[Act.put,aS]
     refine MG 2 ?_ ?_ aw ?_
     rotate_left
     ·(intro w' R;obtain⟨a0,a1,a2,a3,a4,a5,a6,a7,a8⟩:=fP R;(try dsimp only at*);go_simp;try with_reducible rfl)
     try simp only[Act.put,aS]
     refine ba 3 ?_
     try simp only[Act.put,aS]
     refine wpAnyH_take (i:=4) (v:=.int .i64 ((4*q:Nat):Int)) rfl af af af (fun _ _ _ h=>h) (Or.inl ⟨af,?_⟩) aw ?_
     ·(intro w R;(try dsimp only at R);go_simp;try (first | rfl | exact C1 | exact C2 | exact C3 | exact IntWalk.i64_in _ aa | (rw[IntWalk.i64_in _ aa];omega)))
     try simp only[Act.put,aS]
     refine wpAnyH_take (i:=5) (v:=.int .i64 (sp:Int)) rfl af af af (fun _ _ _ h=>h) (Or.inl ⟨af,?_⟩) aw ?_
     ·(intro w R;(try dsimp only at R);go_simp;try (first | rfl | exact C1 | exact C2 | exact C3 | exact IntWalk.i64_in _ aa | (rw[IntWalk.i64_in _ aa];omega)))
     try simp only[Act.put,aS]
     refine ba 6 ?_
     try simp only[Act.put,aS]
     refine bj 7 (fun K hK=>?_)
     go_simp
     go_at_call 46;refine L0.out.mono ?_;rintro e w5 ⟨rfl,rfl⟩
     refine hK.out _ _ ?_ (fun I=>?_)
     ·(try dsimp only);exact I
     clear hK K
     try simp only[Act.put,aS]
     refine wpAnyH_take (i:=8) (v:=.int .i64 (cn:Int)) rfl af af af (fun _ _ _ h=>h) (Or.inl ⟨af,?_⟩) aw ?_
     ·(intro w R;(try dsimp only at R);go_simp;try (first | rfl | exact C1 | exact C2 | exact C3 | exact IntWalk.i64_in _ aa | (rw[IntWalk.i64_in _ aa];omega)))
     try simp only[Act.put,aS]
     refine bj 9 (fun K hK=>?_)
     go_simp
     go_at_call 96;refine B1.out.mono ?_;rintro e w6 ⟨rfl,L4,F9⟩
     refine hK.out _ _ ?_ (fun I=>?_)
     ·(try dsimp only);exact F9.heap I F2
     clear hK K
     try simp only[Act.put,aS]
     refine wpAnyH_done af ?_ _
     refine NoPanic.normal ?_
     have L5:=MI ((U.out.next (Below.refl _ X5).drew).put L4 L3.out L2.out F9 G1)
     have L6:=MI (GK (GK ((K4.out.below (Below.refl _ w4).drew)) (show Blk .u8 w4.drew ib 5 zj from J.out.im) F8.out |>.below (Below.refl _ X5).drew) (show Blk .u8 X5.drew ib 5 _ from U.out.im) F9)
     go_wp2_with fail
     exact⟨⟨j+1,zB,aa,aD,L5.out,L6.out,fun l e h=>⟨fun e=>aa,fun _=>K7.out l e h⟩⟩,by simp[aC];omega⟩
    ·obtain rfl:j=aO n:=aa
     have L7:=MI B8
     have L8:Hid (∀l,cs=[l]→sZ m l size→(k+1=0→zj=zs)∧(k+1=1→zj=uf zs m l size)):=fun l e h=>by
      obtain⟨h1,h2⟩:=D6.out l e h
      rw[h2] at A6
      exact⟨fun e=>aa,fun _=>(D7.out l e h).2 A6.symm⟩
     clear B8 A8 D7
     go_wp2_with fail
     exact⟨⟨k+1,zj,aa,aD,L7.out,L8⟩,by simp[aC];omega⟩
  ·obtain rfl:k=cs.length:=aa
   have A0:=MI hR
   clear hR
   go_wp2_with fail
   go_ret
   exact⟨zk,0,rfl,A0.out.len,A0.out.w8,A0.out.im,A0.out.k,fun l e h=>⟨rfl,(hE.out l e h).2 (by rw[e];rfl)⟩⟩
def rC(w:World)(B g n cap:Nat)(L:List Sr):Prop:=w.ownsRow B 76 6 (.slice (some ⟨g,0,none⟩) n cap) n (L.flatMap srV)∧L.length=n
theorem lT(s:Sr):(srV s).length=6:=rfl
theorem FN(L:List Sr):(L.flatMap srV).length=L.length*6:=by
 induction L with
 | nil=>rfl
 | cons a l ih=>rw[List.flatMap_cons,List.length_append,ih,lT,List.length_cons];omega
theorem zC: ∀(L:List Sr)(i:Nat)(h:i<L.length),((L.flatMap srV).drop (i*6)).take 6=srV (L.getD i sr0)
 | [],i,h=>by simp at h
 | a::l,0,_=>by
  rw[List.flatMap_cons,Nat.zero_mul,List.drop_zero,List.take_append_of_le_length (by rw[lT];exact Nat.le_refl _),List.take_of_length_le (by rw[lT];exact Nat.le_refl _)]
  rfl
 | a::l,i+1,h=>by
  rw[List.flatMap_cons,show(i+1)*6=(srV a).length+i*6 by rw[lT];omega,List.drop_append,List.drop_eq_nil_of_le aa,List.nil_append,show(srV a).length+i*6 - (srV a).length=i*6 by omega,zC l i (by simpa using h)]
  simp[List.getD]
theorem FM: ∀(L:List Sr)(i:Nat)(h:i<L.length)(s:Sr),aT (L.flatMap srV) (i*6) (srV s)=(L.set i s).flatMap srV
 | [],i,h,s=>by simp at h
 | a::l,0,_,s=>by
  unfold aT
  rw[Nat.zero_mul,List.take_zero,List.nil_append,List.set_cons_zero,List.flatMap_cons,List.flatMap_cons,Nat.zero_add,List.drop_append,List.drop_eq_nil_of_le (by rw[lT,lT];exact Nat.le_refl _),List.nil_append,show(srV s).length - (srV a).length=0 from rfl,List.drop_zero]
 | a::l,i+1,h,s=>by
  have ih:=FM l i (by simpa using h) s
  unfold aT at ih⊢
  rw[List.set_cons_succ,List.flatMap_cons,List.flatMap_cons,←ih]
  have e:(i+1)*6=(srV a).length+i*6:=by rw[lT];omega
  rw[e,List.take_append,List.take_of_length_le aa,show(srV a).length+i*6 - (srV a).length=i*6 by omega,Nat.add_assoc,List.drop_append,List.drop_eq_nil_of_le aa,List.nil_append,show(srV a).length+(i*6+(srV s).length) - (srV a).length=i*6+(srV s).length by omega,List.append_assoc]
theorem rC.row{w:World}{B g n cap:Nat}{L:List Sr}(h:rC w B g n cap L){i:Nat}(hi:i<n):w.rangeAt g (i*6) (srV (L.getD i sr0)):=by
 have h1:=oW h.1 (i*6) 6
 rwa [zC L i (by rw[h.2];exact hi)] at h1
theorem rC.set{w:World}{B g n cap:Nat}{L:List Sr}(h:rC w B g n cap L){i:Nat}(hi:i<n)(s:Sr):rC (w.setCells g (i*6) (srV s)) B g n cap (L.set i s):=by
 have h1:=iZ h.1 rfl (i*6) (srV s) (by rw[lT];omega)
 rw[FM L i (by rw[h.2];exact hi)] at h1
 exact⟨h1,by rw[List.length_set];exact h.2⟩
theorem cmp91(t1 t2:ByteArray)(r1 x1 y1 r2 x2 y2:Int)(l1 l2:Bool)(d1 d2:Option Addr)(n1 c1 n2 c2:Nat)(w:World):Calls Tryz.prog 91 #[.agg #[.string t1,.int .i64 r1,.bool l1,.int .i64 x1,.int .i64 y1,.slice d1 n1 c1],.agg #[.string t2,.int .i64 r2,.bool l2,.int .i64 x2,.int .i64 y2,.slice d2 n2 c2]] w (Dn w):=by
 have hb:=MI (bD (ae w (.cells #[.string t1,.int .i64 r1,.bool l1,.int .i64 x1,.int .i64 y1,.slice d1 n1 c1] 76)) (ae _ (.cells #[.string t2,.int .i64 r2,.bool l2,.int .i64 x2,.int .i64 y2,.slice d2 n2 c2] 76)))
 have HC:=MI (fun w=>NU (yN t1 t2 w))
 go_enter Tryz.func91,Tryz.ntmps91
 go_wp2_with (go_at_call 31;refine(HC.out _).mono ?_;rintro e w2 ⟨rfl,rfl⟩)
 go_ret
 exact⟨_,rfl,hb.out⟩
def Fh(B g n cap:Nat)(L:List Sr)(w:World)(e:Ending)(w':World):Prop:=e= .returned (.tuple #[])∧(∃L',rC w' B g n cap L'∧∀s ∈ L',s ∈ L)∧ag (fun k=>k=g) w w'
theorem EF(B g n cap a b:Nat)(B7:a≤b)(hb:b≤n)(hn:n≤1000)(L0:List Sr)(w:World)(h:rC w B g n cap L0):Calls Tryz.prog 157 #[.slice (some ⟨g,0,none⟩) n cap,.int .i64 (a:Int),.int .i64 (b:Int),.func (.func 91) #[] #[]] w (Fh B g n cap L0 w):=by
 have HF:=MI cmp91
 unfold Dn at HF
 have HZ:=MI h
 have B8:g<w.heap.size:=gX h.1 rfl
 clear h
 go_enter Tryz.func157,Tryz.ntmps157
 go_upto_region 1 with fail
 go_loopw [8] (fun v8 wr=>∃(i:Nat)(L:List Sr),i≤b+1∧a+1≤i∧v8= .int .i64 (i:Int)∧rC wr B g n cap L∧Hid (∀s ∈ L,s ∈ L0)∧ag (fun k=>k=g) w wr) (fun v8 _=>b+1 - aC v8)
 case atStart=>exact⟨a+1,L0,aa,aa,aD,HZ.out,fun s h=>h,ag.refl _ _⟩
 case round=>
  clear HZ
  obtain⟨i,L,hi,B9,rfl,hZ,R,hk⟩:=hrel
  by_cases C0:i<b
  ·have B3:(i:Int)<(b:Int):=aa
   go_upto_region 4 with fail
   go_loopw [9] (fun v9 wx=>∃(j:Nat)(L:List Sr),j≤i∧a≤j∧v9= .int .i64 (j:Int)∧rC wx B g n cap L∧Hid (∀s ∈ L,s ∈ L0)∧ag (fun k=>k=g) w wx) (fun v9 _=>aC v9)
   case atStart=>exact⟨i,L,aa,aa,rfl,hZ,R,hk⟩
   case round=>
    clear hZ hk R
    obtain⟨j,L,hj,C1,rfl,hZ,R,hk⟩:=hrel
    by_cases C2:a<j
    ·obtain⟨k,A2⟩: ∃k,j=k+1:=⟨j - 1,aa⟩
     have B4:(a:Int)<(j:Int):=aa
     have hx:=hZ.row (i:=j) aa
     have hy:=hZ.row (i:=k) aa
     have A3:L.getD j sr0 ∈ L:=by rw[List.getD,List.getElem?_eq_getElem (by rw[hZ.2];omega)];exact List.getElem_mem _
     have A4:L.getD k sr0 ∈ L:=by rw[List.getD,List.getElem?_eq_getElem (by rw[hZ.2];omega)];exact List.getElem_mem _
     have A6:=MI (R.out _ A3)
     have A7:=MI (R.out _ A4)
     clear A3 A4
     generalize L.getD j sr0=sj at*
     generalize L.getD k sr0=sk at*
     obtain⟨nl1,r1,l1,x1,y1,d1,c1,cs1⟩:=sj
     obtain⟨nl2,r2,l2,x2,y2,d2,c2,cs2⟩:=sk
     have HZ:=MI hZ
     have HK:=MI hk
     have HJ:=MI A2
     have C3:IntKind.i64.wrap ((j:Int) - 1)=(k:Int):=by rw[IntWalk.i64_in _ aa];omega
     have A8:k<n:=aa
     have A5:j<n:=aa
     have p0:wr.cell? ⟨g,j*6,none⟩=some (.string (strOfNums nl1)):=hx 0 _ rfl
     have p1:wr.cell? ⟨g,j*6+1,none⟩=some (.int .i64 r1):=hx 1 _ rfl
     have p2:wr.cell? ⟨g,j*6+2,none⟩=some (.bool l1):=hx 2 _ rfl
     have p3:wr.cell? ⟨g,j*6+3,none⟩=some (.int .i64 x1):=hx 3 _ rfl
     have p4:wr.cell? ⟨g,j*6+4,none⟩=some (.int .i64 y1):=hx 4 _ rfl
     have p5:wr.cell? ⟨g,j*6+5,none⟩=some (.slice d1 cs1.length c1):=hx 5 _ rfl
     have q0:wr.cell? ⟨g,k*6,none⟩=some (.string (strOfNums nl2)):=hy 0 _ rfl
     have q1:wr.cell? ⟨g,k*6+1,none⟩=some (.int .i64 r2):=hy 1 _ rfl
     have q2:wr.cell? ⟨g,k*6+2,none⟩=some (.bool l2):=hy 2 _ rfl
     have q3:wr.cell? ⟨g,k*6+3,none⟩=some (.int .i64 x2):=hy 3 _ rfl
     have q4:wr.cell? ⟨g,k*6+4,none⟩=some (.int .i64 y2):=hy 4 _ rfl
     have q5:wr.cell? ⟨g,k*6+5,none⟩=some (.slice d2 cs2.length c2):=hy 5 _ rfl
     have J:g<wr.heap.size:=gX hZ.1 rfl
     clear A2
     clear hZ hk hx hy
     go_upto_region 4 with fail
     go_cut [34] (fun v34 wx=>∃r:Bool,v34= .bool r∧Below wr.heap.size wr wx)
     case first=>
      go_region_held3 (fun w'=>(w'.cell? ⟨g,j*6,none⟩=some (.string (strOfNums nl1))∧w'.cell? ⟨g,j*6+1,none⟩=some (.int .i64 r1)∧w'.cell? ⟨g,j*6+2,none⟩=some (.bool l1)∧w'.cell? ⟨g,j*6+3,none⟩=some (.int .i64 x1)∧w'.cell? ⟨g,j*6+4,none⟩=some (.int .i64 y1)∧w'.cell? ⟨g,j*6+5,none⟩=some (.slice d1 cs1.length c1))∧w'.cell? ⟨g,k*6,none⟩=some (.string (strOfNums nl2))∧w'.cell? ⟨g,k*6+1,none⟩=some (.int .i64 r2)∧w'.cell? ⟨g,k*6+2,none⟩=some (.bool l2)∧w'.cell? ⟨g,k*6+3,none⟩=some (.int .i64 x2)∧w'.cell? ⟨g,k*6+4,none⟩=some (.int .i64 y2)∧w'.cell? ⟨g,k*6+5,none⟩=some (.slice d2 cs2.length c2)) (first | exact⟨⟨p0,p1,p2,p3,p4,p5⟩,q0,q1,q2,q3,q4,q5⟩ | go_keep) (first
       | (go_at_call 91;refine(HF.out _ _ _ _ _ _ _ _ _ _ _ _ _ _ _ _ _).mono ?_;rintro e w2 ⟨r,rfl,I⟩;have p0:=(I.cell (p:=⟨g,j*6,none⟩) J).trans p0;have p1:=(I.cell (p:=⟨g,j*6+1,none⟩) J).trans p1;have p2:=(I.cell (p:=⟨g,j*6+2,none⟩) J).trans p2;have p3:=(I.cell (p:=⟨g,j*6+3,none⟩) J).trans p3;have p4:=(I.cell (p:=⟨g,j*6+4,none⟩) J).trans p4;have p5:=(I.cell (p:=⟨g,j*6+5,none⟩) J).trans p5;have q0:=(I.cell (p:=⟨g,k*6,none⟩) J).trans q0;have q1:=(I.cell (p:=⟨g,k*6+1,none⟩) J).trans q1;have q2:=(I.cell (p:=⟨g,k*6+2,none⟩) J).trans q2;have q3:=(I.cell (p:=⟨g,k*6+3,none⟩) J).trans q3;have q4:=(I.cell (p:=⟨g,k*6+4,none⟩) J).trans q4;have q5:=(I.cell (p:=⟨g,k*6+5,none⟩) J).trans q5))
      all_goals go_wp2_with fail
      all_goals go_meet
      all_goals exact⟨_,rfl,MB.drew.trans I⟩
     case rest=>
      obtain⟨r,rfl,I⟩:=hcut
      have o:=HZ.out
      have U:Hid (rC wc B g n cap L):=⟨aQ o.1 I,o.2⟩
      have A0:Hid (ag (fun k=>k=g) w wc):=HK.out.andThen (ag.au (S:=fun _=>False) I Me) (fun _ _ e=>e.elim)
      have C4:g<wc.heap.size:=Nat.lt_of_lt_of_le J I.size
      have p0:=(I.cell (p:=⟨g,j*6,none⟩) J).trans p0
      have p1:=(I.cell (p:=⟨g,j*6+1,none⟩) J).trans p1
      have p2:=(I.cell (p:=⟨g,j*6+2,none⟩) J).trans p2
      have p3:=(I.cell (p:=⟨g,j*6+3,none⟩) J).trans p3
      have p4:=(I.cell (p:=⟨g,j*6+4,none⟩) J).trans p4
      have p5:=(I.cell (p:=⟨g,j*6+5,none⟩) J).trans p5
      have q0:=(I.cell (p:=⟨g,k*6,none⟩) J).trans q0
      have q1:=(I.cell (p:=⟨g,k*6+1,none⟩) J).trans q1
      have q2:=(I.cell (p:=⟨g,k*6+2,none⟩) J).trans q2
      have q3:=(I.cell (p:=⟨g,k*6+3,none⟩) J).trans q3
      have q4:=(I.cell (p:=⟨g,k*6+4,none⟩) J).trans q4
      have q5:=(I.cell (p:=⟨g,k*6+5,none⟩) J).trans q5
      clear HZ HK o J I
      go_upto_if 34 with fail
      cases r with
      | false=>
       go_wp2_with fail
       exact⟨⟨i+1,L,aa,aa,aD,U.out,R,A0.out⟩,by simp[aC];omega⟩
      | true=>
       go_upto_region 6 with fail
       have hT:=U.out
       have f0:wc.frozen? ⟨g,j*6,none⟩=false:=(bJ hT.1 (j*6) 6 aa 0 aa).2
       have f1:wc.frozen? ⟨g,j*6+1,none⟩=false:=(bJ hT.1 (j*6) 6 aa 1 aa).2
       have f2:wc.frozen? ⟨g,j*6+2,none⟩=false:=(bJ hT.1 (j*6) 6 aa 2 aa).2
       have f3:wc.frozen? ⟨g,j*6+3,none⟩=false:=(bJ hT.1 (j*6) 6 aa 3 aa).2
       have f4:wc.frozen? ⟨g,j*6+4,none⟩=false:=(bJ hT.1 (j*6) 6 aa 4 aa).2
       have f5:wc.frozen? ⟨g,j*6+5,none⟩=false:=(bJ hT.1 (j*6) 6 aa 5 aa).2
       have g0:wc.frozen? ⟨g,k*6,none⟩=false:=(bJ hT.1 (k*6) 6 aa 0 aa).2
       have g1:wc.frozen? ⟨g,k*6+1,none⟩=false:=(bJ hT.1 (k*6) 6 aa 1 aa).2
       have g2:wc.frozen? ⟨g,k*6+2,none⟩=false:=(bJ hT.1 (k*6) 6 aa 2 aa).2
       have g3:wc.frozen? ⟨g,k*6+3,none⟩=false:=(bJ hT.1 (k*6) 6 aa 3 aa).2
       have g4:wc.frozen? ⟨g,k*6+4,none⟩=false:=(bJ hT.1 (k*6) 6 aa 4 aa).2
       have g5:wc.frozen? ⟨g,k*6+5,none⟩=false:=(bJ hT.1 (k*6) 6 aa 5 aa).2
       have B5:¬j=k:=by have:=HJ.out;omega
       have B6:¬k=j:=by have:=HJ.out;omega
       clear hT
       go_region
       have e12:((((((((((((wc.setCell ⟨g,j*6,none⟩ (.string (strOfNums nl2))).setCell ⟨g,j*6+1,none⟩ (.int .i64 r2)).setCell ⟨g,j*6+2,none⟩ (.bool l2)).setCell ⟨g,j*6+3,none⟩ (.int .i64 x2)).setCell ⟨g,j*6+4,none⟩ (.int .i64 y2)).setCell ⟨g,j*6+5,none⟩ (.slice d2 cs2.length c2)).setCell ⟨g,k*6,none⟩ (.string (strOfNums nl1))).setCell ⟨g,k*6+1,none⟩ (.int .i64 r1)).setCell ⟨g,k*6+2,none⟩ (.bool l1)).setCell ⟨g,k*6+3,none⟩ (.int .i64 x1)).setCell ⟨g,k*6+4,none⟩ (.int .i64 y1)).setCell ⟨g,k*6+5,none⟩ (.slice d1 cs1.length c1))=(wc.setCells g (j*6) (srV ⟨nl2,r2,l2,x2,y2,d2,c2,cs2⟩)).setCells g (k*6) (srV ⟨nl1,r1,l1,x1,y1,d1,c1,cs1⟩):=rfl
       rw[e12]
       have hT:=(U.out.set (i:=j) A5 ⟨nl2,r2,l2,x2,y2,d2,c2,cs2⟩).set (i:=k) A8 ⟨nl1,r1,l1,x1,y1,d1,c1,cs1⟩
       have hK:=(ag.setCells (srV ⟨nl1,r1,l1,x1,y1,d1,c1,cs1⟩) (ag.setCells (srV ⟨nl2,r2,l2,x2,y2,d2,c2,cs2⟩) A0.out (b:=g) (.inr rfl) (j*6)) (b:=g) (.inr rfl) (k*6)).drew
       have A9:=MI (aQ hT.1 (MB.drew))
       have B0:=MI hT.2
       have B1:=MI hK
       have A1:Hid (∀s ∈ (L.set j ⟨nl2,r2,l2,x2,y2,d2,c2,cs2⟩).set k ⟨nl1,r1,l1,x1,y1,d1,c1,cs1⟩,s ∈ L0):=fun s hs=>by
        rcases List.mem_or_eq_of_mem_set hs with hs | rfl
        ·rcases List.mem_or_eq_of_mem_set hs with hs | rfl
         ·exact R.out s hs
         ·exact A7.out
        ·exact A6.out
       clear hT hK U A0 p0 p1 p2 p3 p4 p5 q0 q1 q2 q3 q4 q5 f0 f1 f2 f3 f4 f5 g0 g1 g2 g3 g4 g5 e12
       generalize ((wc.setCells g (j*6) (srV ⟨nl2,r2,l2,x2,y2,d2,c2,cs2⟩)).setCells g (k*6) (srV ⟨nl1,r1,l1,x1,y1,d1,c1,cs1⟩)).drew=W at*
       go_wp2_with fail
       have C5:=HJ.out
       exact⟨⟨k,_,aa,aa,rfl,⟨A9.out,B0.out⟩,A1,B1.out⟩,by simp[aC];omega⟩
    ·obtain rfl:j=a:=aa
     have B2:¬(j:Int)<(j:Int):=aa
     go_upto_region 4 with fail
     go_quiet (fail)
     go_wp2_with fail
     exact⟨⟨i+1,L,aa,aa,aD,⟨aQ hZ.1 (below_drewN MB _),hZ.2⟩,R,⟨hk.os,hk.tape,hk.output,hk.size,hk.block⟩⟩,by simp[aC];omega⟩
  ·have B2:¬(i:Int)<(b:Int):=aa
   have HE:Hid (Fh B g n cap L0 w (.returned (.tuple #[])) wr):=⟨rfl,⟨L,hZ,R⟩,hk⟩
   clear hZ hk
   go_wp2_with fail
   go_end0
   exact HE.out
end Go.Proofs.YtnicjahcgnhogaaGreatDoor
