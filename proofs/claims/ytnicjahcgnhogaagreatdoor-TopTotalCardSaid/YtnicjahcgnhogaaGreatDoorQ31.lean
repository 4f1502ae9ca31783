/- Part 32 of the walk: contracts of the program's functions, each for every input. No condition. -/
import Derived.Test.YtnicjahcgnhogaaGreatDoorQ27
import Derived.Test.YtnicjahcgnhogaaGreatDoorQ30
import Derived.Test.YtnicjahcgnhogaaGreatDoorQ11
import Derived.Test.YtnicjahcgnhogaaGreatDoorQ29
set_option linter.unusedVariables false
set_option linter.unusedSimpArgs false
set_option maxRecDepth 100000
set_option maxHeartbeats 8000000
namespace Go.Proofs.YtnicjahcgnhogaaGreatDoor
open Go Go.RowKit Go.Calli Go.Dskp Go.Maps
attribute [local irreducible] wpStill wpAnyH wpAnyS wpList Code.wp
theorem KG(ao:Option Addr)(n cap:Nat)(zs:List Int)(hn:n≤60000)(w:World)(h:Ints .u8 w ao n zs):Calls Tryz.prog 40 #[.slice ao n cap] w (Cch.qB zs w):=by
 have hmm:=@run_makeMap Tryz.prog
 have hrow:=h.row
 have hnil:=h.pO
 go_enter Tryz.func40,Tryz.ntmps40
 go_wp2_with (at_builtin;refine pg rfl _ _ 63 5 rfl Tryz.underlying63 wZ rfl w.heap.size (.slice none 0 0) 0 [] rfl (World.ownsRow_nil _ _ _ _) ao n cap (zs.map (Value.int .u8)) rfl hrow (kL _ _) hnil (by omega) (by unfold maxLen;omega) (by simp) ?_;intro v' w2 hown hkp;rw[Nat.zero_add,List.nil_append] at hown;obtain⟨io,ic,rfl,hic,hrow2,hlim,hund,hblk⟩:=lM hown)
 go_ret2
 have hI:Ints .u8 w2 io n zs:=hrow2.ints hlim h.wf
 have hB2:Below w.heap.size w w2:=hkp.bg Me (fun k _ hk=>by cases hk)
 have hB3:Below w2.heap.size w2 ((w2.alloc (.map #[] 0)).alloc (.cells #[.slice io n ic,.map (some w2.heap.size),(),()] 136)):=iR (MB.alloc Me _) _
 have hzl:=h.hlen
 have ha:=MapKept.heap_alloc (w2.alloc (.map #[] 0)) (.cells #[.slice io n ic,.map (some w2.heap.size),(),()] 136)
 rw[World.size_alloc] at ha
 have hF:=(gB.made (P:=Tryz.prog) (K:=3) w2).ah (MB.alloc Me (.cells #[.slice io n ic,.map (some w2.heap.size),(),()] 136))
 subst hzl
 have hs2:=hB2.size
 exact⟨w2.heap.size+1,w2.heap.size,io,ic,rfl,⟨ha.1,hI.ah hB3,hic,hF,by omega,fun a ha=>by have:=hund a ha;exact⟨by omega,by omega⟩⟩,by omega,hs2,fun a ha=>⟨(hblk a ha).1,by have:=hund a ha;have:=hB3.size;omega⟩,bW hB2 hB3⟩
theorem ve{b mb cb sb kap:Nat}{ib:Option Addr}{zs:List Int}{n:Nat}{r:Int}{w3:World}{N:Nat}(h1:1≤n)(hD:Cch.Dsk w3 b mb ib kap 0 ⟨zs,fun _=>none,0,0⟩)(hc:w3.heap[cb]? =some (.cells #[(),(),(),(),.pointer (some ⟨b,0,none⟩),.slice (some ⟨sb,0,none⟩) n n,(),.int .i64 r] 156 (0,0)))(hs:w3.heap[sb]? =some (.cells (Cch.pG n) 243 (0,0)))(hne:cb≠sb)(hb:b<N)(hm:mb<N)(hcb:N≤cb)(hsb:N≤sb)(hib: ∀a,ib=some a→a.block<N)(hN:N≤w3.heap.size)(x:Nat→Prop)(hx: ∀k,x k→k<w3.heap.size∧k≠cb∧k≠sb∧k≠b∧k≠mb∧∀a,ib=some a→a.block≠k):Cch.gZ ⟨cb,sb,b,mb,ib,kap,x⟩ w3 n (Cch.uy zs n r):=by
 rw[Cch.BM] at hs
 refine⟨hc,⟨List.replicate n Cch.Slot.none,⟨by simp,hs⟩,⟨by simp[Cch.uy],fun i hi=>?_⟩⟩,⟨0,Me,hD⟩,by simp[Cch.uy],by show 0<n;omega,⟨hne,by show b≠cb;omega,by show mb≠cb;omega,by show b≠sb;omega,by show mb≠sb;omega,fun a ha=>?_⟩,⟨fun a ha=>Nat.lt_of_lt_of_le (hib a ha) hN,fun k hk=>?_⟩⟩
 ·rw[Cch.qc,show(Cch.uy zs n r).ss=List.replicate n Cch.q0 from rfl,Cch.qc]
  exact⟨rfl,rfl,rfl,fun hf=>by cases hf⟩
 ·have:=hib a ha
  exact⟨by show _≠cb;omega,by show _≠sb;omega⟩
 ·obtain⟨g1,g2,g3,g4,g5,g6⟩:=hx k hk
  refine⟨g1,?_,g6⟩
  rintro(h | h | h | h)
  ·exact g2 h
  ·exact g3 h
  ·exact g4 h
  ·exact g5 h
end Go.Proofs.YtnicjahcgnhogaaGreatDoor
namespace Go.Proofs.YtnicjahcgnhogaaGreatDoor
open Go Go.RowKit Go.Calli
attribute [local irreducible] wpStill wpAnyH wpAnyS wpList Code.wp
theorem DN(A:Cch.Ad)(n:Nat)(c:Cch.Ca)(w:World)(h:Cch.gZ A w n c):Calls Tryz.prog 37 #[.pointer (some ⟨A.cb,0,none⟩)] w (fun e w'=>e= .returned (.pointer (some ⟨A.b,0,none⟩))∧w=w'):=by
 have c4:w.cell? ⟨A.cb,4,none⟩=some (.pointer (some ⟨A.b,0,none⟩)):=(LZ h.row).trans rfl
 have HN0:=Cch.oh A n c w h
 have HN1:Calls Tryz.prog 73 #[.pointer (some ⟨A.cb,0,none⟩)] w (Cch.Same (.bool false) w):=HN0
 have HN:=MI HN1
 unfold Cch.Same at HN
 clear h HN0 HN1
 go_enter Tryz.func37,Tryz.ntmps37
 go_wp2_with (go_at_call 73;refine HN.out.mono ?_;rintro e w' ⟨rfl,rfl⟩)
 go_ret
 exact⟨rfl,rfl⟩
def FNewP(bb cb:Nat)(w:World)(e:Ending)(w':World):Prop:=∃fb,e= .returned (.tuple #[.pointer (some ⟨fb,0,none⟩),()])∧w'.heap[fb]? =some (.cells #[.pointer (some ⟨cb,0,none⟩),.pointer (some ⟨bb,0,none⟩),(),()] 102 (0,0))∧w.heap.size≤fb∧Below w.heap.size w w'
theorem Aj(D:Bd)(B:Bk)(A:Cch.Ad)(n:Nat)(c:Cch.Ca)(w:World)(hb:jX D w B)(hc:Cch.gZ A w n c):Calls Tryz.prog 42 #[.pointer (some ⟨D.bb,0,none⟩),.pointer (some ⟨A.cb,0,none⟩)] w (FNewP D.bb A.cb w):=by
 have HS:=MI (xC D B w hb)
 have HC:=MI (DN A n c w hc)
 have h0:=hb.ok.s0
 have hne:((B.size:Int)==0)=false:=by simp;omega
 clear hb hc
 go_enter Tryz.func42,Tryz.ntmps42
 go_wp2_with (first
  | (go_at_call 78;refine HS.out.mono ?_;rintro e w' ⟨rfl,rfl⟩)
  | (go_at_call 37;refine HC.out.mono ?_;rintro e w' ⟨rfl,rfl⟩))
 go_ret2
 exact⟨w.heap.size,rfl,L9 w _,Me,ae w _⟩
open Classical in
noncomputable def own0 (D:Bd) (fb N0:Nat):Own:=fun k=>if D.T k then 1 else if k=fb then 2 else if k<N0 then 1 else 0
theorem Kw{D:Bd}{B:Bk}{w1 w4:World}{b mb cb sb kap fb:Nat}{ib:Option Addr}{n:Nat}{r:Int}{N0:Nat}(hN0:N0≤w1.heap.size)(h1:1≤n)(h2:n≤1024)(hr0:0≤r)(hr1:r≤8)(hB:jX D w4 B)(hT: ∀k,D.T k→k<w1.heap.size)(hD:Cch.Dsk w4 b mb ib kap 0 ⟨B.img,fun _=>none,0,0⟩)(hc:w4.heap[cb]? =some (.cells #[(),(),(),(),.pointer (some ⟨b,0,none⟩),.slice (some ⟨sb,0,none⟩) n n,(),.int .i64 r] 156 (0,0)))(hs:w4.heap[sb]? =some (.cells (Cch.pG n) 243 (0,0)))(hf:w4.heap[fb]? =some (.cells #[.pointer (some ⟨cb,0,none⟩),.pointer (some ⟨D.bb,0,none⟩),(),()] 102 (0,0))){N M:Nat}(hne:cb≠sb)(hb0:w1.heap.size≤b)(hm0:w1.heap.size≤mb)(hb:b<N)(hm:mb<N)(hcb:N≤cb)(hsb:N≤sb)(hcb2:cb<M)(hsb2:sb<M)(hib: ∀a,ib=some a→w1.heap.size≤a.block∧a.block<N)(hfb:M≤fb)(hN:N≤w4.heap.size):aK ⟨fb,⟨cb,sb,b,mb,ib,kap,fun _=>False⟩,n,D⟩ (own0 D fb N0) w4 B 0 ⟨Cch.uy B.img n r,0,0⟩:=by
 have hfl:=L8 hf
 have hx: ∀k,own0 D fb N0 k≠0→D.T k∨k=fb∨k<N0:=fun k hk=>by
  unfold own0 at hk
  by_cases h:D.T k
  ·exact .inl h
  ·rw[if_neg h] at hk
   by_cases h2:k=fb
   ·exact .inr (.inl h2)
   ·rw[if_neg h2] at hk
    by_cases h3:k<N0
    ·exact .inr (.inr h3)
    ·rw[if_neg h3] at hk;exact absurd rfl hk
 have hTf:¬D.T fb:=fun h=>by have:=hT fb h;omega
 have hTl: ∀k,D.T k→k<w4.heap.size:=fun k hk=>by have:=hT k hk;omega
 refine⟨hf,ve h1 hD hc hs hne hb hm hcb hsb (fun a ha=>(hib a ha).2) hN _ (fun k hk=>?_),hB,fun k hk=>if_pos hk,by unfold own0;rw[if_neg hTf,if_pos rfl],h2,Cch.newC_ok _ _ _,Cch.Jz _ (by have:=hB.ok.i1;omega) _ _ hr0 hr1,rfl⟩
 rcases hx k hk with h | rfl | h3
 ·have hk2:=hT k h
  exact⟨hTl k h,by omega,by omega,by omega,by omega,fun a ha=>by have:=hib a ha;omega⟩
 ·exact⟨hfl,by omega,by omega,by omega,by omega,fun a ha=>by have:=hib a ha;omega⟩
 ·exact⟨by omega,by omega,by omega,by omega,by omega,fun a ha=>by have:=hib a ha;omega⟩
theorem Js{D:Bd}{fb N0 k:Nat}(h:k<N0)(hf:N0≤fb):own0 D fb N0 k=1:=by
 unfold own0
 by_cases h1:D.T k
 ·rw[if_pos h1]
 ·rw[if_neg h1,if_neg (by omega),if_pos h]
structure dZ(X:Fx)(Y:Yx)(σ:Own)(w:World)(rb:Nat)(sh:Envp.Sh)(m:Nat×Nat):Prop where
 row: ∃tv xs,w.heap[rb]? =some (.cells #[.pointer (some ⟨Y.yb,0,none⟩),.pointer (some ⟨X.D.bb,0,none⟩),.pointer (some ⟨X.A.b,0,none⟩),.pointer (some ⟨X.A.cb,0,none⟩),.int .i64 sh.a,.int .i64 sh.d,.int .i64 sh.s,.int .i64 sh.r,tv] 49 (0,0))∧w.ownsRow 0 37 7 tv m.1 xs∧∀b,tv.ownBlock=some b→σ b=3∧b<m.2
 own:σ rb=3
 sok:sh.Ok
theorem dZ.keep{X:Fx}{Y:Yx}{σ:Own}{w w':World}{rb:Nat}{sh:Envp.Sh}{m:Nat×Nat}(h:dZ X Y σ w rb sh m){S:Nat→Prop}(hk:af S w w')(hS: ∀k,S k→k<w.heap.size→σ k≠3):dZ X Y σ w' rb sh m:=by
 obtain⟨tv,xs,h1,h2,h3⟩:=h.row
 exact⟨⟨tv,xs,hk.heap h1 (fun e=>hS _ e (L8 h1) h.own),ay h2 hk (fun k e hs=>by
  obtain⟨cs,hcs⟩:=ag h2 e
  exact hS k hs (L8 hcs) (h3 k e).1),h3⟩,h.own,h.sok⟩
theorem dZ.ah{X:Fx}{Y:Yx}{σ:Own}{w w':World}{rb:Nat}{sh:Envp.Sh}{m:Nat×Nat}(h:dZ X Y σ w rb sh m)(hb:Below w.heap.size w w'):dZ X Y σ w' rb sh m:=h.keep (S:=fun _=>False) (af.au hb Me) (fun _ e=>e.elim)
theorem dZ.ext{X:Fx}{Y:Yx}{σ σ':Own}{w:World}{rb:Nat}{sh:Envp.Sh}{m:Nat×Nat}(h:dZ X Y σ w rb sh m)(he:Ext σ σ' w.heap.size):dZ X Y σ' w rb sh m:=by
 obtain⟨tv,xs,h1,h2,h3⟩:=h.row
 exact⟨⟨tv,xs,h1,h2,fun b e=>by
  obtain⟨cs,hcs⟩:=ag h2 e
  exact⟨(he _ (L8 hcs)).trans (h3 b e).1,(h3 b e).2⟩⟩,(he _ (L8 h1)).trans h.own,h.sok⟩
theorem parse_nil(cap:Nat)(w:World):Calls Tryz.prog 17 #[.slice none 0 cap] w (ParP [] w):=by
 have HD0:=MI (fun w=>lW 0 (by decide) w)
 have hE:=MI (fun w' hb v hv=>jE (bs:=[]) (w:=w) (w':=w') (c:=2) hb (by unfold dO;rw[if_pos (by simp)]) (by decide) (v:=v) hv)
 go_enter Tryz.func17,Tryz.ntmps17
 go_wp2_with (go_at_call 44;refine(HD0.out _).mono ?_;rintro e w' ⟨rfl,rfl⟩)
 go_ret2
 exact hE.out _ MB _ rfl
theorem wJ(ao:Option Addr)(n cap:Nat)(bs:List Int)(hn:n≤60000)(hcap:n≤cap)(w:World)(h:Ints .u8 w ao n bs):Calls Tryz.prog 17 #[.slice ao n cap] w (ParP bs w):=by
 cases ao with
 | some ad=>exact parse_any ad n cap bs hn hcap w h
 | none=>
  obtain rfl:=h.pO rfl
  have hz:bs=[]:=List.eq_nil_of_length_eq_zero h.hlen
  subst hz
  exact parse_nil cap w
def kz(bs:List Int)(V S R:Int):Int:=if dO bs≠0 then dO bs else if S<1∨1024<S∨R<0∨8<R then 1 else if V<1∨16<V then 1 else 0
def sh0:Envp.Sh:=⟨0,0,256,0⟩
theorem sh0_ok:sh0.Ok:=by
 unfold Envp.Sh.Ok sh0
 simp
def RkNP(bs:List Int)(V S R:Int)(w:World)(e:Ending)(w':World):Prop:=Below w.heap.size w w'∧((kz bs V S R≠0∧e= .returned (.tuple #[.pointer none,.int .i64 (kz bs V S R)]))∨(kz bs V S R=0∧∃X Y σ rb,e= .returned (.tuple #[.pointer (some ⟨rb,0,none⟩),()])∧(Y.n:Int)=V∧(X.n:Int)=S∧aK X σ w' (iK bs) 0 ⟨Cch.uy bs X.n R,0,0⟩∧YIs X Y (iK bs) 0 σ w' (yl Y.n)∧dZ X Y σ w' rb sh0 (0,0)∧∀k,k<w.heap.size→σ k=1))
theorem BU{bs:List Int}{V S R:Int}{w w':World}{c:Int}(hb:Below w.heap.size w w')(h:kz bs V S R=c)(hc:c≠0){v:Value}(hv:v= .tuple #[.pointer none,.int .i64 c]):RkNP bs V S R w (.returned v) w':=⟨hb,.inl ⟨by rw[h];exact hc,by rw[hv,h]⟩⟩
theorem wH(ao:Option Addr)(n cap:Nat)(bs:List Int)(hn:n≤60000)(hcap:n≤cap)(V S R:Int)(w:World)(h:Ints .u8 w ao n bs):Calls Tryz.prog 16 #[.slice ao n cap,.agg #[.int .i64 V,.int .i64 S,.int .i64 R]] w (RkNP bs V S R w):=by
 have hb:=ae w (.cells #[.int .i64 V,.int .i64 S,.int .i64 R] 24)
 have hz:=L9 w (.cells #[.int .i64 V,.int .i64 S,.int .i64 R] 24)
 have hI:=h.ah hb
 have hP0:=wJ ao n cap bs hn hcap _ hI
 have HB:=MI hb
 have HZ:=MI hz
 have HI:=MI hI
 have hw0:w.heap.size<(w.alloc (.cells #[.int .i64 V,.int .i64 S,.int .i64 R] 24)).heap.size:=L8 hz
 by_cases hpe:dO bs=0
 case neg=>
  have hP:Hid (Calls Tryz.prog 17 #[.slice ao n cap] (w.alloc (.cells #[.int .i64 V,.int .i64 S,.int .i64 R] 24)) (fun e w'=>e= .returned (.tuple #[.pointer none,.int .i64 (dO bs)])∧Below (w.alloc (.cells #[.int .i64 V,.int .i64 S,.int .i64 R] 24)).heap.size (w.alloc (.cells #[.int .i64 V,.int .i64 S,.int .i64 R] 24)) w')):=hP0.mono fun e w' h=>by
   obtain⟨h1,h2 | h2⟩:=h
   ·exact⟨h2.2,h1⟩
   ·exact absurd h2.1 hpe
  have hE:=MI (fun w' hb v hv=>BU (bs:=bs) (V:=V) (S:=S) (R:=R) (w:=w) (w':=w') (c:=dO bs) hb (by unfold kz;rw[if_pos hpe]) hpe (v:=v) hv)
  have hne:(dO bs !=0)=true:=by simpa using hpe
  clear hP0 hb hz hI h hpe
  generalize dO bs=pe at*
  go_enter Tryz.func16,Tryz.ntmps16
  go_wp2_with (go_at_call 17;refine hP.out.mono ?_;rintro e w2 ⟨rfl,hb2⟩)
  go_ret2
  exact hE.out _ (bW HB.out hb2) _ rfl
 case pos=>
  have hP:Hid (Calls Tryz.prog 17 #[.slice ao n cap] (w.alloc (.cells #[.int .i64 V,.int .i64 S,.int .i64 R] 24)) (fun e w'=>∃D:Bd,e= .returned (.tuple #[.pointer (some ⟨D.bb,0,none⟩),()])∧jX D w' (iK bs)∧(∀k,D.T k→k<w'.heap.size)∧Below (w.alloc (.cells #[.int .i64 V,.int .i64 S,.int .i64 R] 24)).heap.size (w.alloc (.cells #[.int .i64 V,.int .i64 S,.int .i64 R] 24)) w')):=hP0.mono fun e w' h=>by
   obtain⟨h1,h2 | h2⟩:=h
   ·exact absurd hpe h2.1
   ·obtain⟨_,D,h3,h4,h5⟩:=h2
    exact⟨D,h3,h4,fun k hk=>(h5 k hk).2,h1⟩
  have hN1:kz bs V S R=(if S<1∨1024<S∨R<0∨8<R then 1 else if V<1∨16<V then 1 else 0):=by unfold kz;rw[if_neg (by simpa using hpe)]
  have HDk:=MI (fun w h=>KG ao n cap bs hn w h)
  unfold Cch.qB at HDk
  clear hP0 hb hz hI h hpe
  by_cases hS:S<1∨1024<S∨R<0∨8<R
  ·have hE:=MI (fun w' hb v hv=>BU (bs:=bs) (V:=V) (S:=S) (R:=R) (w:=w) (w':=w') (c:=1) hb (by rw[hN1,if_pos hS]) (by decide) (v:=v) hv)
   have HCb:=MI (fun db w=>Cch.KP db S R hS w)
   unfold Cch.Same at HCb
   clear hN1 hS
   go_enter Tryz.func16,Tryz.ntmps16
   go_wp2_with (first
    | (go_at_call 17;refine hP.out.mono ?_;rintro e w2 ⟨D,rfl,hBk,hT2,hb2⟩;have hbw2:=bW HB.out hb2;have hz2:=bT HZ.out hb2 hw0;obtain⟨s0,s1,s2⟩:=dB hz2)
    | (go_at_call 40;refine(HDk.out _ (HI.out.ah hb2)).mono ?_;rintro e w3 ⟨b,mb,ib,kap,rfl,hD,hb,hmb,hib,hb3⟩;have hbw3:=bW hbw2 hb3;have hz3:=bT hz2 hb3 (L8 hz2);obtain⟨t0,t1,t2⟩:=dB hz3)
    | (go_at_call 41;refine(HCb.out _ _).mono ?_;rintro e w' ⟨rfl,rfl⟩))
   go_ret2
   exact hE.out _ hbw3 _ rfl
  ·have hN2:kz bs V S R=(if V<1∨16<V then 1 else 0):=by rw[hN1,if_neg hS]
   have hS1:1≤S:=by omega
   obtain⟨ns,hns⟩: ∃ns:Nat,S=(ns:Int):=⟨S.toNat,by omega⟩
   have hns1:1≤ns:=by omega
   have hns2:ns≤1024:=by omega
   have hR0:0≤R:=by omega
   have hR8:R≤8:=by omega
   subst hns
   have HCg:=MI (fun db w=>Cch.G8 db ns R hns1 hns2 hR0 hR8 w)
   unfold Cch.Bf at HCg
   clear hN1 hS
   by_cases hV:V<1∨16<V
   ·have hE:=MI (fun w' hb v hv=>BU (bs:=bs) (V:=V) (S:=(ns:Int)) (R:=R) (w:=w) (w':=w') (c:=1) hb (by rw[hN2,if_pos hV]) (by decide) (v:=v) hv)
    have HPb:=MI (fun X σ B f w h=>Jm X σ B 0 f V hV w h)
    clear hN2 hV
    go_enter Tryz.func16,Tryz.ntmps16
    go_wp2_with (first
     | (go_at_call 17;refine hP.out.mono ?_;rintro e w2 ⟨D,rfl,hBk,hT2,hb2⟩;have hbw2:=bW HB.out hb2;have hz2:=bT HZ.out hb2 hw0;obtain⟨s0,s1,s2⟩:=dB hz2)
     | (go_at_call 40;refine(HDk.out _ (HI.out.ah hb2)).mono ?_;rintro e w3 ⟨b,mb,ib,kap,rfl,hD,hb,hmb,hib,hb3⟩;have hbw3:=bW hbw2 hb3;have hz3:=bT hz2 hb3 (L8 hz2);obtain⟨t0,t1,t2⟩:=dB hz3)
     | (go_at_call 41;refine(HCg.out _ _).mono ?_;rintro e w4 ⟨cb,sb,rfl,hcr,hsr,hne,hcb,hsb,hb4⟩;have hbw4:=bW hbw3 hb4;have hz4:=bT hz3 hb4 (L8 hz3);obtain⟨r0,r1,r2⟩:=dB hz4;have hBk4:=(hBk.ah hb3).ah hb4;have hFn:=Aj D (iK bs) ⟨cb,sb,b,mb,ib,kap,fun _=>False⟩ ns _ w4 hBk4 (ve hns1 (hD.ah hb4) hcr hsr hne hD.lt hD.2.2.2.1.lt hcb hsb (fun a ha=>(hib a ha).2) hb4.size (fun _=>False) (fun k hk=>hk.elim)))
     | (go_at_call 42;refine hFn.mono ?_;rintro e w5 ⟨fb,rfl,hfr,hfb,hb5⟩;have hbw5:=bW hbw4 hb5;have hz5:=bT hz4 hb5 (L8 hz4);obtain⟨q0,q1,q2⟩:=dB hz5;have hFe:=Kw hbw2.size hns1 hns2 hR0 hR8 (hBk4.ah hb5) hT2 ((hD.ah hb4).ah hb5) (bT hcr hb5 (L8 hcr)) (bT hsr hb5 (L8 hsr)) hfr hne hb hmb hD.lt hD.2.2.2.1.lt hcb hsb (L8 hcr) (L8 hsr) hib hfb (Nat.le_trans hb4.size hb5.size))
     | (go_at_call 43;refine(HPb.out _ _ _ _ _ hFe).mono ?_;rintro e w' ⟨rfl,rfl⟩))
    go_ret2
    exact hE.out _ hbw5 _ rfl
   ·have hV1:1≤V:=by omega
    obtain⟨nv,hnv⟩: ∃nv:Nat,V=(nv:Int):=⟨V.toNat,by omega⟩
    have hn0:=MI (show kz bs V (ns:Int) R=0 by rw[hN2,if_neg hV])
    have hnv1:1≤nv:=by omega
    have hnv2:nv≤16:=by omega
    subst hnv
    have HPg:=MI (fun X σ B f w h=>FZ X σ B 0 f nv hnv1 hnv2 w h)
    unfold PNewP at HPg
    have HPl:=MI (fun w=>Nv.F6 w)
    clear hN2 hV
    go_enter Tryz.func16,Tryz.ntmps16
    go_wp2_with (first
     | (go_at_call 17;refine hP.out.mono ?_;rintro e w2 ⟨D,rfl,hBk,hT2,hb2⟩;have hbw2:=bW HB.out hb2;have hz2:=bT HZ.out hb2 hw0;obtain⟨s0,s1,s2⟩:=dB hz2)
     | (go_at_call 40;refine(HDk.out _ (HI.out.ah hb2)).mono ?_;rintro e w3 ⟨b,mb,ib,kap,rfl,hD,hb,hmb,hib,hb3⟩;have hbw3:=bW hbw2 hb3;have hz3:=bT hz2 hb3 (L8 hz2);obtain⟨t0,t1,t2⟩:=dB hz3)
     | (go_at_call 41;refine(HCg.out _ _).mono ?_;rintro e w4 ⟨cb,sb,rfl,hcr,hsr,hne,hcb,hsb,hb4⟩;have hbw4:=bW hbw3 hb4;have hz4:=bT hz3 hb4 (L8 hz3);obtain⟨r0,r1,r2⟩:=dB hz4;have hBk4:=(hBk.ah hb3).ah hb4;have hFn:=Aj D (iK bs) ⟨cb,sb,b,mb,ib,kap,fun _=>False⟩ ns _ w4 hBk4 (ve hns1 (hD.ah hb4) hcr hsr hne hD.lt hD.2.2.2.1.lt hcb hsb (fun a ha=>(hib a ha).2) hb4.size (fun _=>False) (fun k hk=>hk.elim)))
     | (go_at_call 42;refine hFn.mono ?_;rintro e w5 ⟨fb,rfl,hfr,hfb,hb5⟩;have hbw5:=bW hbw4 hb5;have hz5:=bT hz4 hb5 (L8 hz4);obtain⟨q0,q1,q2⟩:=dB hz5;have hFe:=Kw hbw2.size hns1 hns2 hR0 hR8 (hBk4.ah hb5) hT2 ((hD.ah hb4).ah hb5) (bT hcr hb5 (L8 hcr)) (bT hsr hb5 (L8 hsr)) hfr hne hb hmb hD.lt hD.2.2.2.1.lt hcb hsb (L8 hcr) (L8 hsr) hib hfb (Nat.le_trans hb4.size hb5.size))
     | (go_at_call 43;refine(HPg.out _ _ _ _ _ hFe).mono ?_;rintro e w6 ⟨Y,σ6,hYn,rfl,hF6,hY6,hb6,hE6⟩;have HYn:=MI hYn;clear hYn)
     | (go_at_call 14;refine(HPl.out _).mono ?_;rintro e w7 ⟨rfl,hb7⟩))
    go_ret2
    have hb8:=ae w7 (.cells #[.pointer (some ⟨Y.yb,0,none⟩),.pointer (some ⟨D.bb,0,none⟩),.pointer (some ⟨b,0,none⟩),.pointer (some ⟨cb,0,none⟩),(),(),.int .i64 256,(),.slice none 0 0] 49)
    have hz8:=L9 w7 (.cells #[.pointer (some ⟨Y.yb,0,none⟩),.pointer (some ⟨D.bb,0,none⟩),.pointer (some ⟨b,0,none⟩),.pointer (some ⟨cb,0,none⟩),(),(),.int .i64 256,(),.slice none 0 0] 49)
    have hb78:=bW hb7 hb8
    have hl8:w7.heap.size<(w7.alloc (.cells #[.pointer (some ⟨Y.yb,0,none⟩),.pointer (some ⟨D.bb,0,none⟩),.pointer (some ⟨b,0,none⟩),.pointer (some ⟨cb,0,none⟩),(),(),.int .i64 256,(),.slice none 0 0] 49)).heap.size:=L8 hz8
    refine⟨bW (bW hbw5 hb6) hb78,.inr ⟨hn0.out,⟨fb,⟨cb,sb,b,mb,ib,kap,fun _=>False⟩,ns,D⟩,Y,fD σ6 w7.heap.size 3,w7.heap.size,rfl,by rw[HYn.out],rfl,hF6.fD hb78 3 hb7.size hl8,?_,⟨⟨.slice none 0 0,[],hz8,World.ownsRow_nil _ _ _ _,(fun k e=>by cases e)⟩,dG _ _ _,?_⟩,fun k hk=>?_⟩⟩
    ·have h1:=(hY6.ext (eH σ6 (b:=w7.heap.size) (n:=w6.heap.size) 3 hb7.size)).ah hb78
     rw[HYn.out]
     exact h1
    ·exact sh0_ok
    ·have h1:=hbw5.size
     have h2:=hb6.size
     have h3:=hb7.size
     have h4:=hbw4.size
     rw[jF σ6 3 (by omega),hE6 k (by omega)]
     exact Js hk (by omega)
def yD(s:Sr)(l:List Int)(size:Nat):List Int:=uM (rW (List.replicate (upZ (plA size [fG s] 1) 64) 0) ((plL size [fG s] 1).getD 0 m0) l size) (plL size [fG s] 1) size
def MadeP(bs:List Int)(V S R:Int)(w:World)(e:Ending)(w':World):Prop:=Below w.heap.size w w'∧(kz bs V S R=0→∃X Y σ rb,e= .returned (.pointer (some ⟨rb,0,none⟩))∧(Y.n:Int)=V∧(X.n:Int)=S∧aK X σ w' (iK bs) 0 ⟨Cch.uy bs X.n R,0,0⟩∧YIs X Y (iK bs) 0 σ w' (yl Y.n)∧dZ X Y σ w' rb sh0 (0,0)∧∀k,k<w.heap.size→σ k=1)
theorem Gv(size:Nat)(b0 c0:Nat)(s:Sr)(l:List Int)(hcs:s.cs=[l])(hnl:s.nl.length≤100)(hl:l.length≤150)(hLm:upZ (plA size [fG s] 1) 64≤60000)(hIL:(yD s l size).length=upZ (plA size [fG s] 1) 64)(hI8:W8 (yD s l size))(V S R:Int)(hpack: ∀W b cap g c,lY W (sD s g c)→W.rangeAt b 0 (srV (sD s g c))→Calls Tryz.prog 19 #[.int .i64 (size:Int),.slice (some ⟨b,0,none⟩) 1 cap] W (Lu (sD s g c) l size W))(hE:kz (yD s l size) V S R=0)(w:World)(hS:lY w s)(h:w.rangeAt b0 0 (srV s)):Calls Tryz.prog 5 #[.int .i64 (size:Int),.slice (some ⟨b0,0,none⟩) 1 c0,.agg #[.int .i64 V,.int .i64 S,.int .i64 R]] w (MadeP (yD s l size) V S R w):=by
 have hba:=ae w (.cells #[.int .i64 V,.int .i64 S,.int .i64 R] 24)
 have hz0:=L9 w (.cells #[.int .i64 V,.int .i64 S,.int .i64 R] 24)
 have hF:=MI (GR b0 c0 s hnl l hcs hl _ (hS.ah hba) (kU h hba))
 have HB:=MI hba
 have HZ:=MI hz0
 have HP:=MI hpack
 have hsz:(Tryz.prog.info? 24).map (·.size)=some 3:=by kernel_rfl
 clear hS h hba hz0 hpack
 go_enter Tryz.func5,Tryz.ntmps5
 go_upto_region 2 with(first
  | (go_at_call 20;refine hF.out.mono ?_;rintro e w2 ⟨b,cap,g,c,rfl,ho,hb2,hs2,hg2⟩;have hr2:=nV ho 0 6;have hPk:=MI (HP.out w2 b cap g c hs2 hr2))
  | (go_at_call 19;refine hPk.out.mono ?_;rintro e w3 ⟨ib,LL,ms,hms,hLL,rfl,hb3,hib,hB3⟩))
 have hms2:plL size [fG s] 1=ms:=hms
 have hLL2:upZ (plA size [fG s] 1) 64=LL:=hLL
 have hB3:Blk .u8 w3 ib 5 (yD s l size):=by unfold yD;rw[hms2,hLL2];exact hB3
 have hr3:=rwB (rwB HZ.out hb2) hb3
 have HB3:=MI ((HB.out.trans (hb2.mono HB.out.size)).trans (hb3.mono (HB.out.trans (hb2.mono HB.out.size)).size))
 have hRk:=MI (wH (some ⟨ib,0,none⟩) LL LL (yD s l size) (by omega) Me V S R w3 (Blk.ints hB3 LL (by rw[hIL,hLL2]) (by unfold maxLen;omega) hI8))
 clear hb2 hb3 ho hs2 hr2 hB3 hPk
 go_upto_region 5 with(first | ((with_reducible refine MC 24 5 ?_);refine wpList_load_row rfl 24 (.tmp 5) rfl w.heap.size rfl 24 (#[.int .i64 V,.int .i64 S,.int .i64 R]) (0,0) _ hr3 Tryz.underlying24 rfl hsz ?_) | (go_at_call 16;refine hRk.out.mono ?_;rintro e w4 ⟨hb4,⟨h5,-⟩ | ⟨-,X,Y,σ,rb,rfl,hx⟩⟩;exact absurd hE h5))
 have HB4:=MI (HB3.out.trans (hb4.mono HB3.out.size))
 clear hb4
 go_wp2_with fail
 go_ret
 exact⟨HB4.out,fun _=>⟨X,Y,σ,rb,rfl,hx.1,hx.2.1,hx.2.2.1,hx.2.2.2.1,hx.2.2.2.2.1,fun k hk=>hx.2.2.2.2.2 k (Nat.lt_of_lt_of_le hk HB3.out.size)⟩⟩
def sA(d:Option Addr)(dc:Nat):Sr:=⟨[97],1,false,0,0,d,dc,[[50,60]]⟩
theorem upA(d:Option Addr)(dc:Nat):upZ (plA 55 [fG (sA d dc)] 1) 64=192:=by kernel_rfl
theorem plLA(d:Option Addr)(dc:Nat):plL 55 [fG (sA d dc)] 1=[⟨strOfNums [97],2,1,1,false,0,0,84,96⟩]:=by kernel_rfl
theorem exA:kQ 2 [50,60] 55:=⟨by kernel_rfl,by decide,by decide,by kernel_rfl,by rw[show jL (ja (iH (jS [50,60])))=7 by kernel_rfl];decide⟩
theorem rtA:fC (exF [50,60]).z []=true:=by kernel_rfl
theorem lnA:(frW (exF [50,60]).z []).bs.length=19:=by kernel_rfl
theorem cf0:([64,0,28]:List Int).foldl (fun x c=>aO 8 (x^^^c.toNat)) 4294967295=1680209762:=by kernel_rfl
theorem cf1:([6,1,128]:List Int).foldl (fun x c=>aO 8 (x^^^c.toNat)) 1680209762=2877584068:=by kernel_rfl
theorem cf2:([99,74,243]:List Int).foldl (fun x c=>aO 8 (x^^^c.toNat)) 2877584068=97063722:=by kernel_rfl
theorem cf3:([124,210,112]:List Int).foldl (fun x c=>aO 8 (x^^^c.toNat)) 97063722=141410080:=by kernel_rfl
theorem cf4:([130,131,37]:List Int).foldl (fun x c=>aO 8 (x^^^c.toNat)) 141410080=3506977115:=by kernel_rfl
theorem cf5:([0,21,128]:List Int).foldl (fun x c=>aO 8 (x^^^c.toNat)) 3506977115=3132858684:=by kernel_rfl
theorem cf6:([63,0,0]:List Int).foldl (fun x c=>aO 8 (x^^^c.toNat)) 3132858684=3924384079:=by kernel_rfl
theorem cf7:([0,0,0]:List Int).foldl (fun x c=>aO 8 (x^^^c.toNat)) 3924384079=3379132117:=by kernel_rfl
theorem cf8:([0,0,0]:List Int).foldl (fun x c=>aO 8 (x^^^c.toNat)) 3379132117=3326734494:=by kernel_rfl
theorem cf9:([0,0,0]:List Int).foldl (fun x c=>aO 8 (x^^^c.toNat)) 3326734494=3962670517:=by kernel_rfl
theorem cf10:([0,0,0]:List Int).foldl (fun x c=>aO 8 (x^^^c.toNat)) 3962670517=476502571:=by kernel_rfl
theorem cf11:([0,0,0]:List Int).foldl (fun x c=>aO 8 (x^^^c.toNat)) 476502571=3944628453:=by kernel_rfl
theorem cf12:([0,0,0]:List Int).foldl (fun x c=>aO 8 (x^^^c.toNat)) 3944628453=2774491334:=by kernel_rfl
theorem cf13:([0,0,0]:List Int).foldl (fun x c=>aO 8 (x^^^c.toNat)) 2774491334=185322901:=by kernel_rfl
theorem cf14:([0,0,0]:List Int).foldl (fun x c=>aO 8 (x^^^c.toNat)) 185322901=308152987:=by kernel_rfl
theorem cf15:([0,0,0]:List Int).foldl (fun x c=>aO 8 (x^^^c.toNat)) 308152987=2272969594:=by kernel_rfl
theorem cf16:([0,0,0]:List Int).foldl (fun x c=>aO 8 (x^^^c.toNat)) 2272969594=157413806:=by kernel_rfl
theorem cf17:([0,0,0]:List Int).foldl (fun x c=>aO 8 (x^^^c.toNat)) 157413806=3841257809:=by kernel_rfl
theorem cf18:([0]:List Int).foldl (fun x c=>aO 8 (x^^^c.toNat)) 3841257809=478713235:=by kernel_rfl
theorem cfAll:fH [64,0,28,6,1,128,99,74,243,124,210,112,130,131,37,0,21,128,63,0,0,0,0,0,0,0,0,0,0,0,0,0,0,0,0,0,0,0,0,0,0,0,0,0,0,0,0,0,0,0,0,0,0,0,0]=3816254060:=by
 rw[show([64,0,28,6,1,128,99,74,243,124,210,112,130,131,37,0,21,128,63,0,0,0,0,0,0,0,0,0,0,0,0,0,0,0,0,0,0,0,0,0,0,0,0,0,0,0,0,0,0,0,0,0,0,0,0]:List Int)=[64,0,28]++([6,1,128]++([99,74,243]++([124,210,112]++([130,131,37]++([0,21,128]++([63,0,0]++([0,0,0]++([0,0,0]++([0,0,0]++([0,0,0]++([0,0,0]++([0,0,0]++([0,0,0]++([0,0,0]++([0,0,0]++([0,0,0]++([0,0,0]++([0])))))))))))))))))) from rfl]
 unfold fH reg
 rw[List.foldl_append,cf0,List.foldl_append,cf1,List.foldl_append,cf2,List.foldl_append,cf3,List.foldl_append,cf4,List.foldl_append,cf5,List.foldl_append,cf6,List.foldl_append,cf7,List.foldl_append,cf8,List.foldl_append,cf9,List.foldl_append,cf10,List.foldl_append,cf11,List.foldl_append,cf12,List.foldl_append,cf13,List.foldl_append,cf14,List.foldl_append,cf15,List.foldl_append,cf16,List.foldl_append,cf17,cf18]
 rfl
theorem ch0:([67,65,76]:List Int).foldl (fun x c=>aO 8 (x^^^c.toNat)) 4294967295=3832178315:=by kernel_rfl
theorem ch1:([49,0,0]:List Int).foldl (fun x c=>aO 8 (x^^^c.toNat)) 3832178315=1443446597:=by kernel_rfl
theorem ch2:([0,192,0]:List Int).foldl (fun x c=>aO 8 (x^^^c.toNat)) 1443446597=2628324011:=by kernel_rfl
theorem ch3:([1,55,0]:List Int).foldl (fun x c=>aO 8 (x^^^c.toNat)) 2628324011=286100440:=by kernel_rfl
theorem ch4:([0,0,0]:List Int).foldl (fun x c=>aO 8 (x^^^c.toNat)) 286100440=626809252:=by kernel_rfl
theorem ch5:([0,97,0]:List Int).foldl (fun x c=>aO 8 (x^^^c.toNat)) 626809252=2872267965:=by kernel_rfl
theorem ch6:([0,0,0]:List Int).foldl (fun x c=>aO 8 (x^^^c.toNat)) 2872267965=2894173358:=by kernel_rfl
theorem ch7:([0,0,0]:List Int).foldl (fun x c=>aO 8 (x^^^c.toNat)) 2894173358=1551141998:=by kernel_rfl
theorem ch8:([0,0,0]:List Int).foldl (fun x c=>aO 8 (x^^^c.toNat)) 1551141998=2182579220:=by kernel_rfl
theorem ch9:([0,0,0]:List Int).foldl (fun x c=>aO 8 (x^^^c.toNat)) 2182579220=3339965350:=by kernel_rfl
theorem ch10:([0,0,0]:List Int).foldl (fun x c=>aO 8 (x^^^c.toNat)) 3339965350=4083086871:=by kernel_rfl
theorem ch11:([0,0,0]:List Int).foldl (fun x c=>aO 8 (x^^^c.toNat)) 4083086871=3613167566:=by kernel_rfl
theorem ch12:([0,0,0]:List Int).foldl (fun x c=>aO 8 (x^^^c.toNat)) 3613167566=1173824198:=by kernel_rfl
theorem ch13:([0,0,0]:List Int).foldl (fun x c=>aO 8 (x^^^c.toNat)) 1173824198=290048808:=by kernel_rfl
theorem ch14:([0,0,0]:List Int).foldl (fun x c=>aO 8 (x^^^c.toNat)) 290048808=290513144:=by kernel_rfl
theorem ch15:([0,0,0]:List Int).foldl (fun x c=>aO 8 (x^^^c.toNat)) 290513144=2395111521:=by kernel_rfl
theorem ch16:([0,0,0]:List Int).foldl (fun x c=>aO 8 (x^^^c.toNat)) 2395111521=133995086:=by kernel_rfl
theorem ch17:([2,0,0]:List Int).foldl (fun x c=>aO 8 (x^^^c.toNat)) 133995086=1176872964:=by kernel_rfl
theorem ch18:([0,1,0]:List Int).foldl (fun x c=>aO 8 (x^^^c.toNat)) 1176872964=868776829:=by kernel_rfl
theorem ch19:([0,0,0]:List Int).foldl (fun x c=>aO 8 (x^^^c.toNat)) 868776829=89985423:=by kernel_rfl
theorem ch20:([0,0,0]:List Int).foldl (fun x c=>aO 8 (x^^^c.toNat)) 89985423=2892649185:=by kernel_rfl
theorem ch21:([0,0,0]:List Int).foldl (fun x c=>aO 8 (x^^^c.toNat)) 2892649185=2378829227:=by kernel_rfl
theorem ch22:([0,84,0]:List Int).foldl (fun x c=>aO 8 (x^^^c.toNat)) 2378829227=3320151999:=by kernel_rfl
theorem ch23:([0,0,96]:List Int).foldl (fun x c=>aO 8 (x^^^c.toNat)) 3320151999=4218923902:=by kernel_rfl
theorem ch24:([1,0,0]:List Int).foldl (fun x c=>aO 8 (x^^^c.toNat)) 4218923902=3695160875:=by kernel_rfl
theorem ch25:([0,0,0]:List Int).foldl (fun x c=>aO 8 (x^^^c.toNat)) 3695160875=3002733959:=by kernel_rfl
theorem ch26:([0,0]:List Int).foldl (fun x c=>aO 8 (x^^^c.toNat)) 3002733959=421484701:=by kernel_rfl
theorem chAll:fH [67,65,76,49,0,0,0,192,0,1,55,0,0,0,0,0,97,0,0,0,0,0,0,0,0,0,0,0,0,0,0,0,0,0,0,0,0,0,0,0,0,0,0,0,0,0,0,0,0,0,0,2,0,0,0,1,0,0,0,0,0,0,0,0,0,0,0,84,0,0,0,96,1,0,0,0,0,0,0,0]=3873482594:=by
 rw[show([67,65,76,49,0,0,0,192,0,1,55,0,0,0,0,0,97,0,0,0,0,0,0,0,0,0,0,0,0,0,0,0,0,0,0,0,0,0,0,0,0,0,0,0,0,0,0,0,0,0,0,2,0,0,0,1,0,0,0,0,0,0,0,0,0,0,0,84,0,0,0,96,1,0,0,0,0,0,0,0]:List Int)=[67,65,76]++([49,0,0]++([0,192,0]++([1,55,0]++([0,0,0]++([0,97,0]++([0,0,0]++([0,0,0]++([0,0,0]++([0,0,0]++([0,0,0]++([0,0,0]++([0,0,0]++([0,0,0]++([0,0,0]++([0,0,0]++([0,0,0]++([2,0,0]++([0,1,0]++([0,0,0]++([0,0,0]++([0,0,0]++([0,84,0]++([0,0,96]++([1,0,0]++([0,0,0]++([0,0])))))))))))))))))))))))))) from rfl]
 unfold fH reg
 rw[List.foldl_append,ch0,List.foldl_append,ch1,List.foldl_append,ch2,List.foldl_append,ch3,List.foldl_append,ch4,List.foldl_append,ch5,List.foldl_append,ch6,List.foldl_append,ch7,List.foldl_append,ch8,List.foldl_append,ch9,List.foldl_append,ch10,List.foldl_append,ch11,List.foldl_append,ch12,List.foldl_append,ch13,List.foldl_append,ch14,List.foldl_append,ch15,List.foldl_append,ch16,List.foldl_append,ch17,List.foldl_append,ch18,List.foldl_append,ch19,List.foldl_append,ch20,List.foldl_append,ch21,List.foldl_append,ch22,List.foldl_append,ch23,List.foldl_append,ch24,List.foldl_append,ch25,ch26]
 rfl
def IMG:List Int:=[67,65,76,49,0,0,0,192,0,1,55,0,0,0,0,0,97,0,0,0,0,0,0,0,0,0,0,0,0,0,0,0,0,0,0,0,0,0,0,0,0,0,0,0,0,0,0,0,0,0,0,2,0,0,0,1,0,0,0,0,0,0,0,0,0,0,0,84,0,0,0,96,1,0,0,0,0,0,0,0,230,224,167,98,227,119,106,108,0,0,0,0,0,0,0,0,64,0,28,6,1,128,99,74,243,124,210,112,130,131,37,0,21,128,63,0,0,0,0,0,0,0,0,0,0,0,0,0,0,0,0,0,0,0,0,0,0,0,0,0,0,0,0,0,0,0,0,0,0,0,0,0,0,0,0,0,0,0,0,0,0,0,0,0,0,0,0,0,0,0,0,0,0,0,0,0,0,0,0,0,0,0,0,0,0,0,0,0,0,0,0,0]
theorem frA:frB (exF [50,60]).z [] 55=[64,0,28,6,1,128,99,74,243,124,210,112,130,131,37,0,21,128,63,0,0,0,0,0,0,0,0,0,0,0,0,0,0,0,0,0,0,0,0,0,0,0,0,0,0,0,0,0,0,0,0,0,0,0,0]:=by kernel_rfl
end Go.Proofs.YtnicjahcgnhogaaGreatDoor
