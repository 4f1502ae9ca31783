/- Part 23 of the walk: contracts of the program's functions, each for every input. No condition. -/
import Derived.Test.YtnicjahcgnhogaaGreatDoorU21
set_option linter.unusedVariables false
set_option linter.unusedSimpArgs false
set_option maxRecDepth 100000
set_option maxHeartbeats 8000000
namespace Go.Proofs.YtnicjahcgnhogaaGreatDoor
open Go Go.RowKit Go.Calli
attribute [local irreducible] wpStill wpAnyH wpAnyS wpList Code.wp
theorem nG(x:Int)(h1: -1000000000000≤x)(h2:x≤1000000000000):wrap64 x=x:=by unfold wrap64;omega
theorem wid_bd(v:Int):0≤kE v∧kE v≤65:=by
 unfold kE
 split
 ·omega
 ·have:=uC 64 (if v<0 then(-v - 1).toNat else v.toNat)
  omega
theorem wdS_bd(q:List Int): ∀k i,0≤(wdS q k).getD i 0∧(wdS q k).getD i 0≤65:=by
 intro k
 induction k with
 | zero=>
  intro i
  simp only[wdS]
  rcases i with _ | _ | _ | _ | i<;>simp
 | succ k ih=>
  intro i
  simp only[wdS]
  have h1:=ih (k/4)
  have h2:=wid_bd (q.getD k 0)
  by_cases hi:i=k/4
  ·subst hi
   by_cases hl:k/4<(wdS q k).length
   ·rw[show((wdS q k).set (k/4) (max ((wdS q k).getD (k/4) 0) (kE (q.getD k 0)))).getD (k/4) 0=max ((wdS q k).getD (k/4) 0) (kE (q.getD k 0)) by simp[List.getD,hl]]
    omega
   ·rw[List.set_eq_of_length_le aa]
    exact h1
  ·rw[show((wdS q k).set (k/4) (max ((wdS q k).getD (k/4) 0) (kE (q.getD k 0)))).getD i 0=(wdS q k).getD i 0 by simp[List.getD,List.getElem?_set_ne (Ne.symm hi)]]
   exact ih i
theorem DF(b g s:List Int)(ts:List (Int×Int))(hg:g.length=4)(hs:s.length=4)(k:Nat)(hk:k<4):(dZ b g s ts).getD (4+k) 0=s.getD k 0:=by
 unfold dZ
 obtain⟨g0,g1,g2,g3,rfl⟩:=nS hg
 obtain⟨s0,s1,s2,s3,rfl⟩:=nS hs
 rcases k with _ | _ | _ | _ | k<;>first | rfl | omega
theorem told_wL(b g s:List Int)(ts:List (Int×Int))(hg:g.length=4)(hs:s.length=4):wL (dZ b g s ts)=lX (iF (kV b ts) s):=by
 obtain⟨g0,g1,g2,g3,rfl⟩:=nS hg
 obtain⟨s0,s1,s2,s3,rfl⟩:=nS hs
 unfold dZ
 have hl:(lX (iF (kV b ts) [s0,s1,s2,s3])).length=4:=qy _ _
 generalize lX (iF (kV b ts) [s0,s1,s2,s3])=wd at*
 obtain⟨w0,w1,w2,w3,rfl⟩:=nS hl
 rfl
theorem Ht(b g s:List Int)(ts:List (Int×Int))(hg:g.length=4)(hs:s.length=4)(n:Nat)(hn:n≤1000):Dh (dZ b g s ts) n≤1073741824:=by
 unfold Dh
 rw[told_wL b g s ts hg hs]
 unfold lX
 have h:=wdS_bd (iF (kV b ts) s) 16
 generalize wdS (iF (kV b ts) s) 16=wd at*
 have h0:=h 0;have h1:=h 1;have h2:=h 2;have h3:=h 3
 simp only[pU]
 generalize wd.getD 0 0=w0 at*
 generalize wd.getD 1 0=w1 at*
 generalize wd.getD 2 0=w2 at*
 generalize wd.getD 3 0=w3 at*
 rw[nG (4*w0) aa aa,nG (0+4*w0) aa aa,nG (4*w1) aa aa,nG (0+4*w0+4*w1) aa aa,nG (4*w2) aa aa,nG (0+4*w0+4*w1+4*w2) aa aa,nG (4*w3) aa aa,nG (0+4*w0+4*w1+4*w2+4*w3) aa aa,nG _ aa aa]
 omega
def He(w:World)(e:Ending)(w':World):Prop:=∃ao n cap ts,e= .returned (.slice ao n cap)∧bP eY 2 (0,0) w' ao n ts∧(∀a,ao=some a→w.heap.size≤a.block)∧n≤2∧Below w.heap.size w w'
def SrchP(b g:List Int)(room:Int)(tones:Bool)(w:World)(e:Ending)(w':World):Prop:=∃(z:List Int)(ao:Option Addr)(n cap:Nat)(ts:List (Int×Int))(r:Int),e= .returned (.tuple #[.agg (frC z (.slice ao n cap)),.int .i64 r])∧z.length=28∧bP eY 2 (0,0) w' ao n ts∧(∀a,ao=some a→w.heap.size≤a.block)∧n≤2∧Below w.heap.size w w'∧(tones=false→room=1073741824→z=dZ b g [0,0,0,0] []∧ts=[]∧ao=none∧n=0∧cap=0)
def uM(s:List Int):Int:=s.getD 0 0+s.getD 1 0+s.getD 2 0+s.getD 3 0
structure SrS(w:World)(b g m s:List Int)(mb sb:Nat)(wr:World):Prop where
 z0:wr.heap[w.heap.size]? =some (.cells (iA b) 194 (0,0))
 z1:wr.heap[w.heap.size+1]? =some (.cells (iA g) 191 (0,0))
 z2:wr.heap[w.heap.size+2]? =some (.cells #[(),(),(),(),.slice none 0 0,(),(),(),(),(),(),(),(),(),(),(),(),(),(),(),(),(),(),(),(),(),(),(),()] 196 (0,0))
 zm:wr.heap[mb]? =some (.cells (iA m) 191 (0,0))
 zs:wr.heap[sb]? =some (.cells (iA s) 306 (0,0))
 hb:Below w.heap.size w wr
 l:s.length=4
 lo: ∀k,k<4→0≤s.getD k 0∧s.getD k 0≤23
 hsb:w.heap.size+2<sb
theorem SrS.next{w:World}{b g m s:List Int}{mb sb:Nat}{w1 w2:World}(h:SrS w b g m s mb sb w1)(hb:Below w1.heap.size w1 w2):SrS w b g m s mb sb w2:=
 ⟨rwB h.z0 hb,rwB h.z1 hb,rwB h.z2 hb,rwB h.zm hb,rwB h.zs hb,h.hb.trans (hb.mono h.hb.size),h.l,h.lo,h.hsb⟩
end Go.Proofs.YtnicjahcgnhogaaGreatDoor
namespace Go.Calli
open Go Go.RowKit Go.Calli
open Go.Proofs.YtnicjahcgnhogaaGreatDoor
attribute [local irreducible] wpStill wpAnyH wpAnyS wpList Code.wp
theorem bP.vW{α:Type}{f:α→List Value}{size:Nat}{d:α}{S:Nat→Prop}{w w':World}{ao:Option Addr}{n:Nat}{ms:List α}(h:bP f size d w ao n ms)(hk:ag S w w')(hS:0<n→∀a,ao=some a→¬S a.block):bP f size d w' ao n ms:=by
 rcases Nat.eq_zero_or_pos n with h0 | h0
 ·subst h0
  have:ms=[]:=List.eq_nil_of_length_eq_zero h.hlen
  subst this
  exact bP.nil _ _ _ _ _
 ·exact h.kept hk (hS h0)
end Go.Calli
namespace Go.Proofs.YtnicjahcgnhogaaGreatDoor
open Go Go.RowKit Go.Calli
attribute [local irreducible] wpStill wpAnyH wpAnyS wpList Code.wp
theorem zu{w:World}{ao:Option Addr}{n:Nat}{ts:List (Int×Int)}(h:bP eY 2 (0,0) w ao n ts)(hn:0<n){a:Addr}(ha:ao=some a):a.block<w.heap.size:=by
 obtain⟨a',h1,h2,_⟩:=xO h hn
 rw[ha] at h1
 cases h1
 have:=World.block_lt_of_cell? w _ h2
 rwa [Addr.add_block] at this
structure SrF(w:World)(b g:List Int)(wr:World):Prop where
 z0:wr.heap[w.heap.size]? =some (.cells (iA b) 194 (0,0))
 z1:wr.heap[w.heap.size+1]? =some (.cells (iA g) 191 (0,0))
 z2:wr.heap[w.heap.size+2]? =some (.cells #[(),(),(),(),.slice none 0 0,(),(),(),(),(),(),(),(),(),(),(),(),(),(),(),(),(),(),(),(),(),(),(),()] 196 (0,0))
 hb:Below w.heap.size w wr
theorem SrF.next{w:World}{b g:List Int}{w1 w2:World}(h:SrF w b g w1)(hb:Below w1.heap.size w1 w2):SrF w b g w2:=
 ⟨rwB h.z0 hb,rwB h.z1 hb,rwB h.z2 hb,h.hb.trans (hb.mono h.hb.size)⟩
theorem set_sum{s:List Int}(hl:s.length=4){k:Nat}(hk:k<4)(v:Int):uM (s.set k v)=uM s - s.getD k 0+v:=by
 obtain⟨a,b,c,d,rfl⟩:=nS hl
 unfold uM
 rcases k with _ | _ | _ | _ | k
 all_goals first | omega | (simp;done) | (simp;omega)
theorem SrF.set{w:World}{b g:List Int}{w1:World}(h:SrF w b g w1){k:Nat}(hk:w.heap.size+3≤k)(cs:Array Value):SrF w b g (w1.setRow k cs):=
 ⟨(setRow_other _ _ _ _ aa).trans h.z0,(setRow_other _ _ _ _ aa).trans h.z1,(setRow_other _ _ _ _ aa).trans h.z2,below_setRow h.hb aa _⟩
theorem mi_len{w:World}{mb:Nat}{m:List Int}(h:w.heap[mb]? =some (.cells (iA m) 191 (0,0)))(hl:m.length=4):(Tryz.prog.info? 191).map (·.size)=some (iA m).size:=by rw[az,hl];kernel_rfl
theorem sum_bd{s:List Int}(h: ∀k,k<4→0≤s.getD k 0∧s.getD k 0≤23):0≤uM s∧uM s≤92:=by
 unfold uM
 have h0:=h 0 aa;have h1:=h 1 aa;have h2:=h 2 aa;have h3:=h 3 aa
 omega
theorem set_lo4{s:List Int}(hl:s.length=4)(I: ∀k,k<4→0≤s.getD k 0∧s.getD k 0≤23){k:Nat}(hk:k<4)(v:Int)(h0:0≤v)(h1:v≤23): ∀i,i<4→0≤(s.set k v).getD i 0∧(s.set k v).getD i 0≤23:=fun i hi=>by
 by_cases e:i=k
 ·subst e;simp[List.getD,hl,hi];omega
 ·rw[show(s.set k v).getD i 0=s.getD i 0 by simp[List.getD,List.getElem?_set_ne (Ne.symm e)]]
  exact I i hi
theorem uQ(b g:List Int)(hb:b.length=16)(E1: ∀z ∈ b,(Lit.int .i64 z).wf=true)(hg:g.length=4)(room:Int)(tones:Bool)(B8:tones=true→∀W,Calls Tryz.prog 198 #[.agg (iA b)] W (He W))(w:World):Calls Tryz.prog 169 #[.agg (iA b),.agg (iA g),.int .i64 room,.bool tones] w (SrchP b g room tones w):=by
 have B0:=ae w (.cells (iA b) 194)
 have R:=L9 w (.cells (iA b) 194)
 have U:=ae (w.alloc (.cells (iA b) 194)) (.cells (iA g) 191)
 have A1:=L9 (w.alloc (.cells (iA b) 194)) (.cells (iA g) 191)
 have A2:=ae ((w.alloc (.cells (iA b) 194)).alloc (.cells (iA g) 191)) (.cells #[(),(),(),(),.slice none 0 0,(),(),(),(),(),(),(),(),(),(),(),(),(),(),(),(),(),(),(),(),(),(),(),()] 196)
 have J:=L9 ((w.alloc (.cells (iA b) 194)).alloc (.cells (iA g) 191)) (.cells #[(),(),(),(),.slice none 0 0,(),(),(),(),(),(),(),(),(),(),(),(),(),(),(),(),(),(),(),(),(),(),(),()] 196)
 have A1:=rwB A1 A2
 have R:=rwB (rwB R U) A2
 have hB:=(B0.trans (U.mono B0.size)).trans (A2.mono (B0.trans (U.mono B0.size)).size)
 simp only[World.size_alloc] at A1 J
 clear B0 U A2
 have C3:(Tryz.prog.info? 194).map (·.size)=some (iA b).size:=by rw[az,hb];kernel_rfl
 have G9:(Tryz.prog.info? 191).map (·.size)=some (iA g).size:=by rw[az,hg];kernel_rfl
 have hF:SrF w b g (((w.alloc (.cells (iA b) 194)).alloc (.cells (iA g) 191)).alloc (.cells #[(),(),(),(),.slice none 0 0,(),(),(),(),(),(),(),(),(),(),(),(),(),(),(),(),(),(),(),(),(),(),(),()] 196)):=⟨R,A1,J,hB⟩
 have HF:=MI hF
 have E2:=MI E1
 have C4:=MI hb
 have B9:=MI hg
 have E3:=MI B8
 clear A1 J hB hF E1 B8 hb hg
 go_enter Tryz.func169,Tryz.ntmps169
 go_upto_if 16 with fail
 generalize ((w.alloc (.cells (iA b) 194)).alloc (.cells (iA g) 191)).alloc (.cells #[(),(),(),(),.slice none 0 0,(),(),(),(),(),(),(),(),(),(),(),(),(),(),(),(),(),(),(),(),(),(),(),()] 196)=W at*
 go_cut [10] (fun v10 wx=>∃ao n cap ts,v10= .slice ao n cap∧bP eY 2 (0,0) wx ao n ts∧(∀a,ao=some a→w.heap.size+3≤a.block)∧n≤2∧SrF w b g wx∧(tones=false→ts=[]∧ao=none∧n=0∧cap=0))
 case first=>
  cases tones
  ·go_wp2_with fail
   go_meet
   exact⟨none,0,0,[],rfl,bP.nil _ _ _ _ _,(fun a e=>by cases e),aa,HF.out,fun _=>⟨rfl,rfl,rfl,rfl⟩⟩
  ·have H0:=MI (E3.out rfl W)
   go_wp2_with (first
    | ((with_reducible refine MC 194 4 ?_);refine wpList_load_row rfl 194 (.tmp 4) rfl w.heap.size rfl 194 (iA b) (0,0) _ R Tryz.underlying194 rfl C3 ?_)
    | (go_at_call 198;refine H0.out.mono ?_;rintro e w1 ⟨ao,n,cap,ts,rfl,hR,B1,hn,U⟩))
   go_meet
   exact⟨ao,n,cap,ts,rfl,hR,(fun a e=>Nat.le_trans (L8 HF.out.z2) (B1 a e)),hn,HF.out.next U,fun e=>by cases e⟩
 case rest=>
  obtain⟨wx,rfl⟩: ∃w',w'=wc:=⟨_,rfl⟩
  obtain⟨ao,n,cap,ts,rfl,hR,B1,hn,hF,E4⟩:=hcut
  have R:=hF.z0
  have hT:=MI (AC b C4.out ao n cap ts wx hR)
  have hM:=MI (fun W=>MZ (kV b ts) (by rw[Bq];exact C4.out) (outL_wf E2.out ts) W)
  have HR:=MI hR
  have E5:=MI hF
  have H2:=MI E4
  have E6:=MI (show ∀a,ao=some a→w.heap.size≤a.block from fun a ha=>by have:=B1 a ha;omega)
  have E7:=MI (show ∀a,ao=some a→a.block≠w.heap.size+2 from fun a ha e=>by have:=B1 a ha;omega)
  clear hR hF E4 B1 HF E3
  go_upto_region 5 with(first
   | ((with_reducible refine MC 194 4 ?_);refine wpList_load_row rfl 194 (.tmp 4) rfl w.heap.size rfl 194 (iA b) (0,0) _ R Tryz.underlying194 rfl C3 ?_)
   | (go_at_call 200;refine hT.out.mono ?_;rintro e w1 ⟨rfl,U⟩)
   | (go_at_call 199;refine(hM.out _).mono ?_;rintro e w2 ⟨m,C0,rfl,A2⟩;have C1:(Tryz.prog.info? 191).map (·.size)=some (iA m).size:=by{rw[az,C0];kernel_rfl};have E8:(#[(),(),(),()]:Array Value).size=(iA m).size:=by{rw[az,C0];rfl})
   | ((with_reducible refine MF 191 11 22 ?_);refine wpList_store_row rfl 191 (.tmp 11) (.tmp 22) rfl _ (iA m) rfl rfl 191 (#[(),(),(),()]) (L9 _ _) C1 E8 (bV _) ?_))
  have C5:=(E5.out.next U).next A2
  have E9:=(HR.out.aj U).aj A2
  have I4:=L8 C5.z2
  have A6:=Md (iA m) (L9 w2 (.cells #[(),(),(),()] 191))
  have A7:=(C5.next (ae w2 (.cells #[(),(),(),()] 191))).set (k:=w2.heap.size) aa (iA m)
  have F1:=below_setRow (ae w2 (.cells #[(),(),(),()] 191)) Me (iA m)
  have C6:=E9.aj F1
  have F2:=MI C0
  clear C5 E9 U A2 hT hM F1 HR E5 C1 E8 C0
  change Code.wp _ _ _ _ ((w2.alloc (.cells #[(),(),(),()] 191)).setRow w2.heap.size (iA m))
  generalize (w2.alloc (.cells #[(),(),(),()] 191)).setRow w2.heap.size (iA m)=V at*
  generalize w2.heap.size=mb at*
  have A3:=ae V (.cells #[(),(),(),()] 306)
  have B2:=L9 V (.cells #[(),(),(),()] 306)
  have F3:SrS w b g m [0,0,0,0] mb V.heap.size (V.alloc (.cells #[(),(),(),()] 306)):=
   ⟨rwB A7.z0 A3,rwB A7.z1 A3,rwB A7.z2 A3,rwB A6 A3,B2,A7.hb.trans (A3.mono A7.hb.size),rfl,(fun k hk=>by rcases k with _ | _ | _ | _ | k<;>first | (simp;done) | omega),by have:=L8 A6;omega⟩
  have F4:=MI F3
  have F5:=C6.aj A3
  have C7:=MI (show 0<n→∀a,ao=some a→¬(a.block=V.heap.size) from fun h0 a ha e=>by have:=zu C6 h0 ha;omega)
  have C8:=MI F5
  have I5:V.heap.size≤(V.alloc (.cells #[(),(),(),()] 306)).heap.size:=A3.size
  clear A7 A6 A3 B2 F3 C6 R F5
  go_upto_region 8 with fail
  generalize V.alloc (.cells #[(),(),(),()] 306)=V2 at*
  generalize V.heap.size=sb at*
  go_loopw [13] (fun v13 wr=>∃s,SrS w b g m s mb sb wr∧ag (fun i=>i=sb) V2 wr∧v13= .int .i64 (uM s)∧(room=1073741824→s=[0,0,0,0])) (fun v13 _=>(200 - intOf v13).toNat)
  case atStart=>exact⟨[0,0,0,0],F4.out,ag.refl _ _,rfl,fun _=>rfl⟩
  case round=>
   clear F4
   obtain⟨s,hS,hV,rfl,F6⟩:=hrel
   have H3:(Tryz.prog.info? 306).map (·.size)=some (iA s).size:=by rw[az,hS.l];kernel_rfl
   have H4:=MI (Kz b g s C4.out E2.out B9.out hS.l ao n cap ts wr (C8.out.vW hV C7.out))
   have A8:=rJ b g s ts B9.out hS.l
   have j:=kw (dZ b g s ts) (.slice ao n cap) A8
   have C9:(#[(),(),(),(),.slice none 0 0,(),(),(),(),(),(),(),(),(),(),(),(),(),(),(),(),(),(),(),(),(),(),(),()]:Array Value).size=(frC (dZ b g s ts) (.slice ao n cap)).size:=by rw[bM _ _ A8];rfl
   have D0:=dH (dZ b g s ts) ao n cap
   have R:=hS.z0
   have A1:=hS.z1
   have B2:=hS.zs
   have HS:=MI hS
   have HV:=MI hV
   have H5:=MI F6
   clear hS hV F6
   go_upto_region 9 with(first
    | ((with_reducible refine MC 194 4 ?_);refine wpList_load_row rfl 194 (.tmp 4) rfl w.heap.size rfl 194 (iA b) (0,0) _ R Tryz.underlying194 rfl C3 ?_)
    | ((with_reducible refine MC 191 5 ?_);refine wpList_load_row rfl 191 (.tmp 5) rfl (w.heap.size+1) rfl 191 (iA g) (0,0) _ A1 Tryz.underlying191 rfl G9 ?_)
    | ((with_reducible refine MC 306 12 ?_);refine wpList_load_row rfl 306 (.tmp 12) rfl sb rfl 306 (iA s) (0,0) _ B2 Tryz.underlying306 rfl H3 ?_)
    | (go_at_call 201;refine H4.out.mono ?_;rintro e w4 ⟨rfl,D1⟩)
    | ((with_reducible refine MF 196 14 29 ?_);refine wpList_store_row rfl 196 (.tmp 14) (.tmp 29) rfl _ (frC (dZ b g s ts) (.slice ao n cap)) rfl rfl 196 (#[(),(),(),(),.slice none 0 0,(),(),(),(),(),(),(),(),(),(),(),(),(),(),(),(),(),(),(),(),(),(),(),()]) (L9 _ _) j C9 D0 ?_))
   have B4:=D1.size
   have D2:Below wr.heap.size wr ((w4.alloc (.cells #[(),(),(),(),.slice none 0 0,(),(),(),(),(),(),(),(),(),(),(),(),(),(),(),(),(),(),(),(),(),(),(),()] 196)).setRow w4.heap.size (frC (dZ b g s ts) (.slice ao n cap))):=below_setRow (D1.trans ((ae w4 (.cells #[(),(),(),(),.slice none 0 0,(),(),(),(),(),(),(),(),(),(),(),(),(),(),(),(),(),(),(),(),(),(),(),()] 196)).mono B4)) B4 _
   have A9:=Md (frC (dZ b g s ts) (.slice ao n cap)) (L9 w4 (.cells #[(),(),(),(),.slice none 0 0,(),(),(),(),(),(),(),(),(),(),(),(),(),(),(),(),(),(),(),(),(),(),(),()] 196))
   have F7:=HS.out.next D2
   have F8:=HV.out.trans (ag.au D2 Me)
   clear D1 D2 R A1 B2 B4
   change Code.wp _ _ _ _ ((w4.alloc (.cells #[(),(),(),(),.slice none 0 0,(),(),(),(),(),(),(),(),(),(),(),(),(),(),(),(),(),(),(),(),(),(),(),()] 196)).setRow w4.heap.size (frC (dZ b g s ts) (.slice ao n cap)))
   generalize (w4.alloc (.cells #[(),(),(),(),.slice none 0 0,(),(),(),(),(),(),(),(),(),(),(),(),(),(),(),(),(),(),(),(),(),(),(),()] 196)).setRow w4.heap.size (frC (dZ b g s ts) (.slice ao n cap))=X at*
   generalize w4.heap.size=fb at*
   have D3:=MI (OI (dZ b g s ts) A8 ao n cap aa X)
   have H6:=MI (Ht b g s ts B9.out HS.out.l n aa)
   have F9:=MI F7
   have G0:=MI F8
   clear F7 F8
   have H7:=MI (fun k hk=>DF b g s ts B9.out HS.out.l k hk)
   by_cases B5:Dh (dZ b g s ts) n≤room
   ·go_upto_region 10 with(first
     | ((with_reducible refine MC 196 14 ?_);refine wpList_load_row rfl 196 (.tmp 14) rfl fb rfl 196 (frC (dZ b g s ts) (.slice ao n cap)) (0,0) _ A9 Tryz.underlying196 rfl j ?_)
     | (go_at_call 202;refine D3.out.mono ?_;rintro e w5 ⟨rfl,A0⟩))
    have A4:=MI (F9.out.next A0)
    have J:=A4.out.z2
    have o:=rwB A9 A0
    have D4:=MI (C8.out.vW (G0.out.trans (ag.au A0 Me)) C7.out)
    have D5:=MI (show ∀a,ao=some a→a.block≠w.heap.size+2 from fun a ha e=>E7.out a ha aa)
    have B6:Hid (tones=false→room=1073741824→dZ b g s ts=dZ b g [0,0,0,0] []∧ts=[]∧ao=none∧n=0∧cap=0):=fun h1 h2=>by
     obtain⟨t1,t2,t3,t4⟩:=H2.out h1
     exact⟨by rw[H5.out h2,t1],t1,t2,t3,t4⟩
    clear B5 A0 A9
    go_wp2_with (first
     | ((with_reducible refine MC 196 14 ?_);refine wpList_load_row rfl 196 (.tmp 14) rfl fb rfl 196 (frC (dZ b g s ts) (.slice ao n cap)) (0,0) _ o Tryz.underlying196 rfl j ?_)
     | ((with_reducible refine MF 196 8 34 ?_);refine wpList_store_row rfl 196 (.tmp 8) (.tmp 34) rfl _ (frC (dZ b g s ts) (.slice ao n cap)) rfl rfl 196 (#[(),(),(),(),.slice none 0 0,(),(),(),(),(),(),(),(),(),(),(),(),(),(),(),(),(),(),(),(),(),(),(),()]) J j C9 D0 ?_))
    exact bodyPost_ret (results_cell_tmp (fn:=Tryz.f169) (p:=8) (q:=9) (ty:=196) rfl _ _ _ _ _ _ _ rfl (setRow_heap _ _ _ _ _ _ J) Tryz.underlying196 rfl j) rfl ⟨dZ b g s ts,ao,n,cap,ts,uM s,rfl,A8,D4.out.kept (aK _ _ _) (fun a ha e=>by have:=D5.out a ha;omega),E6.out,hn,below_setRow A4.out.hb aa _,fun h1 h2=>B6.out h1 h2⟩
   ·have D6:room≠1073741824:=fun e=>B5 (by rw[e];exact H6.out)
    go_upto_region 11 with(first
     | ((with_reducible refine MC 196 14 ?_);refine wpList_load_row rfl 196 (.tmp 14) rfl fb rfl 196 (frC (dZ b g s ts) (.slice ao n cap)) (0,0) _ A9 Tryz.underlying196 rfl j ?_)
     | (go_at_call 202;refine D3.out.mono ?_;rintro e w5 ⟨rfl,A0⟩))
    have B3:=F9.out.next A0
    have J:=B3.z2
    have o:=rwB A9 A0
    have A6:=B3.zm
    have C1:=mi_len B3.zm F2.out
    have G1:=MI (I7 (dZ b g s ts) m A8 F2.out (.slice ao n cap) w5)
    have A4:=MI B3
    have G2:=MI (G0.out.trans (ag.au A0 Me))
    clear B3 A0 A9 D3
    go_upto_region 12 with(first
     | ((with_reducible refine MC 196 14 ?_);refine wpList_load_row rfl 196 (.tmp 14) rfl fb rfl 196 (frC (dZ b g s ts) (.slice ao n cap)) (0,0) _ o Tryz.underlying196 rfl j ?_)
     | ((with_reducible refine MC 191 11 ?_);refine wpList_load_row rfl 191 (.tmp 11) rfl mb rfl 191 (iA m) (0,0) _ A6 Tryz.underlying191 rfl C1 ?_)
     | (go_at_call 203;refine G1.out.mono ?_;rintro e w6 ⟨r,rfl,C2,hr⟩))
    have D7:=A4.out.next C2
    have D8:=rwB o C2
    have G3:=G2.out.trans (ag.au C2 Me)
    have I:=MI D7
    have G4:=MI G3
    have B7:=D7.z2
    have G8:=MI D8
    clear C2 D7 G3 J o A6 D8 G1 A4 G2
    rcases hr with rfl | ⟨k,rfl,hk,G5⟩
    ·have D4:=MI (C8.out.vW G4.out C7.out)
     have D5:=MI (show ∀a,ao=some a→a.block≠w.heap.size+2 from fun a ha e=>E7.out a ha aa)
     have B6:Hid (tones=false→room=1073741824→dZ b g s ts=dZ b g [0,0,0,0] []∧ts=[]∧ao=none∧n=0∧cap=0):=fun h1 h2=>absurd h2 D6
     have A4:=I
     have J:=B7
     have o:=G8.out
     clear B7 B5
     go_wp2_with (first
      | ((with_reducible refine MC 196 14 ?_);refine wpList_load_row rfl 196 (.tmp 14) rfl fb rfl 196 (frC (dZ b g s ts) (.slice ao n cap)) (0,0) _ o Tryz.underlying196 rfl j ?_)
      | ((with_reducible refine MF 196 8 41 ?_);refine wpList_store_row rfl 196 (.tmp 8) (.tmp 41) rfl _ (frC (dZ b g s ts) (.slice ao n cap)) rfl rfl 196 (#[(),(),(),(),.slice none 0 0,(),(),(),(),(),(),(),(),(),(),(),(),(),(),(),(),(),(),(),(),(),(),(),()]) J j C9 D0 ?_))
     exact bodyPost_ret (results_cell_tmp (fn:=Tryz.f169) (p:=8) (q:=9) (ty:=196) rfl _ _ _ _ _ _ _ rfl (setRow_heap _ _ _ _ _ _ J) Tryz.underlying196 rfl j) rfl ⟨dZ b g s ts,ao,n,cap,ts,uM s,rfl,A8,D4.out.kept (aK _ _ _) (fun a ha e=>by have:=D5.out a ha;omega),E6.out,hn,below_setRow A4.out.hb aa _,fun h1 h2=>B6.out h1 h2⟩
    ·rw[H7.out k hk] at G5
     have H8:=I.out.lo k hk
     have I6:=aH (k:=k) I.out.zs (by rw[I.out.l];exact hk)
     have I8:=ay I.out.zs k
     have I9:¬(k:Int)<0:=aa
     have J0:IntKind.i64.wrap (s.getD k 0+1)=s.getD k 0+1:=IntWalk.i64_in _ aa
     have D9:=sum_bd I.out.lo
     have J1:IntKind.i64.wrap (uM s+1)=uM s+1:=IntWalk.i64_in _ aa
     have E0:=bY I.out.zs k (s.getD k 0+1)
     have G6:=set_sum I.out.l hk (s.getD k 0+1)
     have H9:=MI G6
     have I0:=MI (set_lo4 I.out.l I.out.lo hk (s.getD k 0+1) aa aa)
     have A5:ag (fun i=>i=sb) w6 (w6.setCell ⟨sb,k,none⟩ (.int .i64 (s.getD k 0+1))):=aA _ _ _ _
     have G7:SrS w b g m (s.set k (s.getD k 0+1)) mb sb (w6.setCell ⟨sb,k,none⟩ (.int .i64 (s.getD k 0+1))):=
      ⟨A5.heap I.out.z0 (by have:=I.out.hsb;omega),A5.heap I.out.z1 (by have:=I.out.hsb;omega),A5.heap I.out.z2 (by have:=I.out.hsb;omega),A5.heap I.out.zm (fun e=>aI I.out.zm I.out.zs aq e),E0,I.out.hb.trans (A5.aW I.out.hb.size (fun i hi e=>by have:=I.out.hsb;omega)),by rw[List.length_set];exact I.out.l,I0.out,I.out.hsb⟩
     have I1:=MI G7
     have I2:=MI (G4.out.trans A5)
     have I3:=MI D9
     clear G6 E0 G7 A5 B7 G5 H8 D9
     generalize s.getD k 0=sk at*
     go_wp2_with fail
     refine⟨⟨_,I1.out,I2.out,congrArg (Value.int .i64) (by rw[H9.out];omega),fun e=>absurd e D6⟩,?_⟩
     have hq:=I3.out
     simp[intOf]
     omega
def exZ(b:List Int):List Int:=dZ b [0,0,0,0] [0,0,0,0] []
theorem qV(b:List Int):(exZ b).length=28:=rJ _ _ _ _ rfl rfl
theorem Ae(b:List Int)(hb:b.length=16)(A1: ∀z ∈ b,(Lit.int .i64 z).wf=true)(w:World):Calls Tryz.prog 168 #[.agg (iA b)] w (fun e w'=>e= .returned (.agg (frC (exZ b) (.slice none 0 0)))∧Below w.heap.size w w'):=by
 have j:=ae w (.cells (iA b) 194)
 have J:=L9 w (.cells (iA b) 194)
 have o:=ae (w.alloc (.cells (iA b) 194)) (.cells #[(),(),(),(),.slice none 0 0,(),(),(),(),(),(),(),(),(),(),(),(),(),(),(),(),(),(),(),(),(),(),(),()] 196)
 have I:=L9 (w.alloc (.cells (iA b) 194)) (.cells #[(),(),(),(),.slice none 0 0,(),(),(),(),(),(),(),(),(),(),(),(),(),(),(),(),(),(),(),(),(),(),(),()] 196)
 have J:=rwB J o
 have hB:=j.trans (o.mono j.size)
 rw[World.size_alloc] at I
 clear j o
 have A4:(Tryz.prog.info? 194).map (·.size)=some (iA b).size:=by rw[az,hb];kernel_rfl
 have hS:=MI (fun W=>(uQ b [0,0,0,0] hb A1 rfl 1073741824 false (fun e=>by cases e) W).mono (fun e w' h=>show ∃r:Int,e= .returned (.tuple #[.agg (frC (exZ b) (.slice none 0 0)),.int .i64 r])∧Below W.heap.size W w' by
  obtain⟨z,ao,n,cap,ts,r,h1,h2,h3,h4,h5,h6,h7⟩:=h
  obtain⟨e1,e2,e3,e4,e5⟩:=h7 rfl rfl
  subst e1 e3 e4 e5
  exact⟨r,h1,h6⟩))
 have R:(Tryz.prog.info? 196).map (·.size)=some (frC (exZ b) (.slice none 0 0)).size:=kw _ _ (qV b)
 have A2:(#[(),(),(),(),.slice none 0 0,(),(),(),(),(),(),(),(),(),(),(),(),(),(),(),(),(),(),(),(),(),(),(),()]:Array Value).size=(frC (exZ b) (.slice none 0 0)).size:=by rw[bM _ _ (qV b)];rfl
 have A3:=dH (exZ b) none 0 0
 clear A1
 generalize exZ b=z at*
 have HB:=MI hB
 clear hB
 go_enter Tryz.func168,Tryz.ntmps168
 go_upto_region 1 with fail
 generalize (w.alloc (.cells (iA b) 194)).alloc (.cells #[(),(),(),(),.slice none 0 0,(),(),(),(),(),(),(),(),(),(),(),(),(),(),(),(),(),(),(),(),(),(),(),()] 196)=W at*
 go_upto_region 2 with(first
  | ((with_reducible refine MC 194 1 ?_);refine wpList_load_row rfl 194 (.tmp 1) rfl w.heap.size rfl 194 (iA b) (0,0) _ J Tryz.underlying194 rfl A4 ?_)
  | ((with_reducible show wpList _ _ _ (Oper.mk _ (Op.build 191 _) _ _ _ _::_) _ _);refine bf rfl 191 _ rfl (iA [0,0,0,0]) af ?_)
  | (go_at_call 169;refine(hS.out _).mono ?_;rintro e w2 ⟨r,rfl,U⟩)
  | ((with_reducible refine MF 196 3 9 ?_);refine wpList_store_row rfl 196 (.tmp 3) (.tmp 9) rfl _ (frC z (.slice none 0 0)) rfl rfl 196 (#[(),(),(),(),.slice none 0 0,(),(),(),(),(),(),(),(),(),(),(),(),(),(),(),(),(),(),(),(),(),(),(),()]) (L9 _ _) R A2 A3 ?_))
 have A0:Below W.heap.size W ((w2.alloc (.cells #[(),(),(),(),.slice none 0 0,(),(),(),(),(),(),(),(),(),(),(),(),(),(),(),(),(),(),(),(),(),(),(),()] 196)).setRow w2.heap.size (frC z (.slice none 0 0))):=below_setRow (U.trans ((ae w2 (.cells #[(),(),(),(),.slice none 0 0,(),(),(),(),(),(),(),(),(),(),(),(),(),(),(),(),(),(),(),(),(),(),(),()] 196)).mono U.size)) U.size _
 have A5:=Md (frC z (.slice none 0 0)) (L9 w2 (.cells #[(),(),(),(),.slice none 0 0,(),(),(),(),(),(),(),(),(),(),(),(),(),(),(),(),(),(),(),(),(),(),(),()] 196))
 have I:=rwB I A0
 have A6:=HB.out.trans (A0.mono HB.out.size)
 clear U A0 J HB
 change Code.wp _ _ _ _ ((w2.alloc (.cells #[(),(),(),(),.slice none 0 0,(),(),(),(),(),(),(),(),(),(),(),(),(),(),(),(),(),(),(),(),(),(),(),()] 196)).setRow w2.heap.size (frC z (.slice none 0 0)))
 generalize (w2.alloc (.cells #[(),(),(),(),.slice none 0 0,(),(),(),(),(),(),(),(),(),(),(),(),(),(),(),(),(),(),(),(),(),(),(),()] 196)).setRow w2.heap.size (frC z (.slice none 0 0))=X at*
 generalize w2.heap.size=fb at*
 go_wp2_with (first
  | ((with_reducible refine MC 196 3 ?_);refine wpList_load_row rfl 196 (.tmp 3) rfl fb rfl 196 (frC z (.slice none 0 0)) (0,0) _ A5 Tryz.underlying196 rfl R ?_)
  | ((with_reducible refine MF 196 2 11 ?_);refine wpList_store_row rfl 196 (.tmp 2) (.tmp 11) rfl _ (frC z (.slice none 0 0)) rfl rfl 196 (#[(),(),(),(),.slice none 0 0,(),(),(),(),(),(),(),(),(),(),(),(),(),(),(),(),(),(),(),(),(),(),(),()]) I R A2 A3 ?_))
 exact bodyPost_ret (results_cell_row (fn:=Tryz.f168) rfl _ _ _ _ _ _ _ rfl (setRow_heap _ _ _ _ _ _ I) Tryz.underlying196 rfl R) rfl ⟨rfl,below_setRow A6 aa _⟩
def FitP(b g:List Int)(size:Int)(w:World)(e:Ending)(w':World):Prop:=∃(z:List Int)(ao:Option Addr)(n cap:Nat)(ts:List (Int×Int))(r:Int),e= .returned (.tuple #[.agg (frC z (.slice ao n cap)),.int .i64 r])∧z.length=28∧bP eY 2 (0,0) w' ao n ts∧(∀a,ao=some a→w.heap.size≤a.block)∧n≤2∧Below w.heap.size w w'∧(55≤size→size≤96→kE (jf b)≤24→inB 3 g=true→r=0∧z=exZ b∧ts=[]∧ao=none∧n=0∧cap=0)
theorem iA_all{w:World}{b T:Nat}{zs:List Int}(h:w.heap[b]? =some (.cells (iA zs) T (0,0)))(hz:zs.length=16)(I: ∀z ∈ zs,(Lit.int .i64 z).wf=true):Ints .i64 w (some ⟨b,0,none⟩) 16 zs:=by
 have h1:=GH h 0 16 aa aa I
 rwa [List.drop_zero,List.take_of_length_le aa] at h1
def fz:List Int:=List.replicate 28 0
theorem fz_len:fz.length=28:=rfl
theorem NP:frC fz (.slice none 0 0)=#[.int .i64 0,.int .i64 0,.int .i64 0,.int .i64 0,.slice none 0 0,.int .i64 0,.int .i64 0,.int .i64 0,.int .i64 0,.int .i64 0,.int .i64 0,.int .i64 0,.int .i64 0,.int .i64 0,.int .i64 0,.int .i64 0,.int .i64 0,.int .i64 0,.int .i64 0,.int .i64 0,.int .i64 0,.int .i64 0,.int .i64 0,.int .i64 0,.int .i64 0,.int .i64 0,.int .i64 0,.int .i64 0,.int .i64 0]:=af
theorem fit_err{b g:List Int}{size r:Int}{w w':World}(hb:Below w.heap.size w w'){v:Value}(hv:v= .tuple #[.agg #[(),(),(),(),.slice none 0 0,(),(),(),(),(),(),(),(),(),(),(),(),(),(),(),(),(),(),(),(),(),(),(),()],.int .i64 r])(hn:¬(55≤size∧size≤96∧kE (jf b)≤24∧inB 3 g=true)):FitP b g size w (.returned v) w':=
 ⟨fz,none,0,0,[],r,by rw[hv,NP],fz_len,bP.nil _ _ _ _ _,(fun a e=>by cases e),aa,hb,fun h1 h2 h3 h4=>absurd ⟨h1,h2,h3,h4⟩ hn⟩
theorem Aa(b g:List Int)(hb:b.length=16)(A5: ∀z ∈ b,(Lit.int .i64 z).wf=true)(hg:g.length=4)(size:Int)(A8:size<55→∀W,Calls Tryz.prog 198 #[.agg (iA b)] W (He W))(w:World):Calls Tryz.prog 132 #[.agg (iA b),.agg (iA g),.int .i64 size] w (FitP b g size w):=by
 have A6:=ae w (.cells (iA b) 194)
 have o:=L9 w (.cells (iA b) 194)
 have A9:=ae (w.alloc (.cells (iA b) 194)) (.cells (iA g) 191)
 have A3:=L9 (w.alloc (.cells (iA b) 194)) (.cells (iA g) 191)
 have B0:=ae ((w.alloc (.cells (iA b) 194)).alloc (.cells (iA g) 191)) (.cells #[(),(),(),(),.slice none 0 0,(),(),(),(),(),(),(),(),(),(),(),(),(),(),(),(),(),(),(),(),(),(),(),()] 196)
 have I:=L9 ((w.alloc (.cells (iA b) 194)).alloc (.cells (iA g) 191)) (.cells #[(),(),(),(),.slice none 0 0,(),(),(),(),(),(),(),(),(),(),(),(),(),(),(),(),(),(),(),(),(),(),(),()] 196)
 have A3:=rwB A3 B0
 have o:=rwB (rwB o A9) B0
 have hB:=(A6.trans (A9.mono A6.size)).trans (B0.mono (A6.trans (A9.mono A6.size)).size)
 simp only[World.size_alloc] at A3 I
 clear A6 A9 B0
 have C3:(Tryz.prog.info? 194).map (·.size)=some (iA b).size:=by rw[az,hb];kernel_rfl
 have D1:(Tryz.prog.info? 191).map (·.size)=some (iA g).size:=by rw[az,hg];kernel_rfl
 have B1:Tryz.prog.built 196 []=some (#[.int .i64 0,.int .i64 0,.int .i64 0,.int .i64 0,.slice none 0 0,.int .i64 0,.int .i64 0,.int .i64 0,.int .i64 0,.int .i64 0,.int .i64 0,.int .i64 0,.int .i64 0,.int .i64 0,.int .i64 0,.int .i64 0,.int .i64 0,.int .i64 0,.int .i64 0,.int .i64 0,.int .i64 0,.int .i64 0,.int .i64 0,.int .i64 0,.int .i64 0,.int .i64 0,.int .i64 0,.int .i64 0,.int .i64 0]):=af
 have R:(Tryz.prog.info? 196).map (·.size)=some (#[.int .i64 0,.int .i64 0,.int .i64 0,.int .i64 0,.slice none 0 0,.int .i64 0,.int .i64 0,.int .i64 0,.int .i64 0,.int .i64 0,.int .i64 0,.int .i64 0,.int .i64 0,.int .i64 0,.int .i64 0,.int .i64 0,.int .i64 0,.int .i64 0,.int .i64 0,.int .i64 0,.int .i64 0,.int .i64 0,.int .i64 0,.int .i64 0,.int .i64 0,.int .i64 0,.int .i64 0,.int .i64 0,.int .i64 0]:Array Value).size:=af
 have B2:(#[(),(),(),(),.slice none 0 0,(),(),(),(),(),(),(),(),(),(),(),(),(),(),(),(),(),(),(),(),(),(),(),()]:Array Value).all (·.oneCell')=true:=by rw[←NP];exact dH fz none 0 0
 have hP:=MI (fun(W:World)(h:W.heap[w.heap.size]? =some (.cells (iA b) 194 (0,0)))(cap:Nat)=>vG (some ⟨w.heap.size,0,none⟩) 16 cap b W (iA_all h hb A5))
 have hW:=MI (fun W=>LP b A5 W)
 obtain⟨g0,g1,g2,g3,rfl⟩:=nS hg
 have hG:=MI (fun W=>gok_any g0 g1 g2 g3 W)
 have B6:((((w.alloc (.cells (iA b) 194)).alloc (.cells (iA [g0,g1,g2,g3]) 191)).alloc (.cells #[(),(),(),(),.slice none 0 0,(),(),(),(),(),(),(),(),(),(),(),(),(),(),(),(),(),(),(),(),(),(),(),()] 196))).heap[w.heap.size+1]? =some (.cells #[.int .i64 g0,.int .i64 g1,.int .i64 g2,.int .i64 g3] 191 (0,0)):=A3
 obtain⟨d0,d1,d2,d3⟩:=bK B6
 clear B6
 have D2:=MI (fun W=>Ae b hb A5 W)
 have D3:=MI (fun(h5:size<55) W=>uQ b [g0,g1,g2,g3] hb A5 hg (8*size) true (fun _=>A8 h5) W)
 have A4:=MI (fun w' (r:Int) hb v hv hn=>fit_err (b:=b) (g:=[g0,g1,g2,g3]) (size:=size) (r:=r) (w:=w) (w':=w') hb (v:=v) hv hn)
 have E1:=L8 I
 generalize C4:kE (jf b)=wd at*
 have E2:=MI C4
 generalize C5:jf b=pk at*
 have E3:=MI C5
 clear A5 A8 C4 C5
 have HB:=MI hB
 clear hB
 by_cases E4:size<24
 ·go_enter Tryz.func132,Tryz.ntmps132
  go_upto_region 1 with fail
  generalize ((w.alloc (.cells (iA b) 194)).alloc (.cells (iA [g0,g1,g2,g3]) 191)).alloc (.cells #[(),(),(),(),.slice none 0 0,(),(),(),(),(),(),(),(),(),(),(),(),(),(),(),(),(),(),(),(),(),(),(),()] 196)=W at*
  go_wp2_with (first | ((with_reducible show wpList _ _ _ (Oper.mk _ (Op.build 196 _) _ _ _ _::_) _ _);refine bf rfl 196 _ rfl (#[(),(),(),(),.slice none 0 0,(),(),(),(),(),(),(),(),(),(),(),(),(),(),(),(),(),(),(),(),(),(),(),()]) B1 ?_) | ((with_reducible refine MF 196 6 16 ?_);refine wpList_store_row rfl 196 (.tmp 6) (.tmp 16) rfl _ (#[(),(),(),(),.slice none 0 0,(),(),(),(),(),(),(),(),(),(),(),(),(),(),(),(),(),(),(),(),(),(),(),()]) rfl rfl 196 (#[(),(),(),(),.slice none 0 0,(),(),(),(),(),(),(),(),(),(),(),(),(),(),(),(),(),(),(),(),(),(),(),()]) I R rfl B2 ?_))
  exact bodyPost_ret (results_cell_tmp (fn:=Tryz.f132) (p:=6) (q:=7) (ty:=196) rfl _ _ _ _ _ _ _ rfl (setRow_heap _ _ _ _ _ _ I) Tryz.underlying196 rfl R) rfl (A4.out _ 12 (below_setRow HB.out aa _) _ rfl aa)
 by_cases E5:96<size
 ·go_enter Tryz.func132,Tryz.ntmps132
  go_upto_region 1 with fail
  generalize ((w.alloc (.cells (iA b) 194)).alloc (.cells (iA [g0,g1,g2,g3]) 191)).alloc (.cells #[(),(),(),(),.slice none 0 0,(),(),(),(),(),(),(),(),(),(),(),(),(),(),(),(),(),(),(),(),(),(),(),()] 196)=W at*
  go_wp2_with (first | ((with_reducible show wpList _ _ _ (Oper.mk _ (Op.build 196 _) _ _ _ _::_) _ _);refine bf rfl 196 _ rfl (#[(),(),(),(),.slice none 0 0,(),(),(),(),(),(),(),(),(),(),(),(),(),(),(),(),(),(),(),(),(),(),(),()]) B1 ?_) | ((with_reducible refine MF 196 6 16 ?_);refine wpList_store_row rfl 196 (.tmp 6) (.tmp 16) rfl _ (#[(),(),(),(),.slice none 0 0,(),(),(),(),(),(),(),(),(),(),(),(),(),(),(),(),(),(),(),(),(),(),(),()]) rfl rfl 196 (#[(),(),(),(),.slice none 0 0,(),(),(),(),(),(),(),(),(),(),(),(),(),(),(),(),(),(),(),(),(),(),(),()]) I R rfl B2 ?_))
  exact bodyPost_ret (results_cell_tmp (fn:=Tryz.f132) (p:=6) (q:=7) (ty:=196) rfl _ _ _ _ _ _ _ rfl (setRow_heap _ _ _ _ _ _ I) Tryz.underlying196 rfl R) rfl (A4.out _ 12 (below_setRow HB.out aa _) _ rfl aa)
 by_cases D9:24<wd
 ·go_enter Tryz.func132,Tryz.ntmps132
  go_upto_region 1 with fail
  generalize ((w.alloc (.cells (iA b) 194)).alloc (.cells (iA [g0,g1,g2,g3]) 191)).alloc (.cells #[(),(),(),(),.slice none 0 0,(),(),(),(),(),(),(),(),(),(),(),(),(),(),(),(),(),(),(),(),(),(),(),()] 196)=W at*
  go_wp2_with (first
  | (go_at_call 166;refine(hP.out _ (by exact o) _).mono ?_;rintro e w1 ⟨rfl,n1,rfl⟩)
  | (go_at_call 165;refine(hW.out _).mono ?_;rintro e w2 ⟨rfl,n2,rfl⟩)
  | ((with_reducible show wpList _ _ _ (Oper.mk _ (Op.build 196 _) _ _ _ _::_) _ _);refine bf rfl 196 _ rfl (#[(),(),(),(),.slice none 0 0,(),(),(),(),(),(),(),(),(),(),(),(),(),(),(),(),(),(),(),(),(),(),(),()]) B1 ?_)
  | ((with_reducible refine MF 196 6 26 ?_);refine wpList_store_row rfl 196 (.tmp 6) (.tmp 26) rfl _ (#[(),(),(),(),.slice none 0 0,(),(),(),(),(),(),(),(),(),(),(),(),(),(),(),(),(),(),(),(),(),(),(),()]) rfl rfl 196 (#[(),(),(),(),.slice none 0 0,(),(),(),(),(),(),(),(),(),(),(),(),(),(),(),(),(),(),(),(),(),(),(),()]) (by exact I) R rfl B2 ?_))
  exact bodyPost_ret (results_cell_tmp (fn:=Tryz.f132) (p:=6) (q:=7) (ty:=196) rfl _ _ _ _ _ _ _ rfl (setRow_heap _ _ _ _ _ _ (show(W.drewN _).heap[w.heap.size+1+1]? =_ from I)) Tryz.underlying196 rfl R) rfl (A4.out _ 5 (below_setRow (below_drewN HB.out _) aa _) _ rfl aa)
 cases C6:inB 3 [g0,g1,g2,g3] with
 | false=>
  rw[C6] at hG A4
  go_enter Tryz.func132,Tryz.ntmps132
  go_upto_region 1 with fail
  generalize ((w.alloc (.cells (iA b) 194)).alloc (.cells (iA [g0,g1,g2,g3]) 191)).alloc (.cells #[(),(),(),(),.slice none 0 0,(),(),(),(),(),(),(),(),(),(),(),(),(),(),(),(),(),(),(),(),(),(),(),()] 196)=W at*
  go_wp2_with (first
  | (go_at_call 166;refine(hP.out _ (by exact o) _).mono ?_;rintro e w1 ⟨rfl,n1,rfl⟩)
  | (go_at_call 165;refine(hW.out _).mono ?_;rintro e w2 ⟨rfl,n2,rfl⟩)
    | (go_at_call 167;refine(hG.out _).mono ?_;rintro e w3 ⟨rfl,U⟩;have J:=rwB (w:=W.drewN (n1+n2)) I U;have j:=(below_drewN HB.out (n1+n2)).trans (U.mono HB.out.size))
  | ((with_reducible show wpList _ _ _ (Oper.mk _ (Op.build 196 _) _ _ _ _::_) _ _);refine bf rfl 196 _ rfl (#[(),(),(),(),.slice none 0 0,(),(),(),(),(),(),(),(),(),(),(),(),(),(),(),(),(),(),(),(),(),(),(),()]) B1 ?_)
  | ((with_reducible refine MF 196 6 26 ?_);refine wpList_store_row rfl 196 (.tmp 6) (.tmp 26) rfl _ (#[(),(),(),(),.slice none 0 0,(),(),(),(),(),(),(),(),(),(),(),(),(),(),(),(),(),(),(),(),(),(),(),()]) rfl rfl 196 (#[(),(),(),(),.slice none 0 0,(),(),(),(),(),(),(),(),(),(),(),(),(),(),(),(),(),(),(),(),(),(),(),()]) J R rfl B2 ?_))
  exact bodyPost_ret (results_cell_tmp (fn:=Tryz.f132) (p:=6) (q:=7) (ty:=196) rfl _ _ _ _ _ _ _ rfl (setRow_heap _ _ _ _ _ _ J) Tryz.underlying196 rfl R) rfl (A4.out _ 5 (below_setRow j aa _) _ rfl ar)
 | true=>
  rw[C6] at hG A4
  go_enter Tryz.func132,Tryz.ntmps132
  go_upto_region 1 with fail
  generalize ((w.alloc (.cells (iA b) 194)).alloc (.cells (iA [g0,g1,g2,g3]) 191)).alloc (.cells #[(),(),(),(),.slice none 0 0,(),(),(),(),(),(),(),(),(),(),(),(),(),(),(),(),(),(),(),(),(),(),(),()] 196)=W at*
  go_upto_region 5 with(first
  | (go_at_call 166;refine(hP.out _ (by exact o) _).mono ?_;rintro e w1 ⟨rfl,n1,rfl⟩)
  | (go_at_call 165;refine(hW.out _).mono ?_;rintro e w2 ⟨rfl,n2,rfl⟩)
    | (go_at_call 167;refine(hG.out _).mono ?_;rintro e w3 ⟨rfl,U⟩;have J:=rwB (w:=W.drewN (n1+n2)) I U;have A7:=rwB (w:=W.drewN (n1+n2)) o U;have j:=(below_drewN HB.out (n1+n2)).trans (U.mono HB.out.size);have B7:=rwB (w:=W.drewN (n1+n2)) A3 U))
  clear o A3 I U HB
  by_cases C7:55≤size
  ·have A0:(Tryz.prog.info? 196).map (·.size)=some (frC (exZ b) (.slice none 0 0)).size:=kw _ _ (qV b)
   have B3:(#[(),(),(),(),.slice none 0 0,(),(),(),(),(),(),(),(),(),(),(),(),(),(),(),(),(),(),(),(),(),(),(),()]:Array Value).size=(frC (exZ b) (.slice none 0 0)).size:=by rw[bM _ _ (qV b)];rfl
   have B4:=dH (exZ b) none 0 0
   have hE:=MI (show ∀w' v,Below w.heap.size w w'→v= .tuple #[.agg (frC (exZ b) (.slice none 0 0)),()]→FitP b [g0,g1,g2,g3] size w (.returned v) w' from fun w' v h1 h2=>⟨exZ b,none,0,0,[],0,by rw[h2],qV b,bP.nil _ _ _ _ _,(fun a e=>by cases e),aa,h1,fun _ _ _ _=>⟨rfl,rfl,rfl,rfl,rfl,rfl⟩⟩)
   generalize exZ b=z at*
   go_wp2_with (first
   | ((with_reducible refine MC 194 3 ?_);refine wpList_load_row rfl 194 (.tmp 3) rfl w.heap.size rfl 194 (iA b) (0,0) _ A7 Tryz.underlying194 rfl C3 ?_)
   | (go_at_call 168;refine(D2.out _).mono ?_;rintro e w4 ⟨rfl,A1⟩;have A2:=rwB J A1)
   | ((with_reducible refine MF 196 6 30 ?_);refine wpList_store_row rfl 196 (.tmp 6) (.tmp 30) rfl _ (frC z (.slice none 0 0)) rfl rfl 196 (#[(),(),(),(),.slice none 0 0,(),(),(),(),(),(),(),(),(),(),(),(),(),(),(),(),(),(),(),(),(),(),(),()]) A2 A0 B3 B4 ?_))
   exact bodyPost_ret (results_cell_tmp (fn:=Tryz.f132) (p:=6) (q:=7) (ty:=196) rfl _ _ _ _ _ _ _ rfl (setRow_heap _ _ _ _ _ _ A2) Tryz.underlying196 rfl A0) rfl (hE.out _ _ (below_setRow (j.trans (A1.mono j.size)) aa _) rfl)
  ·have h8:IntKind.i64.wrap (8*size)=8*size:=IntWalk.i64_in _ aa
   go_upto_region 8 with(first
   | ((with_reducible refine MC 194 3 ?_);refine wpList_load_row rfl 194 (.tmp 3) rfl w.heap.size rfl 194 (iA b) (0,0) _ A7 Tryz.underlying194 rfl C3 ?_)
   | ((with_reducible refine MC 191 4 ?_);refine wpList_load_row rfl 191 (.tmp 4) rfl (w.heap.size+1) rfl 191 (iA [g0,g1,g2,g3]) (0,0) _ B7 Tryz.underlying191 rfl D1 ?_)
   | (go_at_call 169;refine(D3.out (Int.not_le.1 C7) _).mono ?_;rintro e w4 ⟨z,ao,n,cap,ts,r,rfl,B8,hR,B9,hn,A1,D0⟩;have A2:=rwB J A1;have A0:=kw z (.slice ao n cap) B8;have B3:(#[(),(),(),(),.slice none 0 0,(),(),(),(),(),(),(),(),(),(),(),(),(),(),(),(),(),(),(),(),(),(),(),()]:Array Value).size=(frC z (.slice ao n cap)).size:=by{rw[bM _ _ B8];rfl};have B4:=dH z ao n cap)
   | ((with_reducible refine MF 196 8 37 ?_);refine wpList_store_row rfl 196 (.tmp 8) (.tmp 37) rfl _ (frC z (.slice ao n cap)) rfl rfl 196 (#[(),(),(),(),.slice none 0 0,(),(),(),(),(),(),(),(),(),(),(),(),(),(),(),(),(),(),(),(),(),(),(),()]) (L9 _ _) A0 B3 B4 ?_))
   have B5:Below w4.heap.size w4 ((w4.alloc (.cells #[(),(),(),(),.slice none 0 0,(),(),(),(),(),(),(),(),(),(),(),(),(),(),(),(),(),(),(),(),(),(),(),()] 196)).setRow w4.heap.size (frC z (.slice ao n cap))):=below_setRow (ae w4 (.cells #[(),(),(),(),.slice none 0 0,(),(),(),(),(),(),(),(),(),(),(),(),(),(),(),(),(),(),(),(),(),(),(),()] 196)) Me _
   have D4:=Md (frC z (.slice ao n cap)) (L9 w4 (.cells #[(),(),(),(),.slice none 0 0,(),(),(),(),(),(),(),(),(),(),(),(),(),(),(),(),(),(),(),(),(),(),(),()] 196))
   have C0:=rwB A2 B5
   have C8:=hR.aj B5
   have C9:=j.trans ((A1.trans (B5.mono A1.size)).mono j.size)
   have E0:=j.size
   have C1: ∀a,ao=some a→a.block≠w.heap.size+1+1:=fun a ha=>by have:=B9 a ha;have:=L8 J;omega
   have C2: ∀a,ao=some a→w.heap.size≤a.block:=fun a ha=>by have:=B9 a ha;omega
   have D5:=MI C8
   have D6:=MI C2
   have D7:=MI C1
   have D8:=MI C9
   clear hR C8 B9 C2 C1 A1 B5 C9 A2 J A7 B7 j D0
   change Code.wp _ _ _ _ ((w4.alloc (.cells #[(),(),(),(),.slice none 0 0,(),(),(),(),(),(),(),(),(),(),(),(),(),(),(),(),(),(),(),(),(),(),(),()] 196)).setRow w4.heap.size (frC z (.slice ao n cap)))
   generalize (w4.alloc (.cells #[(),(),(),(),.slice none 0 0,(),(),(),(),(),(),(),(),(),(),(),(),(),(),(),(),(),(),(),(),(),(),(),()] 196)).setRow w4.heap.size (frC z (.slice ao n cap))=X at*
   generalize w4.heap.size=fb at*
   go_wp2_with (first
   | ((with_reducible refine MC 196 8 ?_);refine wpList_load_row rfl 196 (.tmp 8) rfl fb rfl 196 (frC z (.slice ao n cap)) (0,0) _ D4 Tryz.underlying196 rfl A0 ?_)
   | ((with_reducible refine MF 196 6 39 ?_);refine wpList_store_row rfl 196 (.tmp 6) (.tmp 39) rfl _ (frC z (.slice ao n cap)) rfl rfl 196 (#[(),(),(),(),.slice none 0 0,(),(),(),(),(),(),(),(),(),(),(),(),(),(),(),(),(),(),(),(),(),(),(),()]) C0 A0 B3 B4 ?_))
   exact bodyPost_ret (results_cell_tmp (fn:=Tryz.f132) (p:=6) (q:=7) (ty:=196) rfl _ _ _ _ _ _ _ rfl (setRow_heap _ _ _ _ _ _ C0) Tryz.underlying196 rfl A0) rfl ⟨z,ao,n,cap,ts,0,rfl,B8,D5.out.kept (aK _ _ _) (fun a ha e=>D7.out a ha e),D6.out,hn,below_setRow D8.out aa _,fun h1 _ _ _=>absurd h1 (Int.not_le.2 C7)⟩
end Go.Proofs.YtnicjahcgnhogaaGreatDoor
