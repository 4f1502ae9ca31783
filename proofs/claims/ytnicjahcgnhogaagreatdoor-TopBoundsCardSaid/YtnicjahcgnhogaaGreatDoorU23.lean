/- Part 24 of the walk: contracts of the program's functions, each for every input. No condition. -/
import Derived.Test.YtnicjahcgnhogaaGreatDoorU22
set_option linter.unusedVariables false
set_option linter.unusedSimpArgs false
set_option maxRecDepth 100000
set_option maxHeartbeats 8000000
namespace Go.Proofs.YtnicjahcgnhogaaGreatDoor
open Go Go.RowKit Go.Calli
attribute [local irreducible] wpStill wpAnyH wpAnyS wpList Code.wp
structure Fm where
 z:List Int
 ao:Option Addr
 n:Nat
 cap:Nat
 ts:List (Int×Int)
def fmA(f:Fm):Array Value:=frC f.z (.slice f.ao f.n f.cap)
def fmV(f:Fm):List Value:=(fmA f).toList
theorem zY{f:Fm}(h:f.z.length=28):(fmV f).length=29:=by
 have:=bM f.z (.slice f.ao f.n f.cap) h
 unfold fmV fmA
 rw[Array.length_toList]
 exact this
structure Dl(w:World)(v:Value)(f:Fm):Prop where
 z:f.z.length=28
 t:bP eY 2 (0,0) w f.ao f.n f.ts
 n:f.n≤2
 ne:0<f.n→∀a,f.ao=some a→v.ownBlock≠some a.block
structure qo(base:Nat)(w:World)(v:Value)(fs:List Fm):Prop where
 own:w.ownsRow base 196 29 v fs.length (fs.flatMap fmV)
 ok: ∀f ∈ fs,Dl w v f
theorem Dl.below{w w':World}{v:Value}{f:Fm}(h:Dl w v f)(hb:Below w.heap.size w w'):Dl w' v f:=⟨h.z,h.t.aj hb,h.n,h.ne⟩
theorem qo.below{base:Nat}{w w':World}{v:Value}{fs:List Fm}(h:qo base w v fs)(hb:Below w.heap.size w w'):qo base w' v fs:=⟨aQ h.own hb,fun f hf=>(h.ok f hf).below hb⟩
theorem qo.snoc{base:Nat}{w w':World}{v v':Value}{fs:List Fm}(h:qo base w v fs){f:Fm}(hf:Dl w v f)(ho:w'.ownsRow base 196 29 v' (fs.length+1) (fs.flatMap fmV++fmV f))(hk:ag (fun k=>v.ownBlock=some k) w w')(hn: ∀k,v'.ownBlock=some k→v.ownBlock=some k∨w.heap.size≤k):qo base w' v' (fs++[f]):=by
 have key: ∀x,Dl w v x→Dl w' v' x:=fun x hx=>⟨hx.z,hx.t.vW hk (fun h0 a ha e=>hx.ne h0 a ha e),hx.n,fun h0 a ha e=>by
  rcases hn _ e with h1 | h1
  ·exact hx.ne h0 a ha h1
  ·have:=zu hx.t h0 ha
   omega⟩
 refine⟨?_,fun x hx=>?_⟩
 ·rw[List.length_append,List.flatMap_append]
  simpa using ho
 ·rcases List.mem_append.1 hx with h1 | h1
  ·exact key x (h.ok x h1)
  ·simp at h1;subst h1;exact key _ hf
def jW(n:Nat)(l:List Int)(size:Int):Prop:=aO n=1∧55≤size∧size≤96∧rgB l=true∧kE (jf (iU (kF l)))≤24
def exF(l:List Int):Fm:=⟨exZ (iU (kF l)),none,0,0,[]⟩
def FrsP(n:Nat)(l:List Int)(size:Int)(w:World)(e:Ending)(w':World):Prop:=Below w.heap.size w w'∧((∃err:Int,err≠0∧e= .returned (.tuple #[.slice none 0 0,.int .i64 err])∧¬jW n l size)∨(∃v fs,e= .returned (.tuple #[v,()])∧fs.length=aO n∧qo w.heap.size w' v fs∧(jW n l size→fs=[exF l])))
structure FrW(w:World)(cb:Nat)(size:Int)(c gz capz gg:Nat)(zs gs:List Int)(wr:World):Prop where
 cd:mF wr cb size
 zo:wr.ownsRow w.heap.size 194 16 (.slice (some ⟨gz,0,none⟩) c capz) c (iL zs)
 go:Blk .i64 wr gg 191 gs
 hb:Below w.heap.size w wr
theorem FrW.next{w:World}{cb:Nat}{size:Int}{c gz capz gg:Nat}{zs gs:List Int}{w1 w2:World}(h:FrW w cb size c gz capz gg zs gs w1)(hb:Below w1.heap.size w1 w2):FrW w cb size c gz capz gg zs gs w2:=
 ⟨h.cd.aj hb,aQ h.zo hb,h.go.aj hb,h.hb.trans (hb.mono h.hb.size)⟩
theorem FrW.kept{w:World}{cb:Nat}{size:Int}{c gz capz gg:Nat}{zs gs:List Int}{w1 w2:World}(h:FrW w cb size c gz capz gg zs gs w1){v:Value}{m:Nat}{xs:List Value}(ho:w1.ownsRow w.heap.size 196 29 v m xs)(hk:ag (fun k=>v.ownBlock=some k) w1 w2):FrW w cb size c gz capz gg zs gs w2:=by
 have nt: ∀k cs t,w1.heap[k]? =some (.cells cs t (0,0))→t≠196→¬v.ownBlock=some k:=fun k cs t hc h1 e=>by
  obtain⟨ds,I⟩:=ah ho e
  exact aI hc I h1 rfl
 obtain⟨cs,J⟩:=ah h.zo rfl
 refine⟨⟨hk.heap h.cd.row (nt _ _ _ h.cd.row aq)⟩,aB h.zo hk (fun k e=>by
  have e2:gz=k:=by injection e
  subst e2
  exact nt _ _ _ J aq),hk.heap h.go (nt _ _ _ h.go aq),h.hb.trans (hk.aW h.hb.size (fun k R e=>by have:=jH ho e;omega))⟩
theorem zQ:(Tryz.prog.info? 196).map (fun i=>(i.zero,i.size,i.bytes))=some (some (.agg #[(),(),(),(),.slice none 0 0,(),(),(),(),(),(),(),(),(),(),(),(),(),(),(),(),(),(),(),(),(),(),(),()]),29,248):=af
theorem l28_of{l:List Int}(h:l.length=28): ∃q0 q1 q2 q3 q4 q5 q6 q7 q8 q9 q10 q11 q12 q13 q14 q15 q16 q17 q18 q19 q20 q21 q22 q23 q24 q25 q26 q27,l=[q0,q1,q2,q3,q4,q5,q6,q7,q8,q9,q10,q11,q12,q13,q14,q15,q16,q17,q18,q19,q20,q21,q22,q23,q24,q25,q26,q27]:=by
 match l,h with
 | [q0,q1,q2,q3,q4,q5,q6,q7,q8,q9,q10,q11,q12,q13,q14,q15,q16,q17,q18,q19,q20,q21,q22,q23,q24,q25,q26,q27],_=>exact⟨q0,q1,q2,q3,q4,q5,q6,q7,q8,q9,q10,q11,q12,q13,q14,q15,q16,q17,q18,q19,q20,q21,q22,q23,q24,q25,q26,q27,rfl⟩
theorem GV(z:List Int)(hz:z.length=28)(ao:Option Addr)(n c:Nat):Instr.fill (fun i=>some (i*29,29)) ((Array.range (1*29)).map ((Value.agg #[(),(),(),(),.slice none 0 0,(),(),(),(),(),(),(),(),(),(),(),(),(),(),(),(),(),(),(),(),(),(),(),()]).cells[· %(Value.agg #[(),(),(),(),.slice none 0 0,(),(),(),(),(),(),(),(),(),(),(),(),(),(),(),(),(),(),(),(),(),(),(),()]).cells.size]!)) [(0,.agg (frC z (.slice ao n c)))]=some (frC z (.slice ao n c)):=by
 obtain⟨q0,q1,q2,q3,q4,q5,q6,q7,q8,q9,q10,q11,q12,q13,q14,q15,q16,q17,q18,q19,q20,q21,q22,q23,q24,q25,q26,q27,rfl⟩:=l28_of hz
 kernel_rfl
theorem oI{xb gg o cb:Nat}{rb rg:List Int}{size:Int}{w1 w2:World}(h:w1.heap[xb]? =some (.cells (iA rb) 194 (0,0))∧w1.rangeAt gg o (iL rg)∧w1.cell? ⟨cb,32,none⟩=some (.int .i64 size))(hb:Below w1.heap.size w1 w2):w2.heap[xb]? =some (.cells (iA rb) 194 (0,0))∧w2.rangeAt gg o (iL rg)∧w2.cell? ⟨cb,32,none⟩=some (.int .i64 size):=
 ⟨rwB h.1 hb,fun j v hv=>(hb.cell (World.block_lt_of_cell? w1 _ (h.2.1 j v hv))).trans (h.2.1 j v hv),(hb.cell (World.block_lt_of_cell? w1 _ h.2.2)).trans h.2.2⟩
theorem GL{xb gg o cb:Nat}{rb rg:List Int}{size:Int}{w1:World}(h:w1.heap[xb]? =some (.cells (iA rb) 194 (0,0))∧w1.rangeAt gg o (iL rg)∧w1.cell? ⟨cb,32,none⟩=some (.int .i64 size))(k:Nat){cs:Array Value}(hn:k≠xb∧k≠gg∧k≠cb):(w1.setRow k cs).heap[xb]? =some (.cells (iA rb) 194 (0,0))∧(w1.setRow k cs).rangeAt gg o (iL rg)∧(w1.setRow k cs).cell? ⟨cb,32,none⟩=some (.int .i64 size):=
 ⟨(setRow_other _ _ _ _ (fun e=>hn.1 e.symm)).trans h.1,fun j v hv=>(aK w1 k cs).cell (h.2.1 j v hv) (fun e=>hn.2.1 e.symm),(aK w1 k cs).cell h.2.2 (fun e=>hn.2.2 e.symm)⟩
theorem GM{xb gg o cb:Nat}{rb rg:List Int}{size:Int}{w1:World}(h:w1.heap[xb]? =some (.cells (iA rb) 194 (0,0))∧w1.rangeAt gg o (iL rg)∧w1.cell? ⟨cb,32,none⟩=some (.int .i64 size))(hg:rg.length=4):w1.heap.size≠xb∧w1.heap.size≠gg∧w1.heap.size≠cb:=by
 have h1:=L8 h.1
 have h2:=World.block_lt_of_cell? w1 _ (h.2.1 0 (.int .i64 (rg.getD 0 0)) (by simp[iL,List.getD,show 0<rg.length by omega]))
 have h3:=World.block_lt_of_cell? w1 _ h.2.2
 have I:gg<w1.heap.size:=h2
 have J:cb<w1.heap.size:=h3
 exact⟨aa,aa,aa⟩
theorem frS_ne1{xb gg o cb:Nat}{rb rg:List Int}{size:Int}{w1 w2:World}(h:w1.heap[xb]? =some (.cells (iA rb) 194 (0,0))∧w1.rangeAt gg o (iL rg)∧w1.cell? ⟨cb,32,none⟩=some (.int .i64 size))(hb:Below w1.heap.size w1 w2)(hg:rg.length=4):w2.heap.size≠xb∧w2.heap.size≠gg∧w2.heap.size≠cb:=GM (oI h hb) hg
theorem frs_err{n:Nat}{l:List Int}{size:Int}{w w':World}(hb:Below w.heap.size w w'){err:Int}(he:err≠0)(hx:¬jW n l size){v:Value}(hv:v= .tuple #[.slice none 0 0,.int .i64 err]):FrsP n l size w (.returned v) w':=⟨hb,.inl ⟨err,he,by rw[hv],hx⟩⟩
def FrC(b g:List Int)(size:Int)(X:World)(v11 v12:Value)(wx:World):Prop:=∃(z:List Int)(fao:Option Addr)(fn fcap:Nat)(ts:List (Int×Int))(r:Int)(fb:Nat),v11= .pointer (some ⟨fb,0,none⟩)∧v12= .int .i64 r∧z.length=28∧bP eY 2 (0,0) wx fao fn ts∧(∀a,fao=some a→X.heap.size≤a.block)∧fn≤2∧wx.heap[fb]? =some (.cells (frC z (.slice fao fn fcap)) 196 (0,0))∧Below X.heap.size X wx∧(55≤size→size≤96→kE (jf b)≤24→inB 3 g=true→r=0∧z=exZ b∧ts=[]∧fao=none∧fn=0∧fcap=0)
theorem zW(cb:Nat)(size:Int)(ao:Option Addr)(n cap:Nat)(l:List Int)(H5:0<n)(hn:n≤10000)(w:World)(hC:mF w cb size)(hI:Ints .i64 w ao n l)(B7:size<55→∀(b:List Int),b.length=16→(∀z ∈ b,(Lit.int .i64 z).wf=true)→∀W,Calls Tryz.prog 198 #[.agg (iA b)] W (He W))(B8:size<55→∀(g:Nat)(W:World),mF W cb size→Blk .i64 W g 2 l→Calls Tryz.prog 130 #[.pointer (some ⟨cb,0,none⟩),.slice (some ⟨g,0,none⟩) n n] W (zg (aO n) size W))(B9:2≤aO n→G9 (aO n)):Calls Tryz.prog 93 #[.pointer (some ⟨cb,0,none⟩),.slice ao n cap] w (FrsP n l size w):=by
 have A9:=hI.wf
 have hR:=MI (zF ao n cap l w hI)
 have hE:=MI (fun w' (err:Int) hb he hx v hv=>frs_err (n:=n) (l:=l) (size:=size) (w:=w) (w':=w') hb (err:=err) he hx (v:=v) hv)
 have K3:¬1048576<(n:Int):=aa
 by_cases B0:rgB l=true
 case neg=>
  have G4:rgB l=false:=by simpa using B0
  rw[G4] at hR
  go_enter Tryz.func93,Tryz.ntmps93
  go_wp2_with (go_at_call 128;refine hR.out.mono ?_;rintro e w' ⟨rfl,rfl⟩)
  go_ret2
  exact hE.out _ 5 MB aq (fun h=>B0 h.2.2.2.1) _ rfl
 rw[B0] at hR
 have hW:=MI (JY ao n cap l aa w hI)
 have hG:=MI (fun g W hC (hB:Blk .i64 W g 2 l)(hl:l.length=n)=>yF cb size (some ⟨g,0,none⟩) n n l hn A9 W (fun h5=>B8 h5 g W hC hB) hC (Blk.ints hB n hl aE A9))
 have hS:=MI (fun g gg gs W H6 (hB:Blk .i64 W g 2 l) B1 (hl:l.length=n)=>AU (some ⟨g,0,none⟩) n n l H5 hn A9 gg (aO n) gs H6 B9 W (Blk.ints hB n hl aE A9) B1)
 have HC:=MI hC
 have HL:=MI hI.hlen
 have K4:=MI B0
 have hF:=MI (fun b g hb E1 hg W=>Aa b g hb E1 hg size (fun h5=>B7 h5 b hb E1) W)
 have E0:(Tryz.prog.info? 178).map (·.size)=some (iL dm).length:=af
 have K5:aO n≤10000:=by unfold aO;omega
 have HX:Hid (jW n l size→aO n=1∧55≤size∧size≤96∧kE (jf (iU (kF l)))≤24):=fun h=>⟨h.1,h.2.1,h.2.2.1,h.2.2.2.2⟩
 clear hC hI B7 B8 B9 A9 B0
 go_enter Tryz.func93,Tryz.ntmps93
 go_upto_region 9 with(first
  | (go_at_call 128;refine hR.out.mono ?_;rintro e w' ⟨rfl,rfl⟩)
  | (go_at_call 129;refine hW.out.mono ?_;rintro e w1 ⟨g1,rfl,K6,D0,B2⟩;have E2:=MI (hG.out g1 w1 (HC.out.aj B2) D0 HL.out))
  | (go_at_call 130;refine E2.out.mono ?_;rintro e w2 ⟨gg,gs,rfl,K7,D1,B1,C0,E3⟩))
 have D2:=(HC.out.aj B2).aj C0
 have D3:=B2.trans (C0.mono B2.size)
 have H7:=MI (hS.out g1 gg gs w2 D1 (D0.aj C0) B1 HL.out)
 have E4:w2.rangeAt cb 0 (iL dm):=fun j v hv=>by
  have hj:j<(iL dm).length:=(List.getElem?_eq_some_iff.1 hv).1
  rw[Nat.zero_add,LZ D2.row]
  show(iL dm++[Value.int .i64 size]).toArray[j]? =some v
  have h5:(iL dm++[Value.int .i64 size]).toArray[j]? =(iL dm++[Value.int .i64 size])[j]? :=List.getElem?_toArray ..
  rw[h5,List.getElem?_append_left hj]
  exact hv
 have E5:=MI D2
 have A7:=MI D3
 have E6:=MI B1
 have E7:=MI D1
 have E8:=MI E3
 clear D2 D3 B2 C0 D0 B1 D1 E3 E2 hW hG hR
 generalize E9:aO n=c at*
 have H8:=MI E9
 clear E9
 go_upto_region 11 with(first
  | ((with_reducible refine MC 178 31 ?_);refine wpList_load_mid rfl 178 (.tmp 31) rfl cb 0 rfl (iL dm) _ E4 Tryz.underlying178 rfl E0 ?_;rw[show(iL dm).toArray=iA dm from rfl])
  | (go_at_call 131;refine H7.out.mono ?_;rintro e w3 ⟨gz,capz,zs,rfl,D4,F1,C1,F2⟩))
 have o:FrW w cb size c gz capz gg zs gs w3:=⟨E5.out.aj C1,own_base D4 A7.out.size,E6.out.aj C1,A7.out.trans (C1.mono A7.out.size)⟩
 have A2:=MI o
 have H9:=MI F1
 have J8:=Gz D4
 have F3:Hid (jW n l size→c=1∧55≤size∧size≤96∧zs=iU (kF l)∧gs=[0,0,0,0]∧kE (jf (iU (kF l)))≤24):=fun h=>by
  obtain⟨h1,h2,h3,h4⟩:=HX.out h
  have h5:gs=[0,0,0,0]:=by rw[E8.out h2,h1];rfl
  exact⟨h1,h2,h3,F2 h1 h5,h5,h4⟩
 clear o D4 F1 C1 E5 A7 E6 E4 F2 E8 HX
 go_loopw [8,37] (fun v8 v37 wr=>∃(k:Nat)(fs:List Fm),k≤c∧v37= .int .i64 (k:Int)∧fs.length=k∧qo w.heap.size wr v8 fs∧FrW w cb size c gz capz gg zs gs wr∧(jW n l size→fs=if k=0 then[] else[exF l])) (fun _ v37 _=>c - aC v37)
 case atStart=>exact⟨0,[],aa,rfl,rfl,⟨World.ownsRow_nil _ _ _ _,fun f hf=>by cases hf⟩,A2.out,fun _=>rfl⟩
 case round=>
  clear A2
  obtain⟨i,fs,hi,rfl,C2,A6,o,hex⟩:=hrel
  by_cases K8:i<c
  case neg=>
   obtain rfl:i=c:=aa
   obtain⟨ao8,c8,rfl⟩:=dh A6.own
   have C3:=MI A6
   have A2:=MI o
   have I0:=MI hex
   have B3:=MI C2
   clear A6 o hex C2
   go_wp2_with fail
   go_ret2
   exact⟨A2.out.hb,.inr ⟨_,fs,rfl,by rw[H8.out];exact B3.out,C3.out,fun h=>by have:=I0.out h;rwa [if_neg (by have:=(F3.out h).1;omega)] at this⟩⟩
  case pos=>
   have J9:(i:Int)<(c:Int):=aa
   have K0:i*16+16≤c*16:=aa
   have K9:i*4+4≤c*4:=aa
   have D5:wr.rangeAt gz (i*16) (iL (rowOf zs (i*16) 16)):=BV o.zo (i*16) 16
   have C4:=mO zs (i*16) 16 aa
   have C5:=mO gs (i*4) 4 (by rw[E7.out];omega)
   have I1:=i194 _ C4
   have I2:=i191 _ C5
   have F4:=MI (fun W=>hF.out (rowOf zs (i*16) 16) (rowOf gs (i*4) 4) C4 (A8 H9.out _ _) C5 W)
   have F5:(Tryz.prog.info? 194).map (·.size)=some (iA (rowOf zs (i*16) 16)).size:=by rw[az,C4];kernel_rfl
   have I3:(#[(),(),(),(),(),(),(),(),(),(),(),(),(),(),(),()]:Array Value).size=(iA (rowOf zs (i*16) 16)).size:=by rw[az,C4];rfl
   have I4:Hid (jW n l size→i=0∧55≤size∧size≤96∧kE (jf (rowOf zs (i*16) 16))≤24∧inB 3 (rowOf gs (i*4) 4)=true∧exZ (rowOf zs (i*16) 16)=exZ (iU (kF l))∧fs=[]):=fun h=>by
    obtain⟨h1,h2,h3,h4,h5,h6⟩:=F3.out h
    have I5:i=0:=aa
    subst I5
    have h7:rowOf zs (0*16) 16=iU (kF l):=by rw[h4];exact oV _ 16 (by rw[←h4];omega)
    rw[h7,h5]
    refine⟨rfl,h2,h3,h6,rfl,rfl,?_⟩
    have:=hex h
    rwa [if_pos rfl] at this
   have A2:=MI o
   have C3:=MI A6
   have B3:=MI C2
   obtain⟨ao8,c8,rfl⟩:=dh A6.own
   clear o A6 hex C2
   generalize rowOf zs (i*16) 16=rb at*
   generalize D6:rowOf gs (i*4) 4=rg at*
   have G5:=MI D6
   clear D6
   go_upto_region 13 with(first
    | ((with_reducible refine MC 194 40 ?_);refine wpList_load_mid rfl 194 (.tmp 40) rfl gz (i*16) rfl (iL rb) _ D5 Tryz.underlying194 rfl I1 ?_;rw[show(iL rb).toArray=iA rb from rfl])
    | ((with_reducible refine MF 194 10 41 ?_);refine wpList_store_row rfl 194 (.tmp 10) (.tmp 41) rfl _ (iA rb) rfl rfl 194 (#[(),(),(),(),(),(),(),(),(),(),(),(),(),(),(),()]) (L9 _ _) F5 I3 (bV _) ?_))
   have A0:Below wr.heap.size wr ((wr.alloc (.cells #[(),(),(),(),(),(),(),(),(),(),(),(),(),(),(),()] 194)).setRow wr.heap.size (iA rb)):=below_setRow (ae wr (.cells #[(),(),(),(),(),(),(),(),(),(),(),(),(),(),(),()] 194)) Me _
   have I6:=Md (iA rb) (L9 wr (.cells #[(),(),(),(),(),(),(),(),(),(),(),(),(),(),(),()] 194))
   have C6:=A2.out.next A0
   have F6:=C3.out.below A0
   clear A0 D5 A2 C3
   generalize (wr.alloc (.cells #[(),(),(),(),(),(),(),(),(),(),(),(),(),(),(),()] 194)).setRow wr.heap.size (iA rb)=X at*
   generalize wr.heap.size=xb at*
   have G6:X.drew.rangeAt gg (i*4) (iL rg):=by
    have:=Blk.range C6.go (i*4) 4 (by rw[E7.out];omega)
    have h5:=G5.out
    unfold rowOf at h5
    rw[h5] at this
    exact this
   have G7:X.drew.cell? ⟨cb,32,none⟩=some (.int .i64 size):=C6.cd.size
   have I7:=MI C6
   have F7:=MI F6
   have K1:X.drew.heap.size=X.heap.size:=rfl
   clear C6 F6
   dsimp only[Act.put]
   go_cut [11,12] (fun v11 v12 wx=>FrC rb rg size X v11 v12 wx)
   case first=>
    refine wp_region_noPanic ?_
    refine wp_region_held_drew (S:=fun w'=>w'.heap[xb]? =some (.cells (iA rb) 194 (0,0))∧w'.rangeAt gg (i*4) (iL rg)∧w'.cell? ⟨cb,32,none⟩=some (.int .i64 size)) af ?_ (fun I=>?_)
    ·exact⟨I6,G6,G7⟩
    refine ba 1 ?_
    try simp only[Act.put,aS]
    refine ba 2 ?_
    try simp only[Act.put,aS]
    refine ba 3 ?_
    try simp only[Act.put,aS]
    refine ba 5 ?_
    try simp only[Act.put,aS]
    refine ba 6 ?_
    try simp only[Act.put,aS]
    refine ba 7 ?_
    try simp only[Act.put,aS]
    refine wpAnyH_take (i:=0) (v:=.agg (iA rb)) rfl af af af (fun _ _ _ h=>h) (aZ af 194 (.tmp 10) rfl xb rfl 194 (iA rb) (0,0) _ (fun w h=>h.1) Tryz.underlying194 rfl F5) aw ?_
    try simp only[Act.put,aS]
    refine wpAnyH_take (i:=4) (v:=.agg (iA rg)) rfl af af af (fun _ _ _ h=>h) (yieldsIf_load_mid af 191 (.tmp 46) rfl gg (i*4) rfl (iL rg) _ (fun w h=>h.2.1) Tryz.underlying191 rfl I2) aw ?_
    try simp only[Act.put,aS]
    refine ba 8 ?_
    try simp only[Act.put,aS]
    refine wpAnyH_ready (rs:=[9,13]) af ar ?_
    refine AllReadyH.cons rfl (fun K hK=>?_) ?_
    ·have A3:=I
     go_simp
     go_at_call 132;refine(F4.out _).mono ?_;rintro e w4 ⟨z,fao,fn,fcap,ts,r,rfl,J,A4,A1,B4,U,R⟩;have B5:=kw z (.slice fao fn fcap) J;have D7:(#[(),(),(),(),.slice none 0 0,(),(),(),(),(),(),(),(),(),(),(),(),(),(),(),(),(),(),(),(),(),(),(),()]:Array Value).size=(frC z (.slice fao fn fcap)).size:=by{rw[bM _ _ J];rfl};have D8:=dH z fao fn fcap
     refine hK.out _ _ ?_ (fun I=>?_)
     ·(try dsimp only);exact oI I U
     clear hK K
     try simp only[Act.put,aS]
     refine ba 10 ?_
     try simp only[Act.put,aS]
     refine ba 11 ?_
     try simp only[Act.put,aS]
     refine ba 12 ?_
     try simp only[Act.put,aS]
     refine bj 13 (fun K hK=>?_)
     go_simp
     refine hK.out _ _ ?_ (fun I=>?_)
     ·(try dsimp only);exact oI I (ae _ _)
     clear hK K
     try simp only[Act.put,aS]
     have A5:=L9 w4 (.cells #[(),(),(),(),.slice none 0 0,(),(),(),(),(),(),(),(),(),(),(),(),(),(),(),(),(),(),(),(),(),(),(),()] 196)
     have L0: ∀k,k<w4.heap.size→k≠w4.heap.size:=fun k h=>Nat.ne_of_lt h
     have D9:Below X.heap.size X (w4.alloc (.cells #[(),(),(),(),.slice none 0 0,(),(),(),(),(),(),(),(),(),(),(),(),(),(),(),(),(),(),(),(),(),(),(),()] 196)):=(((Below.refl _ X).drew).trans U).trans ((ae w4 (.cells #[(),(),(),(),.slice none 0 0,(),(),(),(),(),(),(),(),(),(),(),(),(),(),(),(),(),(),(),(),(),(),(),()] 196)).mono U.size)
     refine bj 14 (fun K hK=>?_)
     rw[if_pos af]
     refine wp_store_row 196 (.tmp 11) (.tmp 53) rfl w4.heap.size (frC z (.slice fao fn fcap)) rfl rfl 196 (#[(),(),(),(),.slice none 0 0,(),(),(),(),(),(),(),(),(),(),(),(),(),(),(),(),(),(),(),(),(),(),(),()]) A5 B5 D7 D8 ?_
     refine hK.out _ _ ?_ (fun I=>?_)
     ·(try dsimp only);exact GL I w4.heap.size (frS_ne1 A3 U C5)
     clear hK K
     try simp only[Act.put,aS]
     refine ba 15 ?_
     try simp only[Act.put,aS]
     refine wpAnyH_done af ?_ _
     refine NoPanic.normal ?_
     go_wp2_with fail
     go_meet
     exact⟨z,fao,fn,fcap,ts,r,_,rfl,rfl,J,(A4.aj (ae w4 (.cells #[(),(),(),(),.slice none 0 0,(),(),(),(),(),(),(),(),(),(),(),(),(),(),(),(),(),(),(),(),(),(),(),()] 196))).vW (aK _ _ _) (fun h0 a ha e=>by have:=zu A4 h0 ha;have e2:a.block=w4.heap.size:=e;omega),A1,B4,setRow_heap _ _ _ _ _ _ A5,below_setRow D9 U.size _,R⟩
    refine AllReadyH.cons rfl (fun K hK=>?_) ?_
    ·have A3:=I
     go_simp
     refine hK.out _ _ ?_ (fun I=>?_)
     ·(try dsimp only);exact oI I (ae _ _)
     clear hK K
     try simp only[Act.put,aS]
     have A5:=L9 X.drew (.cells #[(),(),(),(),.slice none 0 0,(),(),(),(),(),(),(),(),(),(),(),(),(),(),(),(),(),(),(),(),(),(),(),()] 196)
     refine bj 9 (fun K hK=>?_)
     go_simp
     go_at_call 132;refine(F4.out _).mono ?_;rintro e w4 ⟨z,fao,fn,fcap,ts,r,rfl,J,A4,A1,B4,U,R⟩;have B5:=kw z (.slice fao fn fcap) J;have D7:(#[(),(),(),(),.slice none 0 0,(),(),(),(),(),(),(),(),(),(),(),(),(),(),(),(),(),(),(),(),(),(),(),()]:Array Value).size=(frC z (.slice fao fn fcap)).size:=by{rw[bM _ _ J];rfl};have D8:=dH z fao fn fcap
     refine hK.out _ _ ?_ (fun I=>?_)
     ·(try dsimp only);exact oI I U
     clear hK K
     try simp only[Act.put,aS]
     refine ba 10 ?_
     try simp only[Act.put,aS]
     refine ba 11 ?_
     try simp only[Act.put,aS]
     refine ba 12 ?_
     try simp only[Act.put,aS]
     have A5:=rwB A5 U
     have G8:X.heap.size+1=(X.alloc (.cells #[(),(),(),(),.slice none 0 0,(),(),(),(),(),(),(),(),(),(),(),(),(),(),(),(),(),(),(),(),(),(),(),()] 196)).drew.heap.size:=ar
     have D9:Below X.heap.size X w4:=(((Below.refl _ X).drew).trans (ae X.drew (.cells #[(),(),(),(),.slice none 0 0,(),(),(),(),(),(),(),(),(),(),(),(),(),(),(),(),(),(),(),(),(),(),(),()] 196))).trans (U.mono (by rw[←G8];exact Nat.le_succ _))
     refine bj 14 (fun K hK=>?_)
     rw[if_pos af]
     refine wp_store_row 196 (.tmp 11) (.tmp 53) rfl X.drew.heap.size (frC z (.slice fao fn fcap)) rfl rfl 196 (#[(),(),(),(),.slice none 0 0,(),(),(),(),(),(),(),(),(),(),(),(),(),(),(),(),(),(),(),(),(),(),(),()]) A5 B5 D7 D8 ?_
     refine hK.out _ _ ?_ (fun I=>?_)
     ·(try dsimp only);exact GL I X.drew.heap.size (GM A3 C5)
     clear hK K
     try simp only[Act.put,aS]
     refine ba 15 ?_
     try simp only[Act.put,aS]
     refine wpAnyH_done af ?_ _
     refine NoPanic.normal ?_
     go_wp2_with fail
     go_meet
     exact⟨z,fao,fn,fcap,ts,r,_,rfl,rfl,J,A4.vW (aK _ _ _) (fun h0 a ha e=>by have:=A1 a ha;have e2:a.block=X.heap.size:=e;omega),(fun a ha=>by have:=A1 a ha;omega),B4,setRow_heap _ _ _ _ _ _ A5,below_setRow D9 Me _,R⟩
    exact AllReadyH.nil
   case rest=>
    obtain⟨wx,rfl⟩: ∃w',w'=wc:=⟨_,rfl⟩
    obtain⟨z,fao,fn,fcap,ts,r,fb,rfl,rfl,J,A4,A1,B4,I8,A0,R⟩:=hcut
    have C7:=I7.out.next A0
    have C8:=F7.out.below A0
    have F8:=MI C7
    have I9:=MI C8
    have F9:Hid (jW n l size→r=0∧z=exZ (iU (kF l))∧ts=[]∧fao=none∧fn=0∧fcap=0∧i=0∧fs=[]):=fun h=>by
     obtain⟨h1,h2,h3,h4,h5,h6,h7⟩:=I4.out h
     obtain⟨k1,k2,k3,k4,k5,k6⟩:=R h2 h3 h4 h5
     exact⟨k1,by rw[k2,h6],k3,k4,k5,k6,h1,h7⟩
    by_cases hr:r=0
    case neg=>
     have D5:(r !=0)=true:=by simpa using hr
     clear C7 C8 A0 R A1
     go_wp2_with fail
     go_ret2
     exact hE.out _ r F8.out.hb hr (fun h=>hr (F9.out h).1) _ rfl
    subst hr
    have C9:=GV z J fao fn fcap
    obtain⟨ie,J0,J1,B6,-⟩:=info_parts zQ
    rw[←B6] at C9
    have J2:¬1*ie.size>2^24:=by rw[B6];decide
    have J3:¬1*ie.size=0:=by rw[B6];decide
    have B5:=kw z (.slice fao fn fcap) J
    have J4:=zY (f:=⟨z,fao,fn,fcap,ts⟩) J
    have G0:Dl wx (.slice ao8 fs.length c8) ⟨z,fao,fn,fcap,ts⟩:=⟨J,A4,B4,fun h0 a ha e=>by
     obtain⟨cs,J5⟩:=ah F7.out.own e
     have:=L8 J5
     have:=A1 a ha
     omega⟩
    have J6:=MI G0
    have H0: ∀u ∈ fmV ⟨z,fao,fn,fcap,ts⟩,u.oneCell'=true:=fun u hu=>by
     have:=dH z fao fn fcap
     exact(Array.all_eq_true_iff_forall_mem.1 this) u (by simpa[fmV,fmA] using hu)
    have K2:fs.length≤10000:=by rw[B3.out];omega
    have G1:=MI C8.own
    have H2:w.heap.size≤wx.heap.size:=C7.hb.size
    clear C7 C8 A0 R A1 A4 G0
    go_wp2_with (first
     | ((with_reducible refine MC 196 11 ?_);refine wpList_load_row rfl 196 (.tmp 11) rfl fb rfl 196 (frC z (.slice fao fn fcap)) (0,0) _ I8 Tryz.underlying196 rfl B5 ?_)
     | ((with_reducible show wpList _ _ _ (Oper.mk _ (Op.buildSlice 188 _ _) _ _ _ _::_) _ _);refine wpList_buildSlice rfl 188 196 1 _ rfl (frC z (.slice fao fn fcap)) ie (.agg #[(),(),(),(),.slice none 0 0,(),(),(),(),(),(),(),(),(),(),(),(),(),(),(),(),(),(),(),(),(),(),(),()]) Tryz.underlying188 J0 J1 J2 J3 (Eq.trans (congrArg (Instr.fill _ _) (show _=[(0,Value.agg (frC z (.slice fao fn fcap)))] by kernel_rfl)) C9) ?_)
     | (at_builtin;refine dY rfl (.tmp 58) (.tmp 60) 188 196 29 rfl Tryz.underlying188 zQ rfl aq w.heap.size _ _ _ rfl G1.out (fmV ⟨z,fao,fn,fcap,ts⟩) J4 rfl H0 aa aE H2 ?_;intro v8 w8 G2 G3 J7;obtain⟨ao9,c9,rfl⟩:=dh G2))
    have H3:=I9.out.snoc J6.out G2 G3 J7
    have H4:=F8.out.kept G1.out G3
    exact⟨⟨i+1,fs++[⟨z,fao,fn,fcap,ts⟩],aa,aD,by simp[B3.out],by simpa[B3.out] using H3,H4,fun h=>by
     obtain⟨k1,k2,k3,k4,k5,k6,k7,k8⟩:=F9.out h
     rw[if_neg aa,k8,k2,k3,k4,k5,k6];rfl⟩,by simp[aC];omega⟩
theorem gL_get(z:List Int)(k:Nat)(hk:k<4):(gL z).getD k 0=z.getD k 0:=by simp[gL,List.getD,hk]
theorem qL_get(z:List Int)(k:Nat)(hk:k<16):(qL z).getD k 0=z.getD (12+k) 0:=by simp[qL,List.getD,hk]
def wr0:Wr:=jh ⟨[],0,0⟩ 1 2
def gS(z:List Int):Nat→Wr
 | 0=>wr0
 | j+1=>jh (gS z j) (z.getD j 0).toNat 2
def tS(z:List Int)(ts:List (Int×Int)):Nat→Wr
 | 0=>jh (gS z 4) ts.length 2
 | j+1=>jh (jh (tS z ts j) (ts.getD j (0,0)).1.toNat 4) (tV (ts.getD j (0,0)).2 24) 24
def sS(z:List Int)(ts:List (Int×Int)):Nat→Wr
 | 0=>tS z ts ts.length
 | j+1=>jh (jh (sS z ts j) (z.getD (4+j) 0).toNat 5) (z.getD (8+j) 0).toNat 5
def qS(z:List Int)(ts:List (Int×Int)):Nat→Wr
 | 0=>sS z ts 4
 | j+1=>jh (qS z ts j) (tV (z.getD (12+j) 0) (z.getD (8+j/4) 0).toNat) (z.getD (8+j/4) 0).toNat
def frW(z:List Int)(ts:List (Int×Int)):Wr:=qS z ts 16
theorem Jh(z:List Int): ∀j,(gS z j).n=2+2*j∧(gS z j).e=0:=by
 intro j
 induction j with
 | zero=>exact⟨lZ _ _ _,mf _ _ _⟩
 | succ j ih=>exact⟨by rw[gS,lZ,ih.1];omega,by rw[gS,mf,ih.2]⟩
theorem Hy(z:List Int)(ts:List (Int×Int)): ∀j,(tS z ts j).n=12+28*j∧(tS z ts j).e=0:=by
 intro j
 induction j with
 | zero=>exact⟨by rw[tS,lZ,(Jh z 4).1],by rw[tS,mf,(Jh z 4).2]⟩
 | succ j ih=>exact⟨by rw[tS,lZ,lZ,ih.1];omega,by rw[tS,mf,mf,ih.2]⟩
theorem Il(z:List Int)(ts:List (Int×Int)): ∀j,(sS z ts j).n=12+28*ts.length+10*j∧(sS z ts j).e=0:=by
 intro j
 induction j with
 | zero=>exact⟨by rw[sS,(Hy z ts _).1];omega,by rw[sS,(Hy z ts _).2]⟩
 | succ j ih=>exact⟨by rw[sS,lZ,lZ,ih.1];omega,by rw[sS,mf,mf,ih.2]⟩
structure RtF(z:List Int)(ts:List (Int×Int)):Prop where
 g: ∀k,k<4→0≤z.getD k 0∧z.getD k 0≤3
 t:ts.length≤2
 tt: ∀k,k<ts.length→0≤(ts.getD k (0,0)).1∧(ts.getD k (0,0)).1<16∧dX (ts.getD k (0,0)).2 24=true
 s: ∀k,k<4→0≤z.getD (4+k) 0∧z.getD (4+k) 0≤23
 w: ∀k,k<4→0≤z.getD (8+k) 0∧z.getD (8+k) 0≤24
 q: ∀j,j<16→dX (z.getD (12+j) 0) (z.getD (8+j/4) 0).toNat=true
theorem rtF_of{z:List Int}{ts:List (Int×Int)}(h:fQ z ts=true):RtF z ts:=by
 unfold fQ at h
 simp only[Bool.and_eq_true] at h
 obtain⟨⟨⟨hg,ht⟩,hs⟩,hb⟩:=h
 unfold rtB at ht
 simp only[Bool.and_eq_true,decide_eq_true_eq,List.all_eq_true,List.mem_range] at ht
 rw[List.all_eq_true] at hb
 have I: ∀k,k<4→0≤z.getD (8+k) 0∧z.getD (8+k) 0≤24∧∀m,m<4→dX (z.getD (12+4*k+m) 0) (z.getD (8+k) 0).toNat=true:=fun k hk=>by
  have h1:=hb k (List.mem_range.2 hk)
  unfold kP at h1
  simp only[Bool.and_eq_true,decide_eq_true_eq,List.all_eq_true,List.mem_range] at h1
  exact⟨h1.1.1,h1.1.2,h1.2⟩
 refine⟨fun k hk=>?_,ht.2,fun k hk=>?_,fun k hk=>?_,fun k hk=>⟨(I k hk).1,(I k hk).2.1⟩,fun j hj=>?_⟩
 ·have:=wo hg k (by simp[gn];omega)
  rcases k with _ | _ | _ | _ | k
  ·exact this
  ·exact this
  ·exact this
  ·exact this
  ·omega
 ·have:=ht.1 k hk
  unfold okT at this
  simp only[Bool.and_eq_true,decide_eq_true_eq] at this
  exact⟨this.1.1.1,this.1.1.2,this.2⟩
 ·have:=wo hs k (by simp[sc];omega)
  rcases k with _ | _ | _ | _ | k
  ·exact this
  ·exact this
  ·exact this
  ·exact this
  ·omega
 ·have:=(I (j/4) aa).2.2 (j%4) (Nat.mod_lt _ aq)
  rwa [show 12+4*(j/4)+j%4=12+j by omega] at this
theorem qS_n{z:List Int}{ts:List (Int×Int)}(h:RtF z ts): ∀j,j≤16→(qS z ts j).n≤120+24*j∧(qS z ts j).e=0:=by
 intro j
 induction j with
 | zero=>intro _;exact⟨by rw[qS,(Il z ts _).1];have:=h.t;omega,by rw[qS,(Il z ts _).2]⟩
 | succ j ih=>
  intro hj
  have h1:=ih aa
  have h2:=h.w (j/4) aa
  exact⟨by rw[qS,lZ];omega,by rw[qS,mf,h1.2]⟩
structure FbS(w:World)(z:List Int)(tv:Value)(wb:Nat)(x:Wr)(bv:Value)(wr:World):Prop where
 fr:fJ wr w.heap.size z tv
 wi:ry wr wb bv x
 hb:Below w.heap.size w wr
 hw:w.heap.size<wb
 ho: ∀k,bv.ownBlock=some k→w.heap.size<k
theorem FbS.put{w:World}{z:List Int}{tv:Value}{wb:Nat}{x y:Wr}{bv bv':Value}{wr w':World}(h:FbS w z tv wb x bv wr)(hI:ry w' wb bv' y)(hk:ag (fun k=>k=wb∨bv.ownBlock=some k) wr w')(ho: ∀k,bv'.ownBlock=some k→bv.ownBlock=some k∨wr.heap.size≤k):FbS w z tv wb y bv' w':=by
 have h1:=L8 h.fr.row
 refine⟨h.fr.kept hk (fun e=>?_),hI,h.hb.trans (hk.aW h.hb.size (fun k hk e=>?_)),h.hw,fun k e=>?_⟩
 ·rcases e with e | e
  ·have:=h.hw;omega
  ·have:=h.ho _ e;omega
 ·rcases e with e | e
  ·have:=h.hw;omega
  ·have:=h.ho _ e;omega
 ·rcases ho k e with e | e
  ·exact h.ho k e
  ·omega
theorem FbS.below{w:World}{z:List Int}{tv:Value}{wb:Nat}{x:Wr}{bv:Value}{wr w':World}(h:FbS w z tv wb x bv wr)(hb:Below wr.heap.size wr w'):FbS w z tv wb x bv w':=
 ⟨h.fr.aj hb,⟨(hb.block _ (L8 h.wi.row)).trans h.wi.row,aQ h.wi.own hb,h.wi.len,h.wi.wf⟩,h.hb.trans (hb.mono h.hb.size),h.hw,h.ho⟩
def FbP(z:List Int)(ts:List (Int×Int))(size:Nat)(w:World)(e:Ending)(w':World):Prop:=Below w.heap.size w w'∧((fQ z ts=false∧e= .returned (.tuple #[.slice none 0 0,.int .i64 4]))∨(fQ z ts=true∧((size<(frW z ts).bs.length∧e= .returned (.tuple #[.slice none 0 0,.int .i64 3]))∨((frW z ts).bs.length≤size∧∃g,e= .returned (.tuple #[.slice (some ⟨g,0,none⟩) size size,()])∧w.heap.size≤g∧Blk .u8 w' g 5 ((frW z ts).bs++List.replicate (size - (frW z ts).bs.length) 0)))))
theorem vM{x:Int}(h:0≤x): ∃c:Nat,x=(c:Int):=⟨x.toNat,aa⟩
theorem EK(z:List Int)(hz:z.length=28)(ao:Option Addr)(n cap:Nat)(ts:List (Int×Int))(size:Nat)(hs:size≤96)(w:World)(h:bP eY 2 (0,0) w ao n ts):Calls Tryz.prog 133 #[.agg (frC z (.slice ao n cap)),.int .i64 (size:Int)] w (FbP z ts size w):=by
 have A0:=ae w (.cells (frC z (.slice ao n cap)) 196)
 have A5:=L9 w (.cells (frC z (.slice ao n cap)) 196)
 have C0:(Tryz.prog.info? 196).map (·.size)=some (frC z (.slice ao n cap)).size:=by rw[bM _ _ hz];kernel_rfl
 have hR:=MI (fun W (h:bP eY 2 (0,0) W ao n ts)=>wC z hz ao n cap ts W h)
 have HT:=MI h
 by_cases hr:fQ z ts=true
 case neg=>
  have C8:fQ z ts=false:=by simpa using hr
  have B0:=MI (hR.out _ (h.aj A0))
  rw[C8] at B0
  go_enter Tryz.func133,Tryz.ntmps133
  go_wp2_with (first
   | ((with_reducible refine MC 196 2 ?_);refine wpList_load_row rfl 196 (.tmp 2) rfl _ rfl 196 (frC z (.slice ao n cap)) (0,0) _ A5 Tryz.underlying196 rfl C0 ?_)
   | (go_at_call 170;refine B0.out.mono ?_;rintro e w1 ⟨rfl,A6⟩))
  go_ret2
  exact⟨A0.trans (A6.mono A0.size),.inl ⟨C8,rfl⟩⟩
 case pos=>
  have HF:=rtF_of hr
  have B0:=MI (hR.out _ (h.aj A0))
  rw[hr] at B0
  have hn:=h.hlen
  have E1:=HF.t
  rw[hn] at E1
  have E2:Tryz.prog.built 279 []=some #[.slice none 0 0,.int .i64 0,.int .i64 0]:=af
  have C9:=MI (fun wb W (hI:ry W wb (.slice none 0 0) ⟨[],0,0⟩)=>put_any wb (.slice none 0 0) ⟨[],0,0⟩ 1 2 rfl aq aq aq W hI)
  have D0:=MI hr
  have A3:=MI HF
  clear hr HF h hR
  go_enter Tryz.func133,Tryz.ntmps133
  go_upto_region 3 with(first
   | ((with_reducible refine MC 196 2 ?_);refine wpList_load_row rfl 196 (.tmp 2) rfl _ rfl 196 (frC z (.slice ao n cap)) (0,0) _ A5 Tryz.underlying196 rfl C0 ?_)
   | (go_at_call 170;refine B0.out.mono ?_;rintro e w1 ⟨rfl,A6⟩))
  have C1:=A0.trans (A6.mono A0.size)
  have B5:=(A6.block _ (L8 A5)).trans A5
  have E0:w.heap.size<w1.heap.size:=Nat.lt_of_lt_of_le (L8 A5) A6.size
  clear A5 A0 A6 C0
  have C2:=ae w1 (.cells #[.slice none 0 0,(),()] 279)
  have A7:=L9 w1 (.cells #[.slice none 0 0,(),()] 279)
  have A2:FbS w z (.slice ao n cap) w1.heap.size ⟨[],0,0⟩ (.slice none 0 0) (w1.alloc (.cells #[.slice none 0 0,(),()] 279)):=
   ⟨⟨(C2.block _ (L8 B5)).trans B5,hz⟩,⟨A7,World.ownsRow_nil _ _ _ _,rfl,fun z hz=>by cases hz⟩,C1.trans (C2.mono C1.size),E0,fun k e=>by cases e⟩
  have J:=MI (C9.out _ _ A2.wi)
  have A4:=MI A2
  clear A7 C2 B5 C9 A2 C1
  go_upto_region 5 with(first
   | ((with_reducible show wpList _ _ _ (Oper.mk _ (Op.build 279 _) _ _ _ _::_) _ _);refine bf rfl 279 _ rfl #[.slice none 0 0,(),()] E2 ?_)
   | (go_at_call 171;refine J.out.mono ?_;rintro e w2 ⟨rfl,bv2,D1,D2,D3⟩))
  have hS:=A4.out.put D1 D2 D3
  clear J A4 D1 D2 D3
  generalize E3:w1.heap.size=wb at*
  clear E3
  have B1:=hS.fr.qc
  have HS:=MI hS
  clear hS
  go_upto_region 6 with((with_reducible refine MC 191 21 ?_);refine wpList_load_mid rfl 191 (.tmp 21) rfl w.heap.size 0 rfl ((gL z).map (Value.int .i64)) _ B1 Tryz.underlying191 rfl (by rw[List.length_map,wB];kernel_rfl) ?_;rw[show((gL z).map (Value.int .i64)).toArray=iA (gL z) from rfl])
  clear B1
  have B6:=MI (fun k (hk:k<4) W=>gZ (P:=Tryz.prog) 191 3 4 Tryz.underlying191 Tryz.underlying3 af (gL z) (wB z) k hk W)
  go_loopw [23] (fun v23 wr=>∃(j:Nat)(bv:Value),j≤4∧v23= .int .i64 (j:Int)∧FbS w z (.slice ao n cap) wb (gS z j) bv wr) (fun v23 _=>4 - aC v23)
  case atStart=>exact⟨0,bv2,aa,rfl,HS.out⟩
  case round=>
   clear HS
   obtain⟨j,bv,hj,rfl,hS⟩:=hrel
   by_cases C3:j<4
   ·have B7:=B6.out j C3
    rw[gL_get z j C3] at B7
    obtain⟨g1,g2⟩:=A3.out.g j C3
    have J:=MI (put_any wb bv (gS z j) (z.getD j 0).toNat 2 (Jh z j).2 (by rw[(Jh z j).1];omega) aq aa wr hS.wi)
    have I:Hid (gS z (j+1)=jh (gS z j) (z.getD j 0).toNat 2):=rfl
    obtain⟨c,hc⟩:=vM g1
    rw[hc] at B7 J I g2
    rw[Int.toNat_natCast] at J I
    have hw:IntKind.u64.wrap (c:Int)=(c:Int):=by rw[IntKind.wrap_u64];omega
    have HS:=MI hS
    clear hS hc g1
    go_wp2_with (go_at_call 171;refine J.out.mono ?_;rintro e w3 ⟨rfl,bv3,R,U,A1⟩)
    exact⟨⟨j+1,bv3,aa,aD,by rw[I.out];exact HS.out.put R U A1⟩,by simp[aC];omega⟩
   ·obtain rfl:j=4:=aa
    clear B6
    have E4:=hS.fr.mid
    have J:=MI (put_any wb bv (gS z 4) n 2 (Jh z 4).2 (by rw[(Jh z 4).1];omega) aq aa wr hS.wi)
    have I:Hid (tS z ts 0=jh (gS z 4) n 2):=by unfold Hid;rw[←hn];rfl
    have hw:IntKind.u64.wrap (n:Int)=(n:Int):=by rw[IntKind.wrap_u64];omega
    have HS:=MI hS
    clear hS
    go_upto_region 12 with(go_at_call 171;refine J.out.mono ?_;rintro e w3 ⟨rfl,bv3,R,U,A1⟩;have o:=HS.out.put R U A1;have E5:=o.fr.mid)
    rw[←I.out] at o
    have A8:=MI o
    clear o R U A1 HS J E4 E5 hw
    go_loopw [40] (fun v40 wr=>∃(j:Nat)(bv:Value),j≤n∧v40= .int .i64 (j:Int)∧FbS w z (.slice ao n cap) wb (tS z ts j) bv wr) (fun v40 _=>n - aC v40)
    case atStart=>exact⟨0,bv3,aa,rfl,A8.out⟩
    case round=>
     clear A8
     obtain⟨j,bv,hj,rfl,hS⟩:=hrel
     by_cases D4:j<n
     ·obtain⟨a,rfl,c0,c1⟩:=xO (HT.out.aj hS.hb) D4
      obtain⟨t1,t2,t3⟩:=A3.out.tt j (by rw[hn];exact D4)
      have I:Hid (tS z ts (j+1)=jh (jh (tS z ts j) (ts.getD j (0,0)).1.toNat 4) (tV (ts.getD j (0,0)).2 24) 24):=rfl
      generalize ts.getD j (0,0)=t at*
      obtain⟨ix,vl⟩:=t
      simp only at c0 c1 t1 t2 t3 I
      obtain⟨c,rfl⟩:=vM t1
      rw[Int.toNat_natCast] at I
      have hw:IntKind.u64.wrap (c:Int)=(c:Int):=by rw[IntKind.wrap_u64];omega
      have HS:=MI hS
      clear hS t1
      go_upto_region 14 with fail
      have A0:=ae wr (.cells #[.int .i64 (c:Int),.int .i64 vl] 282)
      have A7:=L9 wr (.cells #[.int .i64 (c:Int),.int .i64 vl] 282)
      have C4:=HS.out.below A0
      have E6:¬(wr.heap.size=wb∨bv.ownBlock=some wr.heap.size):=fun e=>by
       rcases e with e | e
       ·have:=L8 HS.out.wi.row;omega
       ·obtain⟨cs,E7⟩:=ah HS.out.wi.own e
        have:=L8 E7
        omega
      clear HS A0 c0 c1
      generalize wr.alloc (.cells #[.int .i64 (c:Int),.int .i64 vl] 282)=V at*
      generalize wr.heap.size=xb at*
      obtain⟨d0,d1⟩:=bW A7
      have J:=MI (put_any wb bv (tS z ts j) c 4 (Hy z ts j).2 (by rw[(Hy z ts j).1];omega) aq aa V C4.wi)
      have D5:=MI C4
      have E8:=MI A7
      have hQ:=MI (fun bv W (hI:ry W wb bv (jh (tS z ts j) c 4))=>FT wb bv (jh (tS z ts j) c 4) vl 24 (by rw[mf];exact(Hy z ts j).2) (by rw[lZ,(Hy z ts j).1];omega) aq t3 W hI)
      clear C4 A7
      go_upto_region 15 with(go_at_call 171;refine J.out.mono ?_;rintro e w3 ⟨rfl,bv3,R,U,A1⟩)
      have o:=D5.out.put R U A1
      have D6:=U.heap E8.out E6
      have C5:=MI (hQ.out bv3 w3 R)
      have A8:=MI o
      clear o R U A1 D5 J d0 d1 hQ
      obtain⟨d0,d1⟩:=bW D6
      clear D6
      go_wp2_with (go_at_call 172;refine C5.out.mono ?_;rintro e w4 ⟨rfl,bv4,B2,B3,B4⟩)
      exact⟨⟨j+1,bv4,aa,aD,by rw[I.out];exact A8.out.put B2 B3 B4⟩,by simp[aC];omega⟩
     ·obtain rfl:j=n:=aa
      have A2:FbS w z (.slice ao j cap) wb (sS z ts 0) bv wr:=by
       have:sS z ts 0=tS z ts j:=by rw[←hn];rfl
       rw[this];exact hS
      have A4:=MI A2
      clear hS A2
      go_upto_region 18 with fail
      go_loopw [54] (fun v54 wr=>∃(i:Nat)(bv:Value),i≤4∧v54= .int .i64 (i:Int)∧FbS w z (.slice ao j cap) wb (sS z ts i) bv wr) (fun v54 _=>4 - aC v54)
      case atStart=>exact⟨0,bv,aa,rfl,A4.out⟩
      case round=>
       clear A4
       obtain⟨i,bv,hi,rfl,hS⟩:=hrel
       by_cases D7:i<4
       ·obtain⟨s1,s2⟩:=A3.out.s i D7
        obtain⟨u1,u2⟩:=A3.out.w i D7
        have I:Hid (sS z ts (i+1)=jh (jh (sS z ts i) (z.getD (4+i) 0).toNat 5) (z.getD (8+i) 0).toNat 5):=rfl
        have c0:=hS.fr.hi (k:=i) aa
        have hC:=MI (fun W (hI:fJ W w.heap.size z (.slice ao j cap))=>by
         have:=hI.hi (k:=4+i) aa
         rw[show 5+(4+i)=9+i by omega,show 4+(4+i)=8+i by omega] at this
         exact this)
        obtain⟨c,hc⟩:=vM s1
        obtain⟨d,hd⟩:=vM u1
        rw[hc] at c0 s2 I
        rw[hd] at hC u2 I
        rw[Int.toNat_natCast,Int.toNat_natCast] at I
        have hw:IntKind.u64.wrap (c:Int)=(c:Int):=by rw[IntKind.wrap_u64];omega
        have F2:IntKind.u64.wrap (d:Int)=(d:Int):=by rw[IntKind.wrap_u64];omega
        have J:=MI (put_any wb bv (sS z ts i) c 5 (Il z ts i).2 (by rw[(Il z ts i).1];omega) aq aa wr hS.wi)
        have hQ:=MI (fun bv W (hI:ry W wb bv (jh (sS z ts i) c 5))=>put_any wb bv (jh (sS z ts i) c 5) d 5 (by rw[mf];exact(Il z ts i).2) (by rw[lZ,(Il z ts i).1];omega) aq aa W hI)
        have HS:=MI hS
        clear hS hc hd s1 u1
        go_upto_region 21 with(go_at_call 171;refine J.out.mono ?_;rintro e w3 ⟨rfl,bv3,R,U,A1⟩)
        have o:=HS.out.put R U A1
        have c1:=hC.out _ o.fr
        have C5:=MI (hQ.out bv3 w3 R)
        have A8:=MI o
        clear o R U A1 HS J hQ c0
        go_wp2_with (go_at_call 171;refine C5.out.mono ?_;rintro e w4 ⟨rfl,bv4,B2,B3,B4⟩)
        exact⟨⟨i+1,bv4,aa,aD,by rw[I.out];exact A8.out.put B2 B3 B4⟩,by simp[aC];omega⟩
       ·obtain rfl:i=4:=aa
        have A2:FbS w z (.slice ao j cap) wb (qS z ts 0) bv wr:=hS
        have B1:=hS.fr.LK
        have A4:=MI A2
        clear hS A2
        go_upto_region 24 with((with_reducible refine MC 194 72 ?_);refine wpList_load_mid rfl 194 (.tmp 72) rfl w.heap.size 13 rfl ((qL z).map (Value.int .i64)) _ B1 Tryz.underlying194 rfl (by rw[List.length_map,zH];kernel_rfl) ?_;rw[show((qL z).map (Value.int .i64)).toArray=iA (qL z) from rfl])
        clear B1
        have B6:=MI (fun k (hk:k<16) W=>gZ (P:=Tryz.prog) 194 2 16 Tryz.underlying194 Tryz.underlying2 af (qL z) (zH z) k hk W)
        go_loopw [74] (fun v74 wr=>∃(i:Nat)(bv:Value),i≤16∧v74= .int .i64 (i:Int)∧FbS w z (.slice ao j cap) wb (qS z ts i) bv wr) (fun v74 _=>16 - aC v74)
        case atStart=>exact⟨0,bv,aa,rfl,A4.out⟩
        case round=>
         clear A4
         obtain⟨i,bv,hi,rfl,hS⟩:=hrel
         by_cases A9:i<16
         ·have B7:=B6.out i A9
          rw[qL_get z i A9] at B7
          obtain⟨u1,u2⟩:=A3.out.w (i/4) aa
          have hq:=A3.out.q i A9
          have B8:=qS_n A3.out i aa
          have I:Hid (qS z ts (i+1)=jh (qS z ts i) (tV (z.getD (12+i) 0) (z.getD (8+i/4) 0).toNat) (z.getD (8+i/4) 0).toNat):=rfl
          have c1:=hS.fr.hi (k:=4+i/4) aa
          rw[show 5+(4+i/4)=9+i/4 by omega,show 4+(4+i/4)=8+i/4 by omega] at c1
          obtain⟨d,hd⟩:=vM u1
          rw[hd] at hq I c1 u2
          rw[Int.toNat_natCast] at hq I
          have E9:=MI (nD i A9)
          have J:=MI (FT wb bv (qS z ts i) (z.getD (12+i) 0) d B8.2 aa aa hq wr hS.wi)
          have F3:i/4<4:=aa
          have F1:((i/4:Nat):Int)<4:=aa
          have HS:=MI hS
          clear hS hd u1 hq B8
          generalize i/4=jb at*
          generalize z.getD (12+i) 0=qi at*
          go_wp2_with (first
           | (go_at_call 173;refine(E9.out _).mono ?_;rintro e w' ⟨rfl,rfl⟩)
           | (go_at_call 172;refine J.out.mono ?_;rintro e w4 ⟨rfl,bv4,B2,B3,B4⟩))
          exact⟨⟨i+1,bv4,aa,aD,by rw[I.out];exact HS.out.put B2 B3 B4⟩,by simp[aC];omega⟩
         ·obtain rfl:i=16:=aa
          have B8:=qS_n A3.out 16 aa
          have B9:=Du wb bv (qS z ts 16) size hs B8.2 wr hS.wi
          have D8:=MI hS.hb
          have D9:=hS.hb.size
          have C6:Hid (frW z ts=qS z ts 16):=rfl
          by_cases hl:size<(qS z ts 16).bs.length
          ·have hW:Hid (Calls Tryz.prog 174 #[.pointer (some ⟨wb,0,none⟩),.int .i64 (size:Int)] wr (fun e w'=>e= .returned (.tuple #[.slice none 0 0,.int .i64 3])∧Below wr.heap.size wr w')):=B9.mono fun e w' h=>by
            obtain⟨h1,h2 | h2⟩:=h
            ·exact⟨h2.2,h1⟩
            ·omega
           clear hS B9
           go_wp2_with (go_at_call 174;refine hW.out.mono ?_;rintro e w5 ⟨rfl,C7⟩)
           go_ret2
           exact⟨D8.out.trans (C7.mono D9),.inr ⟨D0.out,.inl ⟨by rw[C6.out];exact hl,rfl⟩⟩⟩
          ·have hW:Hid (Calls Tryz.prog 174 #[.pointer (some ⟨wb,0,none⟩),.int .i64 (size:Int)] wr (fun e w'=>∃g,e= .returned (.tuple #[.slice (some ⟨g,0,none⟩) size size,()])∧Below wr.heap.size wr w'∧wr.heap.size≤g∧Blk .u8 w' g 5 ((qS z ts 16).bs++List.replicate (size - (qS z ts 16).bs.length) 0))):=B9.mono fun e w' h=>by
            obtain⟨h1,h2 | h2⟩:=h
            ·omega
            ·obtain⟨_,g,h3,h4,h5⟩:=h2
             exact⟨g,h3,h1,h4,h5⟩
           clear hS B9
           go_wp2_with (go_at_call 174;refine hW.out.mono ?_;rintro e w5 ⟨g,rfl,C7,hg,hB⟩)
           go_ret2
           exact⟨D8.out.trans (C7.mono D9),.inr ⟨D0.out,.inr ⟨by rw[C6.out];omega,g,rfl,aa,by rw[C6.out];exact hB⟩⟩⟩
end Go.Proofs.YtnicjahcgnhogaaGreatDoor
