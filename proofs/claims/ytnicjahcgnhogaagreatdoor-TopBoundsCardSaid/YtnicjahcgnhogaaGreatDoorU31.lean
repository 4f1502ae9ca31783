/- Part 32 of the walk: contracts of the program's functions, each for every input. No condition. -/
import Derived.Test.YtnicjahcgnhogaaGreatDoorU30
set_option linter.unusedVariables false
set_option linter.unusedSimpArgs false
set_option maxRecDepth 100000
set_option maxHeartbeats 8000000
namespace Go.Proofs.YtnicjahcgnhogaaGreatDoor
open Go Go.RowKit Go.Calli
attribute [local irreducible] wpStill wpAnyH wpAnyS wpList Code.wp
theorem Ib(B g n cap:Nat)(hn:n<20)(L:List Sr)(w:World)(h:rC w B g n cap L):Calls Tryz.prog 127 #[.slice (some ⟨g,0,none⟩) n cap,.int .i64 (n:Int),.func (.func 91) #[] #[]] w (Fh B g n cap L w):=by
 have HI:=MI (EF B g n cap 0 n aa aa aa L w h)
 unfold Fh at HI⊢
 have I:¬(20:Int)≤(n:Int):=aa
 have J:¬(20:Int)<(n:Int):=aa
 clear h
 go_enter Tryz.func127,Tryz.ntmps127
 go_upto_region 2 with fail
 go_loopw [7,8] (fun v7 v8 wr=>v7= .int .i64 0∧v8= .int .i64 20∧w=wr) (fun _ _ _=>0)
 case atStart=>exact⟨rfl,rfl,rfl⟩
 case round=>
  obtain⟨rfl,rfl,rfl⟩:=hrel
  go_upto_region 7 with(go_at_call 157;refine HI.out.mono ?_;rintro e w2 ⟨rfl,hz,hk⟩)
  have HE:=MI hz
  have HK:=MI hk
  clear hz hk
  go_loopw [6] (fun v6 wx=>v6= .int .i64 20∧w2=wx) (fun _ _=>0)
  case atStart=>exact⟨rfl,rfl⟩
  case round=>
   obtain⟨rfl,rfl⟩:=hrel
   go_wp2_with fail
   go_end0
   exact⟨rfl,HE.out,HK.out⟩
theorem sort90(B g n cap:Nat)(hn:n<20)(L:List Sr)(w:World)(h:rC w B g n cap L):Calls Tryz.prog 90 #[.slice (some ⟨g,0,none⟩) n cap,.func (.func 91) #[] #[]] w (Fh B g n cap L w):=by
 have HI:=MI (Ib B g n cap hn L w h)
 unfold Fh at HI⊢
 clear h
 go_enter Tryz.func90,Tryz.ntmps90
 go_wp2_with (go_at_call 127;refine HI.out.mono ?_;rintro e w2 ⟨rfl,hz,hk⟩)
 go_end0
 exact⟨rfl,hz,hk⟩
theorem EE(v f:Value)(w:World):Calls Tryz.prog 157 #[v,(),(),f] w (fun e w'=>e= .returned (.tuple #[])∧w=w'):=by
 go_enter Tryz.func157,Tryz.ntmps157
 go_upto_region 1 with fail
 go_loop [8] (fun v8=>v8= .int .i64 1) (fun _=>0)
 case atStart=>rfl
 case round=>
  subst hrel
  go_wp2_with fail
  go_end0
  exact⟨rfl,rfl⟩
theorem DK(cap:Nat)(w:World):Calls Tryz.prog 90 #[.slice none 0 cap,.func (.func 91) #[] #[]] w (fun e w'=>e= .returned (.tuple #[])∧w=w'):=by
 have HI:=MI (fun f=>EE (.slice none 0 cap) f w)
 have HS:Hid (Calls Tryz.prog 127 #[.slice none 0 cap,(),.func (.func 91) #[] #[]] w (fun e w'=>e= .returned (.tuple #[])∧w=w')):=by
  show Calls _ _ _ _ _
  go_enter Tryz.func127,Tryz.ntmps127
  go_upto_region 2 with fail
  go_loop [7,8] (fun v7 v8=>v7= .int .i64 0∧v8= .int .i64 20) (fun _ _=>0)
  case atStart=>exact⟨rfl,rfl⟩
  case round=>
   obtain⟨rfl,rfl⟩:=hrel
   go_upto_region 7 with(go_at_call 157;refine(HI.out _).mono ?_;rintro e w2 ⟨rfl,rfl⟩)
   go_loop [6] (fun v6=>v6= .int .i64 20) (fun _=>0)
   case atStart=>rfl
   case round=>
    subst hrel
    go_wp2_with fail
    go_end0
    exact⟨rfl,rfl⟩
 go_enter Tryz.func90,Tryz.ntmps90
 go_wp2_with (go_at_call 127;refine HS.out.mono ?_;rintro e w2 ⟨rfl,rfl⟩)
 go_end0
 exact⟨rfl,rfl⟩
def ul(w:World)(B g n cap:Nat)(ts:List ByteArray):Prop:=w.ownsRow B 9 1 (.slice (some ⟨g,0,none⟩) n cap) n (ts.map .string)∧ts.length=n
theorem ul.cell{w:World}{B g n cap:Nat}{ts:List ByteArray}(h:ul w B g n cap ts){i:Nat}(hi:i<n): ∃t,w.cell? ⟨g,i,none⟩=some (.string t):=by
 have h7:=h.1.cells (g:=g) rfl i (.string (ts.getD i ⟨#[]⟩)) (by rw[List.getElem?_map,List.getElem?_eq_getElem (by rw[h.2];exact hi)];simp[List.getD,h.2,hi])
 rw[add0,Nat.zero_add] at h7
 exact⟨_,h7⟩
theorem ul.set{w:World}{B g n cap:Nat}{ts:List ByteArray}(h:ul w B g n cap ts){o:Nat}(ho:o<n)(v:ByteArray):ul (w.setCell ⟨g,o,none⟩ (.string v)) B g n cap (aT ts o [v]):=by
 have h1:=iZ h.1 rfl o [.string v] (by simp;omega)
 have h2:(aT ts o [v]).map Value.string=aT (ts.map .string) o [.string v]:=by simp[aT,List.map_take,List.map_drop]
 exact⟨by rw[h2];exact h1,by rw[gu _ _ _ (by have:=h.2;simp;omega)];exact h.2⟩
theorem nan190(t:ByteArray)(w:World):Calls Tryz.prog 190 #[.string t] w (fun e w'=>e= .returned (.bool false)∧w=w'):=by
 go_enter Tryz.func190,Tryz.ntmps190
 go_wp2_with fail
 go_ret
 exact⟨rfl,rfl⟩
def BoolS(w:World)(e:Ending)(w':World):Prop:=∃r:Bool,e= .returned (.bool r)∧w=w'
theorem less152(t1 t2:ByteArray)(w:World):Calls Tryz.prog 152 #[.string t1,.string t2] w (BoolS w):=by
 have HN:=MI (nan190 t1 w)
 go_enter Tryz.func152,Tryz.ntmps152
 go_wp2_with (go_at_call 190;refine HN.out.mono ?_;rintro e w2 ⟨rfl,rfl⟩)
 go_ret
 exact⟨_,rfl,rfl⟩
def Fg(B g n cap:Nat)(w:World)(e:Ending)(w':World):Prop:=e= .returned (.tuple #[])∧(∃z,ul w' B g n cap z)∧ag (fun k=>k=g) w w'
theorem EG(B g n cap a b:Nat)(A9:a≤b)(hb:b≤n)(hn:n≤1000)(z:List ByteArray)(w:World)(h:ul w B g n cap z):Calls Tryz.prog 146 #[.slice (some ⟨g,0,none⟩) n cap,.int .i64 (a:Int),.int .i64 (b:Int)] w (Fg B g n cap w):=by
 have HF:=MI less152
 have HZ:=MI h
 have B0:g<w.heap.size:=gX h.1 rfl
 clear h
 go_enter Tryz.func146,Tryz.ntmps146
 go_upto_region 1 with fail
 go_loopw [6] (fun v6 wr=>∃(i:Nat)(z:List ByteArray),i≤b+1∧a+1≤i∧v6= .int .i64 (i:Int)∧ul wr B g n cap z∧ag (fun k=>k=g) w wr) (fun v6 _=>b+1 - aC v6)
 case atStart=>exact⟨a+1,z,aa,aa,aD,HZ.out,ag.refl _ _⟩
 case round=>
  clear HZ
  obtain⟨i,z,hi,B1,rfl,hZ,hk⟩:=hrel
  by_cases B2:i<b
  ·have A4:(i:Int)<(b:Int):=aa
   go_upto_region 4 with fail
   go_loopw [7] (fun v7 wx=>∃(j:Nat)(z:List ByteArray),j≤i∧a≤j∧v7= .int .i64 (j:Int)∧ul wx B g n cap z∧ag (fun k=>k=g) w wx) (fun v7 _=>aC v7)
   case atStart=>exact⟨i,z,aa,aa,rfl,hZ,hk⟩
   case round=>
    clear hZ hk
    obtain⟨j,z,hj,B3,rfl,hZ,hk⟩:=hrel
    by_cases B4:a<j
    ·obtain⟨k,U⟩: ∃k,j=k+1:=⟨j - 1,aa⟩
     have A5:(a:Int)<(j:Int):=aa
     obtain⟨x0,c0⟩:=hZ.cell (i:=j) aa
     obtain⟨y0,d0⟩:=hZ.cell (i:=k) aa
     have HZ:=MI hZ
     have HK:=MI hk
     have HJ:=MI U
     have B5:IntKind.i64.wrap ((j:Int) - 1)=(k:Int):=by rw[IntWalk.i64_in _ aa];omega
     have B6:k<n:=aa
     have A6:j<n:=aa
     have f0:wr.frozen? ⟨g,j,none⟩=false:=(bJ hZ.1 j 1 aa 0 aa).2
     have g0:wr.frozen? ⟨g,k,none⟩=false:=(bJ hZ.1 k 1 aa 0 aa).2
     have A7:¬j=k:=aa
     have A8:¬k=j:=aa
     clear U
     clear hZ hk
     go_upto_region 4 with fail
     go_cut [30] (fun v30 wx=>∃r:Bool,v30= .bool r∧∃m,wx=wr.drewN m)
     case first=>
      unfold BoolS at HF
      go_region_held3 (fun w'=>w'.cell? ⟨g,j,none⟩=some (.string x0)∧w'.cell? ⟨g,k,none⟩=some (.string y0)) (first | exact⟨c0,d0⟩ | go_keep) (first | (go_at_call 152;refine(HF.out _ _ _).mono ?_;rintro e w2 ⟨r,rfl,rfl⟩))
      all_goals go_wp2_with fail
      all_goals go_meet
      all_goals exact⟨_,rfl,1,rfl⟩
     case rest=>
      obtain⟨r,rfl,m,rfl⟩:=hcut
      have I:=HZ.out
      have J:Hid (ul (wr.drewN m) B g n cap z):=⟨aQ I.1 (below_drewN MB m),I.2⟩
      have R:Hid (ag (fun k=>k=g) w (wr.drewN m)):=HK.out.drewN m
      have c0:(wr.drewN m).cell? ⟨g,j,none⟩=some (.string x0):=c0
      have d0:(wr.drewN m).cell? ⟨g,k,none⟩=some (.string y0):=d0
      have f0:(wr.drewN m).frozen? ⟨g,j,none⟩=false:=f0
      have g0:(wr.drewN m).frozen? ⟨g,k,none⟩=false:=g0
      clear HZ HK I
      generalize wr.drewN m=wc at*
      go_upto_if 30 with fail
      cases r with
      | false=>
       go_wp2_with fail
       exact⟨⟨i+1,z,aa,aa,aD,J.out,R.out⟩,by simp[aC];omega⟩
      | true=>
       go_upto_region 6 with fail
       go_region
       have hT:=(J.out.set (o:=j) aa y0).set (o:=k) aa x0
       have hK:=((R.out.setCell (p:=⟨g,j,none⟩) (.inr rfl) (.string y0)).setCell (p:=⟨g,k,none⟩) (.inr rfl) (.string x0)).drew
       have A0:=MI (aQ hT.1 (MB.drew))
       have A1:=MI hT.2
       have A2:=MI hK
       clear hT hK J R c0 d0 f0 g0
       generalize ((wc.setCell ⟨g,j,none⟩ (.string y0)).setCell ⟨g,k,none⟩ (.string x0)).drew=W at*
       go_wp2_with fail
       have B7:=HJ.out
       exact⟨⟨k,_,aa,aa,rfl,⟨A0.out,A1.out⟩,A2.out⟩,by simp[aC];omega⟩
    ·obtain rfl:j=a:=aa
     have A3:¬(j:Int)<(j:Int):=aa
     go_upto_region 4 with fail
     go_quiet (fail)
     go_wp2_with fail
     exact⟨⟨i+1,z,aa,aa,aD,⟨aQ hZ.1 (below_drewN MB _),hZ.2⟩,⟨hk.os,hk.tape,hk.output,hk.size,hk.block⟩⟩,by simp[aC];omega⟩
  ·have A3:¬(i:Int)<(b:Int):=aa
   have HE:Hid (Fg B g n cap w (.returned (.tuple #[])) wr):=⟨rfl,⟨z,hZ⟩,hk⟩
   clear hZ hk
   go_wp2_with fail
   go_end0
   exact HE.out
theorem pdq125(B g n cap:Nat)(hn:n<12)(l:Int)(z:List ByteArray)(w:World)(h:ul w B g n cap z):Calls Tryz.prog 125 #[.slice (some ⟨g,0,none⟩) n cap,(),.int .i64 (n:Int),.int .i64 l] w (Fg B g n cap w):=by
 have HI:=MI (EG B g n cap 0 n aa aa aa z w h)
 unfold Fg at HI⊢
 have I:(n:Int)≤12:=aa
 have hw:IntKind.i64.wrap ((n:Int) - 0)=(n:Int):=by rw[IntWalk.i64_in _ aa];omega
 have J:IntKind.i64.wrap (n:Int)=(n:Int):=IntWalk.i64_in _ aa
 clear h
 go_enter Tryz.func125,Tryz.ntmps125
 go_upto_region 2 with fail
 go_loopw [1,2] (fun v1 v2 wr=>v1= .int .i64 0∧v2= .int .i64 (n:Int)∧w=wr) (fun _ _ _=>0)
 case atStart=>exact⟨rfl,rfl,rfl⟩
 case round=>
  obtain⟨rfl,rfl,rfl⟩:=hrel
  go_wp2_with (go_at_call 146;refine HI.out.mono ?_;rintro e w2 ⟨rfl,hz,hk⟩)
  exact bodyPost_ret (results_none rfl _ _ _) rfl ⟨rfl,hz,hk⟩
theorem sort88(B g n cap:Nat)(hn:n<12)(z:List ByteArray)(w:World)(h:ul w B g n cap z):Calls Tryz.prog 88 #[.slice (some ⟨g,0,none⟩) n cap] w (Fg B g n cap w):=by
 have HI:=MI (fun l=>pdq125 B g n cap hn l z w h)
 have HB:=MI (qZ n hn w)
 have hc:IntKind.u64.wrap (n:Int)=(n:Int):=IntWalk.u64_in _ aa
 unfold Fg at HI⊢
 clear h
 go_enter Tryz.func88,Tryz.ntmps88
 go_wp2_with (first
  | (go_at_call 126;refine HB.out.mono ?_;rintro e w2 ⟨⟨l,rfl⟩,rfl⟩)
  | (go_at_call 125;refine(HI.out l).mono ?_;rintro e w2 ⟨rfl,hz,hk⟩))
 go_end0
 exact⟨rfl,hz,hk⟩
theorem DL(cap:Nat)(w:World):Calls Tryz.prog 88 #[.slice none 0 cap] w (fun e w'=>e= .returned (.tuple #[])∧w=w'):=by
 have HI:Hid (Calls Tryz.prog 146 #[.slice none 0 cap,(),()] w (fun e w'=>e= .returned (.tuple #[])∧w=w')):=by
  show Calls _ _ _ _ _
  go_enter Tryz.func146,Tryz.ntmps146
  go_upto_region 1 with fail
  go_loop [6] (fun v6=>v6= .int .i64 1) (fun _=>0)
  case atStart=>rfl
  case round=>
   subst hrel
   go_wp2_with fail
   go_end0
   exact⟨rfl,rfl⟩
 have HB:=MI (qZ 0 aa w)
 have HS:Hid (∀l:Int,Calls Tryz.prog 125 #[.slice none 0 cap,(),(),.int .i64 l] w (fun e w'=>e= .returned (.tuple #[])∧w=w')):=by
  intro l
  go_enter Tryz.func125,Tryz.ntmps125
  go_upto_region 2 with fail
  go_loop [1,2] (fun v1 v2=>v1= .int .i64 0∧v2= .int .i64 0) (fun _ _=>0)
  case atStart=>exact⟨rfl,rfl⟩
  case round=>
   obtain⟨rfl,rfl⟩:=hrel
   go_wp2_with (go_at_call 146;refine HI.out.mono ?_;rintro e w2 ⟨rfl,rfl⟩)
   exact bodyPost_ret (results_none rfl _ _ _) rfl ⟨rfl,rfl⟩
 go_enter Tryz.func88,Tryz.ntmps88
 go_wp2_with (first
  | (go_at_call 126;refine HB.out.mono ?_;rintro e w2 ⟨⟨l,rfl⟩,rfl⟩)
  | (go_at_call 125;refine(HS.out l).mono ?_;rintro e w2 ⟨rfl,rfl⟩))
 go_end0
 exact⟨rfl,rfl⟩
def uk:Array Value:=#[.string ⟨#[]⟩,(),.bool false,(),(),.slice none 0 0]
theorem info9b:(Tryz.prog.info? 9).map (fun i=>(i.zero,i.size,i.bytes))=some (some (.string ⟨#[]⟩),1,16):=af
structure SmR(w:World)(ao:Option Addr)(n:Nat)(L:List Sr):Prop where
 len:L.length=n
 n12:n<12
 row: ∀i,i<n→∃g,ao=some ⟨g,0,none⟩∧w.rangeAt g (i*6) (srV (L.getD i sr0))
 ok: ∀s ∈ L,wW w s
theorem Be{w w':World}{b o:Nat}{vs:List Value}(h:w.rangeAt b o vs)(hb:Below w.heap.size w w'):w'.rangeAt b o vs:=fun j v hv=>(hb.cell (World.block_lt_of_cell? w _ (h j v hv))).trans (h j v hv)
theorem SmR.aj{w w':World}{ao:Option Addr}{n:Nat}{L:List Sr}(h:SmR w ao n L)(hb:Below w.heap.size w w'):SmR w' ao n L:=
 ⟨h.len,h.n12,fun i hi=>by
  obtain⟨g,h1,h2⟩:=h.row i hi
  exact⟨g,h1,Be h2 hb⟩,fun s hs=>(h.ok s hs).aj hb⟩
def ChkAP(n:Nat)(L:List Sr)(w:World)(e:Ending)(w':World):Prop:=∃err:Int,e= .returned (.int .i64 err)∧Below w.heap.size w w'∧(err=0→∀s ∈ L,kR s)∧(n=1→(∀s ∈ L,kR s)→err=0)
theorem wK(ao:Option Addr)(n cap:Nat)(L:List Sr)(w:World)(h:SmR w ao n L):Calls Tryz.prog 55 #[.slice ao n cap] w (ChkAP n L w):=by
 have H:=MI h
 have B5:=h.n12
 have C9:=h.len
 have A3:=MI (fun s W h=>CZ s W h)
 unfold ChkP at A3
 clear h
 go_enter Tryz.func55,Tryz.ntmps55
 go_upto_region 5 with fail
 go_loopw [3,13] (fun v3 v13 wr=>∃(i:Nat)(ts:List ByteArray),i≤n∧v13= .int .i64 (i:Int)∧ts.length=i∧wr.ownsRow w.heap.size 9 1 v3 i (ts.map .string)∧Below w.heap.size w wr∧Hid (∀j,j<i→kR (L.getD j sr0))) (fun _ v13 _=>n - aC v13)
 case atStart=>exact⟨0,[],aa,rfl,rfl,World.ownsRow_nil _ _ _ _,Below.refl _ _,fun j hj=>aa⟩
 case round=>
  obtain⟨i,ts,hi,rfl,A4,hO,hB,A5⟩:=hrel
  obtain⟨a3,c3,rfl⟩:=dh hO
  by_cases B7:i<n
  ·have C7:(i:Int)<(n:Int):=aa
   obtain⟨g,rfl,hr⟩:=(H.out.aj hB).row i B7
   have I:L.getD i sr0 ∈ L:=by rw[List.getD,List.getElem?_eq_getElem aa];exact List.getElem_mem _
   have HM:=MI I
   have A6:=(H.out.aj hB).ok _ I
   have B8:Hid (kR (L.getD i sr0)→∀j,j<i+1→kR (L.getD j sr0)):=fun h j hj=>by
    by_cases e:j=i
    ·subst e;exact h
    ·exact A5.out j aa
   clear I
   generalize L.getD i sr0=s at*
   have B9:(Tryz.prog.info? 76).map (·.size)=some (srV s).length:=af
   have U:(Tryz.prog.info? 76).map (·.size)=some (srA s).size:=af
   have B6:(srA s).all (·.oneCell')=true:=af
   have HB:=MI hB
   have HO:=MI hO
   clear hB hO
   go_upto_region 7 with(first
    | ((with_reducible refine MC 76 15 ?_);refine wpList_load_mid rfl 76 (.tmp 15) rfl g (i*6) rfl (srV s) _ hr Tryz.underlying76 rfl B9 ?_;rw[show(srV s).toArray=srA s from rfl])
    | ((with_reducible refine MF 76 5 16 ?_);refine wpList_store_row rfl 76 (.tmp 5) (.tmp 16) rfl _ (srA s) rfl rfl 76 (uk) (L9 _ _) U rfl B6 ?_))
   have J:Below wr.heap.size wr ((wr.alloc (.cells uk 76)).setRow wr.heap.size (srA s)):=below_setRow (ae wr (.cells uk 76)) Me _
   have o:=Md (srA s) (L9 wr (.cells uk 76))
   have A7:=A6.aj J
   change Code.wp _ _ _ _ ((wr.alloc (.cells uk 76)).setRow wr.heap.size (srA s))
   have A8:=MI (aQ HO.out J)
   have A9:=MI (bD HB.out J)
   clear hr J HO HB A6
   generalize (wr.alloc (.cells uk 76)).setRow wr.heap.size (srA s)=X at*
   generalize wr.heap.size=xb at*
   have hP:=MI (A3.out s X A7)
   clear A7
   go_upto_region 8 with(first
    | ((with_reducible refine MC 76 5 ?_);refine wpList_load_row rfl 76 (.tmp 5) rfl xb rfl 76 (srA s) (0,0) _ o Tryz.underlying76 rfl U ?_)
    | (go_at_call 87;refine hP.out.mono ?_;rintro e w2 ⟨err,rfl,R,A0⟩))
   have B0:=rwB o R
   obtain⟨a0,a1,a2,a3',a4,a5⟩:=eX B0
   have A1:=MI (bD A9.out R)
   have B1:=MI (aQ A8.out R)
   clear R B0 o A9 A8 a1 a2 a3' a4 a5
   by_cases he:err=0
   case neg=>
    have D0:(err !=0)=true:=by simpa using he
    have HE:Hid (ChkAP n L w (.returned (.int .i64 err)) w2):=⟨err,rfl,A1.out,fun e=>absurd e he,fun _ h=>A0.2 (h _ HM.out)⟩
    go_wp2_with fail
    go_ret
    exact HE.out
   subst he
   have C0:=MI (B8.out (A0.1 rfl))
   have C1:=A1.out.size
   go_wp2_with (at_builtin;refine iI rfl (.tmp 22) (.tmp 25) 182 9 1 rfl Tryz.underlying182 info9b rfl aq w.heap.size _ i _ rfl B1.out [.string (strOfNums s.nl)] rfl rfl (by simp[Value.oneCell']) aa aE C1 ?_;intro v26 w5 C2 C3)
   have C4: ∀q,(Value.slice a3 i c3).ownBlock=some q→w.heap.size≤q:=fun q hq=>jH B1.out hq
   exact⟨⟨i+1,ts++[strOfNums s.nl],aa,aD,by simp[A4],by rw[List.map_append];exact C2,((ag.au (S:=fun _=>False) A1.out Me).andThen C3 (fun q hq e=>by have:=C4 q e;omega)).aW Me (fun _ _ e=>e),C0⟩,by simp[aC];omega⟩
  ·obtain rfl:i=n:=aa
   have D1:¬(i:Int)<(i:Int):=aa
   have HB:=MI hB
   have A2:Hid (∀s ∈ L,kR s):=fun s hs=>by
    obtain⟨j,hj,rfl⟩:=List.getElem_of_mem hs
    have h1:=A5.out j aa
    rwa [List.getD,List.getElem?_eq_getElem hj] at h1
   clear hB
   cases a3 with
   | none=>
    have C5:i=0:=by
     rcases hO.2 with⟨-,h⟩ | ⟨g,c,cur,h,-⟩
     ·exact h
     ·cases h
    subst C5
    clear hO
    go_upto_region 14 with(go_at_call 88;refine(DL _ _).mono ?_;rintro e w3 ⟨rfl,rfl⟩)
    go_loop [7] (fun v7=>v7= .int .i64 1) (fun _=>0)
    case atStart=>rfl
    case round=>
     subst hrel
     go_wp2_with fail
     go_ret
     exact⟨0,rfl,HB.out,fun _=>A2.out,fun h=>aa⟩
   | some ad=>
    obtain⟨g3,rfl,D2⟩: ∃g,ad=⟨g,0,none⟩∧w.heap.size≤g:=by
     rcases hO.2 with⟨h,-⟩ | ⟨g,c,cur,h,hb,-⟩
     ·cases h
     ·cases h;exact⟨g,rfl,hb⟩
    have HS:=MI (sort88 _ g3 i c3 B5 ts wr ⟨hO,A4⟩)
    unfold Fg at HS
    clear hO
    go_upto_region 14 with(go_at_call 88;refine HS.out.mono ?_;rintro e w3 ⟨rfl,⟨z3,B2⟩,B3⟩)
    have HZ:=MI B2
    have B4:Hid (∀m,Below w.heap.size w (w3.drewN m)):=fun m=>below_drewN (((ag.au (S:=fun _=>False) HB.out Me).andThen B3 (fun q hq e=>aa)).aW Me (fun _ _ e=>e)) m
    clear B2 B3 HS HB
    go_loopw [7] (fun v7 wx=>∃j m:Nat,1≤j∧j≤i+1∧v7= .int .i64 (j:Int)∧wx=w3.drewN m) (fun v7 _=>i+1 - aC v7)
    case atStart=>exact⟨1,0,aa,aa,rfl,rfl⟩
    case round=>
     obtain⟨j,m,D3,D4,rfl,rfl⟩:=hrel
     by_cases C6:j<i
     ·have C8:(j:Int)<(i:Int):=aa
      obtain⟨k,hk⟩: ∃k,j=k+1:=⟨j - 1,aa⟩
      obtain⟨t1,h1⟩:=HZ.out.cell (i:=j) C6
      obtain⟨t2,h2⟩:=HZ.out.cell (i:=k) aa
      have e1:IntKind.i64.wrap ((j:Int) - 1)=(k:Int):=by rw[IntWalk.i64_in _ aa];omega
      have D5:k<i:=aa
      have c1: ∀m,(w3.drewN m).cell? ⟨g3,j,none⟩=some (.string t1):=fun m=>h1
      have c2: ∀m,(w3.drewN m).cell? ⟨g3,k,none⟩=some (.string t2):=fun m=>h2
      have c10:=c1 m
      have c20:=c2 m
      have HJ:=MI hk
      clear hk h1 h2
      go_upto_region 16 with fail
      go_cut [45] (fun v wx=>∃r:Bool,v= .bool r∧∃m',wx=w3.drewN m')
      case first=>
       go_quiet (fail)
       go_wp2_with fail
       go_meet
       exact⟨_,rfl,_,World.drewN_drewN _ _ _⟩
      case rest=>
       obtain⟨r,rfl,m',rfl⟩:=hcut
       go_upto_if 45 with fail
       cases r with
       | true=>
        go_wp2_with fail
        go_ret
        exact⟨11,rfl,B4.out m',⟨fun h=>absurd h aq,fun h=>aa⟩⟩
       | false=>
        go_wp2_with fail
        exact⟨⟨j+1,m',aa,aa,aD,rfl⟩,by simp[aC];omega⟩
     ·have D6:¬(j:Int)<(i:Int):=aa
      go_wp2_with fail
      go_ret
      exact⟨0,rfl,B4.out m,fun _=>A2.out,fun _ _=>rfl⟩
theorem srL_get{w:World}{g:Nat}{L:List Sr}(h: ∀i,i<L.length→w.rangeAt g (i*6) (srV (L.getD i sr0))): ∀j u,(L.flatMap srV)[j]? =some u→w.cell? ((⟨g,0,none⟩:Addr).add j)=some u:=fun j u hu=>by
 have hj:j<L.length*6:=by have:=(List.getElem?_eq_some_iff.1 hu).1;rwa [FN] at this
 have h1:=h (j/6) aa (j%6) u (by
  rw[←zC L (j/6) aa,List.getElem?_take,if_pos aa,List.getElem?_drop,show j/6*6+j%6=j by omega]
  exact hu)
 rw[add0,Nat.zero_add]
 rwa [show j/6*6+j%6=j by omega] at h1
theorem srL_one(L:List Sr): ∀v ∈ L.flatMap srV,v.oneCell'=true:=fun v hv=>by
 obtain⟨s,-,hs⟩:=List.mem_flatMap.1 hv
 unfold srV at hs
 simp only[List.mem_cons,List.not_mem_nil,or_false] at hs
 rcases hs with rfl | rfl | rfl | rfl | rfl | rfl<;>rfl
theorem rC.smr{w:World}{B g n cap:Nat}{L:List Sr}(h:rC w B g n cap L)(hn:n<12)(hk: ∀s ∈ L,wW w s):SmR w (some ⟨g,0,none⟩) n L:=⟨h.2,hn,fun i hi=>⟨g,rfl,h.row hi⟩,hk⟩
def SamP(n:Nat)(L:List Sr)(w:World)(e:Ending)(w':World):Prop:=∃ao cap L',e= .returned (.slice ao n cap)∧Below w.heap.size w w'∧SmR w' ao n L'∧∀s ∈ L',s ∈ L
theorem CX(cap:Nat)(w:World):Calls Tryz.prog 89 #[.slice none 0 cap] w (fun e w'=>e= .returned (.slice none 0 0)∧w=w'):=by
 have heq: ∀W,(binOp .eql 22 (.slice none 0 cap) (.slice none 0 0)).run Tryz.prog W= .ok (.bool true) W:=fun W=>Lib.run_eql_slice_nil W 22 76 _ _ _ _ _ Tryz.underlying22
 go_enter Tryz.func89,Tryz.ntmps89
 go_wp2_with fail
 go_ret
 exact⟨rfl,rfl⟩
theorem DN(ao:Option Addr)(n cap:Nat)(L:List Sr)(I:n=0→ao=none)(w:World)(h:SmR w ao n L):Calls Tryz.prog 56 #[.slice ao n cap] w (SamP n L w):=by
 have H:=MI h
 have hl:=h.len
 have hn:=h.n12
 by_cases U:n=0
 ·obtain rfl:=I U
  subst U
  have h1:=MI (CX cap w)
  have h2:=MI (DK 0 w)
  obtain rfl:L=[]:=List.eq_nil_of_length_eq_zero hl
  clear h I
  go_enter Tryz.func56,Tryz.ntmps56
  go_wp2_with (first | (go_at_call 89;refine h1.out.mono ?_;rintro e w2 ⟨rfl,rfl⟩) | (go_at_call 90;refine h2.out.mono ?_;rintro e w2 ⟨rfl,rfl⟩))
  go_ret
  exact⟨none,0,[],rfl,Below.refl _ _,H.out,fun s h=>h⟩
 ·obtain⟨g,rfl,-⟩:=h.row 0 aa
  have hc:=MI (CY g cap n aa aa (L.flatMap srV) (by rw[FN,hl]) (srL_one L) w (srL_get (fun i hi=>by
   obtain⟨g2,j,h2⟩:=h.row i aa
   cases j
   exact h2)))
  unfold Pg at hc
  clear h I
  go_enter Tryz.func56,Tryz.ntmps56
  go_upto_region 2 with(go_at_call 89;refine hc.out.mono ?_;rintro e w2 ⟨g2,c2,rfl,J,A0⟩)
  have hS:=MI (sort90 _ g2 n c2 aa L w2 ⟨J,hl⟩)
  have j:w.heap.size≤g2:=jH J rfl
  unfold Fh at hS
  clear hc J
  go_wp2_with (go_at_call 90;refine hS.out.mono ?_;rintro e w3 ⟨rfl,⟨L',A1,R⟩,A2⟩)
  go_ret
  have o:Below w.heap.size w w3:=((ag.au (S:=fun _=>False) A0 Me).andThen A2 (fun q hq e=>aa)).aW Me (fun _ _ e=>e)
  exact⟨_,c2,L',rfl,o,A1.smr hn (fun s hs=>(H.out.ok s (R s hs)).aj o),R⟩
def PlcO(size:Nat)(ms:List Mt)(db n:Nat)(w:World)(e:Ending)(w':World):Prop:=e= .returned (.int .i64 ((upZ (plA size ms n) 64:Nat):Int))∧(0<n→PlS w' db n (plL size ms n))∧ag (fun k=>k=db) w w'
theorem place_o(size:Nat)(hs:size≤96)(ms:List Mt)(n:Nat)(hn:n≤64)(I:ms.length=n)(hm: ∀i,i<n→(ms.getD i m0).len≤1048576∧(ms.getD i m0).ch≤2){B:Nat}{ao:Option Addr}{cap:Nat}{w:World}(h:w.ownsRow B 54 9 (.slice ao n cap) n (ms.flatMap aV)): ∃db,B≤db∧(0<n→ao=some ⟨db,0,none⟩)∧Calls Tryz.prog 50 #[.slice ao n cap,.int .i64 size] w (PlcO size ms db n w):=by
 by_cases h0:n=0
 ·subst h0
  have J:ms=[]:=List.eq_nil_of_length_eq_zero I
  subst J
  refine⟨B,Me,fun h=>absurd h aq,(wQ ao size cap w).mono ?_⟩
  rintro e w' ⟨rfl,rfl⟩
  exact⟨by rw[show upZ (plA size [] 0) 64=64 by show upZ 20 64=64;decide];rfl,fun h=>absurd h aq,ag.refl _ _⟩
 ·obtain⟨b,cap2,hv,hb,hp⟩:=vF h h0
  cases hv
  refine⟨b,hb,fun _=>rfl,(wR size hs ms n hn I hm b cap w hp).mono ?_⟩
  rintro e w' ⟨rfl,h1,h2⟩
  exact⟨rfl,fun _=>h1,h2⟩
def PkX(s:Sr)(l:List Int)(size:Nat):Prop:=sZ ((plL size [dB s] 1).getD 0 m0) l size
def PkZ(s:Sr)(l:List Int)(size:Nat):List Int:=nT (uf (List.replicate (upZ (plA size [dB s] 1) 64) 0) ((plL size [dB s] 1).getD 0 m0) l size) (plL size [dB s] 1) size
def OY(size:Nat)(L:List Sr)(w:World)(e:Ending)(w':World):Prop:=∃(ao:Option Addr)(LL cap:Nat)(err:Int),e= .returned (.tuple #[.slice ao LL cap,.int .i64 err])∧Below w.heap.size w w'∧(err=0→LL≤60000∧∃ib zs,ao=some ⟨ib,0,none⟩∧cap=LL∧w.heap.size≤ib∧zs.length=LL∧W8 zs∧Blk .u8 w' ib 5 zs∧(∀s l,L=[s]→s.cs=[l]→PkX s l size→zs=PkZ s l size))∧(∀s l,L=[s]→s.cs=[l]→kR s→PkX s l size→err=0)
theorem pk_err{size:Nat}{L:List Sr}{w w':World}(hb:Below w.heap.size w w'){err:Int}(h0:err≠0)(hx: ∀s l,L=[s]→s.cs=[l]→kR s→PkX s l size→False){v:Value}(hv:v= .tuple #[.slice none 0 0,.int .i64 err]):OY size L w (.returned v) w':=
 ⟨none,0,0,err,by rw[hv],hb,fun h=>absurd h h0,fun s l h1 h2 h3 h4=>(hx s l h1 h2 h3 h4).elim⟩
theorem oneL_of{L L':List Sr}{n:Nat}(h:L.length=n)(h':L'.length=n)(hs: ∀s ∈ L',s ∈ L){s:Sr}(e:L=[s]):L'=[s]:=by
 subst e
 simp at h
 subst h
 match L',h' with
 | [a],_=>
  have:=hs a ar
  rw[List.mem_singleton] at this
  rw[this]
theorem xh(L:List Sr)(i:Nat)(hi:i<L.length):((L.take (i+1)).map dB).flatMap aV=((L.take i).map dB).flatMap aV++aV (dB (L.getD i sr0)):=by
 rw[List.take_add_one,List.map_append,List.flatMap_append,List.getElem?_eq_getElem hi]
 simp[List.getD,hi]
theorem Ed(size:Nat)(O2:24≤size)(A9:size≤96)(ao:Option Addr)(n cap:Nat)(L:List Sr)(I8:n=0→ao=none)(F5: ∀s ∈ L,∀l ∈ s.cs,l.length≤150)(w:World)(h:SmR w ao n L):Calls Tryz.prog 19 #[.int .i64 (size:Int),.slice ao n cap] w (OY size L w):=by
 have H:=MI h
 have N8:=h.n12
 have F6:=h.len
 have F7:=MI F5
 have F8:=MI (EU (size:Int) aa aa w)
 have F9:=MI (fun w' (err:Int) hb h0 hx v hv=>pk_err (size:=size) (L:=L) (w:=w) (w':=w') hb (err:=err) h0 hx (v:=v) hv)
 clear h F5
 go_enter Tryz.func19,Tryz.ntmps19
 go_upto_region 4 with(go_at_call 54;refine F8.out.mono ?_;rintro e w1 ⟨cb,rfl,D2,O3,hC⟩)
 have A2:=MI (wK ao n cap L w1 (H.out.aj D2))
 have D3:=MI D2
 have HC:=MI hC
 clear D2 hC
 go_upto_region 5 with(go_at_call 55;refine A2.out.mono ?_;rintro e w2 ⟨err,rfl,A1,G0,G1⟩)
 have B0:=MI (D3.out.trans (A1.mono D3.out.size))
 have G2:=MI (HC.out.aj A1)
 have G3:=MI G0
 have G4:=MI G1
 clear A1 G0 G1
 by_cases he:err=0
 case neg=>
  have K2:(err==0)=false:=by simpa using he
  go_wp2_with fail
  go_ret2
  exact F9.out _ err B0.out he (fun s l h1 h2 h3 h4=>he (G4.out (by rw[←F6,h1];rfl) (fun x hx=>by rw[h1,List.mem_singleton] at hx;rw[hx];exact h3))) _ rfl
 subst he
 have G5:Hid (∀s ∈ L,SmS s):=fun s hs=>⟨G3.out rfl s hs,F7.out s hs⟩
 have G6:=MI (DN ao n cap L I8 w2 (H.out.aj B0.out))
 go_upto_region 10 with(go_at_call 56;refine G6.out.mono ?_;rintro e w3 ⟨ao3,c3,L',rfl,D4,D5,B8⟩)
 have G7:=MI (B0.out.trans (D4.mono B0.out.size))
 have K3:=MI (G2.out.aj D4)
 have I:=D5.len
 have G8:=MI D5
 have A7:Hid (∀s ∈ L',SmS s):=fun s hs=>G5.out s (B8 s hs)
 have D6:Hid (∀s,L=[s]→L'=[s]):=fun s e=>oneL_of F6 I B8 e
 obtain⟨ie,K4,K5,B9,-⟩:=info_parts Gv
 have K6:¬1*ie.size>2^24:=by rw[B9];decide
 have K7:¬1*ie.size=0:=by rw[B9];decide
 have B1:=MI (fun m=>fill54 m)
 rw[←B9] at B1
 have J: ∀s,(Tryz.prog.info? 76).map (·.size)=some (srA s).size:=fun s=>by kernel_rfl
 have o: ∀s,(srA s).all (·.oneCell')=true:=fun s=>by kernel_rfl
 have A3: ∀s,(Tryz.prog.info? 76).map (·.size)=some (srV s).length:=fun s=>by kernel_rfl
 clear D4 D5 B8 D3 B0 HC G2 F8 A2 G6 G3 G4 G5 F7 H
 go_loopw [9,34] (fun v9 v34 wr=>∃i:Nat,i≤n∧v34= .int .i64 (i:Int)∧wr.ownsRow w3.heap.size 54 9 v9 i (((L'.take i).map dB).flatMap aV)∧Below w3.heap.size w3 wr) (fun _ v34 _=>n - aC v34)
 case atStart=>exact⟨0,aa,rfl,World.ownsRow_nil _ _ _ _,Below.refl _ _⟩
 case round=>
  obtain⟨i,hi,rfl,hO,hB⟩:=hrel
  obtain⟨a9,c9,rfl⟩:=dh hO
  by_cases K8:i<n
  ·have N9:(i:Int)<(n:Int):=aa
   have D7:=G8.out.aj hB
   obtain⟨g3,rfl,hr⟩:=D7.row i K8
   have U:L'.getD i sr0 ∈ L':=uN aa
   have G9:=D7.ok _ U
   have A4:=MI (A7.out _ U)
   have K9:=MI (xh L' i aa)
   have HO:=MI hO
   have HB:=MI hB
   clear U D7 hO hB
   generalize L'.getD i sr0=s at*
   have A3:=A3 s
   have J:=J s
   have o:=o s
   have C2:=A4.out.ls
   have F3:=B1.out (dB s)
   go_upto_region 12 with(first
    | ((with_reducible refine MC 76 36 ?_);refine wpList_load_mid rfl 76 (.tmp 36) rfl g3 (i*6) rfl (srV s) _ hr Tryz.underlying76 rfl A3 ?_;rw[show(srV s).toArray=srA s from rfl])
    | ((with_reducible refine MF 76 11 37 ?_);refine wpList_store_row rfl 76 (.tmp 11) (.tmp 37) rfl _ (srA s) rfl rfl 76 (Z76) (L9 _ _) J rfl o ?_))
   have R:Below wr.heap.size wr ((wr.alloc (.cells Z76 76)).setRow wr.heap.size (srA s)):=below_setRow (ae wr (.cells Z76 76)) Me _
   have C3:=Md (srA s) (L9 wr (.cells Z76 76))
   have H0:=G9.aj R
   change Code.wp _ _ _ _ ((wr.alloc (.cells Z76 76)).setRow wr.heap.size (srA s))
   generalize (wr.alloc (.cells Z76 76)).setRow wr.heap.size (srA s)=X at*
   have hP:=MI (Et s C2.1.1 C2.2.1.1 C2.2.2.1 X H0)
   have B2:=MI R
   clear H0 hr R C2 G9
   go_wp2_with (first
    | ((with_reducible refine MC 76 11 ?_);refine wpList_load_row rfl 76 (.tmp 11) rfl wr.heap.size rfl 76 (srA s) (0,0) _ C3 Tryz.underlying76 rfl J ?_)
    | (go_at_call 57;refine hP.out.mono ?_;rintro e w2 ⟨rfl,A1⟩;have H2:=ae w2 (.cells (aF (dB s)) 54);have L0:=L9 w2 (.cells (aF (dB s)) 54);have D8:=(B2.out.trans (A1.mono B2.out.size)).trans (H2.mono (B2.out.trans (A1.mono B2.out.size)).size);have L1:=aQ HO.out D8;have H3:=bD HB.out D8;have J0:=H3.size;have F4:=E8 L0;clear H2 A1 D8)
    | ((with_reducible show wpList _ _ _ (Oper.mk _ (Op.buildSlice 87 _ _) _ _ _ _::_) _ _);refine wpList_buildSlice rfl 87 54 1 _ rfl (aF (dB s)) ie (.agg #[.string ⟨#[]⟩,(),(),(),.bool false,(),(),(),()]) Tryz.underlying87 K4 K5 K6 K7 (Eq.trans (congrArg (Instr.fill _ _) (show _=[(0,Value.agg (aF (dB s)))] by kernel_rfl)) F3) ?_)
    | (at_builtin;refine dU rfl (.tmp 38) (.tmp 41) 87 54 9 rfl Tryz.underlying87 Gv rfl aq w3.heap.size _ i _ rfl L1 ⟨w2.heap.size,0,none⟩ 1 1 (aV (dB s)) rfl rfl F4 (I9 (dB s)) aa aE J0 ?_;intro v26 w5 L2 L3))
   have L4: ∀z,(Value.slice a9 i c9).ownBlock=some z→w3.heap.size≤z:=fun z hz=>jH HO.out hz
   have A5:Below w3.heap.size w3 w5:=((ag.au (S:=fun _=>False) H3 Me).andThen L3 (fun z hz e=>by have:=L4 z e;omega)).aW Me (fun _ _ e=>e)
   exact⟨⟨i+1,aa,aD,by rw[K9.out];exact L2,A5⟩,by simp[aC];omega⟩
  ·obtain rfl:i=n:=aa
   rw[List.take_of_length_le aa] at hO
   have HB:=MI hB
   obtain⟨db,O4,H4,C4⟩:=place_o size A9 (L'.map dB) i aa (by rw[List.length_map];exact I) (fun k hk=>by
    rw[Es L' aa]
    have hs:=A7.out _ (uN (L:=L') (i:=k) aa)
    exact⟨by have:=hs.len.2;show gQ _≤_;omega,hs.ck.2.2.1.1.2⟩) hO
   unfold PlcO at C4
   obtain⟨J1,C0,H5⟩:=pkf size A9 L' aa A7.out i I.symm
   have C5:=MI H5
   have H6:Hid (∀s,L'=[s]→upZ (plA size (L'.map dB) i) 64=upZ (plA size [dB s] 1) 64∧plL size (L'.map dB) i=plL size [dB s] 1):=fun s e=>by
    subst e
    simp at I
    subst I
    exact⟨rfl,rfl⟩
   clear hO hB H5
   generalize upZ (plA size (L'.map dB) i) 64=LL at*
   have J2:(plL size (L'.map dB) i).length=i:=by rw[plL_len _ _ _ (by rw[List.length_map];omega),List.length_map];exact I
   generalize plL size (L'.map dB) i=ms at*
   have C4:=MI C4
   go_upto_region 15 with(go_at_call 50;refine C4.out.mono ?_;rintro e w4 ⟨rfl,D9,H7⟩)
   have H8:=MI D9
   have C6:=MI (HB.out.trans (H7.aW HB.out.size (fun k hk e=>by have e2:k=db:=e;omega)))
   clear D9 H7 HB
   have O0:¬(4194304:Int)<(LL:Int):=aa
   go_upto_region 17 with fail
   obtain⟨i5,J3,J4,J5,J6⟩:=(show ∃i5:TypeInfo,Tryz.prog.info? 5=some i5∧i5.zero=some (.int .u8 0)∧i5.size=1∧i5.bytes=1 from⟨_,rfl,rfl,rfl,rfl⟩)
   go_upto_region 19 with(at_make;refine wpList_make_full _ rfl _ _ 63 rfl w4.heap.size 5 _ _ _ Tryz.underlying63 J3 J4 J5 _ _ _ _ LL rfl rfl rfl rfl (by rw[J6];omega) aE Me ?_;intro w5 E0 C7)
   have A5:Below w4.heap.size w4 w5:=((ag.refl (fun _=>False) w4).grown C7 (fun k hk=>by cases hk)).aW Me (fun _ _ e=>e.elim)
   have L5:=MI (qN E0)
   have J7:Hid (0<i→PlS w5 db i ms):=fun h0=>(H8.out h0).aj A5
   have H9:=MI (G8.out.aj C6.out)
   have B3:=MI (G7.out.trans (C6.out.mono G7.out.size))
   have L6:=MI ((K3.out.aj C6.out).aj A5)
   have J8:=MI A5
   clear E0 C7 A5 H8 C6
   go_loopw [53] (fun v53 wr=>∃(k:Nat)(zk:List Int),k≤i∧v53= .int .i64 (k:Int)∧zk.length=LL∧W8 zk∧Blk .u8 wr w4.heap.size 5 zk∧Hid (0<i→PlS wr db i ms)∧Hid (mF wr cb (size:Int))∧Below w4.heap.size w4 wr∧Hid (∀s l,L'=[s]→s.cs=[l]→sZ (ms.getD 0 m0) l size→(k=0→zk=List.replicate LL 0)∧(k=1→zk=uf (List.replicate LL 0) (ms.getD 0 m0) l size))) (fun v53 _=>i - aC v53)
   case atStart=>exact⟨0,List.replicate LL 0,aa,rfl,List.length_replicate,(fun z hz=>by rw[(List.mem_replicate.1 hz).2];rfl),L5.out,J7.out,L6.out,J8.out,fun s l h1 h2 h3=>⟨fun _=>rfl,fun e=>by cases e⟩⟩
   case round=>
    obtain⟨k,zk,hk,rfl,E1,E2,B4,E3,A2,B5,C8⟩:=hrel
    by_cases E4:k<i
    ·have O1:(k:Int)<(i:Int):=aa
     obtain⟨g3,rfl,hr⟩:=(H9.out.aj B5).row k E4
     have U:L'.getD k sr0 ∈ L':=uN aa
     have A4:=MI (A7.out _ U)
     have L7:=MI (H9.out.ok _ U)
     have E5:=C5.out k E4
     have L8:Hid (∀s,L'=[s]→k=0∧L'.getD k sr0=s∧ms.getD k m0=ms.getD 0 m0):=fun s e=>by
      have h1:i=1:=by rw[←I,e];rfl
      obtain rfl:k=0:=aa
      exact⟨rfl,by rw[e];rfl,rfl⟩
     have A8:=E3.out aa
     obtain rfl:=H4 aa
     have C9:=A8.range E4
     have A8:=MI A8
     clear U
     generalize L'.getD k sr0=s at*
     generalize M0:ms.getD k m0=m at*
     clear M0
     have A3:=A3 s
     have J:=J s
     have o:=o s
     have I0:=MI B4
     have M1:=MI A2.out
     have M3:=MI B5
     clear B4 A2 B5
     go_upto_region 21 with(first
      | ((with_reducible refine MC 76 56 ?_);refine wpList_load_mid rfl 76 (.tmp 56) rfl g3 (k*6) rfl (srV s) _ hr Tryz.underlying76 rfl A3 ?_;rw[show(srV s).toArray=srA s from rfl])
      | ((with_reducible refine MF 76 15 57 ?_);refine wpList_store_row rfl 76 (.tmp 15) (.tmp 57) rfl _ (srA s) rfl rfl 76 (Z76) (L9 _ _) J rfl o ?_))
     have R:Below wr.heap.size wr ((wr.alloc (.cells Z76 76)).setRow wr.heap.size (srA s)):=below_setRow (ae wr (.cells Z76 76)) Me _
     have C3:=Md (srA s) (L9 wr (.cells Z76 76))
     have J9:=I0.out.lt
     obtain⟨xb,C1⟩: ∃xb,xb=wr.heap.size:=⟨_,rfl⟩
     change Code.wp _ _ _ _ ((wr.alloc (.cells Z76 76)).setRow wr.heap.size (srA s))
     generalize (wr.alloc (.cells Z76 76)).setRow wr.heap.size (srA s)=X at*
     have B6:=I0.out.aj R
     have E6:=A8.out.aj R
     have D0:=M1.out.aj R
     have B7:Below w4.heap.size w4 X:=bD M3.out R
     have C9:=fun j v hv=>(R.cell (World.block_lt_of_cell? wr _ (C9 j v hv))).trans (C9 j v hv)
     have E7:=MI (Jc w4 w4.heap.size LL LL cb size aa A9 m s (gQ s) (by have:=A4.out.len;omega) (by have:=A4.out.len;omega) E5.ch A4.out.ck.2.2.1.1.2 A4.out.ck.2.2.2.2.1 zk Me C0 E5.f E5.s4 X.drew B7.drew Me (fun W hk=>L7.out.aj (B7.drew.trans (hk.aW B7.drew.size (fun k hk e=>by have e2:k=w4.heap.size:=e;omega)))) B6 E1 E2 ⟨D0.row⟩)
     have K0:(Tryz.prog.info? 54).map (·.size)=some (aV m).length:=af
     have B2:=MI B6
     have I1:=MI E6
     have I2:=MI D0
     have E9:=MI B7
     have M4:xb≠w4.heap.size:=fun e=>by omega
     rw[←C1] at C3
     have I3:db≠w4.heap.size:=fun e=>aI E6.2.choose_spec.1 B6 aq e
     have M5:cb≠w4.heap.size:=fun e=>aI D0.row B6 aq e
     rw[←C1]
     clear B6 E6 D0 B7 R hr C1 J9
     refine wp_region_noPanic ?_
     refine wp_region_held_drew (S:=fun w'=>w'.heap[xb]? =some (.cells (srA s) 76 (0,0))∧w'.rangeAt db (k*9) (aV m)) af ?_ (fun A0=>?_)
     ·exact⟨C3,C9⟩
     refine ba 0 ?_
     try simp only[Act.put,aS]
     refine ba 1 ?_
     try simp only[Act.put,aS]
     refine ba 2 ?_
     try simp only[Act.put,aS]
     refine ba 3 ?_
     try simp only[Act.put,aS]
     refine ba 6 ?_
     try simp only[Act.put,aS]
     refine wpAnyH_take (i:=4) (v:=.agg (aF m)) rfl af af af (fun _ _ _ h=>h) (yieldsIf_load_mid af 54 (.tmp 61) rfl db (k*9) rfl (aV m) _ (fun w h=>h.2) Tryz.underlying54 rfl K0) aw ?_
     try simp only[Act.put,aS]
     refine wpAnyH_take (i:=5) (v:=.agg (srA s)) rfl af af af (fun _ _ _ h=>h) (aZ af 76 (.tmp 15) rfl xb rfl 76 (srA s) (0,0) _ (fun w h=>h.1) Tryz.underlying76 rfl J) aw ?_
     try simp only[Act.put,aS]
     refine bj 7 (fun K hK=>?_)
     go_simp
     go_at_call 58;refine E7.out.mono ?_;rintro e w6 ⟨zs',err,rfl,M6,M7,I4,A6,I5⟩
     refine hK.out _ _ ?_ (fun A0=>?_)
     ·(try dsimp only);exact⟨A6.heap A0.1 M4,fun j v hv=>A6.cell (A0.2 j v hv) I3⟩
     clear hK K
     try simp only[Act.put,aS]
     refine ba 8 ?_
     try simp only[Act.put,aS]
     refine wpAnyH_done af ?_ _
     refine NoPanic.normal ?_
     have I6:=MI (E9.out.drew.trans (A6.aW E9.out.drew.size (fun k hk e=>by have e2:k=w4.heap.size:=e;omega)))
     have M8:=MI (I1.out.drew.keep A6 I3)
     have M9:Hid (mF w6 cb (size:Int)):=⟨A6.heap (show X.drew.heap[cb]? =_ from I2.out.row) M5⟩
     have I7:Hid (∀s' l,L'=[s']→s'.cs=[l]→sZ (ms.getD 0 m0) l size→err=0∧zs'=uf (List.replicate LL 0) (ms.getD 0 m0) l size):=fun s' l h1 h2 h3=>by
      obtain⟨e1,e2,e3⟩:=L8.out s' h1
      subst e2;subst e3
      have h5:=I5 l h2 h3
      rw[(C8.out s l h1 h2 h3).1 e1] at h5
      exact h5
     have D1:=MI I4
     clear I4 A6 I5 A0 I1 I2 E9 E7 C8
     by_cases he:err=0
     case neg=>
      have K2:(err==0)=false:=by simpa using he
      go_wp2_with fail
      go_ret2
      refine F9.out _ err (B3.out.trans (I6.out.mono B3.out.size)) he (fun s' l h1 h2 h3 h4=>?_) _ rfl
      have h5:=D6.out s' h1
      refine he (I7.out s' l h5 h2 ?_).1
      rw[(H6.out s' h5).2]
      exact h4
     subst he
     go_wp2_with fail
     exact⟨⟨k+1,zs',aa,aD,M6,M7,D1.out,fun _=>M8.out,M9.out,I6.out,fun s' l h1 h2 h3=>⟨fun e=>aa,fun _=>(I7.out s' l h1 h2 h3).2⟩⟩,by simp[aC];omega⟩
    ·obtain rfl:k=i:=aa
     obtain⟨db',K1,F1,F2⟩: ∃db',w4.heap.size≠db'∧(0<k→a9=some ⟨db',0,none⟩)∧(0<k→PlS wr db' k ms):=by
      by_cases h0:0<k
      ·have h1:=E3.out h0
       exact⟨db,fun e=>aI h1.2.choose_spec.1 B4 aq e.symm,H4,fun _=>h1⟩
      ·exact⟨w4.heap.size+1,aa,fun h=>absurd h h0,fun h=>absurd h h0⟩
     have N0:ms.length=k:=J2
     have N1:=MI (EI a9 w4.heap.size LL LL zk E1 Me C0 db' c9 k ms aa N0 (fun j hj=>(C5.out j hj).b) J1 size A9 K1 F1 E2 wr B4 F2)
     have D1:=MI B5
     have N2:Hid (∀s l,L=[s]→s.cs=[l]→PkX s l size→nT zk ms size=PkZ s l size):=fun s l h1 h2 h3=>by
      have h4:=D6.out s h1
      obtain⟨h5,h6⟩:=H6.out s h4
      have h7:k=1:=by rw[←I,h4];rfl
      unfold PkX at h3
      unfold PkZ
      rw[←h6] at h3⊢
      rw[←h5,(C8.out s l h4 h2 h3).2 h7]
     have N3:=MI (NJ E2 ms size A9 (fun j hj=>(C5.out j aa).b))
     have N4:=MI ((Je zk ms size aa (fun j hj=>(C5.out j aa).b)).trans E1)
     clear B4 E3 A2 B5 F2 F1 C8
     go_wp2_with (go_at_call 59;refine N1.out.mono ?_;rintro e w7 ⟨rfl,N5,N6⟩)
     go_ret2
     have N7:Below w4.heap.size w4 w7:=D1.out.trans (N6.aW D1.out.size (fun k hk e=>by have e2:k=w4.heap.size:=e;omega))
     exact⟨_,LL,LL,0,rfl,B3.out.trans (N7.mono B3.out.size),fun _=>⟨C0,w4.heap.size,nT zk ms size,rfl,rfl,B3.out.size,N4.out,N3.out,N5,N2.out⟩,fun _ _ _ _ _ _=>rfl⟩
end Go.Proofs.YtnicjahcgnhogaaGreatDoor
