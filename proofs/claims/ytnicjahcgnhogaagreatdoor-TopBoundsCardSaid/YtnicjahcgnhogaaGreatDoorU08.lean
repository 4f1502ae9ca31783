/- Part 9 of the walk: contracts of the program's functions, each for every input. No condition. -/
import Derived.Test.YtnicjahcgnhogaaGreatDoorU07
set_option linter.unusedVariables false
set_option linter.unusedSimpArgs false
set_option maxRecDepth 100000
set_option maxHeartbeats 8000000
namespace Go.Proofs.YtnicjahcgnhogaaGreatDoor.Cch
open Go Go.RowKit Go.Calli Go.Dskp Go.Maps
attribute [local irreducible] wpStill wpAnyH wpAnyS wpList Code.wp
def uF(b mb:Nat)(ib:Option Addr)(kap m:Nat)(B:List Int)(E:Int)(S:Dk)(w:World)(e:Ending)(w':World):Prop:=∃ro rc,e= .returned (.tuple #[.slice ro B.length rc,.int .i64 E])∧B.length≤rc∧(∃m',m'≤m+1∧Dsk w' b mb ib kap m' S)∧Ints .u8 w' ro B.length B∧(∀a,ro=some a→w.heap.size≤a.block)∧ag (fun k=>k=b∨k=mb) w w'
def wX(b mb:Nat)(ib:Option Addr)(kap m:Nat)(s:Dk)(page:Int)(w:World)(e:Ending)(w':World):Prop:=uF b mb ib kap m (rdB s page) (rdE s page) (rdS s page) w e w'
theorem Dsk.reads{w:World}{b mb:Nat}{ib:Option Addr}{kap m:Nat}{s:Dk}(h:Dsk w b mb ib kap m s)(r:Int):Dsk (w.setCell ⟨b,2,none⟩ (.int .i64 r)) b mb ib kap m {s with r:=r}:=by
 obtain⟨a1,a2,a3,a4,a5,a6⟩:=h
 have hk:ag (fun k=>k=b) w (w.setCell ⟨b,2,none⟩ (.int .i64 r)):=(ag.refl (fun k=>k=b) w).setCell (p:=⟨b,2,none⟩) (.inr rfl) _
 exact⟨Mc a1,a2.kept hk (fun a ha=>(a6 a ha).1),a3,a4.kept hk (fun e=>a5 e.symm),a5,a6⟩
theorem Dsk.later{w W:World}{b mb:Nat}{ib:Option Addr}{kap m:Nat}{s:Dk}(h:Dsk w b mb ib kap m s)(hk:ag (fun k=>k=b) w W){r g:Int}(hb:W.heap[b]? =some (.cells #[.slice ib s.img.length kap,.map (some mb),.int .i64 r,.int .i64 g] 136 (0,0))):Dsk W b mb ib kap m {s with r:=r,g:=g}:=by
 obtain⟨a1,a2,a3,a4,a5,a6⟩:=h
 exact⟨hb,a2.kept hk (fun a ha=>(a6 a ha).1),a3,a4.kept hk (fun e=>a5 e.symm),a5,a6⟩
theorem bu{w:World}{b:Nat}{v0 v1 v2:Value}{T:Nat}(h:w.heap[b]? =some (.cells #[v0,v1,v2] T (0,0))):
  w.cell? ⟨b,0,none⟩=some v0∧w.cell? ⟨b,1,none⟩=some v1∧w.cell? ⟨b,2,none⟩=some v2∧w.frozen? ⟨b,0,none⟩=false∧w.frozen? ⟨b,1,none⟩=false∧w.frozen? ⟨b,2,none⟩=false:=
 ⟨LY h rfl,LY h rfl,LY h rfl,L6 h,L6 h,L6 h⟩
theorem Dsk.lt{w:World}{b mb:Nat}{ib:Option Addr}{kap m:Nat}{s:Dk}(h:Dsk w b mb ib kap m s):b<w.heap.size:=(Array.getElem?_eq_some_iff.1 h.1).1
theorem wI{b mb:Nat}{ib:Option Addr}{kap m:Nat}{s:Dk}(w:World)(h:Dsk w b mb ib kap m s)(r:Int)(v0 v1 v2:Value):
  ∀W,W=(w.setCell ⟨b,2,none⟩ (.int .i64 r)).alloc (.cells #[v0,v1,v2] 245)→W.heap[b]? =some (.cells #[.slice ib s.img.length kap,.map (some mb),.int .i64 r,.int .i64 s.g] 136 (0,0))∧W.heap[w.heap.size]? =some (.cells #[v0,v1,v2] 245 (0,0))∧ag (fun k=>k=b) w W∧w.heap.size≠b:=by
 rintro W rfl
 have hk:ag (fun k=>k=b) w (w.setCell ⟨b,2,none⟩ (.int .i64 r)):=(ag.refl (fun k=>k=b) w).setCell (p:=⟨b,2,none⟩) (.inr rfl) _
 have h1:=h.reads r
 have I:(w.setCell ⟨b,2,none⟩ (.int .i64 r)).heap.size=w.heap.size:=ar
 have ha:=MapKept.heap_alloc (w.setCell ⟨b,2,none⟩ (.int .i64 r)) (.cells #[v0,v1,v2] 245)
 have hb:=(h1.aj (MB.alloc Me (.cells #[v0,v1,v2] 245))).1
 refine⟨hb,?_,hk.alloc _,by have:=h.lt;omega⟩
 have:=ha.1
 rw[I] at this
 exact this
theorem LG(b mb:Nat)(ib:Option Addr)(kap m:Nat)(s:Dk)(hs:s.Ok)(page:Int)(ho:s.out page)(w:World)(h:Dsk w b mb ib kap m s):Calls Tryz.prog 275 #[.pointer (some ⟨b,0,none⟩),.int .i64 page] w (wX b mb ib kap m s page w):=by
 have hW:=oQ b mb ib kap m s hs page w h
 have hB:rdB s page=[]:=if_pos ho
 have hS:rdS s page=s:=if_pos ho
 have hE:rdE s page=5:=if_pos ho
 show Calls _ _ _ _ (uF b mb ib kap m (rdB s page) (rdE s page) (rdS s page) w)
 rw[hB,hS,hE]
 rw[show flE s page=5 from if_pos ho] at hW
 go_enter Tryz.func275,Tryz.ntmps275
 go_wp2_with (go_at_call 135;refine hW.mono ?_;rintro e w' ⟨rfl,rfl⟩)
 go_ret2
 exact⟨none,0,rfl,Me,⟨m,aa,h⟩,Ints.nil _ _ _,(fun a e=>by cases e),ag.refl _ _⟩
theorem LH(b mb:Nat)(ib:Option Addr)(kap m:Nat)(s:Dk)(hs:s.Ok)(hm:m<1000000000)(hr:s.r<1000000000)(page:Int)(U:(Lit.int .i64 page).wf=true)(ho:¬s.out page)(t:Flt)(hF:s.F page=some t)(ht:t.f≠0)(w:World)(h:Dsk w b mb ib kap m s):Calls Tryz.prog 275 #[.pointer (some ⟨b,0,none⟩),.int .i64 page] w (wX b mb ib kap m s page w):=by
 have hW:=oQ b mb ib kap m s hs page w h
 have I:s.t page=t:=by unfold Dk.t;rw[hF];rfl
 have hB:rdB s page=[]:=by unfold rdB;rw[if_neg ho,I,if_pos ht]
 have hS:rdS s page={s with r:=s.r+1,g:=s.g+1,F:=put s.F page (some {t with f:=max (t.f - 1) (-1)})}:=by unfold rdS;rw[if_neg ho,I,if_pos ht]
 have hE:rdE s page=8:=by unfold rdE;rw[if_neg ho,I,if_pos ht]
 show Calls _ _ _ _ (uF b mb ib kap m (rdB s page) (rdE s page) (rdS s page) w)
 rw[hB,hS,hE]
 clear hB hS hE
 rw[show flE s page=0 from if_neg ho] at hW
 obtain⟨c0,c1,c2,c3,f2,f3⟩:=bK h.1
 obtain⟨_,A6,A7,A8,j⟩:=hs
 have o:=j page t hF
 unfold FOk at o
 obtain⟨_,_,tf1,tf2,_,_⟩:=o
 have A2:=MI (h.reads (s.r+1))
 have J:=A2.out.2.2.2.1.look_ok law3 Tryz.underlying3 Tryz.underlying134 zh U
 simp only[hF,Option.getD_some,Option.isSome_some] at J
 unfold ug at J
 have e1:IntKind.i64.wrap (s.r+1)=s.r+1:=IntWalk.i64_in _ aa
 have e2:IntKind.i64.wrap (s.g+1)=s.g+1:=IntWalk.i64_in _ aa
 have e3:IntKind.i64.wrap (t.f - 1)=t.f - 1:=IntWalk.i64_in _ aa
 clear j
 have A5:(t.f !=0)=true:=by simpa using ht
 go_enter Tryz.func275,Tryz.ntmps275
 go_upto_region 7 with(go_at_call 135;refine hW.mono ?_;rintro e w' ⟨rfl,rfl⟩)
 obtain⟨x1,x2,x3,x4⟩:=wI w h (s.r+1) _ _ _ _ rfl
 obtain⟨y0,y1,y2,y3,y4,y5⟩:=bK x1
 obtain⟨z0,z1,z2,z3,z4,z5⟩:=bu x2
 generalize (w.setCell _ _).alloc _=w2 at*
 clear J c0 c1 c2 c3 f2 f3
 go_upto_region 9 with fail
 obtain⟨f',R⟩: ∃f',f'=max (t.f - 1) (-1):=⟨_,rfl⟩
 have A0:(if t.f - 1< -1 then -1 else t.f - 1)=f':=by rw[R];split<;>omega
 rw[A0]
 have A3:=MI R
 clear A0 R y0 y1 y2 y3 y4 y5 z0 z1 z2 z3 z4 z5
 have X1:=(heap_setCell_other (w2.setCell ⟨b,3,none⟩ (.int .i64 (s.g+1))) ⟨w.heap.size,0,none⟩ b (.int .i64 f') (Ne.symm x4)).trans (heap_setCell_same _ _ _ _ _ (.int .i64 (s.g+1)) x1)
 have X2:=heap_setCell_same (w2.setCell ⟨b,3,none⟩ (.int .i64 (s.g+1))) _ 0 _ _ (.int .i64 f') ((heap_setCell_other w2 ⟨b,3,none⟩ w.heap.size (.int .i64 (s.g+1)) x4).trans x2)
 have X3:=(x3.setCell (p:=⟨b,3,none⟩) (.inr rfl) (.int .i64 (s.g+1))).setCell (p:=⟨w.heap.size,0,none⟩) (.inl Me) (.int .i64 f')
 generalize (w2.setCell ⟨b,3,none⟩ (.int .i64 (s.g+1))).setCell ⟨w.heap.size,0,none⟩ (.int .i64 f')=W at*
 have hD:=(h.later X3 X1).drew
 obtain⟨y0,y1,y2,y3,y4,y5⟩:=bK X1
 obtain⟨z0,z1,z2,z3,z4,z5⟩:=bu X2
 go_still_tail 6,af
 repeat still_step
 try refine wpStill_nil ?_
 change wpList _ _ _ _ _ W.drew
 refine iE (T:=134) (K:=3) (e:=245) rfl _ _ _ rfl law3 Tryz.underlying3 Tryz.underlying134 rfl hD.2.2.2.1 aE page ⟨f',t.a,t.x⟩ rfl rfl U ?_;intro w4 A4 A1
 go_wp2_with fail
 go_ret2
 exact⟨none,0,rfl,Me,⟨m+1,aa,by rw[←A3.out];exact hD.stored A4 A1⟩,Ints.nil _ _ _,(fun a e=>by cases e),(X3.drew.mono fun _ _=>Or.inl).andThen A1 fun _ _=>Or.inr⟩
theorem Ints.of_heap{k:IntKind}{w:World}{g:Nat}{zs:List Int}{e:Nat}{fr:Nat×Nat}(h:w.heap[g]? =some (.cells (zs.map (Value.int k)).toArray e fr))(hm:zs.length≤maxLen)(hw: ∀z ∈ zs,(Lit.int k z).wf=true):Ints k w (some ⟨g,0,none⟩) zs.length zs:=by
 refine⟨rfl,hm,fun i hi=>⟨_,rfl,?_⟩,hw⟩
 rw[add0,LZ h]
 simp[hi]
theorem row_set{k:IntKind}{w:World}{g:Nat}{zs:List Int}{e:Nat}(h:w.heap[g]? =some (.cells (zs.map (Value.int k)).toArray e (0,0)))(i:Nat)(v:Int):(w.setCell ⟨g,i,none⟩ (.int k v)).heap[g]? =some (.cells ((zs.set i v).map (Value.int k)).toArray e (0,0)):=by
 rw[Mc h]
 simp[List.map_set]
theorem qE(img:List Int)(p:Nat):(pgB img p).length=64:=by simp[pgB]
theorem pgB_wf{img:List Int}(h: ∀z ∈ img,(Lit.int .u8 z).wf=true)(p:Nat): ∀z ∈ pgB img p,(Lit.int .u8 z).wf=true:=by
 intro z hz
 simp only[pgB,List.mem_map] at hz
 obtain⟨i,_,rfl⟩:=hz
 exact uB h aq _
theorem IM(img:List Int)(p:Nat):splice (List.replicate 64 (Value.int .u8 0)) 0 (((img.drop (64*p)).take 64).map (Value.int .u8))=(pgB img p).map (Value.int .u8):=by
 have e:splice (List.replicate 64 (Value.int .u8 0)) 0 (((img.drop (64*p)).take 64).map (Value.int .u8))=(((img.drop (64*p)).take 64)++List.replicate (64 - ((img.drop (64*p)).take 64).length) 0).map (Value.int .u8):=by
  simp only[splice,List.take_zero,List.nil_append,List.drop_replicate,List.length_map,Nat.zero_add,List.map_append,List.map_replicate]
 rw[e]
 congr 1
 apply List.ext_getElem
 ·simp[pgB];omega
 ·intro i h1 h2
  rw[qE] at h2
  simp only[pgB,List.getElem_map,List.getElem_range,List.getElem_append]
  split
  ·rename_i h3
   simp only[List.getElem_take,List.getElem_drop]
   simp at h3
   rw[List.getD_eq_getElem?_getD,List.getElem?_eq_getElem aa];rfl
  ·rename_i h3
   simp at h3
   rw[List.getD_eq_getElem?_getD,List.getElem?_eq_none aa];simp
theorem bx_wf(a x:Int):(Lit.int .u8 (bx a x)).wf=true:=
 wf_bits _ _ _ _
theorem yu(k:IntKind)(z:Int)(n:Nat):(madeCells (Value.int k z).cells n).toList=List.replicate n (.int k z):=by
 apply List.ext_getElem
 ·simp[madeCells]
 ·intro i h1 h2
  simp[madeCells,Value.cells,Nat.mod_one]
theorem own_row{w:World}{base g n:Nat}{xs:List Value}(h:w.ownsRow base 5 1 (.slice (some ⟨g,0,none⟩) n n) n xs)(hx:xs.length=n):w.heap[g]? =some (.cells xs.toArray 5 (0,0)):=by
 rcases h.2 with⟨h1,_⟩ | ⟨g',cap,cur,h1,R,hg,U,j,J,I⟩
 ·cases h1
 ·cases h1
  rw[hg]
  congr 2
  apply Array.toList_inj.1
  have:cur.toList.take (n*1)=xs:=I
  rw[←this,List.take_of_length_le (by simpa using Nat.le_of_eq J)]
theorem Iz(b mb:Nat)(ib:Option Addr)(kap m:Nat)(s:Dk)(hs:s.Ok)(hr:s.r<1000000000)(p:Nat)(B5:(Lit.int .i64 (p:Int)).wf=true)(ho:¬s.out p)(t:Flt)(U:s.t p=t)(ht:t.f=0)(w:World)(h:Dsk w b mb ib kap m s):Calls Tryz.prog 275 #[.pointer (some ⟨b,0,none⟩),.int .i64 p] w (wX b mb ib kap m s p w):=by
 have hW:=oQ b mb ib kap m s hs p w h
 have A0:¬(s.t p).f≠0:=by rw[U];simpa using ht
 have hB:rdB s p=(pgB s.img p).set t.a.toNat (bx ((pgB s.img p).getD t.a.toNat 0) t.x):=by unfold rdB;rw[if_neg ho,if_neg A0,U];rfl
 have hS:rdS s p={s with r:=s.r+1}:=by unfold rdS;rw[if_neg ho,if_neg A0]
 have hE:rdE s p=0:=by unfold rdE;rw[if_neg ho,if_neg A0]
 show Calls _ _ _ _ (uF b mb ib kap m (rdB s p) (rdE s p) (rdS s p) w)
 rw[hB,hS,hE]
 clear hB hS hE
 rw[show flE s p=0 from if_neg ho] at hW
 obtain⟨c0,c1,c2,c3,f2,f3⟩:=bK h.1
 have A6:FOk t:=by rw[←U];exact hs.t p
 obtain⟨D3,D4,D5,D6,B6⟩:=hs
 unfold FOk at A6
 obtain⟨ta0,ta1,tf1,tf2,tx0,tx1⟩:=A6
 have D2:64*p<s.img.length:=by unfold Dk.out Dk.pages at ho;omega
 have B7:=MI (h.reads (s.r+1))
 have J:=B7.out.2.2.2.1.look_ok law3 Tryz.underlying3 Tryz.underlying134 zh B5
 simp only[show(s.F p).getD Flt.zero=t from U] at J
 unfold ug at J
 rw[ht] at J
 obtain⟨D7,hu5⟩: ∃i5:TypeInfo,Tryz.prog.info? 5=some i5∧i5.zero=some (.int .u8 0)∧i5.size=1∧i5.bytes=1:=⟨_,rfl,rfl,rfl,rfl⟩
 have e1:IntKind.i64.wrap (s.r+1)=s.r+1:=IntWalk.i64_in _ aa
 have e2:IntKind.i64.wrap ((p:Int)*64)=(p:Int)*64:=IntWalk.i64_in _ aa
 clear B6
 obtain⟨th,A7⟩: ∃th,th=(s.F p).isSome:=⟨_,rfl⟩
 rw[←A7] at J
 clear A7
 cases th
 all_goals
  go_enter Tryz.func275,Tryz.ntmps275
  go_upto_region 11 with(go_at_call 135;refine hW.mono ?_;rintro e w' ⟨rfl,rfl⟩)
  obtain⟨x1,x2,x3,x4⟩:=wI w h (s.r+1) _ _ _ _ rfl
  generalize (w.setCell _ _).alloc _=w2 at*
  clear J c0 c1 c2 c3 f2 f3
  have hD:=h.later x3 x1
  go_upto_region 12 with(at_make;refine wpList_make_full _ rfl _ _ 63 rfl w2.heap.size 5 _ _ _ Tryz.underlying63 hu5.1 hu5.2.1 hu5.2.2.1 _ _ _ _ 64 rfl rfl rfl rfl (by rw[hu5.2.2.2];decide) (by unfold maxLen;decide) Me ?_;intro w3 A1 I)
  have A8:=x3.grown I (fun k hk=>by cases hk)
  have G3:=own_row A1 (by rw[yu];exact List.length_replicate)
  rw[show(madeCells (Value.int .u8 0).cells (64*1)).toList=List.replicate 64 (Value.int .u8 0) from yu _ _ _] at G3
  have X1:=(I.block b (Array.getElem?_eq_some_iff.1 x1).1 ar).trans x1
  have X2:=(I.block w.heap.size (Array.getElem?_eq_some_iff.1 x2).1 ar).trans x2
  have A9:=MI (h.later A8 X1)
  have B8:w.heap.size<w2.heap.size:=(Array.getElem?_eq_some_iff.1 x2).1
  have B0:b<w2.heap.size:=(Array.getElem?_eq_some_iff.1 x1).1
  clear A1 I hD x1 x2 x3
  obtain⟨y0,y1,y2,y3,y4,y5⟩:=bK X1
  obtain⟨z0,z1,z2,z3,z4,z5⟩:=bu X2
  obtain⟨ia,rfl,B9⟩:=A9.out.2.1.some (by show 0<s.img.length;omega)
  simp only[] at B9
  obtain⟨CS,R⟩: ∃CS,CS=((s.img.drop (64*p)).take 64).map (Value.int .u8):=⟨_,rfl⟩
  have C0:CS.length=min 64 (s.img.length - 64*p):=by rw[R];simp
  have C1: ∀v ∈ CS,v.oneCell'=true:=by rw[R];exact lD _ _
  have C2:Hid (∀j v,CS[j]? =some v→w3.cell? ((ia.add (p*64)).add j)=some v):=by
   intro j v hj
   have hd:=(A9.out.2.1.drop (j:=p*64) (by show p*64≤s.img.length;omega)).row
   rw[R] at hj
   have C3:((s.img.drop (p*64)).map (Value.int .u8))[j]? =some v:=by
    rw[←hj,List.map_take,List.getElem?_take_of_lt (by
     have:=(List.getElem?_eq_some_iff.1 hj).1
     simp at this;omega),Nat.mul_comm]
   obtain⟨a',C4,hc⟩:=hd.cell j v C3
   cases C4;exact hc
  have C5:=MI (show splice (List.replicate 64 (Value.int .u8 0)) 0 CS=(pgB s.img p).map (Value.int .u8) from by rw[R];exact IM _ _)
  have D8:p*64<kap:=by have:=h.2.2.1;omega
  clear R
  go_upto_region 13 with(with_reducible show wpList _ _ _ (Oper.mk (some 65) _ _ _ _ _::_) _ _;refine wpList_copy_splice rfl _ _ 63 63 rfl 5 Tryz.underlying63 af _ _ _ _ _ _ rfl rfl w2.heap.size 0 (List.replicate 64 (Value.int .u8 0)) 5 G3 CS (by rw[C0];show _=min _ _;omega) (fun _=>⟨rfl,_,rfl,C2.out⟩) (by rw[List.length_replicate];omega) C1 w2.heap.size w3 MB Me ?_;intro w4 C6 A2)
  have G4:=C6.out
  rw[C5.out] at G4
  have Y1:=(A2.block b B0).trans X1
  have Y2:=(A2.block w.heap.size B8).trans X2
  have C7:ag (fun k=>k=b) w w4:=A8.below A2 aa
  clear y0 y1 y2 y3 y4 y5 z0 z1 z2 z3 z4 z5
  obtain⟨y0,y1,y2,y3,y4,y5⟩:=bK Y1
  obtain⟨z0,z1,z2,z3,z4,z5⟩:=bu Y2
  obtain⟨ta,A3⟩: ∃ta:Nat,t.a=(ta:Int):=⟨t.a.toNat,aa⟩
  rw[A3] at z1 ta0 ta1
  have B2:ta<64:=aa
  have o:w4.cell? ⟨w2.heap.size,ta,none⟩=some (.int .u8 ((pgB s.img p).getD ta 0)):=by
   rw[LZ G4]
   have:ta<(pgB s.img p).length:=by rw[qE];exact B2
   simp[this]
  have B3:w4.frozen? ⟨w2.heap.size,ta,none⟩=false:=L6 G4
  have B4:(⟨w2.heap.size,0,none⟩:Addr).add ta=⟨w2.heap.size,ta,none⟩:=by rw[add0];simp
  generalize hX:(pgB s.img p).getD ta 0=X at o
  have A4:=o
  have A5:=B3
  rw[←B4] at A4 A5
  have HX:=MI hX
  have C8:=MI A3
  clear hX A3
  try simp only[Act.put,List.setIfInBounds_toArray,List.set_cons_zero,List.set_cons_succ]
  go_still_tail 9,af
  repeat still_step
  try refine wpStill_nil ?_
  change wpList _ _ _ _ _ w4.drew
  go_wp2_with fail
  go_ret2
  have G5:=row_set G4 ta (bits BinOp.xor IntKind.u8 X t.x)
  have C9:=C7.setCell (p:=⟨w2.heap.size,ta,none⟩) (.inl (by show w.heap.size≤w2.heap.size;omega)) (.int .u8 (bits BinOp.xor IntKind.u8 X t.x))
  have B1:=C9.drew
  have D0:=h.later B1 ((heap_setCell_other w4 ⟨w2.heap.size,ta,none⟩ b (.int .u8 (bits BinOp.xor IntKind.u8 X t.x)) (Nat.ne_of_lt B0)).trans Y1)
  have D1:(pgB s.img p).set t.a.toNat (bx ((pgB s.img p).getD t.a.toNat 0) t.x)=(pgB s.img p).set ta (bits BinOp.xor IntKind.u8 X t.x):=by
   rw[C8.out,Int.toNat_natCast,HX.out];rfl
  have hI:=Ints.of_heap (w:=(w4.setCell ⟨w2.heap.size,ta,none⟩ (.int .u8 (bits BinOp.xor IntKind.u8 X t.x))).drew) G5 (by rw[List.length_set,qE];unfold maxLen;omega) (by
   intro z hz
   rcases List.mem_or_eq_of_mem_set hz with hz | rfl
   ·exact pgB_wf h.2.1.wf p z hz
   ·exact bx_wf X t.x)
  have hlen:((pgB s.img p).set ta (bits BinOp.xor IntKind.u8 X t.x)).length=64:=by rw[List.length_set,qE]
  rw[D1]
  rw[hlen] at hI
  exact⟨some ⟨w2.heap.size,0,none⟩,64,by rw[hlen]<;>rfl,by rw[hlen];exact Me,⟨m,aa,D0⟩,by rw[hlen];exact hI,(fun a e=>by cases e;show w.heap.size≤w2.heap.size;omega),B1.mono fun _ _=>Or.inl⟩
theorem ve(b mb:Nat)(ib:Option Addr)(kap m:Nat)(s:Dk)(hs:s.Ok)(hm:m<1000000000)(hr:s.r<1000000000)(page:Int)(I:(Lit.int .i64 page).wf=true)(w:World)(h:Dsk w b mb ib kap m s):Calls Tryz.prog 275 #[.pointer (some ⟨b,0,none⟩),.int .i64 page] w (wX b mb ib kap m s page w):=by
 by_cases ho:s.out page
 ·exact LG b mb ib kap m s hs page ho w h
 ·by_cases ht:(s.t page).f=0
  ·obtain⟨p,rfl⟩: ∃p:Nat,page=(p:Int):=⟨page.toNat,by unfold Dk.out at ho;omega⟩
   exact Iz b mb ib kap m s hs hr p I ho _ rfl ht w h
  ·cases hF:s.F page with
   | none=>exact absurd (by unfold Dk.t;rw[hF];rfl) ht
   | some t=>
    refine LH b mb ib kap m s hs hm hr page I ho t hF ?_ w h
    unfold Dk.t at ht
    rw[hF] at ht
    exact ht
theorem infoByte:(Tryz.prog.info? 5).map (fun i=>(i.zero,i.size,i.bytes))=some (some (.int .u8 0),1,1):=af
def rD(zs:List Int)(w:World)(e:Ending)(w':World):Prop:=∃b mb ib kap,e= .returned (.tuple #[.pointer (some ⟨b,0,none⟩),()])∧Dsk w' b mb ib kap 0 ⟨zs,fun _=>none,0,0⟩∧w.heap.size≤b∧w.heap.size≤mb∧(∀a,ib=some a→w.heap.size≤a.block∧a.block<w'.heap.size)∧Below w.heap.size w w'
theorem bZ{w:World}{b:Nat}{v0 v1 v2 v3 v4 v5 v6 v7:Value}{T:Nat}(h:w.heap[b]? =some (.cells #[v0,v1,v2,v3,v4,v5,v6,v7] T (0,0))):
  w.cell? ⟨b,0,none⟩=some v0∧w.cell? ⟨b,1,none⟩=some v1∧w.cell? ⟨b,2,none⟩=some v2∧w.cell? ⟨b,3,none⟩=some v3∧w.cell? ⟨b,4,none⟩=some v4∧w.cell? ⟨b,5,none⟩=some v5∧w.cell? ⟨b,6,none⟩=some v6∧w.cell? ⟨b,7,none⟩=some v7:=
 ⟨LY h rfl,LY h rfl,LY h rfl,LY h rfl,LY h rfl,LY h rfl,LY h rfl,LY h rfl⟩
theorem Ov(db:Nat)(s r:Int)(hb:s<1∨1024<s∨r<0∨8<r)(w:World):Calls Tryz.prog 41 #[.pointer (some ⟨db,0,none⟩),.int .i64 s,.int .i64 r] w (Same (.tuple #[.pointer none,.int .i64 1]) w):=by
 have hc:s<1∨(1≤s∧1024<s)∨(1≤s∧s≤1024∧r<0)∨(1≤s∧s≤1024∧0≤r∧8<r):=aa
 clear hb
 rcases hc with h1 | ⟨h1,h2⟩ | ⟨h1,h2,h3⟩ | ⟨h1,h2,h3,h4⟩
 all_goals
  go_enter Tryz.func41,Tryz.ntmps41
  go_wp2_with fail
  all_goals go_ret2
  all_goals exact⟨rfl,rfl⟩
theorem Nw:(Tryz.prog.info? 243).map (fun i=>(i.zero,i.size,i.bytes))=some (some (.agg #[(),.bool false,.bool false,.slice none 0 0]),4,40):=af
def qA(n:Nat):Array Value:=madeCells (Value.agg #[(),.bool false,.bool false,.slice none 0 0]).cells (n*4)
theorem Eu(n:Nat)(hn:n≤1024)(w:World):(Instr.makeSlice 154 (.int .i64 (n:Int)) (.int .i64 (n:Int))).run Tryz.prog w= .ok (.slice (some ⟨w.heap.size,0,none⟩) n n) (w.alloc (.cells (qA n) 243)):=by
 obtain⟨i,hi,hz,I,J⟩:=info_parts Nw
 have R:(i.bytes:Int)*(n:Int)≤281474976710656:=by
  have h:((i.bytes*n:Nat):Int)≤281474976710656:=by rw[J];omega
  rwa [Int.natCast_mul] at h
 have hr:=run_make (P:=Tryz.prog) w 154 243 i _ Tryz.underlying154 hi hz .i64 .i64 n n aa (Int.le_refl _) R aa
 simp only[Int.toNat_natCast] at hr
 rw[hr,I]
 rfl
def Dp(db:Nat)(n:Nat)(r:Int)(w:World)(e:Ending)(w':World):Prop:=∃cb sb,e= .returned (.tuple #[.pointer (some ⟨cb,0,none⟩),()])∧w'.heap[cb]? =some (.cells #[(),(),(),(),.pointer (some ⟨db,0,none⟩),.slice (some ⟨sb,0,none⟩) n n,(),.int .i64 r] 156 (0,0))∧w'.heap[sb]? =some (.cells (qA n) 243 (0,0))∧cb≠sb∧w.heap.size≤cb∧w.heap.size≤sb∧Below w.heap.size w w'
theorem Jz(db:Nat)(n:Nat)(r:Int)(h1:1≤n)(h2:n≤1024)(h3:0≤r)(h4:r≤8)(w:World):Calls Tryz.prog 41 #[.pointer (some ⟨db,0,none⟩),.int .i64 n,.int .i64 r] w (Dp db n r w):=by
 have I:=Eu n h2
 obtain⟨Z,hZ⟩: ∃Z,Z=qA n:=⟨_,rfl⟩
 rw[←hZ] at I
 have HZ:=MI hZ
 clear hZ
 go_enter Tryz.func41,Tryz.ntmps41
 go_wp2_with fail
 go_ret2
 obtain⟨d1,d2⟩:=MapKept.heap_alloc (w.alloc (.cells Z 243)) (.cells #[(),(),(),(),.pointer (some ⟨db,0,none⟩),.slice (some ⟨w.heap.size,0,none⟩) n n,(),.int .i64 r] 156)
 have a1:=(MapKept.heap_alloc w (.cells Z 243)).1
 have e1:=(d2 w.heap.size (by rw[World.size_alloc];omega)).trans a1
 rw[World.size_alloc] at d1
 rw[HZ.out] at e1 d1⊢
 exact⟨w.heap.size+1,w.heap.size,rfl,d1,e1,aa,aa,Me,ji (ae _ _) _⟩
structure Slot where
 p:Int
 u:Bool
 f:Bool
 bo:Option Addr
 bn:Nat
 bc:Nat
def Slot.none:Slot:=⟨0,false,false,.none,0,0⟩
def gY(s:Slot):List Value:=[.int .i64 s.p,.bool s.u,.bool s.f,.slice s.bo s.bn s.bc]
def iK(ss:List Slot):List Value:=ss.flatMap gY
theorem Jn(ss:List Slot):(iK ss).length=ss.length*4:=by
 induction ss with
 | nil=>rfl
 | cons m r ih=>simp only[iK,List.flatMap_cons,List.length_append,List.length_cons] at*;rw[ih];simp[gY];omega
theorem yJ(ss:List Slot): ∀(i j:Nat),i<ss.length→j<4→(iK ss)[i*4+j]? =(gY (ss.getD i Slot.none))[j]? :=by
 induction ss with
 | nil=>intro i j hi;simp at hi
 | cons m r ih=>
  intro i j hi hj
  have hl:(gY m).length=4:=rfl
  show(gY m++iK r)[i*4+j]? =_
  cases i with
  | zero=>
   rw[Nat.zero_mul,Nat.zero_add,List.getElem?_append_left aa]
   simp
  | succ i=>
   rw[List.getElem?_append_right aa,hl,show(i+1)*4+j - 4=i*4+j by omega,ih i j (by simpa using hi) hj]
   simp
def jg(w:World)(sb n:Nat)(ss:List Slot):Prop:=ss.length=n∧w.heap[sb]? =some (.cells (iK ss).toArray 243 (0,0))
theorem jg.at_{w:World}{sb n:Nat}{ss:List Slot}(h:jg w sb n ss)(i:Nat)(hi:i<n):
  w.cell? ⟨sb,i*4,none⟩=some (.int .i64 (ss.getD i Slot.none).p)∧w.cell? ⟨sb,i*4+1,none⟩=some (.bool (ss.getD i Slot.none).u)∧w.cell? ⟨sb,i*4+2,none⟩=some (.bool (ss.getD i Slot.none).f)∧w.cell? ⟨sb,i*4+3,none⟩=some (.slice (ss.getD i Slot.none).bo (ss.getD i Slot.none).bn (ss.getD i Slot.none).bc):=by
 obtain⟨hl,hh⟩:=h
 have key: ∀j,j<4→w.cell? ⟨sb,i*4+j,none⟩=(gY (ss.getD i Slot.none))[j]? :=fun j hj=>by
  rw[LZ hh,List.getElem?_toArray]
  exact yJ ss i j aa hj
 exact⟨key 0 aa,key 1 aa,key 2 aa,key 3 aa⟩
theorem jg.kept{w w':World}{sb n:Nat}{ss:List Slot}(h:jg w sb n ss){S:Nat→Prop}(hk:ag S w w')(h0:¬S sb):jg w' sb n ss:=⟨h.1,hk.heap h.2 h0⟩
def qR(ss:List Slot)(page:Int):Nat→Nat→Int
 | 0,_=>-1
 | k+1,i=>if(ss.getD i Slot.none).f=true∧(ss.getD i Slot.none).p=page then(i:Int) else qR ss page k (i+1)
end Go.Proofs.YtnicjahcgnhogaaGreatDoor.Cch
namespace Go.Proofs.YtnicjahcgnhogaaGreatDoor.Cch
open Go Go.RowKit Go.Calli Go.Dskp Go.Maps
def Slot.used(s:Slot):Bool:=s.f&&s.u
def Slot.drop(s:Slot):Slot:={s with u:=false}
def cnt(ss:List Slot):Nat:=(ss.filter Slot.used).length
theorem GX(ss:List Slot): ∀h,h<ss.length→(ss.getD h Slot.none).used=true→cnt (ss.set h (ss.getD h Slot.none).drop)+1=cnt ss:=by
 have hd: ∀s:Slot,s.drop.used=false:=fun s=>by simp[Slot.used,Slot.drop]
 induction ss with
 | nil=>intro h hh;simp at hh
 | cons m r ih=>
  intro h hh hu
  cases h with
  | zero=>
   have I:m.used=true:=hu
   show cnt (m.drop::r)+1=cnt (m::r)
   simp[cnt,List.filter_cons,hd,I]
  | succ h=>
   have:=ih h (by simpa using hh) hu
   show cnt (m::r.set h (r.getD h Slot.none).drop)+1=cnt (m::r)
   unfold cnt at this⊢
   by_cases hm:m.used=true
   ·rw[List.filter_cons_of_pos hm,List.filter_cons_of_pos hm,List.length_cons,List.length_cons];omega
   ·rw[List.filter_cons_of_neg hm,List.filter_cons_of_neg hm];omega
def vic(n:Nat):Nat→List Slot→Nat→Nat×List Slot×Nat
 | 0,ss,h=>(h,ss,(h+1)%n)
 | k+1,ss,h=>if(ss.getD h Slot.none).used=true then vic n k (ss.set h (ss.getD h Slot.none).drop) ((h+1)%n) else(h,ss,(h+1)%n)
theorem J3(n:Nat)(ss:List Slot)(h:Nat)(hh:h<ss.length)(hu:(ss.getD h Slot.none).used=true):vic n (cnt ss) ss h=vic n (cnt (ss.set h (ss.getD h Slot.none).drop)) (ss.set h (ss.getD h Slot.none).drop) ((h+1)%n):=by
 rw[←GX ss h hh hu,vic,if_pos hu]
theorem vic_end(n k:Nat)(ss:List Slot)(h:Nat)(hu:(ss.getD h Slot.none).used=false):vic n k ss h=(h,ss,(h+1)%n):=by
 cases k with
 | zero=>rfl
 | succ k=>rw[vic,if_neg (by rw[hu];decide)]
theorem Jl(ss:List Slot): ∀(h:Nat)(t:Slot),h<ss.length→t.p=(ss.getD h Slot.none).p→t.f=(ss.getD h Slot.none).f→t.bo=(ss.getD h Slot.none).bo→t.bn=(ss.getD h Slot.none).bn→t.bc=(ss.getD h Slot.none).bc→iK (ss.set h t)=(iK ss).set (h*4+1) (.bool t.u):=by
 induction ss with
 | nil=>intro h t hh;simp at hh
 | cons m r ih=>
  intro h t hh e1 e2 e3 e4 e5
  cases h with
  | zero=>
   have a1:t.p=m.p:=e1
   have a2:t.f=m.f:=e2
   have a3:t.bo=m.bo:=e3
   have a4:t.bn=m.bn:=e4
   have a5:t.bc=m.bc:=e5
   show gY t++iK r=(gY m++iK r).set 1 (.bool t.u)
   simp[gY,a1,a2,a3,a4,a5]
  | succ h=>
   show gY m++iK (r.set h t)=(gY m++iK r).set ((h+1)*4+1) (.bool t.u)
   rw[ih h t (by simpa using hh) e1 e2 e3 e4 e5,List.set_append_right _ _ (by simp[gY];omega)]
   congr 2
   simp[gY];omega
theorem jg.setu{w:World}{sb n:Nat}{ss:List Slot}(h:jg w sb n ss)(i:Nat)(hi:i<n)(u:Bool):jg (w.setCell ⟨sb,i*4+1,none⟩ (.bool u)) sb n (ss.set i {ss.getD i Slot.none with u:=u}):=by
 obtain⟨hl,hh⟩:=h
 refine⟨by rw[List.length_set];exact hl,?_⟩
 rw[Mc hh,Jl ss i {ss.getD i Slot.none with u:=u} aa rfl rfl rfl rfl rfl]
 simp
theorem yI: ∀(a b:List Slot),iK a=iK b→a=b
 | [],[],_=>rfl
 | [],y::s,h=>by simp[iK,gY] at h
 | x::r,[],h=>by simp[iK,gY] at h
 | x::r,y::s,h=>by
  have h':gY x++iK r=gY y++iK s:=h
  simp only[gY,List.cons_append,List.nil_append,List.cons.injEq] at h'
  obtain⟨h1,h2,h3,h4,h5⟩:=h'
  have:=yI r s h5
  subst this
  cases x;cases y
  simp at h1 h2 h3 h4
  obtain⟨e4,e5,e6⟩:=h4
  subst h1 h2 h3 e4 e5 e6
  rfl
open Classical in
noncomputable def mCnt (sb n:Nat) (w:World):Nat:=if h: ∃ss,jg w sb n ss then cnt h.choose else 0
theorem Gp{w:World}{sb n:Nat}{ss:List Slot}(h:jg w sb n ss):mCnt sb n w=cnt ss:=by
 have hx: ∃ss,jg w sb n ss:=⟨ss,h⟩
 unfold mCnt
 rw[dif_pos hx]
 have h2:=hx.choose_spec
 congr 1
 apply yI
 have e:=h2.2.symm.trans h.2
 simpa using e
end Go.Proofs.YtnicjahcgnhogaaGreatDoor.Cch
namespace Go.Proofs.YtnicjahcgnhogaaGreatDoor.Cch
open Go Go.RowKit Go.Calli Go.Dskp Go.Maps
attribute [local irreducible] wpStill wpAnyH wpAnyS wpList Code.wp
def xC(w:World)(cb sb n:Nat)(v0 v1 v2 v3 v4 v7:Value)(h:Nat):Prop:=w.heap[cb]? =some (.cells #[v0,v1,v2,v3,v4,.slice (some ⟨sb,0,none⟩) n n,.int .i64 h,v7] 156 (0,0))
def VicPost(cb sb n:Nat)(v0 v1 v2 v3 v4 v7:Value)(r:Nat×List Slot×Nat)(w:World)(e:Ending)(w':World):Prop:=e= .returned (.int .i64 r.1)∧xC w' cb sb n v0 v1 v2 v3 v4 v7 r.2.2∧jg w' sb n r.2.1∧ag (fun k=>k=cb∨k=sb) w w'
theorem xC.hand{w:World}{cb sb n:Nat}{v0 v1 v2 v3 v4 v7:Value}{h:Nat}(hc:xC w cb sb n v0 v1 v2 v3 v4 v7 h)(h':Nat):xC (w.setCell ⟨cb,6,none⟩ (.int .i64 h')) cb sb n v0 v1 v2 v3 v4 v7 h':=Mc hc
theorem vic_any(cb sb n:Nat)(ss:List Slot)(h:Nat)(v0 v1 v2 v3 v4 v7:Value)(hn:n≤1024)(hh:h<n)(A5:cb≠sb)(w:World)(hc:xC w cb sb n v0 v1 v2 v3 v4 v7 h)(hS:jg w sb n ss):Calls Tryz.prog 268 #[.pointer (some ⟨cb,0,none⟩)] w (VicPost cb sb n v0 v1 v2 v3 v4 v7 (vic n (cnt ss) ss h) w):=by
 go_enter Tryz.func268,Tryz.ntmps268
 go_wp2_with fail
 go_loopw [3,4] (fun u3 u4 wr=>∃ss' h',h'<n∧Hid (vic n (cnt ss) ss h=vic n (cnt ss') ss' h')∧xC wr cb sb n v0 v1 v2 v3 v4 v7 h'∧jg wr sb n ss'∧ag (fun k=>k=cb∨k=sb) w wr) (fun _ _ wr=>mCnt sb n wr)
 case atStart=>exact⟨ss,h,hh,rfl,hc,hS,ag.refl _ _⟩
 case round=>
  obtain⟨s',h',A6,hv,j,o,hK⟩:=hrel
  have hl:=o.1
  obtain⟨c0,c1,c2,c3,c4,c5,c6,c7⟩:=bZ j
  have cf:=frozen_of_row _ _ 6 _ _ j
  obtain⟨g,hg⟩: ∃g:Nat,g=(h'+1)%n:=⟨_,rfl⟩
  have B1:g<n:=by rw[hg];exact Nat.mod_lt _ aa
  have A7:((h':Int)+1).tmod (n:Int)=(g:Int):=by rw[hg];rfl
  have e1:IntKind.i64.wrap ((h':Int)+1)=(h':Int)+1:=IntWalk.i64_in _ aa
  have B2:(n:Int)≠0:=aa
  have B7:((n:Int)==0)=false:=by simpa using B2
  have B8:¬n=0:=aa
  have B3:IntKind.i64.wrap (((h':Int)+1).tmod (n:Int))=(g:Int):=by rw[A7,IntWalk.i64_in];omega
  have B6:¬(n:Int)= -1:=aa
  go_upto_region 2 with fail
  go_still_tail 14,af
  repeat still_step
  try refine wpStill_nil ?_
  change wpList _ _ _ _ _ wr.drew
  have B9:((h':Int)+1)%(n:Int)=(g:Int):=by rw[hg];rfl
  have A2:=MI hg
  clear hg A7 B3
  go_upto_region 3 with fail
  have A0:xC (wr.setCell ⟨cb,6,none⟩ (.int .i64 g)).drew cb sb n v0 v1 v2 v3 v4 v7 g:=j.hand g
  have A3:ag (fun k=>k=cb) wr (wr.setCell ⟨cb,6,none⟩ (.int .i64 g)).drew:=((ag.refl (fun k=>k=cb) wr).setCell (p:=⟨cb,6,none⟩) (.inr rfl) _).drew
  have U:=o.kept A3 (fun e=>A5 e.symm)
  have A4:ag (fun k=>k=cb∨k=sb) w (wr.setCell ⟨cb,6,none⟩ (.int .i64 g)).drew:=hK.trans (A3.mono fun k _ h=>.inl h)
  have HM:=MI (Gp o)
  clear A3 hK o j c0 c1 c2 c3 c4 c5 c6 c7 cf
  generalize (wr.setCell ⟨cb,6,none⟩ (.int .i64 g)).drew=W1 at*
  obtain⟨c0,c1,c2,c3,c4,c5,c6,c7⟩:=bZ A0
  obtain⟨s0,s1,s2,s3⟩:=U.at_ h' A6
  have sf:=frozen_of_row _ _ (h'*4+1) _ _ U.2
  have J:=MI (fun hu=>(hv.out.trans (J3 n s' h' aa hu)))
  have I:=MI (fun hu=>(hv.out.trans (vic_end n (cnt s') s' h' hu)))
  have A1:=MI (U.setu h' A6 false)
  have R:=MI (GX s' h' aa)
  have A8: ∀x,xC (W1.setCell ⟨sb,h'*4+1,none⟩ x) cb sb n v0 v1 v2 v3 v4 v7 g:=fun x=>(heap_setCell_other _ _ _ _ A5).trans A0
  have B4:=MI A8
  have A9:(s'.getD h' Slot.none).used=((s'.getD h' Slot.none).f&&(s'.getD h' Slot.none).u):=rfl
  have B0:(s'.getD h' Slot.none).drop={s'.getD h' Slot.none with u:=false}:=rfl
  rw[A9] at J I R
  rw[B0] at J R
  clear A8 A9 B0 hv
  cases hf:(s'.getD h' Slot.none).f with
  | false=>
   rw[hf] at s2 I
   have HE:=MI (I.out rfl)
   clear I J A1 R hf
   go_wp2_with fail
   go_ret
   exact⟨by rw[HE.out]<;>rfl,by rw[HE.out];rw[←A2.out];exact A0,by rw[HE.out];exact U,A4⟩
  | true=>
   rw[hf] at s2 I J R
   cases hu:(s'.getD h' Slot.none).u with
   | false=>
    rw[hu] at s1 I
    have HE:=MI (I.out rfl)
    clear I J A1 R hf hu
    go_wp2_with fail
    go_ret
    exact⟨by rw[HE.out]<;>rfl,by rw[HE.out];rw[←A2.out];exact A0,by rw[HE.out];exact U,A4⟩
   | true=>
    rw[hu] at s1 J R
    have HE:=MI (J.out rfl)
    have B5:=MI (R.out rfl)
    clear I J R hf hu
    go_wp2_with fail
    go_roundw
    case rel=>exact⟨_,g,B1,by rw[←A2.out] at HE;exact HE,B4.out _,A1.out,A4.setCell (.inr (.inr rfl)) _⟩
    case measure=>rw[Gp A1.out,HM.out];have:=B5.out;omega
structure TR where
 e:Int
 b:List Int
 d:Dk
 n:Int
def gq(p:Int):Nat→Dk→Int→TR
 | 0,d,e=>⟨e,[],d,0⟩
 | k+1,d,_=>if rdE d p=0 then⟨0,rdB d p,rdS d p,1⟩ else⟨(gq p k (rdS d p) (rdE d p)).e,(gq p k (rdS d p) (rdE d p)).b,(gq p k (rdS d p) (rdE d p)).d,(gq p k (rdS d p) (rdE d p)).n+1⟩
theorem F8(d:Dk)(p:Int):(rdS d p).r≤d.r+1∧(rdS d p).img=d.img:=by
 unfold rdS
 split
 ·exact⟨aa,rfl⟩
 ·split<;>exact⟨Int.le_refl _,rfl⟩
def Ak(w:World)(cb:Nat)(v0 v1 v3 v5 v6:Value)(b:Nat)(bC t:Int):Prop:=w.heap[cb]? =some (.cells #[v0,v1,.int .i64 t,v3,.pointer (some ⟨b,0,none⟩),v5,v6,.int .i64 bC] 156 (0,0))
def TryPost(cb:Nat)(v0 v1 v3 v5 v6:Value)(b mb:Nat)(ib:Option Addr)(kap m:Nat)(bC t:Int)(R:TR)(w:World)(e:Ending)(w':World):Prop:=∃ro rc,e= .returned (.tuple #[.slice ro R.b.length rc,.int .i64 R.e])∧R.b.length≤rc∧Ak w' cb v0 v1 v3 v5 v6 b bC (t+R.n)∧(∃m',m'≤m+9∧Dsk w' b mb ib kap m' R.d)∧Ints .u8 w' ro R.b.length R.b∧(∀a,ro=some a→w.heap.size≤a.block)∧ag (fun k=>k=cb∨k=b∨k=mb) w w'
theorem Ak.put{w:World}{cb:Nat}{v0 v1 v3 v5 v6:Value}{b:Nat}{bC t:Int}(h:Ak w cb v0 v1 v3 v5 v6 b bC t)(t':Int):Ak (w.setCell ⟨cb,2,none⟩ (.int .i64 t')) cb v0 v1 v3 v5 v6 b bC t':=Mc h
theorem try_any(cb:Nat)(v0 v1 v3 v5 v6:Value)(b mb:Nat)(ib:Option Addr)(kap m:Nat)(bC t:Int)(d:Dk)(page:Int)(B3:0≤bC∧bC≤8)(ht:0≤t∧t≤500000000)(hd:d.Ok)(hm:m≤500000000)(hr:d.r≤500000000)(A8:(Lit.int .i64 page).wf=true)(J:b≠cb∧mb≠cb∧∀a,ib=some a→a.block≠cb)(w:World)(h:Ak w cb v0 v1 v3 v5 v6 b bC t)(hD:Dsk w b mb ib kap m d):
  Calls Tryz.prog 267 #[.pointer (some ⟨cb,0,none⟩),.int .i64 page] w (TryPost cb v0 v1 v3 v5 v6 b mb ib kap m bC t (gq page (bC.toNat+1) d 8) w):=by
 obtain⟨N,rfl⟩: ∃N:Nat,bC=N:=⟨bC.toNat,aa⟩
 have B4:N≤8:=aa
 rw[Int.toNat_natCast]
 obtain⟨c0,c1,c2,c3,c4,c5,c6,c7⟩:=bZ h
 go_enter Tryz.func267,Tryz.ntmps267
 go_wp2_with fail
 go_loopw [6,13] (fun v6' v13 wr=>∃(i:Nat)(d':Dk)(m':Nat)(e':Int),i≤N+1∧v13= .int .i64 i∧v6'= .int .i64 e'∧Hid ((gq page (N+1) d 8).e=(gq page (N+1 - i) d' e').e∧(gq page (N+1) d 8).b=(gq page (N+1 - i) d' e').b∧(gq page (N+1) d 8).d=(gq page (N+1 - i) d' e').d∧(gq page (N+1) d 8).n=i+(gq page (N+1 - i) d' e').n)∧Ak wr cb v0 v1 v3 v5 v6 b N (t+i)∧Dsk wr b mb ib kap m' d'∧d'.Ok∧d'.r≤d.r+i∧m'≤m+i∧ag (fun k=>k=cb∨k=b∨k=mb) w wr) (fun _ v13 _=>(N+1 - (intOf v13).toNat))
 case atStart=>exact⟨0,d,m,8,aa,rfl,rfl,⟨rfl,rfl,rfl,ar⟩,by simpa using h,hD,hd,aa,aa,ag.refl _ _⟩
 case round=>
  clear c0 c1 c2 c3 c4 c5 c6 c7
  obtain⟨i,d',m',e',hi,rfl,rfl,hE,hR,j,A6,B5,B6,hK⟩:=hrel
  by_cases B7:i<N+1
  ·obtain⟨k,hk⟩: ∃k,N+1 - i=k+1:=⟨N - i,aa⟩
   have A9:N+1 - (i+1)=k:=aa
   rw[hk] at hE
   obtain⟨c0,c1,c2,c3,c4,c5,c6,c7⟩:=bZ hR
   have cf:=frozen_of_row _ _ 2 _ _ hR
   have B8:IntKind.i64.wrap (t+i+1)=t+i+1:=IntWalk.i64_in _ aa
   go_upto_region 6 with fail
   have o:=hR.put (t+i+1)
   have A0:ag (fun k=>k=cb) wr (wr.setCell ⟨cb,2,none⟩ (.int .i64 (t+i+1))):=(ag.refl (fun k=>k=cb) wr).setCell (p:=⟨cb,2,none⟩) (.inr rfl) _
   have B0:=j.kept A0 J.1 J.2.1 J.2.2
   have A1:ag (fun k=>k=cb∨k=b∨k=mb) w (wr.setCell ⟨cb,2,none⟩ (.int .i64 (t+i+1))):=hK.trans (A0.mono fun k _ h=>.inl h)
   clear c0 c1 c2 c3 c4 c5 c6 c7 cf hR j A0 hK
   generalize wr.setCell ⟨cb,2,none⟩ (.int .i64 (t+i+1))=W1 at*
   obtain⟨c0,c1,c2,c3,c4,c5,c6,c7⟩:=bZ o
   have U:=ve b mb ib kap m' d' A6 aa aa page A8 W1 B0
   unfold wX at U
   have I:gq page (k+1) d' e'=if rdE d' page=0 then⟨0,rdB d' page,rdS d' page,1⟩ else⟨(gq page k (rdS d' page) (rdE d' page)).e,(gq page k (rdS d' page) (rdE d' page)).b,(gq page k (rdS d' page) (rdE d' page)).d,(gq page k (rdS d' page) (rdE d' page)).n+1⟩:=rfl
   have A7:=D6 A6 page
   have B9:=(F8 d' page).1
   generalize rdE d' page=E at*
   generalize rdB d' page=BB at*
   generalize rdS d' page=DD at*
   have B1:=A1.size
   by_cases h0:E=0
   ·subst h0
    rw[if_pos rfl] at I
    rw[I] at hE
    have HE:=MI hE.out
    clear hE I
    go_wp2_with (go_at_call 275;refine U.mono ?_;clear U;rintro e w2 ⟨ro,rc,rfl,hrc,⟨m2,B2,A2⟩,hI,A3,R⟩)
    go_ret2
    have A4:ag (fun k=>k=cb∨k=b∨k=mb) w w2:=A1.trans (R.mono fun k _ h=>.inr h)
    have A5:Ak w2 cb v0 v1 v3 v5 v6 b N (t+i+1):=R.heap o (by have:=J.1;have:=J.2.1;omega)
    obtain⟨e1,e2,e3,e4⟩:=HE.out
    exact⟨ro,rc,by rw[e1,e2]<;>rfl,by rw[e2];exact hrc,by rw[e4,show t+((i:Int)+1)=t+i+1 by omega];exact A5,⟨m2,aa,by rw[e3];exact A2⟩,by rw[e2];exact hI,fun a ha=>Nat.le_trans B1 (A3 a ha),A4⟩
   ·rw[if_neg h0] at I
    rw[I] at hE
    have HE:=MI hE.out
    have C0:(E==0)=false:=by simpa using h0
    clear hE I
    go_wp2_with (go_at_call 275;refine U.mono ?_;clear U;rintro e w2 ⟨ro,rc,rfl,hrc,⟨m2,B2,A2⟩,hI,A3,R⟩)
    have A4:ag (fun k=>k=cb∨k=b∨k=mb) w w2:=A1.trans (R.mono fun k _ h=>.inr h)
    have A5:Ak w2 cb v0 v1 v3 v5 v6 b N (t+i+1):=R.heap o (by have:=J.1;have:=J.2.1;omega)
    obtain⟨e1,e2,e3,e4⟩:=HE.out
    go_roundw
    case rel=>exact⟨i+1,DD,m2,E,aa,aD,rfl,by rw[A9];exact⟨e1,e2,e3,aa⟩,by rw[show t+((i+1:Nat):Int)=t+i+1 by omega];exact A5,A2,A7,aa,aa,A4⟩
    case measure=>simp[intOf];omega
  ·obtain rfl:i=N+1:=aa
   rw[Nat.sub_self,show gq page 0 d' e'=⟨e',[],d',0⟩ from rfl] at hE
   obtain⟨e1,e2,e3,e4⟩:=hE.out
   have HE:=MI (show(gq page (N+1) d 8).e=e'∧(gq page (N+1) d 8).b=[]∧(gq page (N+1) d 8).d=d'∧(gq page (N+1) d 8).n=((N+1:Nat):Int) from⟨e1,e2,e3,by rw[e4];simp⟩)
   clear hE e1 e2 e3 e4
   go_wp2_with fail
   go_ret2
   obtain⟨e1,e2,e3,e4⟩:=HE.out
   exact⟨none,0,by rw[e1,e2]<;>rfl,by rw[e2];exact Me,by rw[e4];exact hR,⟨m',aa,by rw[e3];exact j⟩,by rw[e2];exact Ints.nil _ _ _,fun a ha=>(by cases ha),hK⟩
end Go.Proofs.YtnicjahcgnhogaaGreatDoor.Cch
