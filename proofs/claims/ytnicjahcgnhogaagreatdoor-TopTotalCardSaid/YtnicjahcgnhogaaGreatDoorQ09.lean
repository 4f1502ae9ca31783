/- Part 10 of the walk: contracts of the program's functions, each for every input. No condition. -/
import Derived.Test.YtnicjahcgnhogaaGreatDoorQ08
import Derived.Test.YtnicjahcgnhogaaGreatDoorQ04
import Derived.Test.YtnicjahcgnhogaaGreatDoorQ00
import Derived.Maps.OwnSet
import Derived.Test.YtnicjahcgnhogaaGreatDoorRows
import Derived.Laws.Bits128
import Derived.StillTailTactics
import Derived.Deep.RegionHeld3
import Derived.Deep.RegionWith
import Derived.OwnWalk
import Derived.Laws.CopyOwn
import Derived.OpenShut
set_option linter.unusedVariables false
set_option linter.unusedSimpArgs false
set_option maxRecDepth 100000
set_option maxHeartbeats 8000000
namespace Go.Proofs.YtnicjahcgnhogaaGreatDoor
open Go Go.RowKit Go.Calli
attribute [local irreducible] wpStill wpAnyH wpAnyS wpList Code.wp
theorem IB(ao:Option Addr)(len cap:Nat)(zs:List Int)(w:World)(h:Ints .u8 w ao len zs):Calls Tryz.prog 46 #[.slice ao len cap] w fun e w'=>e= .returned (.int .u32 (fH zs))∧w=w':=sum_any ao len cap zs w h
def F0:Array Value:=frC (zz [] [] [] []) (.slice none 0 0)
theorem vC:F0=#[.int .i64 0,.int .i64 0,.int .i64 0,.int .i64 0,.slice none 0 0,.int .i64 0,.int .i64 0,.int .i64 0,.int .i64 0,.int .i64 0,.int .i64 0,.int .i64 0,.int .i64 0,.int .i64 0,.int .i64 0,.int .i64 0,.int .i64 0,.int .i64 0,.int .i64 0,.int .i64 0,.int .i64 0,.int .i64 0,.int .i64 0,.int .i64 0,.int .i64 0,.int .i64 0,.int .i64 0,.int .i64 0,.int .i64 0]:=by kernel_rfl
def LD(B:Bk)(m:Mt)(ch blk:Nat)(n:Nat)(bs:List Int)(w:World)(e:Ending)(w':World):Prop:=Below w.heap.size w w'∧∃(z:List Int)(ao:Option Addr)(mm c:Nat)(ts:List (Int×Int))(err:Int),e= .returned (.tuple #[.agg (frC z (.slice ao mm c)),.int .i64 err])∧z.length=28∧bH ed 2 (0,0) w' ao mm ts∧(∀a,ao=some a→w.heap.size≤a.block)∧(fH bs=(aZ B.img (m.sums+4*m.num ch blk) 4:Nat)→(frX n bs).e=0→fC (frX n bs).z (frX n bs).t=true→z=(frX n bs).z∧ts=(frX n bs).t∧err=0)
theorem open_any(D:Bd)(B:Bk)(i ch blk:Nat)(hi:i<B.dir.length)(hc:ch<(B.dir.getD i m0).ch)(hb:blk<bu (B.dir.getD i m0).len)(bo:Option Addr)(n cap:Nat)(bs:List Int)(hn:n≤1000)(w:World)(hbs:Ints .u8 w bo n bs)(hbb: ∀a,bo=some a→a.block<w.heap.size)(h:jX D w B):Calls Tryz.prog 260 #[.pointer (some ⟨D.bb,0,none⟩),.int .i64 i,.int .i64 ch,.int .i64 blk,.slice bo n cap] w (LD B (B.dir.getD i m0) ch blk n bs w):=by
 have hba:=ae w (.cells F0 196)
 have hz:=L9 w (.cells F0 196)
 have hWh:=MI (fun w h=>vY D B i ch blk hi hc hb w h)
 have HB1:=MI (h.ah hba)
 have HI:=MI (hbs.ah hba)
 have HA:=MI hba
 have HBB:=MI hbb
 have HZ:=MI hz
 have hiz:(Tryz.prog.info? 196).map (·.size)=some F0.size:=by kernel_rfl
 have hbu:Tryz.prog.built 196 []=some F0:=by kernel_rfl
 have hzn:(zz [] [] [] []).length=28:=by kernel_rfl
 have hF1:F0.all (·.oneCell')=true:=dC _ none 0 0
 unfold WhP at hWh
 unfold LD
 generalize B.dir.getD i m0=m at*
 clear h hbs hba hz hbb
 generalize m.first+m.num ch blk*B.size=A at*
 generalize ((aZ B.img (m.sums+4*m.num ch blk) 4:Nat):Int)=R at*
 go_enter Tryz.func260,Tryz.ntmps260
 go_upto_region 1 with fail
 rw[←vC]
 generalize hS:fH bs=S at*
 have hw0:w.heap.size<(w.alloc (.cells F0 196)).heap.size:=by simp
 generalize w.alloc (.cells F0 196)=W at*
 go_upto_region 4 with(go_at_call 251;refine(hWh.out _ HB1.out).mono ?_;rintro e w1 ⟨rfl,hb1⟩)
 have hI1:=HI.out.ah hb1
 have hSm:=IB bo n cap bs w1 hI1
 rw[hS] at hSm
 have hz1:=bT HZ.out hb1 (L8 HZ.out)
 have HBX:=MI (HA.out.trans (hb1.mono HA.out.size))
 have hbb1: ∀a,bo=some a→a.block<w1.heap.size:=fun a ha=>Nat.lt_of_lt_of_le (HBB.out a ha) (Nat.le_trans (Nat.le_of_lt hw0) hb1.size)
 have hRd:=MI (GH bo n cap bs hn w1 hI1 hbb1)
 have HSS:=MI hS
 clear hWh hb1 hS hI1 hbb1
 have hw1:=L8 hz1
 by_cases hSR:S=R
 ·subst hSR
  unfold FrdP at hRd
  go_upto_region 6 with(go_at_call 46;refine hSm.mono ?_;rintro e w' ⟨rfl,rfl⟩)
  go_upto_region 7 with(first
   | (go_at_call 265;refine hRd.out.mono ?_;rintro e w2 ⟨hb2,z,ao,mm,c,ts,err,rfl,hzl,hT,hfr,hgood⟩;have HFr:=MI hfr;have hz2:=bT hz1 hb2 hw1;have HX2:=MI (HBX.out.trans (hb2.mono HBX.out.size));have hT2:=MI hT;have hw2:=Nat.lt_of_lt_of_le hw1 hb2.size;have HG:=MI hgood;have hiF:(Tryz.prog.info? 196).map (·.size)=some (frC z (.slice ao mm c)).size:=(by rw[bC _ _ hzl];kernel_rfl);have hsF:F0.size=(frC z (.slice ao mm c)).size:=(by rw[bC _ _ hzl];kernel_rfl);clear hgood hT hb2 hz1 hfr)
   | (with_reducible refine MF 196 15 39 ?_;rw[←vC];refine wpList_store_row rfl 196 (.tmp 15) (.tmp 39) rfl _ (frC z (.slice ao mm c)) rfl rfl 196 F0 (L9 _ _) hiF hsF (dC _ _ _ _) ?_))
  have hz3:=(setRow_other (w2.alloc (.cells F0 196)) w2.heap.size w.heap.size (frC z (.slice ao mm c)) (by omega)).trans ((heap_alloc_old w2 (.cells F0 196) hw2).trans hz2)
  have hr3:=Md (frC z (.slice ao mm c)) (L9 w2 (.cells F0 196))
  have HX3:=MI (below_setRow (HX2.out.trans ((ae w2 (.cells F0 196)).mono HX2.out.size)) (show w.heap.size≤w2.heap.size from by omega) (frC z (.slice ao mm c)))
  have HT3:=MI (hT2.out.ah (below_setRow (ae w2 (.cells F0 196)) Me (frC z (.slice ao mm c))))
  have hne3:w2.heap.size≠w.heap.size:=by omega
  have hww:w.heap.size<w1.heap.size:=hw1
  clear hz2 HX2 hT2
  change Code.wp _ _ _ _ ((w2.alloc (.cells F0 196)).setRow w2.heap.size (frC z (.slice ao mm c)))
  generalize (w2.alloc (.cells F0 196)).setRow w2.heap.size (frC z (.slice ao mm c))=W3 at*
  generalize w2.heap.size=fb at*
  have hw3:=L8 hz3
  by_cases he:err=0
  ·subst he
   go_wp2_with (first
    | (with_reducible refine MC 196 15 ?_;refine wpList_load_row rfl 196 (.tmp 15) rfl _ rfl 196 (frC z (.slice ao mm c)) (0,0) _ hr3 Tryz.underlying196 rfl hiF ?_)
    | (with_reducible refine MF 196 10 44 ?_;refine wpList_store_row rfl 196 (.tmp 10) (.tmp 44) rfl _ (frC z (.slice ao mm c)) rfl rfl 196 F0 hz3 hiF hsF (dC _ _ _ _) ?_))
   exact bodyPost_ret (results_cell_tmp (fn:=Tryz.f260) (p:=10) (q:=11) (ty:=196) rfl _ _ _ _ _ _ _ rfl (setRow_heap _ _ _ _ _ _ hz3) Tryz.underlying196 rfl hiF) rfl ⟨below_setRow HX3.out (by omega) _,z,ao,mm,c,ts,0,rfl,hzl,HT3.out.kept (aJ _ _ _) (fun a ha e=>by have:=HFr.out a ha;omega),(fun a ha=>by have:=HFr.out a ha;omega),fun _ h1 h2=>⟨(HG.out h1 h2).1,(HG.out h1 h2).2.1,rfl⟩⟩
  ·have q1:(err==0)=false:=by simpa using he
   have q2:(err !=0)=true:=by simpa using he
   have HE:=MI he
   clear he
   go_wp2_with (first
    | (refine aV rfl 196 #[] rfl [] ?hl F0 hbu ?_)
    | (with_reducible refine MF 196 10 43 ?_;refine wpList_store_row rfl 196 (.tmp 10) (.tmp 43) rfl _ F0 rfl rfl 196 F0 hz3 hiz rfl hF1 ?_))
   exact bodyPost_ret (results_cell_tmp (fn:=Tryz.f260) (p:=10) (q:=11) (ty:=196) rfl _ _ _ _ _ _ _ rfl (setRow_heap _ _ _ _ _ _ hz3) Tryz.underlying196 rfl hiz) rfl ⟨below_setRow HX3.out (by omega) _,zz [] [] [] [],none,0,0,[],4,rfl,hzn,bH.nil _ _ _ _ _,(fun a ha=>by cases ha),fun _ h1 h2=>absurd (HG.out h1 h2).2.2 HE.out⟩
 ·have q1:(S==R)=false:=by simpa using hSR
  have q2:(S !=R)=true:=by simpa using hSR
  have HN:=MI hSR
  clear hSR
  go_wp2_with (first
   | (go_at_call 46;refine hSm.mono ?_;rintro e w' ⟨rfl,rfl⟩)
   | (refine aV rfl 196 #[] rfl [] ?hl F0 hbu ?_)
   | (with_reducible refine MF 196 10 35 ?_;refine wpList_store_row rfl 196 (.tmp 10) (.tmp 35) rfl _ F0 rfl rfl 196 F0 hz1 hiz rfl hF1 ?_))
  exact bodyPost_ret (results_cell_tmp (fn:=Tryz.f260) (p:=10) (q:=11) (ty:=196) rfl _ _ _ _ _ _ _ rfl (setRow_heap _ _ _ _ _ _ hz1) Tryz.underlying196 rfl hiz) rfl ⟨below_setRow HBX.out (by omega) _,zz [] [] [] [],none,0,0,[],9,rfl,hzn,bH.nil _ _ _ _ _,(fun a ha=>by cases ha),fun h=>absurd (HSS.out.symm.trans h) HN.out⟩
end Go.Proofs.YtnicjahcgnhogaaGreatDoor
namespace Go.Calli
open Go Go.RowKit Go.Maps
structure Flt where
 f:Int
 a:Int
 x:Int
def Flt.zero:Flt:=⟨0,0,0⟩
def rX(t:Flt):Value:=.agg #[.int .i64 t.f,.int .i64 t.a,.int .u8 t.x]
def vP(t:Flt):DataW Unit:=.agg [.lit (.int .i64 t.f),.lit (.int .i64 t.a),.lit (.int .u8 t.x)]
def fltR:Value→Option (DataW Unit×List MemPlace)
 | .agg ⟨[.int .i64 f,.int .i64 a,.int .u8 x]⟩=>some (vP ⟨f,a,x⟩,[])
 | _=>none
theorem yI(t:Flt):fltR (rX t)=some (vP t,[]):=rfl
theorem Kz{s t:Flt}(h:vP s=vP t):s=t:=by
 cases s;cases t;simp[vP] at h;obtain⟨rfl,rfl,rfl⟩:=h;rfl
theorem Ak{v:Value}{t:Flt}{ps:List MemPlace}(h:fltR v=some (vP t,ps)):v=rX t:=by
 unfold fltR at h
 split at h
 ·rename_i f a x
  have h2:=Kz (congrArg Prod.fst (Option.some.inj h))
  subst h2
  rfl
 ·cases h
def gB(P:Program)(K:TypeId)(w:World)(b n:Nat)(F:Int→Option Flt):Prop:=
 ∃D:DataW Unit,w.ownsMap P K fltR b n D∧∀k:Int,(match F k with
  | none=>Maps.has D (.int .i64 k)=false
  | some t=>Maps.has D (.int .i64 k)=true∧∀z,D.atKey (.int .i64 k) z=vP t)
variable {P:Program} {K e T:TypeId} {w:World} {b n:Nat} {F:Int→Option Flt}
theorem gB.made(w:World):gB P K (w.alloc (.map #[] 0)) w.heap.size 0 (fun _=>none):=⟨_,World.ownsMap_made _ _ _ _,fun k=>rfl⟩
theorem gB.lt(h:gB P K w b n F):b<w.heap.size:=by obtain⟨D,h,_⟩:=h;exact h.lt
theorem gB.heap(h:gB P K w b n F){w':World}(he:w'.heap[b]? =w.heap[b]?):gB P K w' b n F:=by
 obtain⟨D,⟨es,clock,hb,r⟩,hF⟩:=h
 exact⟨D,⟨es,clock,by rw[he];exact hb,r⟩,hF⟩
theorem gB.kept(h:gB P K w b n F){S:Nat→Prop}{w':World}(hk:af S w w')(hS:¬S b):gB P K w' b n F:=by
 have hlt:=h.lt
 exact h.heap (hk.block b hlt hS)
theorem gB.ah(h:gB P K w b n F){w':World}(hb:Below w.heap.size w w'):gB P K w' b n F:=
 h.kept (af.au (S:=fun _=>False) hb Me) id
theorem gB.at{D:DataW Unit}{k:Int}(hF:(match F k with
  | none=>Maps.has D (.int .i64 k)=false
  | some t=>Maps.has D (.int .i64 k)=true∧∀z,D.atKey (.int .i64 k) z=vP t)):Maps.has D (.int .i64 k)=(F k).isSome∧D.atKey (.int .i64 k) (vP Flt.zero)=vP ((F k).getD Flt.zero):=by
 cases h:F k with
 | none=>rw[h] at hF;exact⟨hF,Maps.atKey_of_not_has hF _⟩
 | some t=>rw[h] at hF;exact⟨hF.1,hF.2 _⟩
section
variable (L:Keyed P K) (hk:P.underlying K=some (.int .i64)) (ht:P.underlying T=some (.map K e)) (hz: ∀w,(zeroValue e).run P w= .ok (rX Flt.zero) w)
include L hk ht hz
theorem gB.look(h:gB P K w b n F){k:Int}(hw:(Lit.int .i64 k).wf=true):(Instr.lookup T (.map (some b)) (.int .i64 k) false).run P w= .ok (rX ((F k).getD Flt.zero)) w:=by
 obtain⟨D,h,hF⟩:=h
 obtain⟨v,ps,hrun,hv⟩:=h.lookup L ht (hz w) (yI Flt.zero) (keyOf_int_mk hk hw)
 obtain⟨_,h2⟩:=gB.at (hF k)
 rw[h2] at hv
 rw[hrun,Ak hv]
theorem gB.look_ok(h:gB P K w b n F){k:Int}(hw:(Lit.int .i64 k).wf=true):(Instr.lookup T (.map (some b)) (.int .i64 k) true).run P w= .ok (.tuple #[rX ((F k).getD Flt.zero),.bool (F k).isSome]) w:=by
 obtain⟨D,h,hF⟩:=h
 obtain⟨v,ps,hrun,hv⟩:=h.look_ok L ht (hz w) (yI Flt.zero) (keyOf_int_mk hk hw)
 obtain⟨h1,h2⟩:=gB.at (hF k)
 rw[h2] at hv
 rw[hrun,Ak hv,h1]
omit hz
theorem gB.store(h:gB P K w b n F)(hn:n<maxLen){k:Int}(hw:(Lit.int .i64 k).wf=true)(t:Flt):
  ∃w',(Instr.mapUpdate T (.map (some b)) (.int .i64 k) (rX t)).run P w= .ok () w'∧gB P K w' b (n+1) (fun j=>if j=k then some t else F j)∧af (fun i=>i=b) w w':=by
 obtain⟨D,h,hF⟩:=h
 obtain⟨w',hrun,hown,hg⟩:=h.update L ht hn (keyOf_int_mk hk hw) (yI t)
 refine⟨w',hrun,⟨_,hown,fun j=>?_⟩,(af.refl _ w).grown hg (fun i hi=>.inr (by cases hi;rfl))⟩
 have hD:=h.isMap
 have hkl:WideAt.IsKeyLit (Lit.int .i64 k):=by trivial
 by_cases hj:j=k
 ·subst hj
  simp only[if_true]
  exact⟨Maps.has_put_same hD hkl _,fun z=>Maps.atKey_put_same hD hkl _ z⟩
 ·have hne:(Lit.int .i64 j)≠(Lit.int .i64 k):=fun h=>hj (by cases h;rfl)
  simp only[if_neg hj]
  have:=hF j
  cases hFj:F j with
  | none=>rw[hFj] at this;simp only[] at this⊢;rw[Maps.has_put_other hne];exact this
  | some t'=>rw[hFj] at this;simp only[] at this⊢;rw[Maps.has_put_other hne];exact⟨this.1,fun z=>by rw[Maps.atKey_put_other hne];exact this.2 z⟩
theorem gB.drop(h:gB P K w b n F){k:Int}(hw:(Lit.int .i64 k).wf=true)(ty:TypeId):
  ∃w',(Builtin.delete_ #[T,K] ty #[.map (some b),.int .i64 k]).run P w= .ok (.tuple #[]) w'∧gB P K w' b n (fun j=>if j=k then none else F j)∧af (fun i=>i=b) w w':=by
 obtain⟨D,h,hF⟩:=h
 obtain⟨w',hrun,hown,hg⟩:=h.drop L ht (keyOf_int_mk hk hw) ty
 refine⟨w',hrun,⟨_,hown,fun j=>?_⟩,(af.refl _ w).grown hg.grown (fun i hi=>.inr (by cases hi;rfl))⟩
 by_cases hj:j=k
 ·subst hj
  simp only[if_true]
  exact Maps.has_del_same
 ·have hne:(Lit.int .i64 j)≠(Lit.int .i64 k):=fun h=>hj (by cases h;rfl)
  simp only[if_neg hj]
  have:=hF j
  cases hFj:F j with
  | none=>rw[hFj] at this;simp only[] at this⊢;rw[Maps.has_del_other hne];exact this
  | some t'=>rw[hFj] at this;simp only[] at this⊢;rw[Maps.has_del_other hne];exact⟨this.1,fun z=>by rw[Maps.atKey_del_other hne];exact this.2 z⟩
end
theorem gW{ops:Array Oper}{rest:List Oper}{o:Oper}{a:Act}{Q:Exit→Act→World→Prop}(hg:o.guard=none)(m x v:Operand)(hop:o.op=Op.mapUpdate T m x v)
  (L:Keyed P K) (hk:P.underlying K=some (.int .i64)) (ht:P.underlying T=some (.map K e)) (hm:a.eval m= .map (some b)) (h:gB P K w b n F) (hn:n<maxLen) (k:Int) (t:Flt) (hx:a.eval x= .int .i64 k) (hv:a.eval v=rX t) (hw:(Lit.int .i64 k).wf=true)
  (hK: ∀w',gB P K w' b (n+1) (fun j=>if j=k then some t else F j)→af (fun i=>i=b) w w'→wpList P ops Q rest (a.put o.dst undef) w'):wpList P ops Q (o::rest) a w:=by
 refine wpList_plain hg fun K' hK'=>?_
 obtain⟨w',hrun,r1,r2⟩:=h.store L hk ht hn hw t
 unfold Oper.wp
 simp[execOp,hop,hm,hx,hv,hrun,Result.andThen]
 exact hK' _ _ (hK w' r1 r2)
theorem oU{ops:Array Oper}{rest:List Oper}{o:Oper}{a:Act}{Q:Exit→Act→World→Prop}(hg:o.guard=none)(m x:Operand)(hop:o.op=Op.call {callee:=Callee.builtin Builtin.delete,args:=#[m,x],argTypes:=#[T,K]})
  (L:Keyed P K) (hk:P.underlying K=some (.int .i64)) (ht:P.underlying T=some (.map K e)) (hm:a.eval m= .map (some b)) (h:gB P K w b n F) (k:Int) (hx:a.eval x= .int .i64 k) (hw:(Lit.int .i64 k).wf=true)
  (hK: ∀w',gB P K w' b n (fun j=>if j=k then none else F j)→af (fun i=>i=b) w w'→wpList P ops Q rest (a.put o.dst (.tuple #[])) w'):wpList P ops Q (o::rest) a w:=by
 refine wpList_plain hg fun K' hK'=>?_
 obtain⟨w',hrun,r1,r2⟩:=h.drop L hk ht hw o.type
 unfold Oper.wp
 simp[execOp,hop,resolve,invoke,builtin,hm,hx,hrun,Result.andThen]
 exact hK' _ _ (hK w' r1 r2)
end Go.Calli
namespace Go.Dskp
open Go Go.Calli
def bx(a x:Int):Int:=bits BinOp.xor IntKind.u8 a x
structure Dk where
 img:List Int
 F:Int→Option Flt
 r:Int
 g:Int
def Dk.pages(s:Dk):Nat:=(s.img.length+63)/64
def Dk.t(s:Dk)(p:Int):Flt:=(s.F p).getD Flt.zero
def pgB(img:List Int)(p:Nat):List Int:=(List.range 64).map (fun i=>img.getD (64*p+i) 0)
def put(F:Int→Option Flt)(p:Int)(v:Option Flt):Int→Option Flt:=fun j=>if j=p then v else F j
def FOk(t:Flt):Prop:=0≤t.a∧t.a<64∧-1≤t.f∧t.f≤9223372036854775807∧0≤t.x∧t.x≤255
def Dk.Ok(s:Dk):Prop:=s.img.length≤4194304∧0≤s.r∧0≤s.g∧s.g≤s.r∧∀k t,s.F k=some t→FOk t
def Dk.out(s:Dk)(p:Int):Prop:=p<0∨(s.pages:Int)≤p
instance (s:Dk) (p:Int):Decidable (s.out p):=inferInstanceAs (Decidable (_∨_))
def rdE(s:Dk)(p:Int):Int:=if s.out p then 5 else if(s.t p).f≠0 then 8 else 0
def rdB(s:Dk)(p:Int):List Int:=if s.out p then[] else if(s.t p).f≠0 then[] else(pgB s.img p.toNat).set (s.t p).a.toNat (bx ((pgB s.img p.toNat).getD (s.t p).a.toNat 0) (s.t p).x)
def rdS(s:Dk)(p:Int):Dk:=if s.out p then s else if(s.t p).f≠0 then{s with r:=s.r+1,g:=s.g+1,F:=put s.F p (some {s.t p with f:=max ((s.t p).f - 1) (-1)})} else{s with r:=s.r+1}
def flS(s:Dk)(p n:Int):Dk:=if s.out p then s else{s with F:=put s.F p (some {s.t p with f:=max n (-1)})}
def flE(s:Dk)(p:Int):Int:=if s.out p then 5 else 0
def spS(s:Dk)(p a x:Int):Dk:=if s.out p then s else if a<0∨64≤a then s else{s with F:=put s.F p (some {s.t p with a:=a,x:=x})}
def spE(s:Dk)(p a:Int):Int:=if s.out p then 5 else if a<0∨64≤a then 1 else 0
def hlS(s:Dk)(p:Int):Dk:=if s.out p then s else{s with F:=put s.F p none}
theorem FOk.zero:FOk Flt.zero:=⟨by decide,by decide,by decide,by decide,by decide,by decide⟩
theorem Dk.Ok.t{s:Dk}(h:s.Ok)(p:Int):FOk (s.t p):=by
 unfold Dk.t
 cases hF:s.F p with
 | none=>exact FOk.zero
 | some t=>exact h.2.2.2.2 p t hF
theorem yh{F:Int→Option Flt}(h: ∀k t,F k=some t→FOk t){p:Int}{v:Option Flt}(hv: ∀t,v=some t→FOk t): ∀k t,put F p v k=some t→FOk t:=by
 intro k t hk
 unfold put at hk
 split at hk
 ·exact hv t hk
 ·exact h k t hk
theorem Cb{s:Dk}(h:s.Ok)(p:Int):(rdS s p).Ok:=by
 obtain⟨h1,h2,h3,h4,h5⟩:=h
 have ht:=Dk.Ok.t ⟨h1,h2,h3,h4,h5⟩ p
 unfold rdS
 split
 ·exact⟨h1,h2,h3,h4,h5⟩
 ·split
  ·refine⟨h1,by show 0≤s.r+1;omega,by show 0≤s.g+1;omega,by show s.g+1≤s.r+1;omega,yh h5 ?_⟩
   rintro t ⟨⟩
   obtain⟨a,b,c,d,e,f⟩:=ht
   exact⟨a,b,by show -1≤max _ (-1);omega,by show max _ (-1)≤_;omega,e,f⟩
  ·exact⟨h1,by show 0≤s.r+1;omega,h3,by show s.g≤s.r+1;omega,h5⟩
theorem flS_ok{s:Dk}(h:s.Ok)(p n:Int)(hn:n≤9223372036854775807):(flS s p n).Ok:=by
 obtain⟨h1,h2,h3,h4,h5⟩:=h
 have ht:=Dk.Ok.t ⟨h1,h2,h3,h4,h5⟩ p
 unfold flS
 split
 ·exact⟨h1,h2,h3,h4,h5⟩
 ·refine⟨h1,h2,h3,h4,yh h5 ?_⟩
  rintro t ⟨⟩
  obtain⟨a,b,c,d,e,f⟩:=ht
  exact⟨a,b,by show -1≤max _ (-1);omega,by show max _ (-1)≤_;omega,e,f⟩
theorem spS_ok{s:Dk}(h:s.Ok)(p a x:Int)(hx:0≤x)(hx2:x≤255):(spS s p a x).Ok:=by
 obtain⟨h1,h2,h3,h4,h5⟩:=h
 have ht:=Dk.Ok.t ⟨h1,h2,h3,h4,h5⟩ p
 unfold spS
 split
 ·exact⟨h1,h2,h3,h4,h5⟩
 ·split
  ·exact⟨h1,h2,h3,h4,h5⟩
  ·refine⟨h1,h2,h3,h4,yh h5 ?_⟩
   rintro t ⟨⟩
   obtain⟨_,_,c,d,e,f⟩:=ht
   exact⟨by show 0≤a;omega,by show a<64;omega,c,d,hx,hx2⟩
theorem hlS_ok{s:Dk}(h:s.Ok)(p:Int):(hlS s p).Ok:=by
 obtain⟨h1,h2,h3,h4,h5⟩:=h
 unfold hlS
 split
 ·exact⟨h1,h2,h3,h4,h5⟩
 ·exact⟨h1,h2,h3,h4,yh h5 (by rintro t ⟨⟩)⟩
end Go.Dskp
namespace Go.Proofs.YtnicjahcgnhogaaGreatDoor.Cch
open Go Go.RowKit Go.Calli Go.Dskp Go.Maps
attribute [local irreducible] wpStill wpAnyH wpAnyS wpList Code.wp
theorem law3:Keyed Tryz.prog 3:=int_keyed Tryz.underlying3
theorem xO(w:World):(zeroValue 245).run Tryz.prog w= .ok (rX Flt.zero) w:=by kernel_rfl
def Dsk(w:World)(b mb:Nat)(ib:Option Addr)(kap m:Nat)(s:Dk):Prop:=
 w.heap[b]? =some (.cells #[.slice ib s.img.length kap,.map (some mb),.int .i64 s.r,.int .i64 s.g] 136 (0,0))∧Ints .u8 w ib s.img.length s.img∧s.img.length≤kap∧gB Tryz.prog 3 w mb m s.F∧b≠mb∧∀a,ib=some a→a.block≠b∧a.block≠mb
theorem bi{w:World}{b:Nat}{v0 v1 v2 v3:Value}{T:Nat}(h:w.heap[b]? =some (.cells #[v0,v1,v2,v3] T (0,0))):
  w.cell? ⟨b,0,none⟩=some v0∧w.cell? ⟨b,1,none⟩=some v1∧w.cell? ⟨b,2,none⟩=some v2∧w.cell? ⟨b,3,none⟩=some v3∧w.frozen? ⟨b,2,none⟩=false∧w.frozen? ⟨b,3,none⟩=false:=
 ⟨LY h rfl,LY h rfl,LY h rfl,LY h rfl,L6 h,L6 h⟩
theorem Dsk.kept{w w':World}{b mb:Nat}{ib:Option Addr}{kap m:Nat}{s:Dk}(h:Dsk w b mb ib kap m s){S:Nat→Prop}(hk:af S w w')(h0:¬S b)(h1:¬S mb)(h2: ∀a,ib=some a→¬S a.block):Dsk w' b mb ib kap m s:=by
 obtain⟨a1,a2,a3,a4,a5,a6⟩:=h
 exact⟨hk.heap a1 h0,a2.kept hk h2,a3,a4.kept hk h1,a5,a6⟩
theorem Dsk.ah{w w':World}{b mb:Nat}{ib:Option Addr}{kap m:Nat}{s:Dk}(h:Dsk w b mb ib kap m s)(hb:Below w.heap.size w w'):Dsk w' b mb ib kap m s:=
 h.kept (S:=fun _=>False) (af.au hb Me) id id (fun _ _=>id)
theorem Dsk.drew{w:World}{b mb:Nat}{ib:Option Addr}{kap m:Nat}{s:Dk}(h:Dsk w b mb ib kap m s):Dsk w.drew b mb ib kap m s:=h.ah MB.drew
def Same(v:Value)(w:World)(e:Ending)(w':World):Prop:=e= .returned v∧w=w'
theorem map_none(w:World):(binOp BinOp.eql 134 (.map none) (.map none)).run Tryz.prog w= .ok (.bool true) w:=by kernel_rfl
theorem map_some(b:Nat)(w:World):(binOp BinOp.eql 134 (.map (some b)) (.map none)).run Tryz.prog w= .ok (.bool false) w:=by kernel_rfl
theorem uw(b mb:Nat)(ib:Option Addr)(kap m:Nat)(s:Dk)(w:World)(h:Dsk w b mb ib kap m s):Calls Tryz.prog 61 #[.pointer (some ⟨b,0,none⟩)] w (Same (.bool false) w):=by
 obtain⟨c0,c1,c2,c3,f2,f3⟩:=bi h.1
 have e1:=map_none w
 have e2:=map_some mb w
 go_enter Tryz.func61,Tryz.ntmps61
 go_wp2_with fail
 all_goals go_ret
 all_goals exact⟨rfl,rfl⟩
theorem qP(b mb:Nat)(ib:Option Addr)(kap m:Nat)(s:Dk)(hs:s.Ok)(w:World)(h:Dsk w b mb ib kap m s):Calls Tryz.prog 23 #[.pointer (some ⟨b,0,none⟩)] w (Same (.int .i64 s.pages) w):=by
 obtain⟨c0,c1,c2,c3,f2,f3⟩:=bi h.1
 have h1:=hs.1
 have hN:=fun w h=>uw b mb ib kap m s w h
 have hl:IntKind.i64.wrap ((s.img.length:Int)+64)=(s.img.length:Int)+64:=IntWalk.i64_in _ (by omega)
 have hl2:IntKind.i64.wrap ((s.img.length:Int)+63)=(s.img.length:Int)+63:=IntWalk.i64_in _ (by omega)
 go_enter Tryz.func23,Tryz.ntmps23
 go_wp2_with (go_at_call 61;refine(hN w h).mono ?_;rintro e w' ⟨rfl,rfl⟩)
 all_goals go_ret
 all_goals exact⟨by unfold Dk.pages;exact aX (by omega),rfl⟩
theorem FQ(b mb:Nat)(ib:Option Addr)(kap m:Nat)(s:Dk)(w:World)(h:Dsk w b mb ib kap m s):Calls Tryz.prog 38 #[.pointer (some ⟨b,0,none⟩)] w (Same (.int .i64 s.r) w):=by
 obtain⟨c0,c1,c2,c3,f2,f3⟩:=bi h.1
 have hN:=fun w h=>uw b mb ib kap m s w h
 go_enter Tryz.func38,Tryz.ntmps38
 go_wp2_with (go_at_call 61;refine(hN w h).mono ?_;rintro e w' ⟨rfl,rfl⟩)
 all_goals go_ret
 all_goals exact⟨rfl,rfl⟩
theorem nS(b mb:Nat)(ib:Option Addr)(kap m:Nat)(s:Dk)(hs:s.Ok)(page:Int)(w:World)(h:Dsk w b mb ib kap m s):Calls Tryz.prog 135 #[.pointer (some ⟨b,0,none⟩),.int .i64 page] w (Same (.int .i64 (flE s page)) w):=by
 obtain⟨c0,c1,c2,c3,f2,f3⟩:=bi h.1
 have hN:=fun w h=>uw b mb ib kap m s w h
 have hP:=fun w h=>qP b mb ib kap m s hs w h
 have HE:Hid (flE s page=if s.out page then 5 else 0):=rfl
 by_cases h0:page<0
 ·rw[if_pos (show s.out page from Or.inl h0)] at HE
  go_enter Tryz.func135,Tryz.ntmps135
  go_wp2_with (first | (go_at_call 61;refine(hN w h).mono ?_;rintro e w' ⟨rfl,rfl⟩) | (go_at_call 23;refine(hP _ h).mono ?_;rintro e w' ⟨rfl,rfl⟩))
  all_goals go_ret
  all_goals exact⟨by rw[HE.out]<;>rfl,rfl⟩
 ·by_cases h1:(s.pages:Int)≤page
  ·rw[if_pos (show s.out page from Or.inr h1)] at HE
   go_enter Tryz.func135,Tryz.ntmps135
   go_wp2_with (first | (go_at_call 61;refine(hN w h).mono ?_;rintro e w' ⟨rfl,rfl⟩) | (go_at_call 23;refine(hP _ h).mono ?_;rintro e w' ⟨rfl,rfl⟩))
   all_goals go_ret
   all_goals exact⟨by rw[HE.out]<;>rfl,rfl⟩
  ·rw[if_neg (by unfold Dk.out;omega)] at HE
   go_enter Tryz.func135,Tryz.ntmps135
   go_wp2_with (first | (go_at_call 61;refine(hN w h).mono ?_;rintro e w' ⟨rfl,rfl⟩) | (go_at_call 23;refine(hP _ h).mono ?_;rintro e w' ⟨rfl,rfl⟩))
   all_goals go_ret
   all_goals exact⟨by rw[HE.out]<;>rfl,rfl⟩
def ou(b mb:Nat)(ib:Option Addr)(kap m:Nat)(s':Dk)(E:Int)(w:World)(e:Ending)(w':World):Prop:=e= .returned (.int .i64 E)∧(∃m',m'≤m+1∧Dsk w' b mb ib kap m' s')∧af (fun k=>k=b∨k=mb) w w'
theorem Dsk.stored{w w':World}{b mb:Nat}{ib:Option Addr}{kap m m':Nat}{s:Dk}{F:Int→Option Flt}(h:Dsk w b mb ib kap m s)(hf:gB Tryz.prog 3 w' mb m' F)(hk:af (fun i=>i=mb) w w'):Dsk w' b mb ib kap m' {s with F:=F}:=by
 obtain⟨a1,a2,a3,a4,a5,a6⟩:=h
 exact⟨hk.heap a1 a5,a2.kept hk (fun a ha=>(a6 a ha).2),a3,hf,a5,a6⟩
theorem wR{b mb:Nat}{ib:Option Addr}{kap m:Nat}{s:Dk}(w:World)(v0 v1 v2:Value)(h:Dsk w b mb ib kap m s):
  (w.alloc (.cells #[v0,v1,v2] 245)).cell? ⟨w.heap.size,0,none⟩=some v0∧(w.alloc (.cells #[v0,v1,v2] 245)).cell? ⟨w.heap.size,1,none⟩=some v1∧(w.alloc (.cells #[v0,v1,v2] 245)).cell? ⟨w.heap.size,2,none⟩=some v2∧Dsk (w.alloc (.cells #[v0,v1,v2] 245)) b mb ib kap m s∧Below w.heap.size w (w.alloc (.cells #[v0,v1,v2] 245)):=by
 have hb:Below w.heap.size w (w.alloc (.cells #[v0,v1,v2] 245)):=MB.alloc Me _
 have hh:(w.alloc (.cells #[v0,v1,v2] 245)).heap[w.heap.size]? =some (.cells #[v0,v1,v2] 245 (0,0)):=(MapKept.heap_alloc w _).1
 exact⟨LY hh rfl,LY hh rfl,LY hh rfl,h.ah hb,hb⟩
theorem qg(b mb:Nat)(ib:Option Addr)(kap m:Nat)(s:Dk)(hs:s.Ok)(hm:m<1000000000)(page n:Int)(hwp:(Lit.int .i64 page).wf=true)(w:World)(h:Dsk w b mb ib kap m s):Calls Tryz.prog 102 #[.pointer (some ⟨b,0,none⟩),.int .i64 page,.int .i64 n] w (ou b mb ib kap m (flS s page n) (flE s page) w):=by
 obtain⟨c0,c1,c2,c3,f2,f3⟩:=bi h.1
 have hW:=fun w h=>nS b mb ib kap m s hs page w h
 have hlk:=h.2.2.2.1.look law3 Tryz.underlying3 Tryz.underlying134 xO hwp
 have HE:Hid (flE s page=if s.out page then 5 else 0):=rfl
 have HS:Hid (flS s page n=if s.out page then s else{s with F:=put s.F page (some {s.t page with f:=max n (-1)})}):=rfl
 by_cases ho:s.out page
 ·rw[if_pos ho] at HE HS
  have hE:=HE.out
  rw[hE] at hW
  go_enter Tryz.func102,Tryz.ntmps102
  go_wp2_with (go_at_call 135;refine(hW w h).mono ?_;rintro e w' ⟨rfl,rfl⟩)
  go_ret
  exact⟨by rw[hE]<;>rfl,⟨m,by omega,by rw[HS.out];exact h⟩,af.refl _ _⟩
 ·rw[if_neg ho] at HE HS
  have hE:=HE.out
  rw[hE] at hW
  unfold rX at hlk
  have HF:Hid (s.t page=(s.F page).getD Flt.zero):=rfl
  rw[←HF.out] at hlk
  obtain⟨n',hn'⟩: ∃n',n'=max n (-1):=⟨_,rfl⟩
  rw[←hn'] at HS
  have hcase:(n< -1∧n'= -1)∨(-1≤n∧n'=n):=by omega
  clear hn'
  rcases hcase with⟨hn1,rfl⟩ | ⟨hn1,rfl⟩
  all_goals
   go_enter Tryz.func102,Tryz.ntmps102
   go_wp2_with (go_at_call 135;refine(hW w h).mono ?_;rintro e w' ⟨rfl,rfl⟩)
   obtain⟨d0,d1,d2,hD1,hb1⟩:=wR w _ _ _ h
   obtain⟨e0,e1,e2,e3,-,-⟩:=bi hD1.1
   generalize w.alloc _=w1 at*
   go_still_tail 6,(by kernel_rfl)
   repeat still_step
   try refine wpStill_nil ?_
   change wpList _ _ _ _ _ w1.drew
   refine gW (T:=134) (K:=3) (e:=245) rfl _ _ _ rfl law3 Tryz.underlying3 Tryz.underlying134 rfl hD1.drew.2.2.2.1 (by unfold maxLen;omega) page ⟨_,(s.t page).a,(s.t page).x⟩ rfl rfl hwp ?_;intro w2 hF2 hk2
   go_wp2_with fail
   go_ret
   exact⟨by rw[hE]<;>rfl,⟨m+1,by omega,by rw[HS.out];exact hD1.drew.stored hF2 hk2⟩,((af.au hb1 Me).drew.andThen hk2 fun _ _=>id).mono fun _ _=>Or.inr⟩
theorem Fj(b mb:Nat)(ib:Option Addr)(kap m:Nat)(s:Dk)(hs:s.Ok)(hm:m<1000000000)(page n x:Int)(hwp:(Lit.int .i64 page).wf=true)(w:World)(h:Dsk w b mb ib kap m s):Calls Tryz.prog 103 #[.pointer (some ⟨b,0,none⟩),.int .i64 page,.int .i64 n,.int .u8 x] w (ou b mb ib kap m (spS s page n x) (spE s page n) w):=by
 obtain⟨c0,c1,c2,c3,f2,f3⟩:=bi h.1
 have hW:=fun w h=>nS b mb ib kap m s hs page w h
 have hlk:=h.2.2.2.1.look law3 Tryz.underlying3 Tryz.underlying134 xO hwp
 have HW:Hid (flE s page=if s.out page then 5 else 0):=rfl
 have HE:Hid (spE s page n=if s.out page then 5 else if n<0∨64≤n then 1 else 0):=rfl
 have HS:Hid (spS s page n x=if s.out page then s else if n<0∨64≤n then s else{s with F:=put s.F page (some {s.t page with a:=n,x:=x})}):=rfl
 by_cases ho:s.out page
 ·rw[if_pos ho] at HE HS HW
  have hE:=HE.out
  rw[HW.out] at hW
  go_enter Tryz.func103,Tryz.ntmps103
  go_wp2_with (go_at_call 135;refine(hW w h).mono ?_;rintro e w' ⟨rfl,rfl⟩)
  go_ret
  exact⟨by rw[hE]<;>rfl,⟨m,by omega,by rw[HS.out];exact h⟩,af.refl _ _⟩
 ·rw[if_neg ho] at HE HS HW
  rw[HW.out] at hW
  by_cases hn:n<0∨64≤n
  ·rw[if_pos hn] at HE HS
   have hE:=HE.out
   rcases hn with hn | hn
   all_goals
    go_enter Tryz.func103,Tryz.ntmps103
    go_wp2_with (go_at_call 135;refine(hW w h).mono ?_;rintro e w' ⟨rfl,rfl⟩)
    go_ret
    exact⟨by rw[hE]<;>rfl,⟨m,by omega,by rw[HS.out];exact h⟩,af.refl _ _⟩
  ·rw[if_neg hn] at HE HS
   have hE:=HE.out
   have hn1:0≤n:=by omega
   have hn2:n<64:=by omega
   clear hn
   unfold rX at hlk
   have HF:Hid (s.t page=(s.F page).getD Flt.zero):=rfl
   rw[←HF.out] at hlk
   go_enter Tryz.func103,Tryz.ntmps103
   go_wp2_with (go_at_call 135;refine(hW w h).mono ?_;rintro e w' ⟨rfl,rfl⟩)
   obtain⟨d0,d1,d2,hD1,hb1⟩:=wR w _ _ _ h
   obtain⟨e0,e1,e2,e3,-,-⟩:=bi hD1.1
   generalize w.alloc _=w1 at*
   go_still_tail 6,(by kernel_rfl)
   repeat still_step
   try refine wpStill_nil ?_
   change wpList _ _ _ _ _ w1.drew
   refine gW (T:=134) (K:=3) (e:=245) rfl _ _ _ rfl law3 Tryz.underlying3 Tryz.underlying134 rfl hD1.drew.2.2.2.1 (by unfold maxLen;omega) page ⟨(s.t page).f,n,x⟩ rfl rfl hwp ?_;intro w2 hF2 hk2
   go_wp2_with fail
   go_ret
   exact⟨by rw[hE]<;>rfl,⟨m+1,by omega,by rw[HS.out];exact hD1.drew.stored hF2 hk2⟩,((af.au hb1 Me).drew.andThen hk2 fun _ _=>id).mono fun _ _=>Or.inr⟩
theorem J4(b mb:Nat)(ib:Option Addr)(kap m:Nat)(s:Dk)(hs:s.Ok)(page:Int)(hwp:(Lit.int .i64 page).wf=true)(w:World)(h:Dsk w b mb ib kap m s):Calls Tryz.prog 104 #[.pointer (some ⟨b,0,none⟩),.int .i64 page] w (ou b mb ib kap m (hlS s page) (flE s page) w):=by
 obtain⟨c0,c1,c2,c3,f2,f3⟩:=bi h.1
 have hW:=fun w h=>nS b mb ib kap m s hs page w h
 have HE:Hid (flE s page=if s.out page then 5 else 0):=rfl
 have HS:Hid (hlS s page=if s.out page then s else{s with F:=put s.F page none}):=rfl
 by_cases ho:s.out page
 ·rw[if_pos ho] at HE HS
  have hE:=HE.out
  rw[hE] at hW
  go_enter Tryz.func104,Tryz.ntmps104
  go_wp2_with (go_at_call 135;refine(hW w h).mono ?_;rintro e w' ⟨rfl,rfl⟩)
  go_ret
  exact⟨by rw[hE]<;>rfl,⟨m,by omega,by rw[HS.out];exact h⟩,af.refl _ _⟩
 ·rw[if_neg ho] at HE HS
  have hE:=HE.out
  rw[hE] at hW
  go_enter Tryz.func104,Tryz.ntmps104
  go_wp2_with (first | (go_at_call 135;refine(hW w h).mono ?_;rintro e w' ⟨rfl,rfl⟩) | (at_delete;refine oU (T:=134) (K:=3) (e:=245) rfl _ _ rfl law3 Tryz.underlying3 Tryz.underlying134 rfl h.2.2.2.1 page rfl hwp ?_;intro w2 hF2 hk2))
  go_ret
  exact⟨by rw[hE]<;>rfl,⟨m,by omega,by rw[HS.out];exact h.stored hF2 hk2⟩,hk2.mono fun _ _=>Or.inr⟩
def sQ(b mb:Nat)(ib:Option Addr)(kap m:Nat)(B:List Int)(E:Int)(S:Dk)(w:World)(e:Ending)(w':World):Prop:=∃ro rc,e= .returned (.tuple #[.slice ro B.length rc,.int .i64 E])∧B.length≤rc∧(∃m',m'≤m+1∧Dsk w' b mb ib kap m' S)∧Ints .u8 w' ro B.length B∧(∀a,ro=some a→w.heap.size≤a.block)∧af (fun k=>k=b∨k=mb) w w'
def vz(b mb:Nat)(ib:Option Addr)(kap m:Nat)(s:Dk)(page:Int)(w:World)(e:Ending)(w':World):Prop:=sQ b mb ib kap m (rdB s page) (rdE s page) (rdS s page) w e w'
theorem Dsk.reads{w:World}{b mb:Nat}{ib:Option Addr}{kap m:Nat}{s:Dk}(h:Dsk w b mb ib kap m s)(r:Int):Dsk (w.setCell ⟨b,2,none⟩ (.int .i64 r)) b mb ib kap m {s with r:=r}:=by
 obtain⟨a1,a2,a3,a4,a5,a6⟩:=h
 have hk:af (fun k=>k=b) w (w.setCell ⟨b,2,none⟩ (.int .i64 r)):=(af.refl (fun k=>k=b) w).setCell (p:=⟨b,2,none⟩) (.inr rfl) _
 exact⟨Mc a1,a2.kept hk (fun a ha=>(a6 a ha).1),a3,a4.kept hk (fun e=>a5 e.symm),a5,a6⟩
theorem Dsk.later{w W:World}{b mb:Nat}{ib:Option Addr}{kap m:Nat}{s:Dk}(h:Dsk w b mb ib kap m s)(hk:af (fun k=>k=b) w W){r g:Int}(hb:W.heap[b]? =some (.cells #[.slice ib s.img.length kap,.map (some mb),.int .i64 r,.int .i64 g] 136 (0,0))):Dsk W b mb ib kap m {s with r:=r,g:=g}:=by
 obtain⟨a1,a2,a3,a4,a5,a6⟩:=h
 exact⟨hb,a2.kept hk (fun a ha=>(a6 a ha).1),a3,a4.kept hk (fun e=>a5 e.symm),a5,a6⟩
theorem aW{w:World}{b:Nat}{v0 v1 v2:Value}{T:Nat}(h:w.heap[b]? =some (.cells #[v0,v1,v2] T (0,0))):
  w.cell? ⟨b,0,none⟩=some v0∧w.cell? ⟨b,1,none⟩=some v1∧w.cell? ⟨b,2,none⟩=some v2∧w.frozen? ⟨b,0,none⟩=false∧w.frozen? ⟨b,1,none⟩=false∧w.frozen? ⟨b,2,none⟩=false:=
 ⟨LY h rfl,LY h rfl,LY h rfl,L6 h,L6 h,L6 h⟩
theorem Dsk.lt{w:World}{b mb:Nat}{ib:Option Addr}{kap m:Nat}{s:Dk}(h:Dsk w b mb ib kap m s):b<w.heap.size:=(Array.getElem?_eq_some_iff.1 h.1).1
theorem uX{b mb:Nat}{ib:Option Addr}{kap m:Nat}{s:Dk}(w:World)(h:Dsk w b mb ib kap m s)(r:Int)(v0 v1 v2:Value):
  ∀W,W=(w.setCell ⟨b,2,none⟩ (.int .i64 r)).alloc (.cells #[v0,v1,v2] 245)→W.heap[b]? =some (.cells #[.slice ib s.img.length kap,.map (some mb),.int .i64 r,.int .i64 s.g] 136 (0,0))∧W.heap[w.heap.size]? =some (.cells #[v0,v1,v2] 245 (0,0))∧af (fun k=>k=b) w W∧w.heap.size≠b:=by
 rintro W rfl
 have hk:af (fun k=>k=b) w (w.setCell ⟨b,2,none⟩ (.int .i64 r)):=(af.refl (fun k=>k=b) w).setCell (p:=⟨b,2,none⟩) (.inr rfl) _
 have h1:=h.reads r
 have hsz:(w.setCell ⟨b,2,none⟩ (.int .i64 r)).heap.size=w.heap.size:=by simp
 have ha:=MapKept.heap_alloc (w.setCell ⟨b,2,none⟩ (.int .i64 r)) (.cells #[v0,v1,v2] 245)
 have hb:=(h1.ah (MB.alloc Me (.cells #[v0,v1,v2] 245))).1
 refine⟨hb,?_,hk.alloc _,by have:=h.lt;omega⟩
 have:=ha.1
 rw[hsz] at this
 exact this
theorem Jg(b mb:Nat)(ib:Option Addr)(kap m:Nat)(s:Dk)(hs:s.Ok)(page:Int)(ho:s.out page)(w:World)(h:Dsk w b mb ib kap m s):Calls Tryz.prog 275 #[.pointer (some ⟨b,0,none⟩),.int .i64 page] w (vz b mb ib kap m s page w):=by
 have hW:=nS b mb ib kap m s hs page w h
 have hB:rdB s page=[]:=if_pos ho
 have hS:rdS s page=s:=if_pos ho
 have hE:rdE s page=5:=if_pos ho
 show Calls _ _ _ _ (sQ b mb ib kap m (rdB s page) (rdE s page) (rdS s page) w)
 rw[hB,hS,hE]
 rw[show flE s page=5 from if_pos ho] at hW
 go_enter Tryz.func275,Tryz.ntmps275
 go_wp2_with (go_at_call 135;refine hW.mono ?_;rintro e w' ⟨rfl,rfl⟩)
 go_ret2
 exact⟨none,0,rfl,Me,⟨m,by omega,h⟩,Ints.nil _ _ _,(fun a e=>by cases e),af.refl _ _⟩
theorem Jh(b mb:Nat)(ib:Option Addr)(kap m:Nat)(s:Dk)(hs:s.Ok)(hm:m<1000000000)(hr:s.r<1000000000)(page:Int)(hwp:(Lit.int .i64 page).wf=true)(ho:¬s.out page)(t:Flt)(hF:s.F page=some t)(ht:t.f≠0)(w:World)(h:Dsk w b mb ib kap m s):Calls Tryz.prog 275 #[.pointer (some ⟨b,0,none⟩),.int .i64 page] w (vz b mb ib kap m s page w):=by
 have hW:=nS b mb ib kap m s hs page w h
 have hst:s.t page=t:=by unfold Dk.t;rw[hF];rfl
 have hB:rdB s page=[]:=by unfold rdB;rw[if_neg ho,hst,if_pos ht]
 have hS:rdS s page={s with r:=s.r+1,g:=s.g+1,F:=put s.F page (some {t with f:=max (t.f - 1) (-1)})}:=by unfold rdS;rw[if_neg ho,hst,if_pos ht]
 have hE:rdE s page=8:=by unfold rdE;rw[if_neg ho,hst,if_pos ht]
 show Calls _ _ _ _ (sQ b mb ib kap m (rdB s page) (rdE s page) (rdS s page) w)
 rw[hB,hS,hE]
 clear hB hS hE
 rw[show flE s page=0 from if_neg ho] at hW
 obtain⟨c0,c1,c2,c3,f2,f3⟩:=bi h.1
 obtain⟨_,hr0,hg0,hgr,hok⟩:=hs
 have htk:=hok page t hF
 unfold FOk at htk
 obtain⟨_,_,tf1,tf2,_,_⟩:=htk
 have hH1:=MI (h.reads (s.r+1))
 have hlk:=hH1.out.2.2.2.1.look_ok law3 Tryz.underlying3 Tryz.underlying134 xO hwp
 simp only[hF,Option.getD_some,Option.isSome_some] at hlk
 unfold rX at hlk
 have e1:IntKind.i64.wrap (s.r+1)=s.r+1:=IntWalk.i64_in _ (by omega)
 have e2:IntKind.i64.wrap (s.g+1)=s.g+1:=IntWalk.i64_in _ (by omega)
 have e3:IntKind.i64.wrap (t.f - 1)=t.f - 1:=IntWalk.i64_in _ (by omega)
 clear hok
 have hbeq:(t.f !=0)=true:=by simpa using ht
 go_enter Tryz.func275,Tryz.ntmps275
 go_upto_region 7 with(go_at_call 135;refine hW.mono ?_;rintro e w' ⟨rfl,rfl⟩)
 obtain⟨x1,x2,x3,x4⟩:=uX w h (s.r+1) _ _ _ _ rfl
 obtain⟨y0,y1,y2,y3,y4,y5⟩:=bi x1
 obtain⟨z0,z1,z2,z3,z4,z5⟩:=aW x2
 generalize (w.setCell _ _).alloc _=w2 at*
 clear hlk c0 c1 c2 c3 f2 f3
 go_upto_region 9 with fail
 obtain⟨f',hf'⟩: ∃f',f'=max (t.f - 1) (-1):=⟨_,rfl⟩
 have hif:(if t.f - 1< -1 then -1 else t.f - 1)=f':=by rw[hf'];split<;>omega
 rw[hif]
 have HF':=MI hf'
 clear hif hf' y0 y1 y2 y3 y4 y5 z0 z1 z2 z3 z4 z5
 have X1:=(heap_setCell_other (w2.setCell ⟨b,3,none⟩ (.int .i64 (s.g+1))) ⟨w.heap.size,0,none⟩ b (.int .i64 f') (Ne.symm x4)).trans (heap_setCell_same _ _ _ _ _ (.int .i64 (s.g+1)) x1)
 have X2:=heap_setCell_same (w2.setCell ⟨b,3,none⟩ (.int .i64 (s.g+1))) _ 0 _ _ (.int .i64 f') ((heap_setCell_other w2 ⟨b,3,none⟩ w.heap.size (.int .i64 (s.g+1)) x4).trans x2)
 have X3:=(x3.setCell (p:=⟨b,3,none⟩) (.inr rfl) (.int .i64 (s.g+1))).setCell (p:=⟨w.heap.size,0,none⟩) (.inl Me) (.int .i64 f')
 generalize (w2.setCell ⟨b,3,none⟩ (.int .i64 (s.g+1))).setCell ⟨w.heap.size,0,none⟩ (.int .i64 f')=W at*
 have hD:=(h.later X3 X1).drew
 obtain⟨y0,y1,y2,y3,y4,y5⟩:=bi X1
 obtain⟨z0,z1,z2,z3,z4,z5⟩:=aW X2
 go_still_tail 6,(by kernel_rfl)
 repeat still_step
 try refine wpStill_nil ?_
 change wpList _ _ _ _ _ W.drew
 refine gW (T:=134) (K:=3) (e:=245) rfl _ _ _ rfl law3 Tryz.underlying3 Tryz.underlying134 rfl hD.2.2.2.1 (by unfold maxLen;omega) page ⟨f',t.a,t.x⟩ rfl rfl hwp ?_;intro w4 hF2 hk2
 go_wp2_with fail
 go_ret2
 exact⟨none,0,rfl,Me,⟨m+1,by omega,by rw[←HF'.out];exact hD.stored hF2 hk2⟩,Ints.nil _ _ _,(fun a e=>by cases e),(X3.drew.mono fun _ _=>Or.inl).andThen hk2 fun _ _=>Or.inr⟩
theorem Ints.of_heap{k:IntKind}{w:World}{g:Nat}{zs:List Int}{e:Nat}{fr:Nat×Nat}(h:w.heap[g]? =some (.cells (zs.map (Value.int k)).toArray e fr))(hm:zs.length≤maxLen)(hw: ∀z ∈ zs,(Lit.int k z).wf=true):Ints k w (some ⟨g,0,none⟩) zs.length zs:=by
 refine⟨rfl,hm,fun i hi=>⟨_,rfl,?_⟩,hw⟩
 rw[add0,LZ h]
 simp[hi]
theorem row_set{k:IntKind}{w:World}{g:Nat}{zs:List Int}{e:Nat}(h:w.heap[g]? =some (.cells (zs.map (Value.int k)).toArray e (0,0)))(i:Nat)(v:Int):(w.setCell ⟨g,i,none⟩ (.int k v)).heap[g]? =some (.cells ((zs.set i v).map (Value.int k)).toArray e (0,0)):=by
 rw[Mc h]
 simp[List.map_set]
theorem pK(img:List Int)(p:Nat):(pgB img p).length=64:=by simp[pgB]
theorem pgB_wf{img:List Int}(h: ∀z ∈ img,(Lit.int .u8 z).wf=true)(p:Nat): ∀z ∈ pgB img p,(Lit.int .u8 z).wf=true:=by
 intro z hz
 simp only[pgB,List.mem_map] at hz
 obtain⟨i,_,rfl⟩:=hz
 exact sK h (by decide) _
theorem Gh(img:List Int)(p:Nat):splice (List.replicate 64 (Value.int .u8 0)) 0 (((img.drop (64*p)).take 64).map (Value.int .u8))=(pgB img p).map (Value.int .u8):=by
 have e:splice (List.replicate 64 (Value.int .u8 0)) 0 (((img.drop (64*p)).take 64).map (Value.int .u8))=(((img.drop (64*p)).take 64)++List.replicate (64 - ((img.drop (64*p)).take 64).length) 0).map (Value.int .u8):=by
  simp only[splice,List.take_zero,List.nil_append,List.drop_replicate,List.length_map,Nat.zero_add,List.map_append,List.map_replicate]
 rw[e]
 congr 1
 apply List.ext_getElem
 ·simp[pgB];omega
 ·intro i h1 h2
  rw[pK] at h2
  simp only[pgB,List.getElem_map,List.getElem_range,List.getElem_append]
  split
  ·rename_i h3
   simp only[List.getElem_take,List.getElem_drop]
   simp at h3
   rw[List.getD_eq_getElem?_getD,List.getElem?_eq_getElem (by omega)];rfl
  ·rename_i h3
   simp at h3
   rw[List.getD_eq_getElem?_getD,List.getElem?_eq_none (by omega)];simp
theorem bx_wf(a x:Int):(Lit.int .u8 (bx a x)).wf=true:=
 wf_bits _ _ _ _
theorem wU(k:IntKind)(z:Int)(n:Nat):(madeCells (Value.int k z).cells n).toList=List.replicate n (.int k z):=by
 apply List.ext_getElem
 ·simp[madeCells]
 ·intro i h1 h2
  simp[madeCells,Value.cells,Nat.mod_one]
theorem own_row{w:World}{base g n:Nat}{xs:List Value}(h:w.ownsRow base 5 1 (.slice (some ⟨g,0,none⟩) n n) n xs)(hx:xs.length=n):w.heap[g]? =some (.cells xs.toArray 5 (0,0)):=by
 rcases h.2 with⟨h1,_⟩ | ⟨g',cap,cur,h1,hbg,hg,hnc,hcm,hcs,htake⟩
 ·cases h1
 ·cases h1
  rw[hg]
  congr 2
  apply Array.toList_inj.1
  have:cur.toList.take (n*1)=xs:=htake
  rw[←this,List.take_of_length_le (by simpa using Nat.le_of_eq hcs)]
theorem FT(b mb:Nat)(ib:Option Addr)(kap m:Nat)(s:Dk)(hs:s.Ok)(hr:s.r<1000000000)(p:Nat)(hwp:(Lit.int .i64 (p:Int)).wf=true)(ho:¬s.out p)(t:Flt)(hst:s.t p=t)(ht:t.f=0)(w:World)(h:Dsk w b mb ib kap m s):Calls Tryz.prog 275 #[.pointer (some ⟨b,0,none⟩),.int .i64 p] w (vz b mb ib kap m s p w):=by
 have hW:=nS b mb ib kap m s hs p w h
 have hne:¬(s.t p).f≠0:=by rw[hst];simpa using ht
 have hB:rdB s p=(pgB s.img p).set t.a.toNat (bx ((pgB s.img p).getD t.a.toNat 0) t.x):=by unfold rdB;rw[if_neg ho,if_neg hne,hst];rfl
 have hS:rdS s p={s with r:=s.r+1}:=by unfold rdS;rw[if_neg ho,if_neg hne]
 have hE:rdE s p=0:=by unfold rdE;rw[if_neg ho,if_neg hne]
 show Calls _ _ _ _ (sQ b mb ib kap m (rdB s p) (rdE s p) (rdS s p) w)
 rw[hB,hS,hE]
 clear hB hS hE
 rw[show flE s p=0 from if_neg ho] at hW
 obtain⟨c0,c1,c2,c3,f2,f3⟩:=bi h.1
 have htk:FOk t:=by rw[←hst];exact hs.t p
 obtain⟨hil,hr0,hg0,hgr,hok⟩:=hs
 unfold FOk at htk
 obtain⟨ta0,ta1,tf1,tf2,tx0,tx1⟩:=htk
 have hplt:64*p<s.img.length:=by unfold Dk.out Dk.pages at ho;omega
 have hH1:=MI (h.reads (s.r+1))
 have hlk:=hH1.out.2.2.2.1.look_ok law3 Tryz.underlying3 Tryz.underlying134 xO hwp
 simp only[show(s.F p).getD Flt.zero=t from hst] at hlk
 unfold rX at hlk
 rw[ht] at hlk
 obtain⟨hi5,hu5⟩: ∃i5:TypeInfo,Tryz.prog.info? 5=some i5∧i5.zero=some (.int .u8 0)∧i5.size=1∧i5.bytes=1:=⟨_,rfl,rfl,rfl,rfl⟩
 have e1:IntKind.i64.wrap (s.r+1)=s.r+1:=IntWalk.i64_in _ (by omega)
 have e2:IntKind.i64.wrap ((p:Int)*64)=(p:Int)*64:=IntWalk.i64_in _ (by omega)
 clear hok
 obtain⟨th,hth⟩: ∃th,th=(s.F p).isSome:=⟨_,rfl⟩
 rw[←hth] at hlk
 clear hth
 cases th
 all_goals
  go_enter Tryz.func275,Tryz.ntmps275
  go_upto_region 11 with(go_at_call 135;refine hW.mono ?_;rintro e w' ⟨rfl,rfl⟩)
  obtain⟨x1,x2,x3,x4⟩:=uX w h (s.r+1) _ _ _ _ rfl
  generalize (w.setCell _ _).alloc _=w2 at*
  clear hlk c0 c1 c2 c3 f2 f3
  have hD:=h.later x3 x1
  go_upto_region 12 with(at_make;refine wpList_make_full _ rfl _ _ 63 rfl w2.heap.size 5 _ _ _ Tryz.underlying63 hu5.1 hu5.2.1 hu5.2.2.1 _ _ _ _ 64 rfl rfl rfl rfl (by rw[hu5.2.2.2];decide) (by unfold maxLen;decide) Me ?_;intro w3 hown hgrow)
  have hk3:=x3.grown hgrow (fun k hk=>by cases hk)
  have G3:=own_row hown (by rw[wU];exact List.length_replicate)
  rw[show(madeCells (Value.int .u8 0).cells (64*1)).toList=List.replicate 64 (Value.int .u8 0) from wU _ _ _] at G3
  have X1:=(hgrow.block b (Array.getElem?_eq_some_iff.1 x1).1 (by simp)).trans x1
  have X2:=(hgrow.block w.heap.size (Array.getElem?_eq_some_iff.1 x2).1 (by simp)).trans x2
  have HD3:=MI (h.later hk3 X1)
  have hls:w.heap.size<w2.heap.size:=(Array.getElem?_eq_some_iff.1 x2).1
  have hlb:b<w2.heap.size:=(Array.getElem?_eq_some_iff.1 x1).1
  clear hown hgrow hD x1 x2 x3
  obtain⟨y0,y1,y2,y3,y4,y5⟩:=bi X1
  obtain⟨z0,z1,z2,z3,z4,z5⟩:=aW X2
  obtain⟨ia,rfl,hia⟩:=HD3.out.2.1.some (by show 0<s.img.length;omega)
  simp only[] at hia
  obtain⟨CS,hCS⟩: ∃CS,CS=((s.img.drop (64*p)).take 64).map (Value.int .u8):=⟨_,rfl⟩
  have hCL:CS.length=min 64 (s.img.length - 64*p):=by rw[hCS];simp
  have hC1: ∀v ∈ CS,v.oneCell'=true:=by rw[hCS];exact kL _ _
  have HPO:Hid (∀j v,CS[j]? =some v→w3.cell? ((ia.add (p*64)).add j)=some v):=by
   intro j v hj
   have hd:=(HD3.out.2.1.drop (j:=p*64) (by show p*64≤s.img.length;omega)).row
   rw[hCS] at hj
   have hj2:((s.img.drop (p*64)).map (Value.int .u8))[j]? =some v:=by
    rw[←hj,List.map_take,List.getElem?_take_of_lt (by
     have:=(List.getElem?_eq_some_iff.1 hj).1
     simp at this;omega),Nat.mul_comm]
   obtain⟨a',ha',hc⟩:=hd.cell j v hj2
   cases ha';exact hc
  have HSP:=MI (show splice (List.replicate 64 (Value.int .u8 0)) 0 CS=(pgB s.img p).map (Value.int .u8) from by rw[hCS];exact Gh _ _)
  have hkp:p*64<kap:=by have:=h.2.2.1;omega
  clear hCS
  go_upto_region 13 with(with_reducible show wpList _ _ _ (Oper.mk (some 65) _ _ _ _ _::_) _ _;refine wpList_copy_splice rfl _ _ 63 63 rfl 5 Tryz.underlying63 (by kernel_rfl) _ _ _ _ _ _ rfl rfl w2.heap.size 0 (List.replicate 64 (Value.int .u8 0)) 5 G3 CS (by rw[hCL];show _=min _ _;omega) (fun _=>⟨rfl,_,rfl,HPO.out⟩) (by rw[List.length_replicate];omega) hC1 w2.heap.size w3 MB Me ?_;intro w4 HG4 hb4)
  have G4:=HG4.out
  rw[HSP.out] at G4
  have Y1:=(hb4.block b hlb).trans X1
  have Y2:=(hb4.block w.heap.size hls).trans X2
  have hk4:af (fun k=>k=b) w w4:=hk3.below hb4 (by omega)
  clear y0 y1 y2 y3 y4 y5 z0 z1 z2 z3 z4 z5
  obtain⟨y0,y1,y2,y3,y4,y5⟩:=bi Y1
  obtain⟨z0,z1,z2,z3,z4,z5⟩:=aW Y2
  obtain⟨ta,hta⟩: ∃ta:Nat,t.a=(ta:Int):=⟨t.a.toNat,by omega⟩
  rw[hta] at z1 ta0 ta1
  have hta2:ta<64:=by omega
  have hcell:w4.cell? ⟨w2.heap.size,ta,none⟩=some (.int .u8 ((pgB s.img p).getD ta 0)):=by
   rw[LZ G4]
   have:ta<(pgB s.img p).length:=by rw[pK];exact hta2
   simp[this]
  have hfro:w4.frozen? ⟨w2.heap.size,ta,none⟩=false:=L6 G4
  have hadd:(⟨w2.heap.size,0,none⟩:Addr).add ta=⟨w2.heap.size,ta,none⟩:=by rw[add0];simp
  generalize hX:(pgB s.img p).getD ta 0=X at hcell
  have hcell2:=hcell
  have hfro2:=hfro
  rw[←hadd] at hcell2 hfro2
  have HX:=MI hX
  have HTA:=MI hta
  clear hX hta
  try simp only[Act.put,List.setIfInBounds_toArray,List.set_cons_zero,List.set_cons_succ]
  go_still_tail 9,(by kernel_rfl)
  repeat still_step
  try refine wpStill_nil ?_
  change wpList _ _ _ _ _ w4.drew
  go_wp2_with fail
  go_ret2
  have G5:=row_set G4 ta (bits BinOp.xor IntKind.u8 X t.x)
  have hk5:=hk4.setCell (p:=⟨w2.heap.size,ta,none⟩) (.inl (by show w.heap.size≤w2.heap.size;omega)) (.int .u8 (bits BinOp.xor IntKind.u8 X t.x))
  have hk6:=hk5.drew
  have hDf:=h.later hk6 ((heap_setCell_other w4 ⟨w2.heap.size,ta,none⟩ b (.int .u8 (bits BinOp.xor IntKind.u8 X t.x)) (Nat.ne_of_lt hlb)).trans Y1)
  have hBe:(pgB s.img p).set t.a.toNat (bx ((pgB s.img p).getD t.a.toNat 0) t.x)=(pgB s.img p).set ta (bits BinOp.xor IntKind.u8 X t.x):=by
   rw[HTA.out,Int.toNat_natCast,HX.out];rfl
  have hI:=Ints.of_heap (w:=(w4.setCell ⟨w2.heap.size,ta,none⟩ (.int .u8 (bits BinOp.xor IntKind.u8 X t.x))).drew) G5 (by rw[List.length_set,pK];unfold maxLen;omega) (by
   intro z hz
   rcases List.mem_or_eq_of_mem_set hz with hz | rfl
   ·exact pgB_wf h.2.1.wf p z hz
   ·exact bx_wf X t.x)
  have hlen:((pgB s.img p).set ta (bits BinOp.xor IntKind.u8 X t.x)).length=64:=by rw[List.length_set,pK]
  rw[hBe]
  rw[hlen] at hI
  exact⟨some ⟨w2.heap.size,0,none⟩,64,by rw[hlen]<;>rfl,by rw[hlen];exact Me,⟨m,by omega,hDf⟩,by rw[hlen];exact hI,(fun a e=>by cases e;show w.heap.size≤w2.heap.size;omega),hk6.mono fun _ _=>Or.inl⟩
theorem uf(b mb:Nat)(ib:Option Addr)(kap m:Nat)(s:Dk)(hs:s.Ok)(hm:m<1000000000)(hr:s.r<1000000000)(page:Int)(hwp:(Lit.int .i64 page).wf=true)(w:World)(h:Dsk w b mb ib kap m s):Calls Tryz.prog 275 #[.pointer (some ⟨b,0,none⟩),.int .i64 page] w (vz b mb ib kap m s page w):=by
 by_cases ho:s.out page
 ·exact Jg b mb ib kap m s hs page ho w h
 ·by_cases ht:(s.t page).f=0
  ·obtain⟨p,rfl⟩: ∃p:Nat,page=(p:Int):=⟨page.toNat,by unfold Dk.out at ho;omega⟩
   exact FT b mb ib kap m s hs hr p hwp ho _ rfl ht w h
  ·cases hF:s.F page with
   | none=>exact absurd (by unfold Dk.t;rw[hF];rfl) ht
   | some t=>
    refine Jh b mb ib kap m s hs hm hr page hwp ho t hF ?_ w h
    unfold Dk.t at ht
    rw[hF] at ht
    exact ht
end Go.Proofs.YtnicjahcgnhogaaGreatDoor.Cch
