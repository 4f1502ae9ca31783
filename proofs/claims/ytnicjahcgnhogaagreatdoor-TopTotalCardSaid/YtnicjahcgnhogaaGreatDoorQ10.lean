/- Part 11 of the walk: contracts of the program's functions, each for every input. No condition. -/
import Derived.Test.YtnicjahcgnhogaaGreatDoorQ09
import Derived.StillTailTactics
import Derived.BigQuiet
set_option linter.unusedVariables false
set_option linter.unusedSimpArgs false
set_option maxRecDepth 100000
set_option maxHeartbeats 8000000
namespace Go.Proofs.YtnicjahcgnhogaaGreatDoor.Cch
open Go Go.RowKit Go.Calli Go.Dskp Go.Maps
attribute [local irreducible] wpStill wpAnyH wpAnyS wpList Code.wp
theorem infoByte:(Tryz.prog.info? 5).map (fun i=>(i.zero,i.size,i.bytes))=some (some (.int .u8 0),1,1):=by kernel_rfl
def qB(zs:List Int)(w:World)(e:Ending)(w':World):Prop:=∃b mb ib kap,e= .returned (.tuple #[.pointer (some ⟨b,0,none⟩),()])∧Dsk w' b mb ib kap 0 ⟨zs,fun _=>none,0,0⟩∧w.heap.size≤b∧w.heap.size≤mb∧(∀a,ib=some a→w.heap.size≤a.block∧a.block<w'.heap.size)∧Below w.heap.size w w'
theorem bK{w:World}{b:Nat}{v0 v1 v2 v3 v4 v5 v6 v7:Value}{T:Nat}(h:w.heap[b]? =some (.cells #[v0,v1,v2,v3,v4,v5,v6,v7] T (0,0))):
  w.cell? ⟨b,0,none⟩=some v0∧w.cell? ⟨b,1,none⟩=some v1∧w.cell? ⟨b,2,none⟩=some v2∧w.cell? ⟨b,3,none⟩=some v3∧w.cell? ⟨b,4,none⟩=some v4∧w.cell? ⟨b,5,none⟩=some v5∧w.cell? ⟨b,6,none⟩=some v6∧w.cell? ⟨b,7,none⟩=some v7:=
 ⟨LY h rfl,LY h rfl,LY h rfl,LY h rfl,LY h rfl,LY h rfl,LY h rfl,LY h rfl⟩
theorem KP(db:Nat)(s r:Int)(hb:s<1∨1024<s∨r<0∨8<r)(w:World):Calls Tryz.prog 41 #[.pointer (some ⟨db,0,none⟩),.int .i64 s,.int .i64 r] w (Same (.tuple #[.pointer none,.int .i64 1]) w):=by
 have hc:s<1∨(1≤s∧1024<s)∨(1≤s∧s≤1024∧r<0)∨(1≤s∧s≤1024∧0≤r∧8<r):=by omega
 clear hb
 rcases hc with h1 | ⟨h1,h2⟩ | ⟨h1,h2,h3⟩ | ⟨h1,h2,h3,h4⟩
 all_goals
  go_enter Tryz.func41,Tryz.ntmps41
  go_wp2_with fail
  all_goals go_ret2
  all_goals exact⟨rfl,rfl⟩
theorem JR:(Tryz.prog.info? 243).map (fun i=>(i.zero,i.size,i.bytes))=some (some (.agg #[(),.bool false,.bool false,.slice none 0 0]),4,40):=by kernel_rfl
def pG(n:Nat):Array Value:=madeCells (Value.agg #[(),.bool false,.bool false,.slice none 0 0]).cells (n*4)
theorem CY(n:Nat)(hn:n≤1024)(w:World):(Instr.makeSlice 154 (.int .i64 (n:Int)) (.int .i64 (n:Int))).run Tryz.prog w= .ok (.slice (some ⟨w.heap.size,0,none⟩) n n) (w.alloc (.cells (pG n) 243)):=by
 obtain⟨i,hi,hz,hsz,hby⟩:=info_parts JR
 have hb2:(i.bytes:Int)*(n:Int)≤281474976710656:=by
  have h:((i.bytes*n:Nat):Int)≤281474976710656:=by rw[hby];omega
  rwa [Int.natCast_mul] at h
 have hr:=run_make (P:=Tryz.prog) w 154 243 i _ Tryz.underlying154 hi hz .i64 .i64 n n (by omega) (Int.le_refl _) hb2 (by omega)
 simp only[Int.toNat_natCast] at hr
 rw[hr,hsz]
 rfl
def Bf(db:Nat)(n:Nat)(r:Int)(w:World)(e:Ending)(w':World):Prop:=∃cb sb,e= .returned (.tuple #[.pointer (some ⟨cb,0,none⟩),()])∧w'.heap[cb]? =some (.cells #[(),(),(),(),.pointer (some ⟨db,0,none⟩),.slice (some ⟨sb,0,none⟩) n n,(),.int .i64 r] 156 (0,0))∧w'.heap[sb]? =some (.cells (pG n) 243 (0,0))∧cb≠sb∧w.heap.size≤cb∧w.heap.size≤sb∧Below w.heap.size w w'
theorem G8(db:Nat)(n:Nat)(r:Int)(h1:1≤n)(h2:n≤1024)(h3:0≤r)(h4:r≤8)(w:World):Calls Tryz.prog 41 #[.pointer (some ⟨db,0,none⟩),.int .i64 n,.int .i64 r] w (Bf db n r w):=by
 have hmk:=CY n h2
 obtain⟨Z,hZ⟩: ∃Z,Z=pG n:=⟨_,rfl⟩
 rw[←hZ] at hmk
 have HZ:=MI hZ
 clear hZ
 go_enter Tryz.func41,Tryz.ntmps41
 go_wp2_with fail
 go_ret2
 obtain⟨d1,d2⟩:=MapKept.heap_alloc (w.alloc (.cells Z 243)) (.cells #[(),(),(),(),.pointer (some ⟨db,0,none⟩),.slice (some ⟨w.heap.size,0,none⟩) n n,(),.int .i64 r] 156)
 have a1:=(MapKept.heap_alloc w (.cells Z 243)).1
 have e1:=(d2 w.heap.size (by rw[World.size_alloc];omega)).trans a1
 rw[World.size_alloc] at d1
 rw[HZ.out] at e1 d1⊢
 exact⟨w.heap.size+1,w.heap.size,rfl,d1,e1,by omega,by omega,Me,iR (ae _ _) _⟩
structure Slot where
 p:Int
 u:Bool
 f:Bool
 bo:Option Addr
 bn:Nat
 bc:Nat
def Slot.none:Slot:=⟨0,false,false,.none,0,0⟩
def gG(s:Slot):List Value:=[.int .i64 s.p,.bool s.u,.bool s.f,.slice s.bo s.bn s.bc]
def ik(ss:List Slot):List Value:=ss.flatMap gG
theorem GM(ss:List Slot):(ik ss).length=ss.length*4:=by
 induction ss with
 | nil=>rfl
 | cons m r ih=>simp only[ik,List.flatMap_cons,List.length_append,List.length_cons] at*;rw[ih];simp[gG];omega
theorem xw(ss:List Slot): ∀(i j:Nat),i<ss.length→j<4→(ik ss)[i*4+j]? =(gG (ss.getD i Slot.none))[j]? :=by
 induction ss with
 | nil=>intro i j hi;simp at hi
 | cons m r ih=>
  intro i j hi hj
  have hl:(gG m).length=4:=rfl
  show(gG m++ik r)[i*4+j]? =_
  cases i with
  | zero=>
   rw[Nat.zero_mul,Nat.zero_add,List.getElem?_append_left (by omega)]
   simp
  | succ i=>
   rw[List.getElem?_append_right (by omega),hl,show(i+1)*4+j - 4=i*4+j by omega,ih i j (by simpa using hi) hj]
   simp
def iP(w:World)(sb n:Nat)(ss:List Slot):Prop:=ss.length=n∧w.heap[sb]? =some (.cells (ik ss).toArray 243 (0,0))
theorem iP.at_{w:World}{sb n:Nat}{ss:List Slot}(h:iP w sb n ss)(i:Nat)(hi:i<n):
  w.cell? ⟨sb,i*4,none⟩=some (.int .i64 (ss.getD i Slot.none).p)∧w.cell? ⟨sb,i*4+1,none⟩=some (.bool (ss.getD i Slot.none).u)∧w.cell? ⟨sb,i*4+2,none⟩=some (.bool (ss.getD i Slot.none).f)∧w.cell? ⟨sb,i*4+3,none⟩=some (.slice (ss.getD i Slot.none).bo (ss.getD i Slot.none).bn (ss.getD i Slot.none).bc):=by
 obtain⟨hl,hh⟩:=h
 have key: ∀j,j<4→w.cell? ⟨sb,i*4+j,none⟩=(gG (ss.getD i Slot.none))[j]? :=fun j hj=>by
  rw[LZ hh,List.getElem?_toArray]
  exact xw ss i j (by omega) hj
 exact⟨key 0 (by omega),key 1 (by omega),key 2 (by omega),key 3 (by omega)⟩
theorem iP.kept{w w':World}{sb n:Nat}{ss:List Slot}(h:iP w sb n ss){S:Nat→Prop}(hk:af S w w')(h0:¬S sb):iP w' sb n ss:=⟨h.1,hk.heap h.2 h0⟩
def qf(ss:List Slot)(page:Int):Nat→Nat→Int
 | 0,_=>-1
 | k+1,i=>if(ss.getD i Slot.none).f=true∧(ss.getD i Slot.none).p=page then(i:Int) else qf ss page k (i+1)
end Go.Proofs.YtnicjahcgnhogaaGreatDoor.Cch
namespace Go.Proofs.YtnicjahcgnhogaaGreatDoor.Cch
open Go Go.RowKit Go.Calli Go.Dskp Go.Maps
def Slot.used(s:Slot):Bool:=s.f&&s.u
def Slot.drop(s:Slot):Slot:={s with u:=false}
def cnt(ss:List Slot):Nat:=(ss.filter Slot.used).length
theorem EK(ss:List Slot): ∀h,h<ss.length→(ss.getD h Slot.none).used=true→cnt (ss.set h (ss.getD h Slot.none).drop)+1=cnt ss:=by
 have hd: ∀s:Slot,s.drop.used=false:=fun s=>by simp[Slot.used,Slot.drop]
 induction ss with
 | nil=>intro h hh;simp at hh
 | cons m r ih=>
  intro h hh hu
  cases h with
  | zero=>
   have hu':m.used=true:=hu
   show cnt (m.drop::r)+1=cnt (m::r)
   simp[cnt,List.filter_cons,hd,hu']
  | succ h=>
   have:=ih h (by simpa using hh) hu
   show cnt (m::r.set h (r.getD h Slot.none).drop)+1=cnt (m::r)
   unfold cnt at this⊢
   by_cases hm:m.used=true
   ·rw[List.filter_cons_of_pos hm,List.filter_cons_of_pos hm,List.length_cons,List.length_cons];omega
   ·rw[List.filter_cons_of_neg hm,List.filter_cons_of_neg hm];omega
def vic(n:Nat):Nat→List Slot→Nat→Nat×List Slot×Nat
 | 0,ss,h=>(h,ss,(h+1)%n)
 | k+1,ss,h=>if(ss.getD h Slot.none).used=true then vic n k (ss.set h (ss.getD h Slot.none).drop) ((h+1)%n) else(h,ss,(h+1)%n)
theorem Ie(n:Nat)(ss:List Slot)(h:Nat)(hh:h<ss.length)(hu:(ss.getD h Slot.none).used=true):vic n (cnt ss) ss h=vic n (cnt (ss.set h (ss.getD h Slot.none).drop)) (ss.set h (ss.getD h Slot.none).drop) ((h+1)%n):=by
 rw[←EK ss h hh hu,vic,if_pos hu]
theorem vic_end(n k:Nat)(ss:List Slot)(h:Nat)(hu:(ss.getD h Slot.none).used=false):vic n k ss h=(h,ss,(h+1)%n):=by
 cases k with
 | zero=>rfl
 | succ k=>rw[vic,if_neg (by rw[hu];decide)]
theorem GK(ss:List Slot): ∀(h:Nat)(t:Slot),h<ss.length→t.p=(ss.getD h Slot.none).p→t.f=(ss.getD h Slot.none).f→t.bo=(ss.getD h Slot.none).bo→t.bn=(ss.getD h Slot.none).bn→t.bc=(ss.getD h Slot.none).bc→ik (ss.set h t)=(ik ss).set (h*4+1) (.bool t.u):=by
 induction ss with
 | nil=>intro h t hh;simp at hh
 | cons m r ih=>
  intro h t hh e1 e2 e3 e4 e5
  cases h with
  | zero=>
   have a1:t.p=m.p:=e1
   have a2:t.f=m.f:=e2
   have a3:t.bo=m.bo:=e3
   have a4:t.bn=m.bn:=e4
   have a5:t.bc=m.bc:=e5
   show gG t++ik r=(gG m++ik r).set 1 (.bool t.u)
   simp[gG,a1,a2,a3,a4,a5]
  | succ h=>
   show gG m++ik (r.set h t)=(gG m++ik r).set ((h+1)*4+1) (.bool t.u)
   rw[ih h t (by simpa using hh) e1 e2 e3 e4 e5,List.set_append_right _ _ (by simp[gG];omega)]
   congr 2
   simp[gG];omega
theorem iP.setu{w:World}{sb n:Nat}{ss:List Slot}(h:iP w sb n ss)(i:Nat)(hi:i<n)(u:Bool):iP (w.setCell ⟨sb,i*4+1,none⟩ (.bool u)) sb n (ss.set i {ss.getD i Slot.none with u:=u}):=by
 obtain⟨hl,hh⟩:=h
 refine⟨by rw[List.length_set];exact hl,?_⟩
 rw[Mc hh,GK ss i {ss.getD i Slot.none with u:=u} (by omega) rfl rfl rfl rfl rfl]
 simp
theorem xu: ∀(a b:List Slot),ik a=ik b→a=b
 | [],[],_=>rfl
 | [],y::s,h=>by simp[ik,gG] at h
 | x::r,[],h=>by simp[ik,gG] at h
 | x::r,y::s,h=>by
  have h':gG x++ik r=gG y++ik s:=h
  simp only[gG,List.cons_append,List.nil_append,List.cons.injEq] at h'
  obtain⟨h1,h2,h3,h4,h5⟩:=h'
  have:=xu r s h5
  subst this
  cases x;cases y
  simp at h1 h2 h3 h4
  obtain⟨e4,e5,e6⟩:=h4
  subst h1 h2 h3 e4 e5 e6
  rfl
open Classical in
noncomputable def mCnt (sb n:Nat) (w:World):Nat:=if h: ∃ss,iP w sb n ss then cnt h.choose else 0
theorem Em{w:World}{sb n:Nat}{ss:List Slot}(h:iP w sb n ss):mCnt sb n w=cnt ss:=by
 have hx: ∃ss,iP w sb n ss:=⟨ss,h⟩
 unfold mCnt
 rw[dif_pos hx]
 have h2:=hx.choose_spec
 congr 1
 apply xu
 have e:=h2.2.symm.trans h.2
 simpa using e
end Go.Proofs.YtnicjahcgnhogaaGreatDoor.Cch
namespace Go.Proofs.YtnicjahcgnhogaaGreatDoor.Cch
open Go Go.RowKit Go.Calli Go.Dskp Go.Maps
attribute [local irreducible] wpStill wpAnyH wpAnyS wpList Code.wp
def vU(w:World)(cb sb n:Nat)(v0 v1 v2 v3 v4 v7:Value)(h:Nat):Prop:=w.heap[cb]? =some (.cells #[v0,v1,v2,v3,v4,.slice (some ⟨sb,0,none⟩) n n,.int .i64 h,v7] 156 (0,0))
def VicPost(cb sb n:Nat)(v0 v1 v2 v3 v4 v7:Value)(r:Nat×List Slot×Nat)(w:World)(e:Ending)(w':World):Prop:=e= .returned (.int .i64 r.1)∧vU w' cb sb n v0 v1 v2 v3 v4 v7 r.2.2∧iP w' sb n r.2.1∧af (fun k=>k=cb∨k=sb) w w'
theorem vU.hand{w:World}{cb sb n:Nat}{v0 v1 v2 v3 v4 v7:Value}{h:Nat}(hc:vU w cb sb n v0 v1 v2 v3 v4 v7 h)(h':Nat):vU (w.setCell ⟨cb,6,none⟩ (.int .i64 h')) cb sb n v0 v1 v2 v3 v4 v7 h':=Mc hc
theorem vic_any(cb sb n:Nat)(ss:List Slot)(h:Nat)(v0 v1 v2 v3 v4 v7:Value)(hn:n≤1024)(hh:h<n)(hne:cb≠sb)(w:World)(hc:vU w cb sb n v0 v1 v2 v3 v4 v7 h)(hS:iP w sb n ss):Calls Tryz.prog 268 #[.pointer (some ⟨cb,0,none⟩)] w (VicPost cb sb n v0 v1 v2 v3 v4 v7 (vic n (cnt ss) ss h) w):=by
 go_enter Tryz.func268,Tryz.ntmps268
 go_wp2_with fail
 go_loopw [3,4] (fun u3 u4 wr=>∃ss' h',h'<n∧Hid (vic n (cnt ss) ss h=vic n (cnt ss') ss' h')∧vU wr cb sb n v0 v1 v2 v3 v4 v7 h'∧iP wr sb n ss'∧af (fun k=>k=cb∨k=sb) w wr) (fun _ _ wr=>mCnt sb n wr)
 case atStart=>exact⟨ss,h,hh,rfl,hc,hS,af.refl _ _⟩
 case round=>
  obtain⟨s',h',hh',hv,hc',hS',hK⟩:=hrel
  have hl:=hS'.1
  obtain⟨c0,c1,c2,c3,c4,c5,c6,c7⟩:=bK hc'
  have cf:=frozen_of_row _ _ 6 _ _ hc'
  obtain⟨g,hg⟩: ∃g:Nat,g=(h'+1)%n:=⟨_,rfl⟩
  have hgn:g<n:=by rw[hg];exact Nat.mod_lt _ (by omega)
  have hgi:((h':Int)+1).tmod (n:Int)=(g:Int):=by rw[hg];rfl
  have e1:IntKind.i64.wrap ((h':Int)+1)=(h':Int)+1:=IntWalk.i64_in _ (by omega)
  have hn0:(n:Int)≠0:=by omega
  have hnb:((n:Int)==0)=false:=by simpa using hn0
  have hnn:¬n=0:=by omega
  have hgw:IntKind.i64.wrap (((h':Int)+1).tmod (n:Int))=(g:Int):=by rw[hgi,IntWalk.i64_in];omega
  have hne1:¬(n:Int)= -1:=by omega
  go_upto_region 2 with fail
  go_still_tail 14,(by kernel_rfl)
  repeat still_step
  try refine wpStill_nil ?_
  change wpList _ _ _ _ _ wr.drew
  have hgm:((h':Int)+1)%(n:Int)=(g:Int):=by rw[hg];rfl
  have HGG:=MI hg
  clear hg hgi hgw
  go_upto_region 3 with fail
  have hc1:vU (wr.setCell ⟨cb,6,none⟩ (.int .i64 g)).drew cb sb n v0 v1 v2 v3 v4 v7 g:=hc'.hand g
  have hk1:af (fun k=>k=cb) wr (wr.setCell ⟨cb,6,none⟩ (.int .i64 g)).drew:=((af.refl (fun k=>k=cb) wr).setCell (p:=⟨cb,6,none⟩) (.inr rfl) _).drew
  have hS1:=hS'.kept hk1 (fun e=>hne e.symm)
  have hK1:af (fun k=>k=cb∨k=sb) w (wr.setCell ⟨cb,6,none⟩ (.int .i64 g)).drew:=hK.trans (hk1.mono fun k _ h=>.inl h)
  have HM:=MI (Em hS')
  clear hk1 hK hS' hc' c0 c1 c2 c3 c4 c5 c6 c7 cf
  generalize (wr.setCell ⟨cb,6,none⟩ (.int .i64 g)).drew=W1 at*
  obtain⟨c0,c1,c2,c3,c4,c5,c6,c7⟩:=bK hc1
  obtain⟨s0,s1,s2,s3⟩:=hS1.at_ h' hh'
  have sf:=frozen_of_row _ _ (h'*4+1) _ _ hS1.2
  have HST:=MI (fun hu=>(hv.out.trans (Ie n s' h' (by omega) hu)))
  have HEN:=MI (fun hu=>(hv.out.trans (vic_end n (cnt s') s' h' hu)))
  have HSU:=MI (hS1.setu h' hh' false)
  have HCT:=MI (EK s' h' (by omega))
  have hcu: ∀x,vU (W1.setCell ⟨sb,h'*4+1,none⟩ x) cb sb n v0 v1 v2 v3 v4 v7 g:=fun x=>(heap_setCell_other _ _ _ _ hne).trans hc1
  have HCU:=MI hcu
  have hu0:(s'.getD h' Slot.none).used=((s'.getD h' Slot.none).f&&(s'.getD h' Slot.none).u):=rfl
  have hdr:(s'.getD h' Slot.none).drop={s'.getD h' Slot.none with u:=false}:=rfl
  rw[hu0] at HST HEN HCT
  rw[hdr] at HST HCT
  clear hcu hu0 hdr hv
  cases hf:(s'.getD h' Slot.none).f with
  | false=>
   rw[hf] at s2 HEN
   have HE:=MI (HEN.out rfl)
   clear HEN HST HSU HCT hf
   go_wp2_with fail
   go_ret
   exact⟨by rw[HE.out]<;>rfl,by rw[HE.out];rw[←HGG.out];exact hc1,by rw[HE.out];exact hS1,hK1⟩
  | true=>
   rw[hf] at s2 HEN HST HCT
   cases hu:(s'.getD h' Slot.none).u with
   | false=>
    rw[hu] at s1 HEN
    have HE:=MI (HEN.out rfl)
    clear HEN HST HSU HCT hf hu
    go_wp2_with fail
    go_ret
    exact⟨by rw[HE.out]<;>rfl,by rw[HE.out];rw[←HGG.out];exact hc1,by rw[HE.out];exact hS1,hK1⟩
   | true=>
    rw[hu] at s1 HST HCT
    have HE:=MI (HST.out rfl)
    have HC2:=MI (HCT.out rfl)
    clear HEN HST HCT hf hu
    go_wp2_with fail
    go_roundw
    case rel=>exact⟨_,g,hgn,by rw[←HGG.out] at HE;exact HE,HCU.out _,HSU.out,hK1.setCell (.inr (.inr rfl)) _⟩
    case measure=>rw[Em HSU.out,HM.out];have:=HC2.out;omega
structure TR where
 e:Int
 b:List Int
 d:Dk
 n:Int
def fQ(p:Int):Nat→Dk→Int→TR
 | 0,d,e=>⟨e,[],d,0⟩
 | k+1,d,_=>if rdE d p=0 then⟨0,rdB d p,rdS d p,1⟩ else⟨(fQ p k (rdS d p) (rdE d p)).e,(fQ p k (rdS d p) (rdE d p)).b,(fQ p k (rdS d p) (rdE d p)).d,(fQ p k (rdS d p) (rdE d p)).n+1⟩
theorem Ed(d:Dk)(p:Int):(rdS d p).r≤d.r+1∧(rdS d p).img=d.img:=by
 unfold rdS
 split
 ·exact⟨by omega,rfl⟩
 ·split<;>exact⟨Int.le_refl _,rfl⟩
def yO(w:World)(cb:Nat)(v0 v1 v3 v5 v6:Value)(b:Nat)(eG t:Int):Prop:=w.heap[cb]? =some (.cells #[v0,v1,.int .i64 t,v3,.pointer (some ⟨b,0,none⟩),v5,v6,.int .i64 eG] 156 (0,0))
def TryPost(cb:Nat)(v0 v1 v3 v5 v6:Value)(b mb:Nat)(ib:Option Addr)(kap m:Nat)(eG t:Int)(R:TR)(w:World)(e:Ending)(w':World):Prop:=∃ro rc,e= .returned (.tuple #[.slice ro R.b.length rc,.int .i64 R.e])∧R.b.length≤rc∧yO w' cb v0 v1 v3 v5 v6 b eG (t+R.n)∧(∃m',m'≤m+9∧Dsk w' b mb ib kap m' R.d)∧Ints .u8 w' ro R.b.length R.b∧(∀a,ro=some a→w.heap.size≤a.block)∧af (fun k=>k=cb∨k=b∨k=mb) w w'
theorem yO.put{w:World}{cb:Nat}{v0 v1 v3 v5 v6:Value}{b:Nat}{eG t:Int}(h:yO w cb v0 v1 v3 v5 v6 b eG t)(t':Int):yO (w.setCell ⟨cb,2,none⟩ (.int .i64 t')) cb v0 v1 v3 v5 v6 b eG t':=Mc h
theorem try_any(cb:Nat)(v0 v1 v3 v5 v6:Value)(b mb:Nat)(ib:Option Addr)(kap m:Nat)(eG t:Int)(d:Dk)(page:Int)(hre:0≤eG∧eG≤8)(ht:0≤t∧t≤500000000)(hd:d.Ok)(hm:m≤500000000)(hr:d.r≤500000000)(hwp:(Lit.int .i64 page).wf=true)(hcb:b≠cb∧mb≠cb∧∀a,ib=some a→a.block≠cb)(w:World)(h:yO w cb v0 v1 v3 v5 v6 b eG t)(hD:Dsk w b mb ib kap m d):
  Calls Tryz.prog 267 #[.pointer (some ⟨cb,0,none⟩),.int .i64 page] w (TryPost cb v0 v1 v3 v5 v6 b mb ib kap m eG t (fQ page (eG.toNat+1) d 8) w):=by
 obtain⟨N,rfl⟩: ∃N:Nat,eG=N:=⟨eG.toNat,by omega⟩
 have hN8:N≤8:=by omega
 rw[Int.toNat_natCast]
 obtain⟨c0,c1,c2,c3,c4,c5,c6,c7⟩:=bK h
 go_enter Tryz.func267,Tryz.ntmps267
 go_wp2_with fail
 go_loopw [6,13] (fun v6' v13 wr=>∃(i:Nat)(d':Dk)(m':Nat)(e':Int),i≤N+1∧v13= .int .i64 i∧v6'= .int .i64 e'∧Hid ((fQ page (N+1) d 8).e=(fQ page (N+1 - i) d' e').e∧(fQ page (N+1) d 8).b=(fQ page (N+1 - i) d' e').b∧(fQ page (N+1) d 8).d=(fQ page (N+1 - i) d' e').d∧(fQ page (N+1) d 8).n=i+(fQ page (N+1 - i) d' e').n)∧yO wr cb v0 v1 v3 v5 v6 b N (t+i)∧Dsk wr b mb ib kap m' d'∧d'.Ok∧d'.r≤d.r+i∧m'≤m+i∧af (fun k=>k=cb∨k=b∨k=mb) w wr) (fun _ v13 _=>(N+1 - (intOf v13).toNat))
 case atStart=>exact⟨0,d,m,8,by omega,rfl,rfl,⟨rfl,rfl,rfl,by simp⟩,by simpa using h,hD,hd,by omega,by omega,af.refl _ _⟩
 case round=>
  clear c0 c1 c2 c3 c4 c5 c6 c7
  obtain⟨i,d',m',e',hi,rfl,rfl,hE,hR,hDD,hok,hrr,hmm,hK⟩:=hrel
  by_cases hlt:i<N+1
  ·obtain⟨k,hk⟩: ∃k,N+1 - i=k+1:=⟨N - i,by omega⟩
   have hk2:N+1 - (i+1)=k:=by omega
   rw[hk] at hE
   obtain⟨c0,c1,c2,c3,c4,c5,c6,c7⟩:=bK hR
   have cf:=frozen_of_row _ _ 2 _ _ hR
   have hw1:IntKind.i64.wrap (t+i+1)=t+i+1:=IntWalk.i64_in _ (by omega)
   go_upto_region 6 with fail
   have hR1:=hR.put (t+i+1)
   have hk1:af (fun k=>k=cb) wr (wr.setCell ⟨cb,2,none⟩ (.int .i64 (t+i+1))):=(af.refl (fun k=>k=cb) wr).setCell (p:=⟨cb,2,none⟩) (.inr rfl) _
   have hD1:=hDD.kept hk1 hcb.1 hcb.2.1 hcb.2.2
   have hK1:af (fun k=>k=cb∨k=b∨k=mb) w (wr.setCell ⟨cb,2,none⟩ (.int .i64 (t+i+1))):=hK.trans (hk1.mono fun k _ h=>.inl h)
   clear c0 c1 c2 c3 c4 c5 c6 c7 cf hR hDD hk1 hK
   generalize wr.setCell ⟨cb,2,none⟩ (.int .i64 (t+i+1))=W1 at*
   obtain⟨c0,c1,c2,c3,c4,c5,c6,c7⟩:=bK hR1
   have hRd:=uf b mb ib kap m' d' hok (by omega) (by omega) page hwp W1 hD1
   unfold vz at hRd
   have hstep:fQ page (k+1) d' e'=if rdE d' page=0 then⟨0,rdB d' page,rdS d' page,1⟩ else⟨(fQ page k (rdS d' page) (rdE d' page)).e,(fQ page k (rdS d' page) (rdE d' page)).b,(fQ page k (rdS d' page) (rdE d' page)).d,(fQ page k (rdS d' page) (rdE d' page)).n+1⟩:=rfl
   have hok2:=Cb hok page
   have hr2:=(Ed d' page).1
   generalize rdE d' page=E at*
   generalize rdB d' page=BB at*
   generalize rdS d' page=DD at*
   have hs1:=hK1.size
   by_cases h0:E=0
   ·subst h0
    rw[if_pos rfl] at hstep
    rw[hstep] at hE
    have HE:=MI hE.out
    clear hE hstep
    go_wp2_with (go_at_call 275;refine hRd.mono ?_;clear hRd;rintro e w2 ⟨ro,rc,rfl,hrc,⟨m2,hm2,hD2⟩,hI,hnew,hk2'⟩)
    go_ret2
    have hK2:af (fun k=>k=cb∨k=b∨k=mb) w w2:=hK1.trans (hk2'.mono fun k _ h=>.inr h)
    have hR2:yO w2 cb v0 v1 v3 v5 v6 b N (t+i+1):=hk2'.heap hR1 (by have:=hcb.1;have:=hcb.2.1;omega)
    obtain⟨e1,e2,e3,e4⟩:=HE.out
    exact⟨ro,rc,by rw[e1,e2]<;>rfl,by rw[e2];exact hrc,by rw[e4,show t+((i:Int)+1)=t+i+1 by omega];exact hR2,⟨m2,by omega,by rw[e3];exact hD2⟩,by rw[e2];exact hI,fun a ha=>Nat.le_trans hs1 (hnew a ha),hK2⟩
   ·rw[if_neg h0] at hstep
    rw[hstep] at hE
    have HE:=MI hE.out
    have hEb:(E==0)=false:=by simpa using h0
    clear hE hstep
    go_wp2_with (go_at_call 275;refine hRd.mono ?_;clear hRd;rintro e w2 ⟨ro,rc,rfl,hrc,⟨m2,hm2,hD2⟩,hI,hnew,hk2'⟩)
    have hK2:af (fun k=>k=cb∨k=b∨k=mb) w w2:=hK1.trans (hk2'.mono fun k _ h=>.inr h)
    have hR2:yO w2 cb v0 v1 v3 v5 v6 b N (t+i+1):=hk2'.heap hR1 (by have:=hcb.1;have:=hcb.2.1;omega)
    obtain⟨e1,e2,e3,e4⟩:=HE.out
    go_roundw
    case rel=>exact⟨i+1,DD,m2,E,by omega,by go_num,rfl,by rw[hk2];exact⟨e1,e2,e3,by omega⟩,by rw[show t+((i+1:Nat):Int)=t+i+1 by omega];exact hR2,hD2,hok2,by omega,by omega,hK2⟩
    case measure=>simp[intOf];omega
  ·obtain rfl:i=N+1:=by omega
   rw[Nat.sub_self,show fQ page 0 d' e'=⟨e',[],d',0⟩ from rfl] at hE
   obtain⟨e1,e2,e3,e4⟩:=hE.out
   have HE:=MI (show(fQ page (N+1) d 8).e=e'∧(fQ page (N+1) d 8).b=[]∧(fQ page (N+1) d 8).d=d'∧(fQ page (N+1) d 8).n=((N+1:Nat):Int) from⟨e1,e2,e3,by rw[e4];simp⟩)
   clear hE e1 e2 e3 e4
   go_wp2_with fail
   go_ret2
   obtain⟨e1,e2,e3,e4⟩:=HE.out
   exact⟨none,0,by rw[e1,e2]<;>rfl,by rw[e2];exact Me,by rw[e4];exact hR,⟨m',by omega,by rw[e3];exact hDD⟩,by rw[e2];exact Ints.nil _ _ _,fun a ha=>(by cases ha),hK⟩
def qE(ss:List Slot)(page:Int)(n:Nat)(w:World)(e:Ending)(w':World):Prop:=e= .returned (.int .i64 (qf ss page n 0))∧Below w.heap.size w w'
theorem uT(cb sb n:Nat)(ss:List Slot)(page:Int)(v0 v1 v2 v3 v4 v6 v7:Value)(hn:n≤1024)(w:World)(hc:w.heap[cb]? =some (.cells #[v0,v1,v2,v3,v4,.slice (some ⟨sb,0,none⟩) n n,v6,v7] 156 (0,0)))(hS:iP w sb n ss):Calls Tryz.prog 134 #[.pointer (some ⟨cb,0,none⟩),.int .i64 page] w (qE ss page n w):=by
 obtain⟨c0,c1,c2,c3,c4,c5,c6,c7⟩:=bK hc
 go_enter Tryz.func134,Tryz.ntmps134
 go_wp2_with fail
 go_loopw [5,11] (fun v5 v11 wr=>∃i:Nat,i≤n∧v11= .int .i64 i∧Hid (qf ss page n 0=qf ss page (n - i) i)∧Below w.heap.size w wr) (fun _ v11 _=>(n - (intOf v11).toNat))
 case atStart=>exact⟨0,by omega,rfl,rfl,Below.refl _ _⟩
 case round=>
  obtain⟨i,hi,rfl,hf,hb⟩:=hrel
  by_cases hlt:i<n
  ·have hk:=af.au (S:=fun _=>False) hb Me
   obtain⟨s0,s1,s2,s3⟩:=(hS.kept hk id).at_ i hlt
   obtain⟨c0,c1,c2,c3,c4,c5,c6,c7⟩:=bK (hk.heap hc id)
   obtain⟨j,hj⟩: ∃j,n - i=j+1:=⟨n - i - 1,by omega⟩
   have hstep:qf ss page (n - i) i=if(ss.getD i Slot.none).f=true∧(ss.getD i Slot.none).p=page then(i:Int) else qf ss page (n - (i+1)) (i+1):=by
    rw[hj,show n - (i+1)=j by omega];rfl
   generalize ss.getD i Slot.none=t at*
   by_cases hfl:t.f=true
   ·rw[hfl] at s2
    by_cases hp:t.p=page
    ·rw[hp] at s0
     have HST:=MI (hstep.trans (if_pos ⟨hfl,hp⟩))
     clear hstep
     go_wp2_with fail
     go_ret
     exact⟨by rw[hf.out,HST.out]<;>rfl,hb⟩
    ·have HST:=MI (hstep.trans (if_neg (fun e=>hp e.2)))
     have hpb:(t.p==page)=false:=by simpa using hp
     clear hstep
     go_wp2_with fail
     go_roundw
     case rel=>exact⟨i+1,by omega,by go_num,hf.out.trans HST.out,hb⟩
     case measure=>simp[intOf];omega
   ·have hfl2:t.f=false:=by simpa using hfl
    rw[hfl2] at s2
    have HST:=MI (hstep.trans (if_neg (fun e=>hfl e.1)))
    clear hstep
    go_wp2_with fail
    go_roundw
    case rel=>exact⟨i+1,by omega,by go_num,hf.out.trans HST.out,hb⟩
    case measure=>simp[intOf];omega
  ·obtain rfl:i=n:=by omega
   have HE:=MI (hf.out.trans (by rw[Nat.sub_self];rfl:qf ss page (i - i) i= -1))
   go_wp2_with fail
   go_ret
   exact⟨by rw[HE.out]<;>rfl,hb⟩
end Go.Proofs.YtnicjahcgnhogaaGreatDoor.Cch
namespace Go.Proofs.YtnicjahcgnhogaaGreatDoor.Cch
open Go Go.RowKit Go.Calli Go.Dskp Go.Maps
structure PS where
 p:Int
 u:Bool
 f:Bool
 bs:List Int
def q0:PS:=⟨0,false,false,[]⟩
structure Ca where
 h:Int
 m:Int
 t:Int
 l:Int
 d:Dk
 ss:List PS
 hand:Nat
 eG:Int
 mx:Nat
def iI(ss:List PS)(page:Int):Nat→Nat→Int
 | 0,_=>-1
 | k+1,i=>if(ss.getD i q0).f=true∧(ss.getD i q0).p=page then(i:Int) else iI ss page k (i+1)
theorem uU(ss:List PS)(page:Int): ∀k i,iI ss page k i= -1∨((i:Int)≤iI ss page k i∧iI ss page k i<i+k∧(ss.getD (iI ss page k i).toNat q0).f=true∧(ss.getD (iI ss page k i).toNat q0).p=page):=by
 intro k
 induction k with
 | zero=>intro i;exact .inl rfl
 | succ k ih=>
  intro i
  simp only[iI]
  split
  ·rename_i h
   exact .inr ⟨Int.le_refl _,by omega,by simpa using h.1,by simpa using h.2⟩
  ·rcases ih (i+1) with h | ⟨h1,h2,h3⟩
   ·exact .inl h
   ·exact .inr ⟨by omega,by omega,h3⟩
def PS.used(s:PS):Bool:=s.f&&s.u
def PS.drop(s:PS):PS:={s with u:=false}
def DF(ss:List PS):Nat:=(ss.filter PS.used).length
def oz(n:Nat):Nat→List PS→Nat→Nat×List PS×Nat
 | 0,ss,h=>(h,ss,(h+1)%n)
 | k+1,ss,h=>if(ss.getD h q0).used=true then oz n k (ss.set h (ss.getD h q0).drop) ((h+1)%n) else(h,ss,(h+1)%n)
structure Ad where
 cb:Nat
 sb:Nat
 b:Nat
 mb:Nat
 ib:Option Addr
 kap:Nat
 x:Nat→Prop
def Ad.S(A:Ad)(k:Nat):Prop:=k=A.cb∨k=A.sb∨k=A.b∨k=A.mb
def Ad.T(A:Ad)(k:Nat):Prop:=A.S k∨A.x k
structure nR(A:Ad)(w:World)(s:Slot)(q:PS):Prop where
 p:s.p=q.p
 u:s.u=q.u
 f:s.f=q.f
 bs:q.f=true→s.bn=q.bs.length∧s.bn≤s.bc∧Ints .u8 w s.bo s.bn q.bs∧∀a,s.bo=some a→¬A.T a.block
theorem nR.zX{A:Ad}{w w':World}{s:Slot}{q:PS}(h:nR A w s q)(hk:af A.T w w'):nR A w' s q:=⟨h.p,h.u,h.f,fun hf=>by
 obtain⟨a1,a2,a4,a5⟩:=h.bs hf
 exact⟨a1,a2,a4.kept hk a5,a5⟩⟩
theorem nR.kept{A:Ad}{w w':World}{s:Slot}{q:PS}(h:nR A w s q)(hk:af A.S w w'):nR A w' s q:=h.zX (hk.mono fun k _ h=>.inl h)
structure dX(A:Ad)(w:World)(ms:List Slot)(qs:List PS):Prop where
 len:ms.length=qs.length
 is: ∀i,i<qs.length→nR A w (ms.getD i Slot.none) (qs.getD i q0)
theorem dX.zX{A:Ad}{w w':World}{ms:List Slot}{qs:List PS}(h:dX A w ms qs)(hk:af A.T w w'):dX A w' ms qs:=⟨h.len,fun i hi=>(h.is i hi).zX hk⟩
theorem dX.kept{A:Ad}{w w':World}{ms:List Slot}{qs:List PS}(h:dX A w ms qs)(hk:af A.S w w'):dX A w' ms qs:=⟨h.len,fun i hi=>(h.is i hi).kept hk⟩
theorem dX.set{A:Ad}{w:World}{ms:List Slot}{qs:List PS}(h:dX A w ms qs)(i:Nat){s:Slot}{q:PS}(hs:nR A w s q):dX A w (ms.set i s) (qs.set i q):=⟨by rw[List.length_set,List.length_set,h.len],fun j hj=>by
 rw[List.length_set] at hj
 by_cases e:j=i
 ·subst e
  rw[show(ms.set j s).getD j Slot.none=s by simp[List.getD,h.len,hj],show(qs.set j q).getD j q0=q by simp[List.getD,hj]]
  exact hs
 ·rw[show(ms.set i s).getD j Slot.none=ms.getD j Slot.none by simp[List.getD,List.getElem?_set,Ne.symm e],show(qs.set i q).getD j q0=qs.getD j q0 by simp[List.getD,List.getElem?_set,Ne.symm e]]
  exact h.is j hj⟩
theorem uS{A:Ad}{w:World}{ms:List Slot}{qs:List PS}(h:dX A w ms qs)(page:Int): ∀k i,i+k≤qs.length→qf ms page k i=iI qs page k i:=by
 intro k
 induction k with
 | zero=>intro i _;rfl
 | succ k ih=>
  intro i hi
  have hs:=h.is i (by omega)
  simp only[qf,iI]
  rw[hs.f,hs.p,ih (i+1) (by omega)]
theorem cnt_rel{A:Ad}{w:World}: ∀{ms:List Slot}{qs:List PS}(h:dX A w ms qs),cnt ms=DF qs:=by
 intro ms
 induction ms with
 | nil=>intro qs h;have:=h.len;obtain rfl:qs=[]:=List.eq_nil_of_length_eq_zero (by simpa using this.symm);rfl
 | cons s ms ih=>
  intro qs h
  cases qs with
  | nil=>have:=h.len;simp at this
  | cons q qs=>
   have h0:=h.is 0 (by simp)
   have e0:s.used=q.used:=by
    have hf:s.f=q.f:=h0.f
    have hu:s.u=q.u:=h0.u
    unfold Slot.used PS.used;rw[hf,hu]
   have ht:dX A w ms qs:=⟨by have:=h.len;simpa using this,fun i hi=>by have:=h.is (i+1) (by simpa using hi);simpa using this⟩
   have:=ih ht
   unfold cnt DF at*
   by_cases hu:q.used=true
   ·rw[List.filter_cons_of_pos (by rw[e0];exact hu),List.filter_cons_of_pos hu,List.length_cons,List.length_cons,this]
   ·rw[List.filter_cons_of_neg (by rw[e0];exact hu),List.filter_cons_of_neg hu,this]
theorem vic_rel{A:Ad}{w:World}{n:Nat}(hn:0<n): ∀(k:Nat){ms:List Slot}{qs:List PS}(h:dX A w ms qs)(hl:qs.length=n)(g:Nat)(hg:g<n),(vic n k ms g).1=(oz n k qs g).1∧(vic n k ms g).2.2=(oz n k qs g).2.2∧dX A w (vic n k ms g).2.1 (oz n k qs g).2.1∧(oz n k qs g).1<n∧(oz n k qs g).2.2<n∧(oz n k qs g).2.1.length=n:=by
 intro k
 induction k with
 | zero=>intro ms qs h hl g hg;exact⟨rfl,rfl,h,hg,Nat.mod_lt _ hn,hl⟩
 | succ k ih=>
  intro ms qs h hl g hg
  have hs:=h.is g (by omega)
  have eu:(ms.getD g Slot.none).used=(qs.getD g q0).used:=by unfold Slot.used PS.used;rw[hs.f,hs.u]
  simp only[vic,oz]
  rw[eu]
  by_cases hu:(qs.getD g q0).used=true
  ·rw[if_pos hu,if_pos hu]
   exact ih (h.set g (s:=(ms.getD g Slot.none).drop) (q:=(qs.getD g q0).drop) ⟨hs.p,rfl,hs.f,hs.bs⟩) (by rw[List.length_set];exact hl) _ (Nat.mod_lt _ hn)
  ·rw[if_neg hu,if_neg hu]
   exact⟨rfl,rfl,h,hg,Nat.mod_lt _ hn,hl⟩
structure PR where
 e:Int
 b:List Int
 c:Ca
def J3(c:Ca)(i:Nat):Ca:={c with h:=c.h+1,ss:=c.ss.set i {c.ss.getD i q0 with u:=true}}
def JI(c:Ca)(R:TR):Ca:={c with m:=c.m+1,t:=c.t+R.n,d:=R.d,l:=c.l+1,mx:=c.mx+9}
def Iz(c:Ca)(p:Int)(R:TR)(V:Nat×List PS×Nat):Ca:={c with m:=c.m+1,t:=c.t+R.n,d:=R.d,ss:=V.2.1.set V.1 ⟨p,true,true,R.b⟩,hand:=V.2.2,mx:=c.mx+9}
def fO(c:Ca)(p:Int):PR:=
 if 0≤iI c.ss p c.ss.length 0 then⟨0,(c.ss.getD (iI c.ss p c.ss.length 0).toNat q0).bs,J3 c (iI c.ss p c.ss.length 0).toNat⟩
 else if(fQ p (c.eG.toNat+1) c.d 8).e=0 then⟨0,(fQ p (c.eG.toNat+1) c.d 8).b,Iz c p (fQ p (c.eG.toNat+1) c.d 8) (oz c.ss.length (DF c.ss) c.ss c.hand)⟩
 else⟨(fQ p (c.eG.toNat+1) c.d 8).e,[],JI c (fQ p (c.eG.toNat+1) c.d 8)⟩
def Aw(A:Ad)(w:World):Prop:=(∀a,A.ib=some a→a.block<w.heap.size)∧∀k,A.x k→k<w.heap.size∧¬A.S k∧∀a,A.ib=some a→a.block≠k
theorem Aw.mono{A:Ad}{w w':World}(h:Aw A w)(hs:w.heap.size≤w'.heap.size):Aw A w':=⟨fun a ha=>Nat.lt_of_lt_of_le (h.1 a ha) hs,fun k hx=>⟨Nat.lt_of_lt_of_le (h.2 k hx).1 hs,(h.2 k hx).2⟩⟩
structure gZ(A:Ad)(w:World)(n:Nat)(c:Ca):Prop where
 row:w.heap[A.cb]? =some (.cells #[.int .i64 c.h,.int .i64 c.m,.int .i64 c.t,.int .i64 c.l,.pointer (some ⟨A.b,0,none⟩),.slice (some ⟨A.sb,0,none⟩) n n,.int .i64 c.hand,.int .i64 c.eG] 156 (0,0))
 slots: ∃ms,iP w A.sb n ms∧dX A w ms c.ss
 dsk: ∃m,m≤c.mx∧Dsk w A.b A.mb A.ib A.kap m c.d
 len:c.ss.length=n
 hand:c.hand<n
 rY:A.cb≠A.sb∧A.b≠A.cb∧A.mb≠A.cb∧A.b≠A.sb∧A.mb≠A.sb∧∀a,A.ib=some a→a.block≠A.cb∧a.block≠A.sb
 away:Aw A w
theorem gZ.ah{A:Ad}{w w':World}{n:Nat}{c:Ca}(h:gZ A w n c)(hb:Below w.heap.size w w'):gZ A w' n c:=by
 have hk:=af.au (S:=fun _=>False) hb Me
 obtain⟨ms,h1,h2⟩:=h.slots
 obtain⟨m,h3,h4⟩:=h.dsk
 exact⟨hk.heap h.row id,⟨ms,h1.kept hk id,h2.kept (hk.mono fun k _ h=>h.elim)⟩,⟨m,h3,h4.ah hb⟩,h.len,h.hand,h.rY,h.away.mono hk.size⟩
theorem gZ.inW{A:Ad}{w:World}{n:Nat}{c:Ca}(h:gZ A w n c): ∀k,A.S k→k<w.heap.size:=by
 obtain⟨ms,h1,h2⟩:=h.slots
 obtain⟨m,h3,h4⟩:=h.dsk
 rintro k (rfl | rfl | rfl | rfl)
 ·exact L8 h.row
 ·exact L8 h1.2
 ·exact h4.lt
 ·exact h4.2.2.2.1.lt
structure kS(k:Nat)(c:Ca):Prop where
 h0:0≤c.h
 h1:c.h≤k
 m0:0≤c.m
 m1:c.m≤k
 t0:0≤c.t
 t1:c.t≤9*k
 l0:0≤c.l
 l1:c.l≤k
 ok:c.d.Ok
 r:c.d.r≤9*k
 mx:c.mx≤9*k
 r0:0≤c.eG
 r1:c.eG≤8
theorem Ir(p:Int): ∀(k:Nat)(d:Dk)(e:Int),d.Ok→(fQ p k d e).d.Ok∧0≤(fQ p k d e).n∧(fQ p k d e).n≤k∧(fQ p k d e).d.r≤d.r+k:=by
 intro k
 induction k with
 | zero=>intro d e hd;exact⟨hd,Int.le_refl _,Int.le_refl _,by simp[fQ]⟩
 | succ k ih=>
  intro d e hd
  have hr:=(Ed d p).1
  simp only[fQ]
  split
  ·exact⟨Cb hd p,by simp only;omega,by simp only;omega,by simp only;omega⟩
  ·have:=ih (rdS d p) (rdE d p) (Cb hd p)
   exact⟨this.1,by simp only;omega,by simp only;omega,by simp only;omega⟩
theorem kS.page{k:Nat}{c:Ca}(h:kS k c)(p:Int):kS (k+1) (fO c p).c:=by
 have ht:=Ir p (c.eG.toNat+1) c.d 8 h.ok
 have h1:=h.h0;have h2:=h.h1;have h3:=h.m0;have h4:=h.m1;have h5:=h.t0;have h6:=h.t1;have h7:=h.l0;have h8:=h.l1;have h9:=h.ok;have h10:=h.r;have h11:=h.mx;have h12:=h.r0;have h13:=h.r1
 unfold fO
 generalize fQ p (c.eG.toNat+1) c.d 8=R at*
 obtain⟨t1,t2,t3,t4⟩:=ht
 split
 ·constructor<;>simp only[J3]<;>first | omega | assumption
 ·split
  ·constructor<;>simp only[Iz]<;>first | omega | assumption
  ·constructor<;>simp only[JI]<;>first | omega | assumption
end Go.Proofs.YtnicjahcgnhogaaGreatDoor.Cch
