/- Part 6 of the walk: contracts of the program's functions, each for every input. No condition. -/
import Derived.RangeFuncNested
import Derived.RangeFuncBound
import Derived.RangeFuncCalls
import Derived.RangeFuncLeaves
import Derived.Shelf.Abstract
import Derived.OwnWalkIn
import Derived.TacticsInMore
import Derived.LoopNIn
import Derived.LoopIn
import Derived.Test.YtnicjahcgnhogaaGreatDoorQ04
import Derived.RangeFuncFrom
import Derived.Shelf.RegionOpen
set_option linter.unusedVariables false
set_option linter.unusedSimpArgs false
set_option maxRecDepth 100000
set_option maxHeartbeats 8000000
namespace Go.Proofs.YtnicjahcgnhogaaGreatDoor
open Go Go.RowKit Go.Calli Go.Shelf
attribute [local go_sem] Oper.semAt_some
def Pr(r:Nat):Type:={i:Nat//i<16∧i/2^r%2=0}
def tpZ(r i:Nat):Int:=aI.getD (2*((3*i+5*r)%8)) 0
def tuZ(r i:Nat):Int:=aI.getD (2*((3*i+5*r)%8)+1) 0
def KD(r:Nat)(x:Pr r):Array Value:=#[.int .i64 (x.1:Int),.agg #[.int .i64 (tpZ r x.1),.int .i64 (tuZ r x.1)]]
def prs(r m:Nat):List (Pr r):=(List.range m).filterMap (fun i=>if h:i<16∧i/2^r%2=0 then some ⟨i,h⟩ else none)
theorem prs_yes(r m:Nat)(h:m<16∧m/2^r%2=0):prs r (m+1)=prs r m++[⟨m,h⟩]:=by
 unfold prs
 rw[List.range_succ,List.filterMap_append,List.filterMap_cons,List.filterMap_nil,dif_pos h]
theorem prs_no(r m:Nat)(h:¬(m<16∧m/2^r%2=0)):prs r (m+1)=prs r m:=by
 unfold prs
 rw[List.range_succ,List.filterMap_append]
 simp[h]
theorem prs_len(r m:Nat):(prs r m).length≤m:=by
 unfold prs
 have:=List.length_filterMap_le (fun i=>if h:i<16∧i/2^r%2=0 then some (⟨i,h⟩:Pr r) else none) (List.range m)
 rwa [List.length_range] at this
def Kq(a b:Nat)(W W':World):Prop:=∀k,k=a∨k=b→∀o,W.heap[k]? =some o→W'.heap[k]? =some o
theorem Kq.refl(a b:Nat)(W:World):Kq a b W W:=fun _ _ _ h=>h
theorem Kq.trans{a b:Nat}{A B C:World}(h:Kq a b A B)(k:Kq a b B C):Kq a b A C:=fun i hi o ho=>k i hi o (h i hi o ho)
theorem CV(i r:Nat)(hi:i<16)(hr:r<4)(w:World):Calls Tryz.prog 220 #[.int .i64 (i:Int),.int .i64 (r:Int)] w (fun e w'=>e= .returned (.int .i64 (((3*i+5*r)%8:Nat):Int))∧w'=w):=by
 have h1:IntKind.i64.wrap (3*(i:Int))=3*(i:Int):=IntWalk.i64_in _ (by omega)
 have h2:IntKind.i64.wrap (5*(r:Int))=5*(r:Int):=IntWalk.i64_in _ (by omega)
 have h3:IntKind.i64.wrap (3*(i:Int)+5*(r:Int))=3*(i:Int)+5*(r:Int):=IntWalk.i64_in _ (by omega)
 go_enter Tryz.func220,Tryz.ntmps220
 go_wp2_with fail
 go_ret
 exact⟨aX (by omega),rfl⟩
theorem and_bit: ∀r,r<4→∀m,m<16→bits .and .i64 ((m:Nat):Int) (2^r)=if m/2^r%2=0 then 0 else 2^r:=by decide
theorem Gi(n:Nat)(hn:1≤n)(l Rb Nb r:Nat)(hr:r<4)(J Jx:List (Pr r)→World→Prop)
  (hY: ∀pre x W,J pre W→pre.length<16→YieldAt Fence.wide (n - 1) Tryz.prog l (KD r x) W fun e W'=>
   (e= .returned (.bool true)∧J (pre++[x]) W'∧Kq Rb Nb W W')∨(e= .returned (.bool false)∧Jx (pre++[x]) W'))
  (W:World) (hcR:W.heap[Rb]? =some (.cells #[.int .i64 (r:Int)] 3 (0,0))) (hcN:W.heap[Nb]? =some (.cells (iA aI) 176 (0,0))) (h0:J [] W):
  CallsIn Fence.wide n Tryz.prog 219 #[.func (.yield l) #[] #[],.pointer (some ⟨Rb,0,none⟩),.pointer (some ⟨Nb,0,none⟩)] W fun e W'=>(∃v,e= .returned v)∧
   ((∃ys,ys=prs r 16∧J ys W')∨(∃pre,True∧Jx pre W')):=by
 refine callsIn_of_wp Tryz.func219 rfl trivial ?_ rfl
 simp only[Tryz.ntmps219,List.size_toArray,List.length_cons,List.length_nil,Nat.reduceAdd,Nat.reduceSub,Array.replicate_succ,Array.replicate_zero,List.push_toArray,List.append_toArray,List.nil_append,List.cons_append]
 gi_wp2
 gi_loopw [5] (fun i wr=>∃k:Nat,k≤16∧i= .int .i64 (k:Int)∧J (prs r k) wr∧Kq Rb Nb W wr) (fun i _=>16 - aG i)
 case atStart=>exact⟨0,Nat.zero_le _,rfl,h0,Kq.refl _ _ _⟩
 case round=>
  obtain⟨k,hk,rfl,hJs,hnx⟩:=hrel
  have hcr:wr.cell? ⟨Rb,0,none⟩=some (.int .i64 (r:Int)):=(LZ (hnx Rb (.inl rfl) _ hcR)).trans rfl
  have hcn:=hnx Nb (.inr rfl) _ hcN
  have hm:min r 64=r:=by omega
  obtain⟨a1,a2⟩:=uk r (by omega)
  have hw:IntKind.i64.wrap (2^r)=2^r:=IntWalk.i64_in _ (by omega)
  by_cases hk16:k<16
  ·have hand:=and_bit r hr k hk16
   have hpl:=prs_len r k
   by_cases hbit:k/2^r%2=0
   ·rw[if_pos hbit] at hand
    have hys:=prs_yes r k ⟨hk16,hbit⟩
    obtain⟨fn,tmps,assign,body,hy,hR⟩:=hY _ ⟨k,hk16,hbit⟩ wr hJs (by omega)
    have hq8:(3*k+5*r)%8<8:=Nat.mod_lt _ (by decide)
    have d0:=aH (k:=2*((3*k+5*r)%8)) hcn (by show _<16;omega)
    have d1:=aH (k:=2*((3*k+5*r)%8)+1) hcn (by show _<16;omega)
    have hnt:=CV k r hk16 hr wr
    have e0:tpZ r k=aI.getD (2*((3*k+5*r)%8)) 0:=rfl
    have e1:tuZ r k=aI.getD (2*((3*k+5*r)%8)+1) 0:=rfl
    rw[←e0] at d0
    rw[←e1] at d1
    simp only[KD] at hy
    clear e0 e1
    generalize tpZ r k=tp at*
    generalize tuZ r k=tu at*
    generalize (3*k+5*r)%8=q at*
    rw[show 2*q+1=q*2+1 by omega] at d1
    rw[show 2*q=q*2 by omega] at d0
    have hqi:(q:Int)<8:=by omega
    have HYS:=MI hys
    clear hcn hys
    gi_wp2_with (refine⟨trivial,?_⟩;gi_at_call 220;refine(callsIn_wide.2 hnt).mono ?_;rintro e w2 ⟨rfl,rfl⟩)
    refine hR.mono ?_
    rintro e W3 (⟨rfl,hJ3,hk3⟩ | ⟨rfl,hJx3⟩)
    ·gi_wp2
     go_roundw
     case rel=>exact⟨k+1,by omega,by go_num,by rw[HYS.out];exact hJ3,hnx.trans hk3⟩
     case measure=>simp[aG];omega
    ·gi_wp2
     refine bodyPost_ret (results_none rfl _ _ _) rfl ?_
     exact⟨⟨_,rfl⟩,.inr ⟨_,trivial,hJx3⟩⟩
   ·rw[if_neg hbit] at hand
    have hno:=prs_no r k (fun h=>hbit h.2)
    have HNO:=MI hno
    have h2:¬((2:Int)^r=0):=by omega
    have h3:((2:Int)^r==0)=false:=by simpa using h2
    clear hno
    gi_wp2
    repeat (first | (refine⟨trivial,?_⟩;gi_wp2) | (refine⟨fun _ h=>(by cases h),?_⟩;gi_wp2))
    go_roundw
    case rel=>exact⟨k+1,by omega,by go_num,by rw[HNO.out];exact hJs,hnx⟩
    case measure=>simp[aG];omega
  ·obtain rfl:k=16:=by omega
   gi_wp2
   go_end0
   exact⟨⟨_,rfl⟩,.inl ⟨_,rfl,hJs⟩⟩
theorem pairs_stops(n:Nat)(hn:1≤n)(Rb Nb r:Nat)(hr:r<4)(w:World)(hcR:w.heap[Rb]? =some (.cells #[.int .i64 (r:Int)] 3 (0,0)))(hcN:w.heap[Nb]? =some (.cells (iA aI) 176 (0,0))):
  SeqStopsK Fence.wide n Tryz.prog 219 #[.pointer (some ⟨Rb,0,none⟩),.pointer (some ⟨Nb,0,none⟩)] (KD r) (Kq Rb Nb) (fun ys=>ys=prs r 16) (fun _=>True) 16 w:=fun l J Jx W hW _ _ hY h0=>
 Gi n hn l Rb Nb r hr J Jx hY W ((hW.block _ (L8 hcR)).trans hcR) ((hW.block _ (L8 hcN)).trans hcN) h0
theorem wK(r:Nat)(w:World):Calls Tryz.prog 195 #[.agg (iA aI),.int .i64 (r:Int)] w (fun e w'=>e= .returned (.func (.func 219) #[] #[.pointer (some ⟨w.heap.size+1,0,none⟩),.pointer (some ⟨w.heap.size,0,none⟩)])∧w'=(w.alloc (.cells (iA aI) 176)).alloc (.cells #[.int .i64 (r:Int)] 3)):=by
 have hs:(iA aI).size=16:=by kernel_rfl
 go_enter Tryz.func195,Tryz.ntmps195
 go_wp2_with fail
 go_ret
 exact⟨rfl,rfl⟩
end Go.Proofs.YtnicjahcgnhogaaGreatDoor
namespace Go.Proofs.YtnicjahcgnhogaaGreatDoor
open Go Go.RowKit Go.Calli Go.Shelf
def pM(o:Oper):Bool:=match o.op with | .defer _=>false | _=>true
theorem uponIn_round{F:Fence}{n:Nat}{P:Program}{o:Oper}{a:Act}{K:Act→World→Prop}{Q:Exit→Act→World→Prop}(l:Nat){r:Result Next}(h:o.uponIn F n P a K Q r):o.uponIn (F.inRound l) n P a K Q r:=by
 cases r with
 | ok x w'=>cases x<;>simp only[Oper.uponIn] at h⊢ <;>exact h
 | halt x w'=>cases x<;>simp only[Oper.uponIn] at h⊢ <;>exact h
theorem yx{F:Fence}{n:Nat}{P:Program}{o:Oper}{a:Act}{w:World}{K:Act→World→Prop}{Q:Exit→Act→World→Prop}(l:Nat)(hd:pM o=true)(h:o.wpIn F n P a w K Q):o.wpIn (F.inRound l) n P a w K Q:=by
 have hnd: ∀c,o.op≠ .defer c:=fun c e=>by unfold pM at hd;rw[e] at hd;cases hd
 unfold Oper.wpIn at*
 rw[Oper.semAt_eq _ _ _ hnd] at h⊢
 exact⟨h.1,uponIn_round l h.2⟩
theorem CG{F:Fence}{n:Nat}{P:Program}{ops:Array Oper}{i:Nat}{a:Act}{w:World}{K:Act→World→Prop}{Q:Exit→Act→World→Prop}(l:Nat)(hd:ops.all pM=true)(h:wpOpIn F n P ops Q i K a w):wpOpIn (F.inRound l) n P ops Q i K a w:=by
 unfold wpOpIn at*
 cases ho:ops[i]? with
 | none=>simp only[ho] at h⊢;exact h
 | some o=>
  simp only[ho] at h⊢
  split at h
  ·rename_i hw
   rw[if_pos hw]
   refine yx l ?_ h
   obtain⟨hi,he⟩:=Array.getElem?_eq_some_iff.1 ho
   have:=Array.all_eq_true.1 hd i hi
   rwa [he] at this
  ·rename_i hw
   rw[if_neg hw]
   exact h
theorem rM{F:Fence}{n:Nat}{P:Program}{ops:Array Oper}{md:Region.Mode}{Q:Exit→Act→World→Prop}(l:Nat)(hd:ops.all pM=true): ∀(fuel:Nat)(listed:Array Bool)(a:Act)(w:World),wpAnyIn F n P md ops Q fuel listed a w→wpAnyIn (F.inRound l) n P md ops Q fuel listed a w
 | 0,_,_,_,h=>h
 | fuel+1,listed,a,w,h=>⟨h.1,fun i hi=>CG l hd (wpOpIn_mono (fun a w h=>rM l hd fuel _ a w h) (h.2 i hi))⟩
theorem pI{F:Fence}{n:Nat}{P:Program}{ops:Array Oper}{Q:Exit→Act→World→Prop}{id:Nat}{a:Act}{w:World}(l:Nat)(hm:P.follows .mixedOrders=true)(hd:ops.all pM=true)
  (h:wpAnyIn F n P .any ops Q ops.size (Array.replicate ops.size false) a w.drew):(Code.region id ops true).wpIn (F.inRound l) n P Q a w:=
 wpIn_region_any hm (rM l hd _ _ _ _ h)
end Go.Proofs.YtnicjahcgnhogaaGreatDoor
namespace Go.Proofs.YtnicjahcgnhogaaGreatDoor
open Go Go.RowKit Go.Calli Go.Shelf
attribute [local go_sem] Oper.semAt_some
theorem ig{F:Fence}{n:Nat}{P:Program}{ops:Array Oper}{rest:List Oper}{o:Oper}{a:Act}{w:World}{Q:Exit→Act→World→Prop}(hgd:o.guard=none)(ty:TypeId)(x:Operand)(ho:o.op= .load ty x)
  (g:Nat) (hx:a.eval x= .pointer (some ⟨g,0,none⟩)) (t:TypeId) (cs:Array Value) (fr:Nat×Nat) (d:TypeDesc) (hg:w.heap[g]? =some (.cells cs t fr))
  (hu:P.underlying ty=some d) (hd:(match d with | .struct _ | .array _ _=>true | _=>false)=true) (hi:(P.info? ty).map (·.size)=some cs.size)
  (h:wpListIn F n P ops Q rest (a.put o.dst (.agg cs)) w):wpListIn F n P ops Q (o::rest) a w:=by
 refine wpListIn_plain hgd fun K hK'=>?_
 unfold Oper.wpIn
 refine⟨?_,?_⟩
 ·simp[Oper.about,ho]
 ·rw[Oper.semAt_plain F _ _ (by rw[ho];intro c hc';cases hc')]
  simp only[execOp,ho,hx,Instr.loadAt,Instr.sureAddr,Sem.run_bind,Sem.run_pure,Result.andThen_ok,run_loadVar_row w g t ty cs fr d hg hu hd hi]
  exact hK' _ _ h
theorem kE{F:Fence}{n:Nat}{P:Program}{ops:Array Oper}{rest:List Oper}{o:Oper}{a:Act}{w:World}{Q:Exit→Act→World→Prop}(hgd:o.guard=none)(ty:TypeId)(x y:Operand)(ho:o.op= .store ty x y)
  (g:Nat) (cells:Array Value) (hx:a.eval x= .pointer (some ⟨g,0,none⟩)) (hy:a.eval y= .agg cells)
  (t:TypeId) (old:Array Value) (hg:w.heap[g]? =some (.cells old t (0,0))) (hi:(P.info? ty).map (·.size)=some cells.size)
  (hold:old.size=cells.size) (h1:cells.all (·.oneCell')=true)
  (h:wpListIn F n P ops Q rest (a.put o.dst undef) (w.setRow g cells)):wpListIn F n P ops Q (o::rest) a w:=by
 refine wpListIn_plain hgd fun K hK'=>?_
 unfold Oper.wpIn
 refine⟨?_,?_⟩
 ·simp[Oper.about,ho]
 ·rw[Oper.semAt_plain F _ _ (by rw[ho];intro c hc';cases hc')]
  simp only[execOp,ho,hx,hy,Instr.storeAt,Instr.sureAddr,Sem.run_bind,Sem.run_pure,Result.andThen_ok,run_storeVar_row w g t ty old cells hg hi hold h1]
  exact hK' _ _ h
theorem rG{α:Type}{F:Fence}{n:Nat}{P:Program}{g:Operand}{ps:Array Tmp}{assign body:Code}{Q:Exit→Act→World→Prop}{a:Act}{w:World}
  (hro:F.round=none) (h1:1≤n) {gf:Nat} {lb:Array Value} (hg:a.eval g= .func (.func gf) #[] lb) (hFg:F.fn gf) (eg: ∀args w,(callFunc gf args).run P w= .ok (.enter gf args) w)
  {encs:α→Array Value} {Kp:World→World→Prop} {S Sp:List α→Prop} {N:Nat} {w0:World} (hseq:SeqStopsK F (n - 1) P gf lb encs Kp S Sp N w0)
  (hKt: ∀{A B C:World},Kp A B→Kp B C→Kp A C) (hKb: ∀(W:World)(l:Nat)(o o':Obj),w.heap.size≤l→W.heap[l]? =some o→o.isCells=false→o.isWalk=false→Kp W (W.putObj l o')) (hb0:Below w0.heap.size w0 w) (hps: ∀x,(encs x).size=ps.size)
  (I:List α→World→Prop) (hI:OwnFrom w.heap.size I) (h0:I [] w) (ty:Nat) (vals:α→Array Value) (slots:Array Value→α→Nat→Array Value)
  (hassign: ∀(l:Nat)(pre:List α)(x:α)(W:World)(K:Act→World→Prop),I pre W→(∀Bx W',KeepsFrom w.heap.size W W'→Kp W W'→I pre W'→W'.heap[Bx]? =some (.cells (vals x) ty (0,0))→K {tmps:=slots a.tmps x Bx,defers:=[]} W')→
   assign.wpIn (F.inRound l) (n - 1 - 1) P (Exit.then K (fun _ _ _=>False)) {tmps:=(ps.zip (encs x)).foldl (fun t (p,v)=>t.setIfInBounds p v) a.tmps,defers:=[]} W)
  (hbody: ∀(l:Nat)(pre:List α)(x:α)(Bx:Nat)(W:World),I pre W→W.heap[Bx]? =some (.cells (vals x) ty (0,0))→pre.length<N→body.wpIn (F.inRound l) (n - 1 - 1) P (ownPostG w.heap.size Kp I (fun _ _ _=>False) (pre++[x]) W) {tmps:=slots a.tmps x Bx,defers:=[]} W)
  (hdone: ∀(D:Nat)(xs:List α)(W:World),w.heap.size≤D→S xs→I xs W→W.heap[D]? =some (.deferred (some []))→Q .normal {a with defers:={target:=.collected D,args:=#[]}::a.defers} W):
  (Code.rangeFunc g ps assign body).wpIn F n P Q a w:=
 wpIn_rangeFunc_ownH hro h1 hg hFg eg hseq (fun h k=>hKt h k) hKb hb0 hps I (fun _ _ _=>False) hI (fun _ _ _ _ _ h _ _=>h) h0
  (fun x a' W=>∃Bx,W.heap[Bx]? =some (.cells (vals x) ty (0,0))∧a'={tmps:=slots a.tmps x Bx,defers:=[]})
  (fun x a' s W W' row hs hg hr=>by
   obtain⟨Bx,hc,ha⟩:=hs
   refine⟨Bx,?_,ha⟩
   refine(hg.block Bx (L8 hc) ?_).trans hc
   intro e
   obtain⟨_,o,ho,hn⟩:=hr Bx e.symm
   rw[hc] at ho
   cases ho
   cases hn)
  (fun l pre x W K hi hK=>hassign l pre x W K hi (fun Bx W' h1 h2 h3 h5=>hK _ W' h1 h2 h3 ⟨Bx,h5,rfl⟩))
  (fun l pre x a' W hl hr hi ⟨Bx,h5,ha⟩ hlen=>by rw[ha];exact hbody l pre x Bx W hi h5 hlen)
  hdone (fun D c pre W _ _ h _=>h.elim)
theorem sG{β:Type}(B b T:Nat)(f:β→Array Value):OwnFrom B (fun(s:β) W=>W.heap[b]? =some (.cells (f s) T (0,0))):=fun s W W' row hs hg hr=>by
 refine(hg.block b (L8 hs) ?_).trans hs
 intro e
 obtain⟨_,o,ho,hn⟩:=hr b e.symm
 rw[hs] at ho
 cases ho
 cases hn
def kK(r:Nat)(b:List Int)(x:Pr r):List Int:=
 (b.set x.1 (kX (tpZ r x.1) (tuZ r x.1) (b.getD x.1 0) (b.getD (x.1+2^r) 0)).1).set (x.1+2^r) (kX (tpZ r x.1) (tuZ r x.1) (b.getD x.1 0) (b.getD (x.1+2^r) 0)).2
def dD(r:Nat)(b:List Int)(xs:List (Pr r)):List Int:=xs.foldl (kK r) b
theorem gU(r:Nat)(xs:List (Pr r)): ∀b:List Int,(dD r b xs).length=b.length:=by
 induction xs with
 | nil=>intro b;rfl
 | cons x l ih=>intro b;show(dD r (kK r b x) l).length=_;rw[ih];simp[kK]
theorem tY(r:Nat)(b:List Int)(xs:List (Pr r))(x:Pr r):dD r b (xs++[x])=kK r (dD r b xs) x:=by simp[dD]
theorem or_bit: ∀r,r<4→∀m,m<16→m/2^r%2=0→bits .or .i64 ((m:Nat):Int) (2^r)=((m+2^r:Nat):Int)∧m+2^r<16:=by decide
def nI(b:List Int):List Int:=dD 0 (dD 1 (dD 2 (dD 3 b (prs 3 16)) (prs 2 16)) (prs 1 16)) (prs 0 16)
structure Iv(w0 W:World)(bk:List Int)(Rc:Nat)(r:Int):Prop where
 net:W.heap[w0.heap.size]? =some (.cells (iA aI) 176 (0,0))
 blk:W.heap[w0.heap.size+1]? =some (.cells (iA bk) 194 (0,0))
 out:W.heap[w0.heap.size+2]? =some (.cells #[(),(),(),(),(),(),(),(),(),(),(),(),(),(),(),()] 194 (0,0))
 rnd:W.heap[Rc]? =some (.cells #[.int .i64 r] 3 (0,0))
 low:Below w0.heap.size w0 W
 hrc:w0.heap.size+2<Rc
theorem Iv.below{w0 W W':World}{bk:List Int}{Rc:Nat}{r:Int}(h:Iv w0 W bk Rc r)(hb:Below W.heap.size W W'):Iv w0 W' bk Rc r:=
 ⟨(hb.block _ (L8 h.net)).trans h.net,(hb.block _ (L8 h.blk)).trans h.blk,(hb.block _ (L8 h.out)).trans h.out,(hb.block _ (L8 h.rnd)).trans h.rnd,h.low.trans (hb.mono h.low.size),h.hrc⟩
theorem JO{α:Type}(w0:World)(B Rc:Nat)(r:Int)(f:α→List Int)(hB:w0.heap.size≤B):OwnFrom B (fun(s:α) W=>Iv w0 W (f s) Rc r):=fun s W W' row hs hg hr=>
 ⟨sG B _ _ (fun _:Unit=>iA aI) () W W' row hs.net hg hr,sG B _ _ (fun _:Unit=>iA (f s)) () W W' row hs.blk hg hr,sG B _ _ (fun _:Unit=>#[(),(),(),(),(),(),(),(),(),(),(),(),(),(),(),()]) () W W' row hs.out hg hr,sG B _ _ (fun _:Unit=>#[Value.int .i64 r]) () W W' row hs.rnd hg hr,(ownFrom_below (β:=Unit) (n₀:=w0.heap.size) (w₀:=w0) Me hB) () W W' row hs.low hg hr,hs.hrc⟩
theorem zW(a b:Nat)(W:World)(o:Obj):Kq a b W (W.alloc o):=fun k _ u hu=>(Below.heap_alloc W o k (Array.getElem?_eq_some_iff.1 hu).1).trans hu
theorem JK{a b:Nat}(W:World)(p:Addr)(v:Value)(h1:p.block≠a)(h2:p.block≠b):Kq a b W (W.setCell p v):=fun k hk u hu=>by
 refine(heap_setCell_other W p k v ?_).trans hu
 rcases hk with rfl | rfl
 ·exact fun e=>h1 e.symm
 ·exact fun e=>h2 e.symm
theorem JL{Rb Nb B:Nat}(hR:Rb<B)(hN:Nb<B)(W:World)(l:Nat)(o o':Obj)(hl:B≤l)(h:W.heap[l]? =some o)(_:o.isCells=false)(_:o.isWalk=false):Kq Rb Nb W (W.putObj l o'):=fun k hk u hu=>by
 refine((grownBy_putObj' W l o').block k (Array.getElem?_eq_some_iff.1 hu).1 ?_).trans hu
 intro e
 cases e
 rcases hk with rfl | rfl<;>omega
def jo(r:Nat)(b:List Int)(x:Pr r):List Int:=
 (b.set x.1 (oJ (tpZ r x.1) (tuZ r x.1) (b.getD x.1 0) (b.getD (x.1+2^r) 0)).1).set (x.1+2^r) (oJ (tpZ r x.1) (tuZ r x.1) (b.getD x.1 0) (b.getD (x.1+2^r) 0)).2
def zL(P:World→Prop):Exit→Act→World→Prop
 | .normal,_,W'=>P W'
 | _,_,_=>False
def LW:Code→Option (Code×Code)
 | .rangeFunc _ _ a b=>some (a,b)
 | .loop c=>LW c
 | .seq a b=>match LW a with
  | some c=>some c
  | none=>LW b
 | .block _ c=>LW c
 | .scope c=>LW c
 | .cond _ a b=>match LW a with
  | some c=>some c
  | none=>LW b
 | _=>none
noncomputable def invBody:Code:=((Tryz.f240.body.bind LW).getD (.skip,.skip)).2
noncomputable def fwdBody:Code:=((Tryz.f164.body.bind LW).getD (.skip,.skip)).2
theorem pX{A B:World}(h:Below A.heap.size A B):KeepsOthers A B:=⟨h.size,fun k o hk _=>(h.block k (L8 hk)).trans hk⟩
theorem Ep(w W3 w5:World)(A:List Int)(Rc:Nat)(r:Int)(i k:Nat)(y0 y1:Int)(hi:Iv w W3 A Rc r)(hb5:Below W3.heap.size W3 w5)(Rb Nb:Nat)(hRb:w.heap.size+1≠Rb)(hNb:w.heap.size+1≠Nb):
  KeepsOthers W3 ((w5.setCell ⟨w.heap.size+1,i,none⟩ (.int .i64 y0)).setCell ⟨w.heap.size+1,k,none⟩ (.int .i64 y1))∧Kq Rb Nb W3 ((w5.setCell ⟨w.heap.size+1,i,none⟩ (.int .i64 y0)).setCell ⟨w.heap.size+1,k,none⟩ (.int .i64 y1))∧
  Iv w ((w5.setCell ⟨w.heap.size+1,i,none⟩ (.int .i64 y0)).setCell ⟨w.heap.size+1,k,none⟩ (.int .i64 y1)) ((A.set i y0).set k y1) Rc r:=by
 have h5:=hi.below hb5
 refine⟨((pX hb5).trans (.setCell _ _ _)).trans (.setCell _ _ _),Kq.trans (fun k hk o ho=>(hb5.block k (L8 ho)).trans ho) (Kq.trans (JK _ _ _ hRb hNb) (JK _ _ _ hRb hNb)),?_⟩
 have hs:w.heap.size≤w.heap.size+1:=by omega
 have ot: ∀j,j≠w.heap.size+1→((w5.setCell ⟨w.heap.size+1,i,none⟩ (.int .i64 y0)).setCell ⟨w.heap.size+1,k,none⟩ (.int .i64 y1)).heap[j]? =w5.heap[j]? :=fun j hj=>by
  rw[heap_setCell_other _ _ _ _ hj,heap_setCell_other _ _ _ _ hj]
 have hrc:=hi.hrc
 exact⟨(ot _ (by omega)).trans h5.net,bJ (bJ h5.blk i y0) k y1,(ot _ (by omega)).trans h5.out,(ot _ (by omega)).trans h5.rnd,(h5.low.setCell (p:=⟨w.heap.size+1,i,none⟩) hs _).setCell (p:=⟨w.heap.size+1,k,none⟩) hs _,h5.hrc⟩
theorem JP(r:Nat)(hr:r<4)(l Rc Rb Nb Bx i n:Nat)(hi16:i<16)(hbit:i/2^r%2=0)(w W3:World)(A:List Int)(hA:A.length=16)(hi:Iv w W3 A Rc r)(hc:W3.heap[Bx]? =some (.cells #[.int .i64 (tpZ r i),.int .i64 (tuZ r i)] 171 (0,0)))
  (hRb:w.heap.size+1≠Rb) (hNb:w.heap.size+1≠Nb) (x0 x1 x2 x4 x8 x9 x10 x11 x12 x13 x14 x15 x16 x17 x18 x19 x20 x21 x22 x23 x24 x25 x26 x27 x28 x29 x30 x31 x32 x33 x34 x35 x36 x37 x38:Value) (P:World→Prop)
  (hQ: ∀W',KeepsOthers W3 W'→Kq Rb Nb W3 W'→Iv w W' (kK r A ⟨i,hi16,hbit⟩) Rc r→P W'):
  Code.wpIn (Fence.wide.inRound l) n Tryz.prog invBody (zL P) ⟨#[x0,x1,x2,.pointer (some ⟨w.heap.size+1,0,none⟩),x4,.pointer (some ⟨Rc,0,none⟩),.int .i64 (i:Int),.pointer (some ⟨Bx,0,none⟩),x8,x9,x10,x11,x12,x13,x14,x15,x16,x17,x18,x19,x20,x21,x22,x23,x24,x25,x26,x27,x28,x29,x30,x31,x32,x33,x34,x35,x36,x37,x38],[]⟩ W3:=by
 obtain⟨hor,hk16⟩:=or_bit r hr i hi16 hbit
 have hc3:W3.cell? ⟨Rc,0,none⟩=some (.int .i64 (r:Int)):=(LZ hi.rnd).trans rfl
 have hsn:kK r A ⟨i,hi16,hbit⟩=(A.set i (kX (tpZ r i) (tuZ r i) (A.getD i 0) (A.getD (i+2^r) 0)).1).set (i+2^r) (kX (tpZ r i) (tuZ r i) (A.getD i 0) (A.getD (i+2^r) 0)).2:=rfl
 rw[hsn] at hQ
 clear hsn
 have hii:(i:Int)<16:=by omega
 have hki:((i+2^r:Nat):Int)<16:=by omega
 have hm:min r 64=r:=by omega
 obtain⟨a1,a2⟩:=uk r (by omega)
 have hw:IntKind.i64.wrap (2^r)=2^r:=IntWalk.i64_in _ (by omega)
 have hbk:=hi.blk
 have ci:=aH (k:=i) hbk (by omega)
 have ck:=aH (k:=i+2^r) hbk (by omega)
 obtain⟨t0,t1⟩:=bD hc
 have hlr: ∀(ai ak tp tu:Int) w,Calls Tryz.prog 231 #[.int .i64 ai,.int .i64 ak,.agg #[.int .i64 tp,.int .i64 tu]] w (Bc (kX tp tu ai ak) w):=fun ai ak tp tu w=>vw tp tu ai ak w
 have HST:=MI (fun(y0 y1:Int)(w5:World)(hb5:Below W3.heap.size W3 w5)=>Ep w W3 w5 A Rc r i (i+2^r) y0 y1 hi hb5 Rb Nb hRb hNb)
 generalize tpZ r i=tp at*
 generalize tuZ r i=tu at*
 generalize hkk:i+2^r=k at*
 generalize A.getD i 0=ai at*
 generalize A.getD k 0=ak at*
 have HI:=MI hi
 have HBK:=MI hbk
 have hbc:=MI (fun w=>hlr ai ak tp tu w)
 unfold Bc at hbc
 generalize kX tp tu ai ak=Y at*
 obtain⟨yi,yk⟩:=Y
 simp only at HST hbc hQ
 have HQ:=MI hQ
 have hfo:Tryz.prog.follows .mixedOrders=true:=by kernel_rfl
 have HLT: ∀j,W3.cell? ⟨j,0,none⟩=some (.int .i64 (r:Int))→j<W3.heap.size:=fun j h=>by
  unfold World.cell? at h
  cases h':W3.heap[j]? with
  | none=>rw[h'] at h;cases h
  | some o=>exact L8 h'
 have HLT:=MI HLT
 clear hkk hi hbk hc hQ hlr
 conv=>arg 4;whnf
 gi_wp2
 refine pI l hfo (by kernel_rfl) ?_
 refine MH 0 ?_ ?_ ?_
 rotate_left
 ·intro w9
  first
   | (go_simp;done)
   | (go_simp;with_reducible rfl)
 refine MH 1 ?_ ?_ ?_
 rotate_left
 ·intro w9
  first
   | (go_simp;done)
   | (go_simp;with_reducible rfl)
 refine MH 2 ?_ ?_ ?_
 rotate_left
 ·intro w9
  first
   | (go_simp;done)
   | (go_simp;with_reducible rfl)
 refine MH 5 ?_ ?_ ?_
 rotate_left
 ·intro w9
  first
   | (go_simp;done)
   | (go_simp;with_reducible rfl)
 refine MH 3 ?_ ?_ ?_
 rotate_left
 ·intro w9
  first
   | (go_simp;done)
   | (go_simp;with_reducible rfl)
 refine MH 6 ?_ ?_ ?_
 rotate_left
 ·intro w9
  first
   | (go_simp;done)
   | (go_simp;with_reducible rfl)
 refine wpAnyIn_ready (rs:=[4,7,8]) (by kernel_rfl) (by simp) ?_
 refine AllReadyIn.cons rfl (fun K hK=>?_) ?_
 ·go_simp
  refine hK _ _ ?_
  clear hK K
  refine wpAnyIn_ready (rs:=[7,8]) (by kernel_rfl) (by simp) ?_
  refine AllReadyIn.cons rfl (fun K hK=>?_) ?_
  ·go_simp
   refine hK _ _ ?_
   clear hK K
   refine wpAnyIn_ready (rs:=[8]) (by kernel_rfl) (by simp) ?_
   refine AllReadyIn.cons rfl (fun K hK=>?_) ?_
   ·go_simp
    refine hK _ _ ?_
    clear hK K
    refine wpAnyIn_ready (rs:=[9]) (by kernel_rfl) (by simp) ?_
    refine AllReadyIn.cons rfl (fun K hK=>?_) AllReadyIn.nil
    go_simp
    refine⟨trivial,fun h=>(by cases h),?_⟩
    refine(callsIn_wide.2 (hbc.out _)).mono ?_
    rintro e w5 ⟨rfl,hb5⟩
    have hb6:Below W3.heap.size W3 w5:=((Below.refl _ W3).drew).trans hb5
    clear hb5
    have hbk5:=(hb6.block (w.heap.size+1) (L8 (w:=W3) HBK.out)).trans HBK.out
    have fi5:=aj hbk5 i
    have fk5:=aj hbk5 k
    have ci5:=aH (k:=i) hbk5 (by omega)
    have ck5:=aH (k:=k) hbk5 (by omega)
    have ck6:=aH (k:=k) (bJ hbk5 i yi) (by simp;omega)
    have fk6:=aj (bJ hbk5 i yi) k
    have hb7:=MI hb6
    clear hbk5 hb6
    go_simp
    refine hK _ _ ?_
    clear hK K
    refine MH 10 ?_ ?_ ?_
    rotate_left
    ·intro w9
     first
      | (go_simp;done)
      | (go_simp;with_reducible rfl)
    refine MH 11 ?_ ?_ ?_
    rotate_left
    ·intro w9
     first
      | (go_simp;done)
      | (go_simp;with_reducible rfl)
    refine MH 12 ?_ ?_ ?_
    rotate_left
    ·intro w9
     first
      | (go_simp;done)
      | (go_simp;with_reducible rfl)
    refine MH 13 ?_ ?_ ?_
    rotate_left
    ·intro w9
     first
      | (go_simp;done)
      | (go_simp;with_reducible rfl)
    refine wpAnyIn_ready (rs:=[14]) (by kernel_rfl) (by simp) ?_
    refine AllReadyIn.cons rfl (fun K hK=>?_) AllReadyIn.nil
    go_simp
    refine hK _ _ ?_
    clear hK K
    refine MH 15 ?_ ?_ ?_
    rotate_left
    ·intro w9
     first
      | (go_simp;done)
      | (go_simp;with_reducible rfl)
    refine wpAnyIn_ready (rs:=[16]) (by kernel_rfl) (by simp) ?_
    refine AllReadyIn.cons rfl (fun K hK=>?_) AllReadyIn.nil
    go_simp
    refine hK _ _ ?_
    clear hK K
    refine wpAnyIn_done (by kernel_rfl) ?_ _
    obtain⟨k1,k2,k3⟩:=HST.out yi yk w5 hb7.out
    exact HQ.out _ k1 k2 k3
   exact AllReadyIn.nil
  refine AllReadyIn.cons rfl (fun K hK=>?_) ?_
  ·go_simp
   refine hK _ _ ?_
   clear hK K
   refine wpAnyIn_ready (rs:=[7]) (by kernel_rfl) (by simp) ?_
   refine AllReadyIn.cons rfl (fun K hK=>?_) ?_
   ·go_simp
    refine hK _ _ ?_
    clear hK K
    refine wpAnyIn_ready (rs:=[9]) (by kernel_rfl) (by simp) ?_
    refine AllReadyIn.cons rfl (fun K hK=>?_) AllReadyIn.nil
    go_simp
    refine⟨trivial,fun h=>(by cases h),?_⟩
    refine(callsIn_wide.2 (hbc.out _)).mono ?_
    rintro e w5 ⟨rfl,hb5⟩
    have hb6:Below W3.heap.size W3 w5:=((Below.refl _ W3).drew).trans hb5
    clear hb5
    have hbk5:=(hb6.block (w.heap.size+1) (L8 (w:=W3) HBK.out)).trans HBK.out
    have fi5:=aj hbk5 i
    have fk5:=aj hbk5 k
    have ci5:=aH (k:=i) hbk5 (by omega)
    have ck5:=aH (k:=k) hbk5 (by omega)
    have ck6:=aH (k:=k) (bJ hbk5 i yi) (by simp;omega)
    have fk6:=aj (bJ hbk5 i yi) k
    have hb7:=MI hb6
    clear hbk5 hb6
    go_simp
    refine hK _ _ ?_
    clear hK K
    refine MH 10 ?_ ?_ ?_
    rotate_left
    ·intro w9
     first
      | (go_simp;done)
      | (go_simp;with_reducible rfl)
    refine MH 11 ?_ ?_ ?_
    rotate_left
    ·intro w9
     first
      | (go_simp;done)
      | (go_simp;with_reducible rfl)
    refine MH 12 ?_ ?_ ?_
    rotate_left
    ·intro w9
     first
      | (go_simp;done)
      | (go_simp;with_reducible rfl)
    refine MH 13 ?_ ?_ ?_
    rotate_left
    ·intro w9
     first
      | (go_simp;done)
      | (go_simp;with_reducible rfl)
    refine wpAnyIn_ready (rs:=[14]) (by kernel_rfl) (by simp) ?_
    refine AllReadyIn.cons rfl (fun K hK=>?_) AllReadyIn.nil
    go_simp
    refine hK _ _ ?_
    clear hK K
    refine MH 15 ?_ ?_ ?_
    rotate_left
    ·intro w9
     first
      | (go_simp;done)
      | (go_simp;with_reducible rfl)
    refine wpAnyIn_ready (rs:=[16]) (by kernel_rfl) (by simp) ?_
    refine AllReadyIn.cons rfl (fun K hK=>?_) AllReadyIn.nil
    go_simp
    refine hK _ _ ?_
    clear hK K
    refine wpAnyIn_done (by kernel_rfl) ?_ _
    obtain⟨k1,k2,k3⟩:=HST.out yi yk w5 hb7.out
    exact HQ.out _ k1 k2 k3
   exact AllReadyIn.nil
  exact AllReadyIn.nil
 refine AllReadyIn.cons rfl (fun K hK=>?_) ?_
 ·go_simp
  refine hK _ _ ?_
  clear hK K
  refine wpAnyIn_ready (rs:=[4,8]) (by kernel_rfl) (by simp) ?_
  refine AllReadyIn.cons rfl (fun K hK=>?_) ?_
  ·go_simp
   refine hK _ _ ?_
   clear hK K
   refine wpAnyIn_ready (rs:=[8]) (by kernel_rfl) (by simp) ?_
   refine AllReadyIn.cons rfl (fun K hK=>?_) ?_
   ·go_simp
    refine hK _ _ ?_
    clear hK K
    refine wpAnyIn_ready (rs:=[9]) (by kernel_rfl) (by simp) ?_
    refine AllReadyIn.cons rfl (fun K hK=>?_) AllReadyIn.nil
    go_simp
    refine⟨trivial,fun h=>(by cases h),?_⟩
    refine(callsIn_wide.2 (hbc.out _)).mono ?_
    rintro e w5 ⟨rfl,hb5⟩
    have hb6:Below W3.heap.size W3 w5:=((Below.refl _ W3).drew).trans hb5
    clear hb5
    have hbk5:=(hb6.block (w.heap.size+1) (L8 (w:=W3) HBK.out)).trans HBK.out
    have fi5:=aj hbk5 i
    have fk5:=aj hbk5 k
    have ci5:=aH (k:=i) hbk5 (by omega)
    have ck5:=aH (k:=k) hbk5 (by omega)
    have ck6:=aH (k:=k) (bJ hbk5 i yi) (by simp;omega)
    have fk6:=aj (bJ hbk5 i yi) k
    have hb7:=MI hb6
    clear hbk5 hb6
    go_simp
    refine hK _ _ ?_
    clear hK K
    refine MH 10 ?_ ?_ ?_
    rotate_left
    ·intro w9
     first
      | (go_simp;done)
      | (go_simp;with_reducible rfl)
    refine MH 11 ?_ ?_ ?_
    rotate_left
    ·intro w9
     first
      | (go_simp;done)
      | (go_simp;with_reducible rfl)
    refine MH 12 ?_ ?_ ?_
    rotate_left
    ·intro w9
     first
      | (go_simp;done)
      | (go_simp;with_reducible rfl)
    refine MH 13 ?_ ?_ ?_
    rotate_left
    ·intro w9
     first
      | (go_simp;done)
      | (go_simp;with_reducible rfl)
    refine wpAnyIn_ready (rs:=[14]) (by kernel_rfl) (by simp) ?_
    refine AllReadyIn.cons rfl (fun K hK=>?_) AllReadyIn.nil
    go_simp
    refine hK _ _ ?_
    clear hK K
    refine MH 15 ?_ ?_ ?_
    rotate_left
    ·intro w9
     first
      | (go_simp;done)
      | (go_simp;with_reducible rfl)
    refine wpAnyIn_ready (rs:=[16]) (by kernel_rfl) (by simp) ?_
    refine AllReadyIn.cons rfl (fun K hK=>?_) AllReadyIn.nil
    go_simp
    refine hK _ _ ?_
    clear hK K
    refine wpAnyIn_done (by kernel_rfl) ?_ _
    obtain⟨k1,k2,k3⟩:=HST.out yi yk w5 hb7.out
    exact HQ.out _ k1 k2 k3
   exact AllReadyIn.nil
  refine AllReadyIn.cons rfl (fun K hK=>?_) ?_
  ·go_simp
   refine hK _ _ ?_
   clear hK K
   refine wpAnyIn_ready (rs:=[4]) (by kernel_rfl) (by simp) ?_
   refine AllReadyIn.cons rfl (fun K hK=>?_) ?_
   ·go_simp
    refine hK _ _ ?_
    clear hK K
    refine wpAnyIn_ready (rs:=[9]) (by kernel_rfl) (by simp) ?_
    refine AllReadyIn.cons rfl (fun K hK=>?_) AllReadyIn.nil
    go_simp
    refine⟨trivial,fun h=>(by cases h),?_⟩
    refine(callsIn_wide.2 (hbc.out _)).mono ?_
    rintro e w5 ⟨rfl,hb5⟩
    have hb6:Below W3.heap.size W3 w5:=((Below.refl _ W3).drew).trans hb5
    clear hb5
    have hbk5:=(hb6.block (w.heap.size+1) (L8 (w:=W3) HBK.out)).trans HBK.out
    have fi5:=aj hbk5 i
    have fk5:=aj hbk5 k
    have ci5:=aH (k:=i) hbk5 (by omega)
    have ck5:=aH (k:=k) hbk5 (by omega)
    have ck6:=aH (k:=k) (bJ hbk5 i yi) (by simp;omega)
    have fk6:=aj (bJ hbk5 i yi) k
    have hb7:=MI hb6
    clear hbk5 hb6
    go_simp
    refine hK _ _ ?_
    clear hK K
    refine MH 10 ?_ ?_ ?_
    rotate_left
    ·intro w9
     first
      | (go_simp;done)
      | (go_simp;with_reducible rfl)
    refine MH 11 ?_ ?_ ?_
    rotate_left
    ·intro w9
     first
      | (go_simp;done)
      | (go_simp;with_reducible rfl)
    refine MH 12 ?_ ?_ ?_
    rotate_left
    ·intro w9
     first
      | (go_simp;done)
      | (go_simp;with_reducible rfl)
    refine MH 13 ?_ ?_ ?_
    rotate_left
    ·intro w9
     first
      | (go_simp;done)
      | (go_simp;with_reducible rfl)
    refine wpAnyIn_ready (rs:=[14]) (by kernel_rfl) (by simp) ?_
    refine AllReadyIn.cons rfl (fun K hK=>?_) AllReadyIn.nil
    go_simp
    refine hK _ _ ?_
    clear hK K
    refine MH 15 ?_ ?_ ?_
    rotate_left
    ·intro w9
     first
      | (go_simp;done)
      | (go_simp;with_reducible rfl)
    refine wpAnyIn_ready (rs:=[16]) (by kernel_rfl) (by simp) ?_
    refine AllReadyIn.cons rfl (fun K hK=>?_) AllReadyIn.nil
    go_simp
    refine hK _ _ ?_
    clear hK K
    refine wpAnyIn_done (by kernel_rfl) ?_ _
    obtain⟨k1,k2,k3⟩:=HST.out yi yk w5 hb7.out
    exact HQ.out _ k1 k2 k3
   exact AllReadyIn.nil
  exact AllReadyIn.nil
 refine AllReadyIn.cons rfl (fun K hK=>?_) ?_
 ·go_simp
  refine hK _ _ ?_
  clear hK K
  refine wpAnyIn_ready (rs:=[4,7]) (by kernel_rfl) (by simp) ?_
  refine AllReadyIn.cons rfl (fun K hK=>?_) ?_
  ·go_simp
   refine hK _ _ ?_
   clear hK K
   refine wpAnyIn_ready (rs:=[7]) (by kernel_rfl) (by simp) ?_
   refine AllReadyIn.cons rfl (fun K hK=>?_) ?_
   ·go_simp
    refine hK _ _ ?_
    clear hK K
    refine wpAnyIn_ready (rs:=[9]) (by kernel_rfl) (by simp) ?_
    refine AllReadyIn.cons rfl (fun K hK=>?_) AllReadyIn.nil
    go_simp
    refine⟨trivial,fun h=>(by cases h),?_⟩
    refine(callsIn_wide.2 (hbc.out _)).mono ?_
    rintro e w5 ⟨rfl,hb5⟩
    have hb6:Below W3.heap.size W3 w5:=((Below.refl _ W3).drew).trans hb5
    clear hb5
    have hbk5:=(hb6.block (w.heap.size+1) (L8 (w:=W3) HBK.out)).trans HBK.out
    have fi5:=aj hbk5 i
    have fk5:=aj hbk5 k
    have ci5:=aH (k:=i) hbk5 (by omega)
    have ck5:=aH (k:=k) hbk5 (by omega)
    have ck6:=aH (k:=k) (bJ hbk5 i yi) (by simp;omega)
    have fk6:=aj (bJ hbk5 i yi) k
    have hb7:=MI hb6
    clear hbk5 hb6
    go_simp
    refine hK _ _ ?_
    clear hK K
    refine MH 10 ?_ ?_ ?_
    rotate_left
    ·intro w9
     first
      | (go_simp;done)
      | (go_simp;with_reducible rfl)
    refine MH 11 ?_ ?_ ?_
    rotate_left
    ·intro w9
     first
      | (go_simp;done)
      | (go_simp;with_reducible rfl)
    refine MH 12 ?_ ?_ ?_
    rotate_left
    ·intro w9
     first
      | (go_simp;done)
      | (go_simp;with_reducible rfl)
    refine MH 13 ?_ ?_ ?_
    rotate_left
    ·intro w9
     first
      | (go_simp;done)
      | (go_simp;with_reducible rfl)
    refine wpAnyIn_ready (rs:=[14]) (by kernel_rfl) (by simp) ?_
    refine AllReadyIn.cons rfl (fun K hK=>?_) AllReadyIn.nil
    go_simp
    refine hK _ _ ?_
    clear hK K
    refine MH 15 ?_ ?_ ?_
    rotate_left
    ·intro w9
     first
      | (go_simp;done)
      | (go_simp;with_reducible rfl)
    refine wpAnyIn_ready (rs:=[16]) (by kernel_rfl) (by simp) ?_
    refine AllReadyIn.cons rfl (fun K hK=>?_) AllReadyIn.nil
    go_simp
    refine hK _ _ ?_
    clear hK K
    refine wpAnyIn_done (by kernel_rfl) ?_ _
    obtain⟨k1,k2,k3⟩:=HST.out yi yk w5 hb7.out
    exact HQ.out _ k1 k2 k3
   exact AllReadyIn.nil
  refine AllReadyIn.cons rfl (fun K hK=>?_) ?_
  ·go_simp
   refine hK _ _ ?_
   clear hK K
   refine wpAnyIn_ready (rs:=[4]) (by kernel_rfl) (by simp) ?_
   refine AllReadyIn.cons rfl (fun K hK=>?_) ?_
   ·go_simp
    refine hK _ _ ?_
    clear hK K
    refine wpAnyIn_ready (rs:=[9]) (by kernel_rfl) (by simp) ?_
    refine AllReadyIn.cons rfl (fun K hK=>?_) AllReadyIn.nil
    go_simp
    refine⟨trivial,fun h=>(by cases h),?_⟩
    refine(callsIn_wide.2 (hbc.out _)).mono ?_
    rintro e w5 ⟨rfl,hb5⟩
    have hb6:Below W3.heap.size W3 w5:=((Below.refl _ W3).drew).trans hb5
    clear hb5
    have hbk5:=(hb6.block (w.heap.size+1) (L8 (w:=W3) HBK.out)).trans HBK.out
    have fi5:=aj hbk5 i
    have fk5:=aj hbk5 k
    have ci5:=aH (k:=i) hbk5 (by omega)
    have ck5:=aH (k:=k) hbk5 (by omega)
    have ck6:=aH (k:=k) (bJ hbk5 i yi) (by simp;omega)
    have fk6:=aj (bJ hbk5 i yi) k
    have hb7:=MI hb6
    clear hbk5 hb6
    go_simp
    refine hK _ _ ?_
    clear hK K
    refine MH 10 ?_ ?_ ?_
    rotate_left
    ·intro w9
     first
      | (go_simp;done)
      | (go_simp;with_reducible rfl)
    refine MH 11 ?_ ?_ ?_
    rotate_left
    ·intro w9
     first
      | (go_simp;done)
      | (go_simp;with_reducible rfl)
    refine MH 12 ?_ ?_ ?_
    rotate_left
    ·intro w9
     first
      | (go_simp;done)
      | (go_simp;with_reducible rfl)
    refine MH 13 ?_ ?_ ?_
    rotate_left
    ·intro w9
     first
      | (go_simp;done)
      | (go_simp;with_reducible rfl)
    refine wpAnyIn_ready (rs:=[14]) (by kernel_rfl) (by simp) ?_
    refine AllReadyIn.cons rfl (fun K hK=>?_) AllReadyIn.nil
    go_simp
    refine hK _ _ ?_
    clear hK K
    refine MH 15 ?_ ?_ ?_
    rotate_left
    ·intro w9
     first
      | (go_simp;done)
      | (go_simp;with_reducible rfl)
    refine wpAnyIn_ready (rs:=[16]) (by kernel_rfl) (by simp) ?_
    refine AllReadyIn.cons rfl (fun K hK=>?_) AllReadyIn.nil
    go_simp
    refine hK _ _ ?_
    clear hK K
    refine wpAnyIn_done (by kernel_rfl) ?_ _
    obtain⟨k1,k2,k3⟩:=HST.out yi yk w5 hb7.out
    exact HQ.out _ k1 k2 k3
   exact AllReadyIn.nil
  exact AllReadyIn.nil
 exact AllReadyIn.nil
theorem J7(r:Nat)(hr:r<4)(l Rc Rb Nb Bx i n:Nat)(hi16:i<16)(hbit:i/2^r%2=0)(w W3:World)(A:List Int)(hA:A.length=16)(hi:Iv w W3 A Rc r)(hc:W3.heap[Bx]? =some (.cells #[.int .i64 (tpZ r i),.int .i64 (tuZ r i)] 171 (0,0)))
  (hRb:w.heap.size+1≠Rb) (hNb:w.heap.size+1≠Nb) (x0 x1 x2 x4 x8 x9 x10 x11 x12 x13 x14 x15 x16 x17 x18 x19 x20 x21 x22 x23 x24 x25 x26 x27 x28 x29 x30 x31 x32 x33 x34 x35 x36 x37:Value) (P:World→Prop)
  (hQ: ∀W',KeepsOthers W3 W'→Kq Rb Nb W3 W'→Iv w W' (jo r A ⟨i,hi16,hbit⟩) Rc r→P W'):
  Code.wpIn (Fence.wide.inRound l) n Tryz.prog fwdBody (zL P) ⟨#[x0,x1,x2,.pointer (some ⟨w.heap.size+1,0,none⟩),x4,.pointer (some ⟨Rc,0,none⟩),.int .i64 (i:Int),.pointer (some ⟨Bx,0,none⟩),x8,x9,x10,x11,x12,x13,x14,x15,x16,x17,x18,x19,x20,x21,x22,x23,x24,x25,x26,x27,x28,x29,x30,x31,x32,x33,x34,x35,x36,x37],[]⟩ W3:=by
 obtain⟨hor,hk16⟩:=or_bit r hr i hi16 hbit
 have hc3:W3.cell? ⟨Rc,0,none⟩=some (.int .i64 (r:Int)):=(LZ hi.rnd).trans rfl
 have hsn:jo r A ⟨i,hi16,hbit⟩=(A.set i (oJ (tpZ r i) (tuZ r i) (A.getD i 0) (A.getD (i+2^r) 0)).1).set (i+2^r) (oJ (tpZ r i) (tuZ r i) (A.getD i 0) (A.getD (i+2^r) 0)).2:=rfl
 rw[hsn] at hQ
 clear hsn
 have hii:(i:Int)<16:=by omega
 have hki:((i+2^r:Nat):Int)<16:=by omega
 have hm:min r 64=r:=by omega
 obtain⟨a1,a2⟩:=uk r (by omega)
 have hw:IntKind.i64.wrap (2^r)=2^r:=IntWalk.i64_in _ (by omega)
 have hbk:=hi.blk
 have ci:=aH (k:=i) hbk (by omega)
 have ck:=aH (k:=i+2^r) hbk (by omega)
 obtain⟨t0,t1⟩:=bD hc
 have hlr: ∀(ai ak tp tu:Int) w,Calls Tryz.prog 196 #[.int .i64 ai,.int .i64 ak,.agg #[.int .i64 tp,.int .i64 tu]] w (Bc (oJ tp tu ai ak) w):=fun ai ak tp tu w=>Io tp tu ai ak w
 have HST:=MI (fun(y0 y1:Int)(w5:World)(hb5:Below W3.heap.size W3 w5)=>Ep w W3 w5 A Rc r i (i+2^r) y0 y1 hi hb5 Rb Nb hRb hNb)
 generalize tpZ r i=tp at*
 generalize tuZ r i=tu at*
 generalize hkk:i+2^r=k at*
 generalize A.getD i 0=ai at*
 generalize A.getD k 0=ak at*
 have HI:=MI hi
 have HBK:=MI hbk
 have hbc:=MI (fun w=>hlr ai ak tp tu w)
 unfold Bc at hbc
 generalize oJ tp tu ai ak=Y at*
 obtain⟨yi,yk⟩:=Y
 simp only at HST hbc hQ
 have HQ:=MI hQ
 have hfo:Tryz.prog.follows .mixedOrders=true:=by kernel_rfl
 have HLT: ∀j,W3.cell? ⟨j,0,none⟩=some (.int .i64 (r:Int))→j<W3.heap.size:=fun j h=>by
  unfold World.cell? at h
  cases h':W3.heap[j]? with
  | none=>rw[h'] at h;cases h
  | some o=>exact L8 h'
 have HLT:=MI HLT
 clear hkk hi hbk hc hQ hlr
 conv=>arg 4;whnf
 gi_wp2
 refine pI l hfo (by kernel_rfl) ?_
 refine MH 0 ?_ ?_ ?_
 rotate_left
 ·intro w9
  first
   | (go_simp;done)
   | (go_simp;with_reducible rfl)
 refine MH 1 ?_ ?_ ?_
 rotate_left
 ·intro w9
  first
   | (go_simp;done)
   | (go_simp;with_reducible rfl)
 refine MH 2 ?_ ?_ ?_
 rotate_left
 ·intro w9
  first
   | (go_simp;done)
   | (go_simp;with_reducible rfl)
 refine MH 5 ?_ ?_ ?_
 rotate_left
 ·intro w9
  first
   | (go_simp;done)
   | (go_simp;with_reducible rfl)
 refine MH 3 ?_ ?_ ?_
 rotate_left
 ·intro w9
  first
   | (go_simp;done)
   | (go_simp;with_reducible rfl)
 refine MH 6 ?_ ?_ ?_
 rotate_left
 ·intro w9
  first
   | (go_simp;done)
   | (go_simp;with_reducible rfl)
 refine wpAnyIn_ready (rs:=[4,7,8]) (by kernel_rfl) (by simp) ?_
 refine AllReadyIn.cons rfl (fun K hK=>?_) ?_
 ·go_simp
  refine hK _ _ ?_
  clear hK K
  refine wpAnyIn_ready (rs:=[7,8]) (by kernel_rfl) (by simp) ?_
  refine AllReadyIn.cons rfl (fun K hK=>?_) ?_
  ·go_simp
   refine hK _ _ ?_
   clear hK K
   refine wpAnyIn_ready (rs:=[8]) (by kernel_rfl) (by simp) ?_
   refine AllReadyIn.cons rfl (fun K hK=>?_) ?_
   ·go_simp
    refine hK _ _ ?_
    clear hK K
    refine wpAnyIn_ready (rs:=[9]) (by kernel_rfl) (by simp) ?_
    refine AllReadyIn.cons rfl (fun K hK=>?_) AllReadyIn.nil
    go_simp
    refine⟨trivial,fun h=>(by cases h),?_⟩
    refine(callsIn_wide.2 (hbc.out _)).mono ?_
    rintro e w5 ⟨rfl,hb5⟩
    have hb6:Below W3.heap.size W3 w5:=((Below.refl _ W3).drew).trans hb5
    clear hb5
    have hbk5:=(hb6.block (w.heap.size+1) (L8 (w:=W3) HBK.out)).trans HBK.out
    have fi5:=aj hbk5 i
    have fk5:=aj hbk5 k
    have ci5:=aH (k:=i) hbk5 (by omega)
    have ck5:=aH (k:=k) hbk5 (by omega)
    have ck6:=aH (k:=k) (bJ hbk5 i yi) (by simp;omega)
    have fk6:=aj (bJ hbk5 i yi) k
    have hb7:=MI hb6
    clear hbk5 hb6
    go_simp
    refine hK _ _ ?_
    clear hK K
    refine MH 10 ?_ ?_ ?_
    rotate_left
    ·intro w9
     first
      | (go_simp;done)
      | (go_simp;with_reducible rfl)
    refine MH 11 ?_ ?_ ?_
    rotate_left
    ·intro w9
     first
      | (go_simp;done)
      | (go_simp;with_reducible rfl)
    refine MH 12 ?_ ?_ ?_
    rotate_left
    ·intro w9
     first
      | (go_simp;done)
      | (go_simp;with_reducible rfl)
    refine MH 13 ?_ ?_ ?_
    rotate_left
    ·intro w9
     first
      | (go_simp;done)
      | (go_simp;with_reducible rfl)
    refine wpAnyIn_ready (rs:=[14]) (by kernel_rfl) (by simp) ?_
    refine AllReadyIn.cons rfl (fun K hK=>?_) AllReadyIn.nil
    go_simp
    refine hK _ _ ?_
    clear hK K
    refine MH 15 ?_ ?_ ?_
    rotate_left
    ·intro w9
     first
      | (go_simp;done)
      | (go_simp;with_reducible rfl)
    refine wpAnyIn_ready (rs:=[16]) (by kernel_rfl) (by simp) ?_
    refine AllReadyIn.cons rfl (fun K hK=>?_) AllReadyIn.nil
    go_simp
    refine hK _ _ ?_
    clear hK K
    refine wpAnyIn_done (by kernel_rfl) ?_ _
    obtain⟨k1,k2,k3⟩:=HST.out yi yk w5 hb7.out
    exact HQ.out _ k1 k2 k3
   exact AllReadyIn.nil
  refine AllReadyIn.cons rfl (fun K hK=>?_) ?_
  ·go_simp
   refine hK _ _ ?_
   clear hK K
   refine wpAnyIn_ready (rs:=[7]) (by kernel_rfl) (by simp) ?_
   refine AllReadyIn.cons rfl (fun K hK=>?_) ?_
   ·go_simp
    refine hK _ _ ?_
    clear hK K
    refine wpAnyIn_ready (rs:=[9]) (by kernel_rfl) (by simp) ?_
    refine AllReadyIn.cons rfl (fun K hK=>?_) AllReadyIn.nil
    go_simp
    refine⟨trivial,fun h=>(by cases h),?_⟩
    refine(callsIn_wide.2 (hbc.out _)).mono ?_
    rintro e w5 ⟨rfl,hb5⟩
    have hb6:Below W3.heap.size W3 w5:=((Below.refl _ W3).drew).trans hb5
    clear hb5
    have hbk5:=(hb6.block (w.heap.size+1) (L8 (w:=W3) HBK.out)).trans HBK.out
    have fi5:=aj hbk5 i
    have fk5:=aj hbk5 k
    have ci5:=aH (k:=i) hbk5 (by omega)
    have ck5:=aH (k:=k) hbk5 (by omega)
    have ck6:=aH (k:=k) (bJ hbk5 i yi) (by simp;omega)
    have fk6:=aj (bJ hbk5 i yi) k
    have hb7:=MI hb6
    clear hbk5 hb6
    go_simp
    refine hK _ _ ?_
    clear hK K
    refine MH 10 ?_ ?_ ?_
    rotate_left
    ·intro w9
     first
      | (go_simp;done)
      | (go_simp;with_reducible rfl)
    refine MH 11 ?_ ?_ ?_
    rotate_left
    ·intro w9
     first
      | (go_simp;done)
      | (go_simp;with_reducible rfl)
    refine MH 12 ?_ ?_ ?_
    rotate_left
    ·intro w9
     first
      | (go_simp;done)
      | (go_simp;with_reducible rfl)
    refine MH 13 ?_ ?_ ?_
    rotate_left
    ·intro w9
     first
      | (go_simp;done)
      | (go_simp;with_reducible rfl)
    refine wpAnyIn_ready (rs:=[14]) (by kernel_rfl) (by simp) ?_
    refine AllReadyIn.cons rfl (fun K hK=>?_) AllReadyIn.nil
    go_simp
    refine hK _ _ ?_
    clear hK K
    refine MH 15 ?_ ?_ ?_
    rotate_left
    ·intro w9
     first
      | (go_simp;done)
      | (go_simp;with_reducible rfl)
    refine wpAnyIn_ready (rs:=[16]) (by kernel_rfl) (by simp) ?_
    refine AllReadyIn.cons rfl (fun K hK=>?_) AllReadyIn.nil
    go_simp
    refine hK _ _ ?_
    clear hK K
    refine wpAnyIn_done (by kernel_rfl) ?_ _
    obtain⟨k1,k2,k3⟩:=HST.out yi yk w5 hb7.out
    exact HQ.out _ k1 k2 k3
   exact AllReadyIn.nil
  exact AllReadyIn.nil
 refine AllReadyIn.cons rfl (fun K hK=>?_) ?_
 ·go_simp
  refine hK _ _ ?_
  clear hK K
  refine wpAnyIn_ready (rs:=[4,8]) (by kernel_rfl) (by simp) ?_
  refine AllReadyIn.cons rfl (fun K hK=>?_) ?_
  ·go_simp
   refine hK _ _ ?_
   clear hK K
   refine wpAnyIn_ready (rs:=[8]) (by kernel_rfl) (by simp) ?_
   refine AllReadyIn.cons rfl (fun K hK=>?_) ?_
   ·go_simp
    refine hK _ _ ?_
    clear hK K
    refine wpAnyIn_ready (rs:=[9]) (by kernel_rfl) (by simp) ?_
    refine AllReadyIn.cons rfl (fun K hK=>?_) AllReadyIn.nil
    go_simp
    refine⟨trivial,fun h=>(by cases h),?_⟩
    refine(callsIn_wide.2 (hbc.out _)).mono ?_
    rintro e w5 ⟨rfl,hb5⟩
    have hb6:Below W3.heap.size W3 w5:=((Below.refl _ W3).drew).trans hb5
    clear hb5
    have hbk5:=(hb6.block (w.heap.size+1) (L8 (w:=W3) HBK.out)).trans HBK.out
    have fi5:=aj hbk5 i
    have fk5:=aj hbk5 k
    have ci5:=aH (k:=i) hbk5 (by omega)
    have ck5:=aH (k:=k) hbk5 (by omega)
    have ck6:=aH (k:=k) (bJ hbk5 i yi) (by simp;omega)
    have fk6:=aj (bJ hbk5 i yi) k
    have hb7:=MI hb6
    clear hbk5 hb6
    go_simp
    refine hK _ _ ?_
    clear hK K
    refine MH 10 ?_ ?_ ?_
    rotate_left
    ·intro w9
     first
      | (go_simp;done)
      | (go_simp;with_reducible rfl)
    refine MH 11 ?_ ?_ ?_
    rotate_left
    ·intro w9
     first
      | (go_simp;done)
      | (go_simp;with_reducible rfl)
    refine MH 12 ?_ ?_ ?_
    rotate_left
    ·intro w9
     first
      | (go_simp;done)
      | (go_simp;with_reducible rfl)
    refine MH 13 ?_ ?_ ?_
    rotate_left
    ·intro w9
     first
      | (go_simp;done)
      | (go_simp;with_reducible rfl)
    refine wpAnyIn_ready (rs:=[14]) (by kernel_rfl) (by simp) ?_
    refine AllReadyIn.cons rfl (fun K hK=>?_) AllReadyIn.nil
    go_simp
    refine hK _ _ ?_
    clear hK K
    refine MH 15 ?_ ?_ ?_
    rotate_left
    ·intro w9
     first
      | (go_simp;done)
      | (go_simp;with_reducible rfl)
    refine wpAnyIn_ready (rs:=[16]) (by kernel_rfl) (by simp) ?_
    refine AllReadyIn.cons rfl (fun K hK=>?_) AllReadyIn.nil
    go_simp
    refine hK _ _ ?_
    clear hK K
    refine wpAnyIn_done (by kernel_rfl) ?_ _
    obtain⟨k1,k2,k3⟩:=HST.out yi yk w5 hb7.out
    exact HQ.out _ k1 k2 k3
   exact AllReadyIn.nil
  refine AllReadyIn.cons rfl (fun K hK=>?_) ?_
  ·go_simp
   refine hK _ _ ?_
   clear hK K
   refine wpAnyIn_ready (rs:=[4]) (by kernel_rfl) (by simp) ?_
   refine AllReadyIn.cons rfl (fun K hK=>?_) ?_
   ·go_simp
    refine hK _ _ ?_
    clear hK K
    refine wpAnyIn_ready (rs:=[9]) (by kernel_rfl) (by simp) ?_
    refine AllReadyIn.cons rfl (fun K hK=>?_) AllReadyIn.nil
    go_simp
    refine⟨trivial,fun h=>(by cases h),?_⟩
    refine(callsIn_wide.2 (hbc.out _)).mono ?_
    rintro e w5 ⟨rfl,hb5⟩
    have hb6:Below W3.heap.size W3 w5:=((Below.refl _ W3).drew).trans hb5
    clear hb5
    have hbk5:=(hb6.block (w.heap.size+1) (L8 (w:=W3) HBK.out)).trans HBK.out
    have fi5:=aj hbk5 i
    have fk5:=aj hbk5 k
    have ci5:=aH (k:=i) hbk5 (by omega)
    have ck5:=aH (k:=k) hbk5 (by omega)
    have ck6:=aH (k:=k) (bJ hbk5 i yi) (by simp;omega)
    have fk6:=aj (bJ hbk5 i yi) k
    have hb7:=MI hb6
    clear hbk5 hb6
    go_simp
    refine hK _ _ ?_
    clear hK K
    refine MH 10 ?_ ?_ ?_
    rotate_left
    ·intro w9
     first
      | (go_simp;done)
      | (go_simp;with_reducible rfl)
    refine MH 11 ?_ ?_ ?_
    rotate_left
    ·intro w9
     first
      | (go_simp;done)
      | (go_simp;with_reducible rfl)
    refine MH 12 ?_ ?_ ?_
    rotate_left
    ·intro w9
     first
      | (go_simp;done)
      | (go_simp;with_reducible rfl)
    refine MH 13 ?_ ?_ ?_
    rotate_left
    ·intro w9
     first
      | (go_simp;done)
      | (go_simp;with_reducible rfl)
    refine wpAnyIn_ready (rs:=[14]) (by kernel_rfl) (by simp) ?_
    refine AllReadyIn.cons rfl (fun K hK=>?_) AllReadyIn.nil
    go_simp
    refine hK _ _ ?_
    clear hK K
    refine MH 15 ?_ ?_ ?_
    rotate_left
    ·intro w9
     first
      | (go_simp;done)
      | (go_simp;with_reducible rfl)
    refine wpAnyIn_ready (rs:=[16]) (by kernel_rfl) (by simp) ?_
    refine AllReadyIn.cons rfl (fun K hK=>?_) AllReadyIn.nil
    go_simp
    refine hK _ _ ?_
    clear hK K
    refine wpAnyIn_done (by kernel_rfl) ?_ _
    obtain⟨k1,k2,k3⟩:=HST.out yi yk w5 hb7.out
    exact HQ.out _ k1 k2 k3
   exact AllReadyIn.nil
  exact AllReadyIn.nil
 refine AllReadyIn.cons rfl (fun K hK=>?_) ?_
 ·go_simp
  refine hK _ _ ?_
  clear hK K
  refine wpAnyIn_ready (rs:=[4,7]) (by kernel_rfl) (by simp) ?_
  refine AllReadyIn.cons rfl (fun K hK=>?_) ?_
  ·go_simp
   refine hK _ _ ?_
   clear hK K
   refine wpAnyIn_ready (rs:=[7]) (by kernel_rfl) (by simp) ?_
   refine AllReadyIn.cons rfl (fun K hK=>?_) ?_
   ·go_simp
    refine hK _ _ ?_
    clear hK K
    refine wpAnyIn_ready (rs:=[9]) (by kernel_rfl) (by simp) ?_
    refine AllReadyIn.cons rfl (fun K hK=>?_) AllReadyIn.nil
    go_simp
    refine⟨trivial,fun h=>(by cases h),?_⟩
    refine(callsIn_wide.2 (hbc.out _)).mono ?_
    rintro e w5 ⟨rfl,hb5⟩
    have hb6:Below W3.heap.size W3 w5:=((Below.refl _ W3).drew).trans hb5
    clear hb5
    have hbk5:=(hb6.block (w.heap.size+1) (L8 (w:=W3) HBK.out)).trans HBK.out
    have fi5:=aj hbk5 i
    have fk5:=aj hbk5 k
    have ci5:=aH (k:=i) hbk5 (by omega)
    have ck5:=aH (k:=k) hbk5 (by omega)
    have ck6:=aH (k:=k) (bJ hbk5 i yi) (by simp;omega)
    have fk6:=aj (bJ hbk5 i yi) k
    have hb7:=MI hb6
    clear hbk5 hb6
    go_simp
    refine hK _ _ ?_
    clear hK K
    refine MH 10 ?_ ?_ ?_
    rotate_left
    ·intro w9
     first
      | (go_simp;done)
      | (go_simp;with_reducible rfl)
    refine MH 11 ?_ ?_ ?_
    rotate_left
    ·intro w9
     first
      | (go_simp;done)
      | (go_simp;with_reducible rfl)
    refine MH 12 ?_ ?_ ?_
    rotate_left
    ·intro w9
     first
      | (go_simp;done)
      | (go_simp;with_reducible rfl)
    refine MH 13 ?_ ?_ ?_
    rotate_left
    ·intro w9
     first
      | (go_simp;done)
      | (go_simp;with_reducible rfl)
    refine wpAnyIn_ready (rs:=[14]) (by kernel_rfl) (by simp) ?_
    refine AllReadyIn.cons rfl (fun K hK=>?_) AllReadyIn.nil
    go_simp
    refine hK _ _ ?_
    clear hK K
    refine MH 15 ?_ ?_ ?_
    rotate_left
    ·intro w9
     first
      | (go_simp;done)
      | (go_simp;with_reducible rfl)
    refine wpAnyIn_ready (rs:=[16]) (by kernel_rfl) (by simp) ?_
    refine AllReadyIn.cons rfl (fun K hK=>?_) AllReadyIn.nil
    go_simp
    refine hK _ _ ?_
    clear hK K
    refine wpAnyIn_done (by kernel_rfl) ?_ _
    obtain⟨k1,k2,k3⟩:=HST.out yi yk w5 hb7.out
    exact HQ.out _ k1 k2 k3
   exact AllReadyIn.nil
  refine AllReadyIn.cons rfl (fun K hK=>?_) ?_
  ·go_simp
   refine hK _ _ ?_
   clear hK K
   refine wpAnyIn_ready (rs:=[4]) (by kernel_rfl) (by simp) ?_
   refine AllReadyIn.cons rfl (fun K hK=>?_) ?_
   ·go_simp
    refine hK _ _ ?_
    clear hK K
    refine wpAnyIn_ready (rs:=[9]) (by kernel_rfl) (by simp) ?_
    refine AllReadyIn.cons rfl (fun K hK=>?_) AllReadyIn.nil
    go_simp
    refine⟨trivial,fun h=>(by cases h),?_⟩
    refine(callsIn_wide.2 (hbc.out _)).mono ?_
    rintro e w5 ⟨rfl,hb5⟩
    have hb6:Below W3.heap.size W3 w5:=((Below.refl _ W3).drew).trans hb5
    clear hb5
    have hbk5:=(hb6.block (w.heap.size+1) (L8 (w:=W3) HBK.out)).trans HBK.out
    have fi5:=aj hbk5 i
    have fk5:=aj hbk5 k
    have ci5:=aH (k:=i) hbk5 (by omega)
    have ck5:=aH (k:=k) hbk5 (by omega)
    have ck6:=aH (k:=k) (bJ hbk5 i yi) (by simp;omega)
    have fk6:=aj (bJ hbk5 i yi) k
    have hb7:=MI hb6
    clear hbk5 hb6
    go_simp
    refine hK _ _ ?_
    clear hK K
    refine MH 10 ?_ ?_ ?_
    rotate_left
    ·intro w9
     first
      | (go_simp;done)
      | (go_simp;with_reducible rfl)
    refine MH 11 ?_ ?_ ?_
    rotate_left
    ·intro w9
     first
      | (go_simp;done)
      | (go_simp;with_reducible rfl)
    refine MH 12 ?_ ?_ ?_
    rotate_left
    ·intro w9
     first
      | (go_simp;done)
      | (go_simp;with_reducible rfl)
    refine MH 13 ?_ ?_ ?_
    rotate_left
    ·intro w9
     first
      | (go_simp;done)
      | (go_simp;with_reducible rfl)
    refine wpAnyIn_ready (rs:=[14]) (by kernel_rfl) (by simp) ?_
    refine AllReadyIn.cons rfl (fun K hK=>?_) AllReadyIn.nil
    go_simp
    refine hK _ _ ?_
    clear hK K
    refine MH 15 ?_ ?_ ?_
    rotate_left
    ·intro w9
     first
      | (go_simp;done)
      | (go_simp;with_reducible rfl)
    refine wpAnyIn_ready (rs:=[16]) (by kernel_rfl) (by simp) ?_
    refine AllReadyIn.cons rfl (fun K hK=>?_) AllReadyIn.nil
    go_simp
    refine hK _ _ ?_
    clear hK K
    refine wpAnyIn_done (by kernel_rfl) ?_ _
    obtain⟨k1,k2,k3⟩:=HST.out yi yk w5 hb7.out
    exact HQ.out _ k1 k2 k3
   exact AllReadyIn.nil
  exact AllReadyIn.nil
 exact AllReadyIn.nil
end Go.Proofs.YtnicjahcgnhogaaGreatDoor
