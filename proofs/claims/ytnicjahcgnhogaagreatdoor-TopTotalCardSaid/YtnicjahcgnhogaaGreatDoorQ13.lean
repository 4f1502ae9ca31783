/- Part 14 of the walk: contracts of the program's functions, each for every input. No condition. -/
import Derived.Test.YtnicjahcgnhogaaGreatDoorQ12
import Derived.Laws.IdiomCopy
import Derived.Test.YtnicjahcgnhogaaGreatDoorQ00
import Derived.Lib.AppendStr
import Derived.Great.BuildSlice
set_option linter.unusedVariables false
set_option linter.unusedSimpArgs false
set_option maxRecDepth 100000
set_option maxHeartbeats 8000000
namespace Go.Proofs.YtnicjahcgnhogaaGreatDoor
open Go Go.RowKit Go.Calli
attribute [local irreducible] wpStill wpAnyH wpAnyS wpList Code.wp
theorem oL{P:Program}(w:World)(dT sT ty elem:TypeId)(b o dLen dCap:Nat)(a:Addr)(sLen sCap size m:Nat)(cs:List Value)
  (hu:P.underlying dT=some (.slice elem)) (hs:(P.info? elem).map (·.size)=some size) (hn:Nat.min sLen dLen=m) (hl0:cs.length=m*size)
  (hsrc: ∀j v,cs[j]? =some v→w.cell? (a.add j)=some v) (hc: ∀j,j<cs.length→(w.cell? ⟨b,o+j,none⟩).isSome=true) (hf: ∀j,j<cs.length→w.frozen? ⟨b,o+j,none⟩=false) (h1: ∀v ∈ cs,v.oneCell'=true):
  (Builtin.copy_ #[dT,sT] ty #[.slice (some ⟨b,o,none⟩) dLen dCap,.slice (some a) sLen sCap]).run P w= .ok (goInt m) (w.setCells b o cs):=by
 have hl:=run_loadCells_list (P:=P) w a cs hsrc
 have hst:=run_storeCells_cells (P:=P) b o cs 0 w (by simpa using hc) (by simpa using hf) h1
 cases hq:P.info? elem with
 | none=>simp[hq] at hs
 | some i=>
  have hi:i.size=size:=by simpa[hq] using hs
  simp[Builtin.copy_,run_underlying hu,Builtin.lenOf,Builtin.firstCells,sizeOf,typeInfo,hq,hi,hn,←hl0,hl,hst]
theorem vK{P:Program}(w:World)(dT sT ty elem:TypeId)(d a:Option Addr)(dLen dCap sLen sCap size:Nat)(hu:P.underlying dT=some (.slice elem))(hs:(P.info? elem).map (·.size)=some size)(hn:Nat.min sLen dLen=0):
  (Builtin.copy_ #[dT,sT] ty #[.slice d dLen dCap,.slice a sLen sCap]).run P w= .ok (goInt 0) w:=by
 cases hq:P.info? elem with
 | none=>simp[hq] at hs
 | some i=>
  have hl: ∀(x:Addr),(loadCells x 0).run P w= .ok #[] w:=fun x=>by simpa using run_loadCells_list (P:=P) w x [] (by simp)
  cases d<;>cases a<;>simp[Builtin.copy_,run_underlying hu,Builtin.lenOf,Builtin.firstCells,sizeOf,typeInfo,hq,hn,storeCells,hl]
theorem mZ{P:Program}{w w':World}{ops:Array Oper}{rest:List Oper}{o:Oper}{a:Act}{Q:Exit→Act→World→Prop}(hgd:o.guard=none)(d s:Operand)(dT sT:TypeId)
  (ho:o.op= .call {callee:=.builtin .copy,args:=#[d,s],argTypes:=#[dT,sT]}) {u v z:Value} (hd:a.eval d=u) (hs:a.eval s=v) (hr:(Builtin.copy_ #[dT,sT] o.type #[u,v]).run P w= .ok z w')
  (h:wpList P ops Q rest (a.put o.dst z) w'):wpList P ops Q (o::rest) a w:=by
 refine wpList_plain hgd fun K hK=>?_
 unfold Oper.wp execOp
 simp only[ho,resolve,invoke,builtin,Sem.run_bind,Sem.run_pure,Result.andThen_ok,List.map_toArray,List.map_cons,List.map_nil,hd,hs,hr]
 exact hK _ _ h
theorem vJ{P:Program}(T e:TypeId)(hT:P.underlying T=some (.slice e))(size:Nat)(hsz:(P.info? e).map (·.size)=some size)(g len cap lo hi:Nat)(h1:lo≤hi)(h2:hi≤cap)(h3:cap≤maxLen)(hlo:lo≠cap)(w:World):
  (Instr.slice T (.slice (some ⟨g,0,none⟩) len cap) (some (.int .i64 (lo:Int))) (some (.int .i64 (hi:Int))) none).run P w= .ok (.slice (some ⟨g,lo*size,none⟩) (hi - lo) (cap - lo)) w:=by
 have he:P.elem T=e:=by simp[Program.elem,hT]
 unfold maxLen at h3
 rw[run_slice_lh w T (some ⟨g,0,none⟩) len cap (by rw[he];exact hT) .i64 .i64 lo hi (by omega) (by omega) (by omega),he]
 have hs:(sizeOf e).run P w= .ok size w:=by
  cases hi2:P.info? e with
  | none=>rw[hi2] at hsz;cases hsz
  | some i=>rw[hi2] at hsz;simp at hsz;simp[sizeOf,typeInfo,hi2,hsz]
 rw[hs]
 simp[Result.andThen,sliced,hlo,Ne.symm hlo,add0]
end Go.Proofs.YtnicjahcgnhogaaGreatDoor
namespace Go.Calli
open Go.RowKit
theorem pF(l:List Int)(a b:Nat):(strOfNums l).extract a b=strOfNums ((l.take b).drop a):=by
 apply ByteArray.ext
 rw[ByteArray.data_extract]
 apply Array.ext'
 simp[strOfNums,List.extract_eq_take_drop,List.map_drop,List.map_take,List.drop_take]
def numsOf(s:ByteArray):List Int:=s.data.toList.map fun c=>(c.toNat:Int)
theorem xW(s:ByteArray):strOfNums (numsOf s)=s:=by
 apply ByteArray.ext
 apply Array.ext'
 simp only[strOfNums,numsOf,List.map_map]
 conv=>rhs;rw[←List.map_id s.data.toList]
 apply List.map_congr_left
 intro c _
 simp
theorem CO(s:ByteArray):(numsOf s).length=s.size:=by
 unfold numsOf
 rw[List.length_map]
 rfl
theorem CP(s:ByteArray): ∀z ∈ numsOf s,0≤z∧z<256:=by
 intro z hz
 simp only[numsOf,List.mem_map] at hz
 obtain⟨c,_,rfl⟩:=hz
 have:=c.toNat_lt
 omega
theorem Eg{w:World}{B e size n:Nat}{ao:Option Addr}{k cap:Nat}{xs:List Value}(h:w.ownsRow B e size (.slice ao k cap) n xs):cap≤maxLen:=by
 rcases h.2 with⟨h1,_⟩ | ⟨g,c,cur,h1,hb,hg,hn,hc,hs,ht⟩
 ·cases h1;unfold maxLen;omega
 ·cases h1;exact hc
end Go.Calli
namespace Go.Proofs.YtnicjahcgnhogaaGreatDoor
open Go Go.RowKit Go.Calli
attribute [local irreducible] wpStill wpAnyH wpAnyS wpList Code.wp
theorem Kr{α:Type}(f:α→List Value)(size:Nat)(d:α)(ms:List α):(∀x ∈ ms,(f x).length=size)→∀(i j:Nat),i<ms.length→j<size→(ms.flatMap f)[i*size+j]? =(f (ms.getD i d))[j]? :=by
 induction ms with
 | nil=>intro hf i j hi;simp at hi
 | cons m r ih=>
  intro hf i j hi hj
  have hl:=hf m (by simp)
  rw[List.flatMap_cons]
  cases i with
  | zero=>
   rw[Nat.zero_mul,Nat.zero_add,List.getElem?_append_left (by omega)]
   simp
  | succ i=>
   have e:(i+1)*size=i*size+size:=Nat.succ_mul i size
   rw[List.getElem?_append_right (by omega),hl,show(i+1)*size+j - size=i*size+j by omega,ih (fun x hx=>hf x (by simp[hx])) i j (by simpa using hi) hj]
   simp
theorem qY{α:Type}(f:α→List Value)(size:Nat)(ms:List α):(∀x ∈ ms,(f x).length=size)→(ms.flatMap f).length=ms.length*size:=by
 induction ms with
 | nil=>intro _;simp
 | cons m r ih=>intro hf;rw[List.flatMap_cons,List.length_append,ih (fun x hx=>hf x (by simp[hx])),hf m (by simp),List.length_cons,Nat.succ_mul];omega
theorem wX{w:World}{g n cap:Nat}{L:List Kb}(h:w.ownsRow 0 316 21 (.slice (some ⟨g,0,none⟩) n cap) n (L.flatMap kbV))(hok: ∀b ∈ L,b.Ok)(hl:L.length=n){j o:Nat}(hj:j<n)(ho:o<21){v:Value}(hv:(kbV (L.getD j kb0))[o]? =some v):w.cell? ⟨g,j*21+o,none⟩=some v:=by
 have:=h.cells (g:=g) rfl (j*21+o) v (by rw[Kr kbV 21 kb0 L (fun b hb=>jG (hok b hb)) j o (by omega) ho];exact hv)
 rwa [add0,Nat.zero_add] at this
theorem o6{w:World}{g n cap:Nat}{L:List Kb}(h:w.ownsRow 0 316 21 (.slice (some ⟨g,0,none⟩) n cap) n (L.flatMap kbV))(hok: ∀b ∈ L,b.Ok)(hl:L.length=n){j:Nat}(hj:j<n):w.rangeAt g (j*21) (kbV (L.getD j kb0)):=fun o v hv=>by
 have ho:o<21:=by
  have:=(List.getElem?_eq_some_iff.1 hv).1
  rwa [jG (hok _ (by rw[show L.getD j kb0=L[j]'(by omega) by simp[List.getD,show j<L.length by omega]];exact List.getElem_mem _))] at this
 exact wX h hok hl hj ho hv
theorem xY{P:Program}(T e:TypeId)(hT:P.underlying T=some (.slice e))(size:Nat)(hsz:(P.info? e).map (·.size)=some size)(g len cap lo hi:Nat)(h1:lo≤hi)(h2:hi≤cap)(h3:cap≤maxLen)(w:World):
  (Instr.slice T (.slice (some ⟨g,0,none⟩) len cap) (some (.int .i64 (lo:Int))) (some (.int .i64 (hi:Int))) none).run P w= .ok (.slice (some (if cap=lo then⟨g,0,none⟩ else⟨g,lo*size,none⟩)) (hi - lo) (cap - lo)) w:=by
 have he:P.elem T=e:=by simp[Program.elem,hT]
 unfold maxLen at h3
 rw[run_slice_lh w T (some ⟨g,0,none⟩) len cap (by rw[he];exact hT) .i64 .i64 lo hi (by omega) (by omega) (by omega),he]
 have hs:(sizeOf e).run P w= .ok size w:=by
  cases hi2:P.info? e with
  | none=>rw[hi2] at hsz;cases hsz
  | some i=>rw[hi2] at hsz;simp at hsz;simp[sizeOf,typeInfo,hi2,hsz]
 rw[hs]
 simp[Result.andThen,sliced,add0]
 split<;>rfl
theorem aK.next{X:Fx}{σ:Own}{w:World}{B:Bk}{K:Nat}{f:Fe}(h:aK X σ w B K f):aK X σ w B (K+1) f:=⟨h.row,h.ca,h.bk,h.tb,h.tf,h.n1,h.cok,h.lim.mono (by omega),h.img⟩
theorem FeB.next{K:Nat}{f:Fe}(h:FeB K f):FeB (K+1) f:=⟨h.f0,by have:=h.f1;omega,h.l0,by have:=h.l1;omega⟩
theorem mD{a b:Nat}(h:¬a=b):((a:Int)==(b:Int))=false:=by
 rw[beq_eq_false_iff_ne]
 intro e
 exact h (Int.ofNat.inj e)
theorem C9{w:World}{g n cap:Nat}{L:List Kb}(h:w.ownsRow 0 316 21 (.slice (some ⟨g,0,none⟩) n cap) n (L.flatMap kbV))(hl:L.length=n){j:Nat}(hj:j<n): ∃T:List Value,w.heap[g]? =some (.cells ((L.take j).flatMap kbV++(kbV (L.getD j kb0)++((L.drop (j+1)).flatMap kbV++T))).toArray 316 (0,0))∧((L.take j).flatMap kbV++(kbV (L.getD j kb0)++((L.drop (j+1)).flatMap kbV++T))).length=cap*21:=by
 rcases h.2 with⟨e1,e2⟩ | ⟨g',cap',cur,e1,_,hg,hnc,hcm,hcs,htk⟩
 ·omega
 ·cases e1
  have e:(L.take j).flatMap kbV++(kbV (L.getD j kb0)++((L.drop (j+1)).flatMap kbV++cur.toList.drop (n*21)))=cur.toList:=by
   have e2:L.flatMap kbV=(L.take j).flatMap kbV++(kbV (L.getD j kb0)++(L.drop (j+1)).flatMap kbV):=by
    conv=>lhs;rw[←List.take_append_drop j L,List.flatMap_append,List.drop_eq_getElem_cons (show j<L.length by omega),List.flatMap_cons]
    rw[show L.getD j kb0=L[j]'(by omega) by simp[List.getD,show j<L.length by omega]]
   rw[←List.append_assoc (kbV _),←List.append_assoc,←e2,←htk,List.take_append_drop]
  refine⟨cur.toList.drop (n*21),?_,?_⟩
  ·rw[e];simpa using hg
  ·rw[e];simpa using hcs
theorem CE{w:World}{g cap:Nat}{L:List Kb}{T:List Value}(hok: ∀b ∈ L,b.Ok)(h:w.heap[g]? =some (.cells (L.flatMap kbV++T).toArray 316 (0,0)))(hl:(L.flatMap kbV++T).length=cap*21)(hc:cap≤maxLen):w.ownsRow 0 316 21 (.slice (some ⟨g,0,none⟩) L.length cap) L.length (L.flatMap kbV):=by
 have hf:=qY kbV 21 L (fun b hb=>jG (hok b hb))
 rw[List.length_append,hf] at hl
 exact⟨hf,.inr ⟨g,cap,_,rfl,Nat.zero_le _,h,by omega,hc,by simp[hf];omega,by simp[←hf]⟩⟩
theorem aU{P:Program}{ops:Array Oper}{S:World→Prop}{op:Oper}{a:Act}(hw:Region.wanted op (yielded ops a.tmps)=true)(ty:TypeId)(x:Operand)(ho:op.op= .load ty x)(g:Nat)(hx:a.eval x= .pointer (some ⟨g,0,none⟩))(t:TypeId)(cs:Array Value)(fr:Nat×Nat)(d:TypeDesc)(hS: ∀w,S w→w.heap[g]? =some (.cells cs t fr))(hu:P.underlying ty=some d)(hd:(match d with | .struct _ | .array _ _=>true | _=>false)=true)(hi:(P.info? ty).map (·.size)=some cs.size):YieldsIf P ops S op (.agg cs) a:=
 .inl ⟨hw,fun w hw'=>by
  unfold execOp
  simp only[ho,hx,Instr.loadAt,Instr.sureAddr,Sem.run_bind,Sem.run_pure,Result.andThen_ok,run_loadVar_row w g t ty cs fr d (hS w hw') hu hd hi]⟩
theorem fB{P:Program}{ops:Array Oper}{S:World→Prop}{o:Oper}{a:Act}(hw:Region.wanted o (yielded ops a.tmps)=true)(T:TypeId)(x h:Operand)(ho:o.op= .slice T x none (some h) none){u k v:Value}(hx:a.eval x=u)(hh:a.eval h=k)(hr: ∀w,(Instr.sliceAt T u none (some k) none).run P w= .ok v w):YieldsIf P ops S o v a:=
 .inl ⟨hw,fun w _=>by
  unfold execOp
  simp only[ho,hx,hh,Option.map_none,Option.map_some,Sem.run_bind,Sem.run_pure,hr,Result.andThen_ok]⟩
theorem iZ(ao:Option Addr)(h0: ∀a,ao=some a→a.off=0∧a.spot=none)(n cap m:Nat)(hm:m≤cap)(hc:cap≤maxLen)(w:World):(Instr.sliceAt 208 (.slice ao n cap) none (some (.int .i64 (m:Int))) none).run Tryz.prog w= .ok (.slice ao m cap) w:=by
 unfold maxLen at hc
 have he:Tryz.prog.elem 208=316:=by kernel_rfl
 have hu:Tryz.prog.underlying 208=some (.slice (Tryz.prog.elem 208)):=by rw[he];exact Tryz.underlying208
 have h1:=run_sliceAt_slice (P:=Tryz.prog) (w:=w) 208 (.slice ao n cap) none (some (.int .i64 (m:Int))) none hu
 rw[h1,run_slice_h w 208 ao n cap hu .i64 (m:Int) (by omega) (by omega),he]
 have hs:(sizeOf 316).run Tryz.prog w= .ok 21 w:=by kernel_rfl
 rw[hs]
 cases ao with
 | none=>simp[Result.andThen,sliced]
 | some a=>
  obtain⟨e1,e2⟩:=h0 a rfl
  simp[Result.andThen,sliced]
  intro _
  simp[Addr.add]
theorem Eu:(Tryz.prog.info? 316).map (fun i=>(i.zero,i.size,i.bytes))=some (some (.agg gu),21,168):=by kernel_rfl
theorem Kv(b:Kb)(hb:b.Ok):Instr.fill (fun i=>some (i*21,21)) ((Array.range (1*21)).map ((Value.agg gu).cells[· %(Value.agg gu).cells.size]!)) [(0,.agg (iA (kbL b)))]=some (iA (kbL b)):=by
 obtain⟨n,wv,g⟩:=b
 obtain⟨h1,h2⟩:=hb
 simp only at h1 h2
 obtain⟨a0,a1,a2,a3,a4,a5,a6,a7,a8,a9,a10,a11,a12,a13,a14,a15,rfl⟩:=qU h1
 obtain⟨b0,b1,b2,b3,rfl⟩:=uB h2
 kernel_rfl
theorem fP{P:Program}{w w':World}{o:Oper}{a:Act}{K:Act→World→Prop}{Q:Exit→Act→World→Prop}(s x:Operand)(t u:TypeId)
  (ho:o.op= .call {callee:=.builtin .append,args:=#[s,x],argTypes:=#[t,u]}) {v v' z:Value} (hs:a.eval s=v) (hx:a.eval x=z) (hr:(Builtin.append_ #[t,u] o.type #[v,z]).run P w= .ok v' w') (hK:K (a.put o.dst v') w'):Oper.wp P o a w K Q:=by
 unfold Oper.wp
 simp[execOp,ho,resolve,invoke,builtin,hs,hx,hr,Result.andThen]
 exact hK
theorem DT(w:World)(b:Kb)(hb:b.Ok)(ao:Option Addr)(cap:Nat)(L:List Kb)(hok: ∀x ∈ L,x.Ok)(hkv:w.ownsRow 0 316 21 (.slice ao L.length cap) L.length (L.flatMap kbV))(m:Nat)(hm:m≤L.length)(h4:L.length≤4)(ty:TypeId):
  ∃v' w',(Builtin.append_ #[208,208] ty #[.slice (some ⟨w.heap.size,0,none⟩) 1 1,.slice ao m cap]).run Tryz.prog (w.alloc (.cells (iA (kbL b)) 316))= .ok v' w'∧w'.ownsRow w.heap.size 316 21 v' (1+m) (kbV b++(L.take m).flatMap kbV)∧Below w.heap.size w w':=by
 obtain⟨i,hi,hz,hs,hby⟩:=info_parts Eu
 have hbl:=jG hb
 have hown:(w.alloc (.cells (iA (kbL b)) 316)).ownsRow w.heap.size 316 21 (.slice (some ⟨w.heap.size,0,none⟩) 1 1) 1 (kbV b):=
  ⟨by omega,.inr ⟨_,1,_,rfl,Me,L9 _ _,Me,by unfold maxLen;omega,by rw[xe];show(kbV b).toArray.size=_;simp[hbl],by rw[xe,List.toList_toArray];exact List.take_of_length_le (by show(kbV b).length≤_;omega)⟩⟩
 cases ao with
 | none=>
  have hL:L.length=0:=by
   rcases hkv.2 with⟨_,h⟩ | ⟨g,c,cur,h,_⟩
   ·exact h
   ·cases h
  obtain rfl:m=0:=by omega
  refine⟨_,_,jR (P:=Tryz.prog) _ 208 ty 316 i Tryz.underlying208 hi hown cap,by simpa using hown,ae _ _⟩
 | some ad=>
  obtain⟨g,rfl⟩: ∃g,ad=⟨g,0,none⟩:=by
   rcases hkv.2 with⟨h,_⟩ | ⟨g,c,cur,h,_⟩
   ·cases h
   ·cases h;exact⟨g,rfl⟩
  have hto: ∀x ∈ L.take m,x.Ok:=fun x hx=>hok x (List.mem_of_mem_take hx)
  have htl:=qY kbV 21 (L.take m) (fun x hx=>jG (hto x hx))
  rw[List.length_take,Nat.min_eq_left hm] at htl
  have hpre:L.flatMap kbV=(L.take m).flatMap kbV++(L.drop m).flatMap kbV:=by
   rw[←List.flatMap_append,List.take_append_drop]
  obtain⟨v',w',hr,h2,h3,_⟩:=run_append_own (P:=Tryz.prog) (w.alloc (.cells (iA (kbL b)) 316)) w.heap.size 208 ty 316 i (.agg gu) 21 168 Tryz.underlying208 hi hz hs hby (by kernel_rfl) (by omega) _ 1 (kbV b) hown ⟨g,0,none⟩ m cap ((L.take m).flatMap kbV) htl (fun j u hu=>(hkv.alloc _).cells (g:=g) rfl j u (by rw[hpre,List.getElem?_append_left (List.getElem?_eq_some_iff.1 hu).1];exact hu)) (fun v hv=>by
   obtain⟨x,_,hx⟩:=List.mem_flatMap.1 hv
   exact Dj _ v hx) (by unfold maxLen;omega) (by omega) (by simp)
  refine⟨v',w',hr,h2,?_⟩
  exact((af.refl (fun k=>k=w.heap.size) w).alloc _ |>.grown h3 fun k hk=>.inr (by cases hk;rfl)).bg Me (fun k hk e=>by omega)
def mP(B:Bk)(f f':Fe)(m:Mt)(ch n:Nat)(u u':Ku):Prop:=
 (∃i,i<u.kept.length∧(u.kept.getD i kb0).n=n∧(∀j,j<i→(u.kept.getD j kb0).n≠n)∧u'={u with kept:=u.kept.getD i kb0::(u.kept.take i++u.kept.drop (i+1))}∧f'=f)∨
 ((∀j,j<u.kept.length→(u.kept.getD j kb0).n≠n)∧∃u1 b R,oQ B f.c m ch n u u1 b R∧b.Ok∧u'={u1 with kept:=b::u.kept.take 3}∧f'.c=R.c∧f'.fr=f.fr+1)
def BlkP(X:Fx)(σ:Own)(B:Bk)(K:Nat)(f:Fe)(C:Kx)(u:Ku)(n:Nat)(w:World)(e:Ending)(w':World):Prop:=∃(g cap:Nat)(u':Ku)(lv:Value)(σ':Own)(f':Fe),e= .returned (.pointer (some ⟨g,0,none⟩))∧mP B f f' (B.dir.getD C.i m0) C.ch n u u'∧0<u'.kept.length∧(u'.kept.getD 0 kb0).n=n∧aK X σ' w' B (K+1) f'∧FeB (K+1) f'∧dH X.fb C σ' w' (.slice (some ⟨g,0,none⟩) u'.kept.length cap) lv u'∧af (FC σ C.t) w w'∧Ext σ σ' w.heap.size
theorem xE(X:Fx)(σ:Own)(B:Bk)(K:Nat)(hK:K≤500000)(f:Fe)(hf:FeB K f)(C:Kx)(hC:KOk B C)(kv lv:Value)(u:Ku)(hu0:0≤u.fr)(hu1:u.fr≤K)(hul:u.lost.length≤K)(n:Nat)(hn:n<bu C.len)(w:World)(h:aK X σ w B K f)(hcu:dH X.fb C σ w kv lv u):Calls Tryz.prog 209 #[.pointer (some ⟨C.cb,0,none⟩),.int .i64 n] w (BlkP X σ B K f C u n w):=by
 obtain⟨c53,c54,c55,c56,c57,c58,c59,f57,f58,f59⟩:=gq hcu.p hcu.row
 obtain⟨ao,cap,rfl⟩:=bV hcu.kept
 have hcell: ∀j,j<u.kept.length→∃g,ao=some ⟨g,0,none⟩∧w.cell? ⟨g,j*21,none⟩=some (.int .i64 ((u.kept.getD j kb0).n:Int)):=fun j hj=>by
  rcases hcu.kept.2 with⟨e1,e2⟩ | ⟨g,cap',cur,e1,_⟩
  ·omega
  ·cases e1
   exact⟨g,rfl,wX hcu.kept hcu.ok rfl hj (o:=0) (by omega) (by simp[kbV,kbL,iL])⟩
 have h4:=hcu.k4
 have HC:=MI hcell
 have HH:=MI h
 have HU:=MI hcu
 clear hcell h hcu
 go_enter Tryz.func209,Tryz.ntmps209
 go_wp2_with fail
 go_loop [13] (fun v=>∃j:Nat,j≤u.kept.length∧v= .int .i64 (j:Int)∧∀i,i<j→(u.kept.getD i kb0).n≠n) (fun v=>u.kept.length - (intOf v).toNat)
 case atStart=>exact⟨0,by omega,rfl,fun i hi=>by omega⟩
 case round=>
  obtain⟨j,hj,rfl,hno⟩:=hrel
  have HNo:=MI hno
  clear hno
  by_cases hlt:j<u.kept.length
  ·obtain⟨g,rfl,hc⟩:=HC.out j hlt
   by_cases he:(u.kept.getD j kb0).n=n
   ·rw[he] at hc
    have hra:=o6 HU.out.kept HU.out.ok rfl hlt
    have hxo:(u.kept.getD j kb0).Ok:=HU.out.ok _ (by rw[show u.kept.getD j kb0=u.kept[j] by simp[List.getD,hlt]];exact List.getElem_mem _)
    have hxl:=jG hxo
    have hkl:(kbL (u.kept.getD j kb0)).length=21:=by have:=hxl;unfold kbV at this;rwa [dA] at this
    have hcap:u.kept.length≤cap:=by
     rcases HU.out.kept.2 with⟨e1,e2⟩ | ⟨g',cap',cur,e1,_,_,h1,_⟩
     ·omega
     ·cases e1;exact h1
    have hcm:=Eg HU.out.kept
    unfold maxLen at hcm
    generalize hX:u.kept.getD j kb0=x at*
    have HX:=MI hX
    have HXN:=MI he
    clear hX he
    have hi316:(Tryz.prog.info? 316).map (·.size)=some (iA (kbL x)).size:=by rw[az,hkl];kernel_rfl
    have hv316:(Tryz.prog.info? 316).map (·.size)=some (kbV x).length:=by rw[hxl];kernel_rfl
    have hs316:gu.size=(iA (kbL x)).size:=by rw[az,hkl];kernel_rfl
    go_upto_region 6 with(first
     | (with_reducible refine MC 316 31 ?_;refine wpList_load_mid rfl 316 (.tmp 31) rfl g (j*21) rfl (kbV x) _ hra Tryz.underlying316 rfl hv316 ?_;rw[show(kbV x).toArray=iA (kbL x) from rfl])
     | (with_reducible refine MF 316 6 32 ?_;rw[←nP];refine wpList_store_row rfl 316 (.tmp 6) (.tmp 32) rfl _ (iA (kbL x)) rfl rfl 316 gu (L9 _ _) hi316 hs316 (bP _) ?_))
    have hbA:=below_setRow (ae w (.cells gu 316)) Me (iA (kbL x))
    have HF1:=MI (HH.out.ah hbA)
    have HU1:=MI (HU.out.ah hbA)
    have hzt:=Md (iA (kbL x)) (L9 w (.cells gu 316))
    have HB1:=MI hbA
    have hgt:g<w.heap.size:=mi HU.out.kept rfl
    clear hbA HC hra hc c53 c54 c55 c56 c57 c58 c59 f57 f58 f59
    generalize (w.alloc (.cells gu 316)).setRow w.heap.size (iA (kbL x))=W1 at*
    obtain⟨T,hg0,hTl⟩:=C9 HU1.out.kept rfl hlt
    rw[HX.out] at hg0 hTl
    obtain⟨c53,c54,c55,c56,c57,c58,c59,f57,f58,f59⟩:=gq HU1.out.p HU1.out.row
    have hAo: ∀b ∈ u.kept.take j,b.Ok:=fun b hb=>HU.out.ok b (List.mem_of_mem_take hb)
    have hAl:=qY kbV 21 (u.kept.take j) (fun b hb=>jG (hAo b hb))
    have hDo: ∀b ∈ u.kept.drop (j+1),b.Ok:=fun b hb=>HU.out.ok b (List.mem_of_mem_drop hb)
    have htl:(u.kept.take j).length=j:=by rw[List.length_take];omega
    rw[htl] at hAl
    generalize hA:(u.kept.take j).flatMap kbV=A at*
    have HA:=MI hA
    clear hA
    have hsz316:(Tryz.prog.info? 316).map (·.size)=some 21:=by kernel_rfl
    have hA1: ∀v ∈ A,v.oneCell'=true:=fun v hv=>by
     rw[←HA.out] at hv
     obtain⟨b,_,hb⟩:=List.mem_flatMap.1 hv
     exact Dj _ v hb
    have hrA:=gK [] A (kbV x++((u.kept.drop (j+1)).flatMap kbV++T)) hg0
    have HG0:=MI hg0
    have hPL:(A++kbV x).length=j*21+21:=by rw[List.length_append,hAl,hxl]
    have hpre:((A++kbV x).take 21).length=21:=by rw[List.length_take,hPL];omega
    have hold:((A++kbV x).drop 21).length=A.length:=by rw[List.length_drop,hPL,hAl];omega
    have hth: ∀i,i<A.length→(W1.drew.cell? ⟨g,21+i,none⟩).isSome=true∧W1.drew.frozen? ⟨g,21+i,none⟩=false:=fun i hi=>qM (w:=W1.drew) hg0 21 A.length (by simp only[List.length_append,hAl,hxl];omega) i hi
    have hset:(W1.drew.setCells g 21 A).heap[g]? =some (.cells ((A++kbV x).take 21++(A++((u.kept.drop (j+1)).flatMap kbV++T))).toArray 316 (0,0)):=by
     have:=mf (w:=W1.drew) (b:=g) (T:=316) ((A++kbV x).take 21) ((A++kbV x).drop 21) ((u.kept.drop (j+1)).flatMap kbV++T) A (by
      rw[←List.append_assoc ((A++kbV x).take 21),List.take_append_drop,List.append_assoc];exact hg0) hold
     rwa [hpre] at this
    dsimp only[Act.put]
    go_cut [46] (fun v wx=>wx.heap[g]? =some (.cells ((A++kbV x).take 21++(A++((u.kept.drop (j+1)).flatMap kbV++T))).toArray 316 (0,0))∧af (fun k=>k=g) W1 wx)
    case first=>
     by_cases h0:j=0
     ·subst h0
      obtain rfl:A=[]:=List.eq_nil_of_length_eq_zero (by rw[hAl])
      have hs1: ∃a2,∀w,(Instr.slice 208 (.slice (some ⟨g,0,none⟩) u.kept.length cap) (some (.int .i64 1)) (some (.int .i64 1)) none).run Tryz.prog w= .ok (.slice (some a2) 0 (cap - 1)) w:=
       ⟨_,fun w=>xY (P:=Tryz.prog) 208 316 Tryz.underlying208 21 hsz316 g u.kept.length cap 1 1 (by omega) (by omega) (by unfold maxLen;omega) w⟩
      have hw1:IntKind.i64.wrap 1=1:=rfl
      obtain⟨a2,hs1⟩:=hs1
      go_wp2_with fail
      go_still_tail 13,(by kernel_rfl)
      repeat still_step
      try refine wpStill_nil ?_
      change wpList _ _ _ _ _ W1.drew
      refine mZ rfl (.tmp 39) (.tmp 45) 208 208 rfl rfl rfl (vK (P:=Tryz.prog) W1.drew 208 208 3 316 _ _ 0 (cap - 1) 0 cap 21 Tryz.underlying208 hsz316 rfl) ?_
      go_wp2_with fail
      go_meet
      exact⟨hset,(af.refl (fun k=>k=g) W1).drew⟩
     ·have h01:1≤j:=by omega
      have h02:¬cap=1:=by omega
      have e1:IntKind.i64.wrap ((j:Int)+1)=(j:Int)+1:=IntWalk.i64_in _ (by omega)
      have hs1: ∀w,(Instr.slice 208 (.slice (some ⟨g,0,none⟩) u.kept.length cap) (some (.int .i64 1)) (some (.int .i64 ((j:Int)+1))) none).run Tryz.prog w= .ok (.slice (some ⟨g,21,none⟩) j (cap - 1)) w:=fun w=>by
       have:=vJ (P:=Tryz.prog) 208 316 Tryz.underlying208 21 hsz316 g u.kept.length cap 1 (j+1) (by omega) (by omega) (by unfold maxLen;omega) (by omega) w
       simpa using this
      have i1:(1:Int)≤(j:Int)+1:=by omega
      have i2:(j:Int)+1≤(cap:Int):=by omega
      have i3:((j:Int)+1).toNat=j+1:=by omega
      have i4:j≤cap:=by omega
      clear h0
      go_wp2_with fail
      go_still_tail 13,(by kernel_rfl)
      repeat still_step
      try refine wpStill_nil ?_
      change wpList _ _ _ _ _ W1.drew
      refine mZ rfl (.tmp 39) (.tmp 45) 208 208 rfl rfl rfl (oL (P:=Tryz.prog) W1.drew 208 208 3 316 g 21 j (cap - 1) ⟨g,0,none⟩ j cap 21 j A Tryz.underlying208 hsz316 (Nat.min_self j) hAl (fun i v hv=>by rw[add0,Nat.zero_add];have:=hrA i v hv;simpa using this) (fun i hi=>(hth i hi).1) (fun i hi=>(hth i hi).2) hA1) ?_
      go_wp2_with fail
      go_meet
      exact⟨hset,((af.refl (fun k=>k=g) W1).drew).setCells A (.inr rfl) 21⟩
    case rest=>
    obtain⟨W2,rfl⟩: ∃w',w'=wc:=⟨_,rfl⟩
    obtain⟨hg2,hk2⟩:=hcut
    have hne:g≠C.cb:=aF HG0.out HU1.out.row (by decide)
    have hr2:=hk2.heap HU1.out.row (fun e=>hne e.symm)
    have hzt2:=hk2.heap hzt (by omega)
    clear c53 c54 c55 c56 c57 c58 c59 f57 f58 f59 hg0 hset hth hold hrA
    have HK2:=MI hk2
    obtain⟨c53,c54,c55,c56,c57,c58,c59,f57,f58,f59⟩:=gq HU1.out.p hr2
    have hth2:=qM (w:=W2.drew) hg2 0 (iA (kbL x)).size (by rw[az,hkl,List.length_append,hpre];omega)
    have hset2:(W2.drew.setCells g 0 (kbV x)).heap[g]? =some (.cells (kbV x++(A++((u.kept.drop (j+1)).flatMap kbV++T))).toArray 316 (0,0)):=
     mf (w:=W2.drew) (b:=g) (T:=316) [] ((A++kbV x).take 21) (A++((u.kept.drop (j+1)).flatMap kbV++T)) (kbV x) (by rw[List.nil_append];exact hg2) (by rw[hpre,hxl])
    have hk3:af (fun k=>k=g) W1 (W2.drew.setCells g 0 (kbV x)):=(HK2.out.drew).setCells (kbV x) (.inr rfl) 0
    have hr3:(W2.drew.setCells g 0 (kbV x)).heap[C.cb]? =_:=(fZ (kbV x) W2.drew g 0 C.cb (Ne.symm hne)).trans hr2
    have hlp:0<u.kept.length:=by omega
    have hlp2:(0:Int)<(u.kept.length:Int):=by omega
    go_upto_region 7 with fail
    refine wp_region_still_tail 6 (by kernel_rfl) (by kernel_rfl) ?_
    simp only[List.take_succ_cons,List.take_zero,List.drop_succ_cons,List.drop_zero]
    change wpStill _ _ W2.drew _ _ _
    repeat (first | (refine lF rfl 316 (.tmp 6) rfl w.heap.size rfl 316 (iA (kbL x)) (0,0) _ hzt2 Tryz.underlying316 rfl hi316 ?_) | still_step)
    try refine wpStill_nil ?_
    change wpList _ _ _ _ _ W2.drew
    refine wpList_store_mid rfl 316 (.tmp 52) (.tmp 51) rfl g 0 (iA (kbL x)) rfl rfl hth2 hi316 (bP _) ?_
    rw[xe,List.toList_toArray,show iL (kbL x)=kbV x from rfl]
    have HS2:=MI hset2
    have HK3:=MI hk3
    have HR3:=MI hr3
    clear hset2 hk3 hr3 hr2 hg2 hth2 hzt2 hk2 c53 c54 c55 c56 c57 c58 c59 f57 f58 f59
    generalize W2.drew.setCells g 0 (kbV x)=W3 at*
    obtain⟨c53,c54,c55,c56,c57,c58,c59,f57,f58,f59⟩:=gq HU1.out.p HR3.out
    dsimp only[Act.put]
    go_wp2_with fail
    go_ret
    have hsg:=HU.out.ko g rfl
    have ht3:=HU.out.t3
    have hkx: ∀b ∈ x::(u.kept.take j++u.kept.drop (j+1)),b.Ok:=fun b hb=>by
     rcases List.mem_cons.1 hb with rfl | hb
     ·exact hxo
     ·rcases List.mem_append.1 hb with hb | hb
      ·exact hAo b hb
      ·exact hDo b hb
    have hkn:(x::(u.kept.take j++u.kept.drop (j+1))).length=u.kept.length:=by
     rw[List.length_cons,List.length_append,htl,List.length_drop];omega
    have hown:W3.ownsRow 0 316 21 (.slice (some ⟨g,0,none⟩) (x::(u.kept.take j++u.kept.drop (j+1))).length cap) (x::(u.kept.take j++u.kept.drop (j+1))).length ((x::(u.kept.take j++u.kept.drop (j+1))).flatMap kbV):=
     CE (T:=T) hkx (by rw[HS2.out,List.flatMap_cons,List.flatMap_append,HA.out];simp only[List.append_assoc]) (by
      rw[List.flatMap_cons,List.flatMap_append,HA.out]
      simp only[List.length_append,hxl,hAl] at hTl⊢
      omega) (by unfold maxLen;omega)
    exact⟨g,cap,{u with kept:=x::(u.kept.take j++u.kept.drop (j+1))},lv,σ,f,rfl,.inl ⟨j,hlt,by rw[HX.out];exact HXN.out,fun i hi=>HNo.out i hi,by rw[HX.out],rfl⟩,by simp,HXN.out,(HF1.out.kept (HK3.out.mono fun k _ e=>by rw[e,hsg];omega)).next,hf.next,⟨by simp only[hkn];exact HR3.out,HU.out.p,HU.out.own,HU.out.t3,hown,ay HU1.out.lost HK3.out (fun k e hs=>by
     obtain⟨cs,hcs⟩:=ag HU1.out.lost e
     exact aF hcs HG0.out (by decide) hs),hkx,by rw[hkn];exact HU.out.k4,fun k hk=>by cases hk;exact hsg,HU.out.lo⟩,(af.au HB1.out Me).andThen HK3.out (fun i hi e=>.inr (.inr (by rw[e];exact hsg))),Ext.refl _ _⟩
   ·have q1:(((u.kept.getD j kb0).n:Int)==(n:Int))=false:=mD he
    have HNE:=MI he
    clear he
    generalize hx:(u.kept.getD j kb0).n=x at*
    have HX:=MI hx
    clear hx
    go_wp2_with fail
    go_round
    case rel=>exact⟨j+1,by omega,by go_num,fun i hi=>by
     by_cases e:i<j
     ·exact HNo.out i e
     ·obtain rfl:i=j:=by omega
      rw[HX.out];exact HNE.out⟩
    case measure=>simp[intOf];omega
  ·obtain rfl:j=u.kept.length:=by omega
   have HTk:=MI (take_any X σ B K hK f hf C hC (.slice ao u.kept.length cap) lv u hu0 hu1 hul n hn w HH.out HU.out)
   unfold TakP at HTk
   clear hlt hj HC c53 c54 c55 c56 c57 c58 c59 f57 f58 f59
   go_upto_region 11 with(first
    | (go_at_call 230;refine HTk.out.mono ?_;rintro e w1 ⟨b,R,u1,lv1,σ1,f1,rfl,hbo,hTR,hF1,hB1,hc1,hf1,hU1,hK1,hE1⟩;have hkl:(kbL b).length=21:=(by have:=jG hbo;unfold kbV at this;rwa [dA] at this);have hi316:(Tryz.prog.info? 316).map (·.size)=some (iA (kbL b)).size:=(by rw[az,hkl];kernel_rfl);have hs316:gu.size=(iA (kbL b)).size:=(by rw[az,hkl];kernel_rfl))
    | (with_reducible refine MF 316 7 61 ?_;rw[←nP];refine wpList_store_row rfl 316 (.tmp 7) (.tmp 61) rfl _ (iA (kbL b)) rfl rfl 316 gu (L9 _ _) hi316 hs316 (bP _) ?_))
   obtain⟨err,z,ts,-,-,-,-,hke,hfr,hbn,-,-⟩:=id hTR
   have HCW:=MI (L8 hU1.row)
   have hbA:=below_setRow (ae w1 (.cells gu 316)) Me (iA (kbL b))
   have HF3:=MI (hF1.ah hbA)
   have HU3:=MI (hU1.ah hbA)
   have hzt:=Md (iA (kbL b)) (L9 w1 (.cells gu 316))
   have HBA:=MI hbA
   have HTR:=MI hTR
   have HKE:=MI hke
   have HE1:=MI hE1
   have HK1:=MI hK1
   have HC1:=MI hc1
   have HF1':=MI hf1
   have HBN:=MI hbn
   clear hTR hbA hF1 hU1 hke hE1 hK1 hc1 hf1 hfr hbn
   generalize (w1.alloc (.cells gu 316)).setRow w1.heap.size (iA (kbL b))=W3 at*
   obtain⟨c53,c54,c55,c56,c57,c58,c59,f57,f58,f59⟩:=gq HU3.out.p HU3.out.row
   have hcb3:C.cb<W3.heap.size:=L8 HU3.out.row
   have hcb4:¬C.cb=W3.heap.size:=by omega
   obtain⟨ie,hie,hiz,hiS0,-⟩:=info_parts Eu
   have hiS:¬1*ie.size>2^24:=by rw[hiS0];decide
   have hiP:¬1*ie.size=0:=by rw[hiS0];decide
   have hao: ∀a,ao=some a→a.off=0∧a.spot=none:=fun a ha=>by
    rcases HU.out.kept.2 with⟨e1,e2⟩ | ⟨g',cap',cur,e1,_⟩
    ·simp only[Value.slice.injEq] at e1;rw[e1.1] at ha;cases ha
    ·cases e1;cases ha;exact⟨rfl,rfl⟩
   have hcap:u.kept.length≤cap:=by
    rcases HU.out.kept.2 with⟨e1,e2⟩ | ⟨g',cap',cur,e1,_,_,h1,_⟩
    ·omega
    ·cases e1;exact h1
   have hcm:=Eg HU.out.kept
   obtain⟨M,hM⟩: ∃M,min u.kept.length 3=M:=⟨_,rfl⟩
   have hMc:M≤cap:=by omega
   have hmin:(if(3:Int)<(u.kept.length:Int) then(3:Int) else(u.kept.length:Int))=((M:Nat):Int):=by split<;>omega
   have hw1W:w1.heap.size<W3.drew.heap.size:=L8 hzt
   have hkv3:=HU3.out.kept
   rw[HKE.out] at hkv3
   obtain⟨v',w',hrun,hown,hbw⟩:=DT W3.drew b hbo ao cap u.kept HU.out.ok hkv3 M (by omega) HU.out.k4 208
   obtain⟨ao',cap',rfl⟩:=bV hown
   obtain⟨g',rfl⟩: ∃g',ao'=some ⟨g',0,none⟩:=by
    rcases hown.2 with⟨e1,e2⟩ | ⟨g',c,cur,e1,_⟩
    ·omega
    ·simp only[Value.slice.injEq] at e1;exact⟨g',e1.1⟩
   have hcw1:C.cb<w1.heap.size:=HCW.out
   have hgb:W3.heap.size≤g':=by
    rcases hown.2 with⟨e1,e2⟩ | ⟨g2,c,cur,e1,h1,_⟩
    ·omega
    ·cases e1;exact h1
   have hr4:=(hbw.block C.cb hcb3).trans (show W3.drew.heap[C.cb]? =_ from HU3.out.row)
   have d57:=qo HU3.out.p hr4 4 rfl
   have g57:=frozen_of_row _ _ 57 _ _ hr4
   have hcs:σ1 C.cb=C.t:=HU3.out.own
   have ht3:=HU3.out.t3
   have hg'lt:g'<w'.heap.size:=mi hown rfl
   have htk:u.kept.take 3=u.kept.take M:=by
    by_cases h3:u.kept.length≤3
    ·rw[List.take_of_length_le h3,List.take_of_length_le (by omega)]
    ·rw[show M=3 by omega]
   have hkl2:(b::u.kept.take 3).length=1+M:=by rw[List.length_cons,List.length_take];omega
   have hkc:=aC w' C.cb 57 (.slice (some ⟨g',0,none⟩) (1+M) cap')
   have hbw3:Below W3.heap.size W3 w':=((Below.refl _ W3).drew).trans hbw
   have hkF:af (fun k=>3≤σ1 k) W3 (w'.setCell ⟨C.cb,57,none⟩ (.slice (some ⟨g',0,none⟩) (1+M) cap')):=(af.au hbw3 Me).setCell (p:=⟨C.cb,57,none⟩) (.inr (by show 3≤σ1 C.cb;omega)) _
   have hx:=eH σ1 (b:=g') (n:=W3.heap.size) C.t hgb
   have hs5:(w'.setCell ⟨C.cb,57,none⟩ (.slice (some ⟨g',0,none⟩) (1+M) cap')).heap.size=w'.heap.size:=by simp[World.setCell]
   have hlo5:=ay (HU3.out.ah hbw3).lost hkc (fun k e hs=>by
    obtain⟨cs,hcs⟩:=ag (HU3.out.ah hbw3).lost e
    exact aF hcs hr4 (by decide) hs)
   have hke5:=ay hown hkc (fun k e hs=>by
    obtain⟨cs,hcs⟩:=ag hown e
    exact aF hcs hr4 (by decide) hs)
   have HFIN:Hid (BlkP X σ B K f C u n w (.returned (.pointer (some ⟨g',0,none⟩))) (w'.setCell ⟨C.cb,57,none⟩ (.slice (some ⟨g',0,none⟩) (1+M) cap'))):=
    ⟨g',cap',{u1 with kept:=b::u.kept.take 3},lv1,Go.Proofs.YtnicjahcgnhogaaGreatDoor.fD σ1 g' C.t,f1,rfl,.inr ⟨fun i hi=>HNo.out i hi,u1,b,R,HTR.out,hbo,rfl,HC1.out,HF1'.out⟩,by simp,HBN.out,HF3.out.own hkF hx (fun k hk=>by
     rw[hs5]
     by_cases e:k=g'
     ·omega
     ·rw[jF σ1 _ e] at hk;have:=HF3.out.rU k hk;have:=hbw3.size;omega),hB1,⟨by simp only[hkl2];exact(yM HU3.out.p hr4).1 _,HU3.out.p,(hx _ hcb3).trans hcs,ht3,by
     simp only[hkl2]
     refine⟨?_,?_⟩
     ·rw[List.flatMap_cons,htk];exact hke5.1
     ·rw[List.flatMap_cons,htk];exact hke5.2.imp id (fun⟨a,b,c,d,e,f⟩=>⟨a,b,c,d,Nat.zero_le _,f⟩),hlo5,fun x hx=>by
     rcases List.mem_cons.1 hx with rfl | hx
     ·exact hbo
     ·exact HU.out.ok x (List.mem_of_mem_take hx),by rw[hkl2];omega,fun k hk=>by cases hk;exact dG σ1 g' C.t,fun k hk=>(hx k (mi HU3.out.lost hk)).trans (HU3.out.lo k hk)⟩,((HK1.out.below HBA.out HK1.out.size).below hbw3 (Nat.le_trans HK1.out.size HBA.out.size)).setCell (p:=⟨C.cb,57,none⟩) (.inr (.inr (.inr HU.out.own))) _,HE1.out.trans hx (Nat.le_trans HK1.out.size HBA.out.size)⟩
   have HFill:Instr.fill (fun i=>some (i*ie.size,ie.size)) ((Array.range (1*ie.size)).map ((Value.agg gu).cells[· %(Value.agg gu).cells.size]!)) [(0,.agg (iA (kbL b)))]=some (iA (kbL b)):=by rw[hiS0];exact Kv b hbo
   dsimp only[Act.put]
   refine wp_region_noPanic ?_
   refine wp_region_held_drew (S:=fun w'=>w'.heap[w1.heap.size]? =some (.cells (iA (kbL b)) 316 (0,0))) (by kernel_rfl) ?_ (fun hHeld=>?_)
   ·exact hzt
   refine MG 0 ?_ ?_ (by assumption) ?_
   rotate_left
   ·(intro w hSw;(try dsimp only at hSw);go_simp;try with_reducible rfl)
   try simp only[Act.put,aS]
   refine wpAnyH_take (i:=1) (v:=.agg (iA (kbL b))) rfl (by kernel_rfl) (by kernel_rfl) (by kernel_rfl) (fun _ _ _ h=>h) (aU (by kernel_rfl) 316 (.tmp 7) rfl w1.heap.size rfl 316 (iA (kbL b)) (0,0) _ (fun w h=>h) Tryz.underlying316 rfl hi316) (by assumption) ?_
   try simp only[Act.put,aS]
   refine MG 3 ?_ ?_ (by assumption) ?_
   rotate_left
   ·(intro w hSw;(try dsimp only at hSw);go_simp;try with_reducible rfl)
   try simp only[Act.put,aS]
   refine MG 4 ?_ ?_ (by assumption) ?_
   rotate_left
   ·(intro w hSw;(try dsimp only at hSw);go_simp;try with_reducible rfl)
   try simp only[Act.put,aS]
   refine MG 5 ?_ ?_ (by assumption) ?_
   rotate_left
   ·(intro w hSw;(try dsimp only at hSw);go_simp;try with_reducible rfl)
   try simp only[Act.put,aS]
   refine MG 7 ?_ ?_ (by assumption) ?_
   rotate_left
   ·(intro w hSw;(try dsimp only at hSw);go_simp;try with_reducible rfl)
   try simp only[Act.put,aS]
   refine MG 8 ?_ ?_ (by assumption) ?_
   rotate_left
   ·(intro w hSw;(try dsimp only at hSw);go_simp;try with_reducible rfl)
   try simp only[Act.put,aS]
   refine MG 9 ?_ ?_ (by assumption) ?_
   rotate_left
   ·(intro w hSw;(try dsimp only at hSw);go_simp;try with_reducible rfl)
   try simp only[Act.put,aS]
   refine wpAnyH_ready (rs:=[2,6,10]) (by kernel_rfl) (by simp) ?_
   refine AllReadyH.cons rfl (fun K hK=>?_) ?_
   ·rw[if_pos (by kernel_rfl)]
    refine wp_buildSlice 208 316 1 _ rfl (iA (kbL b)) ie (.agg gu) Tryz.underlying208 hie hiz hiS hiP (Eq.trans (congrArg (Instr.fill _ _) (show _=[(0,Value.agg (iA (kbL b)))] by kernel_rfl)) HFill) ?_
    refine hK.out _ _ ?_ (fun hHeld=>?_)
    ·(try dsimp only);exact(heap_alloc_old _ _ hw1W).trans hHeld
    clear hK K
    try simp only[Act.put,aS]
    refine wpAnyH_ready (rs:=[6,10]) (by kernel_rfl) (by simp) ?_
    refine AllReadyH.cons rfl (fun K hK=>?_) ?_
    ·go_simp
     refine hK.out _ _ ?_ (fun hHeld=>?_)
     ·(try dsimp only);exact hHeld
     clear hK K
     try simp only[Act.put,aS]
     refine wpAnyH_ready (rs:=[10]) (by kernel_rfl) (by simp) ?_
     refine AllReadyH.cons rfl (fun K hK=>?_) ?_
     ·go_simp
      refine hK.out _ _ ?_ (fun hHeld=>?_)
      ·(try dsimp only);exact hHeld
      clear hK K
      try simp only[Act.put,aS]
      refine MG 11 ?_ ?_ (by assumption) ?_
      rotate_left
      ·(intro w hSw;(try dsimp only at hSw);go_simp;try with_reducible rfl)
      try simp only[Act.put,aS]
      refine wpAnyH_take (i:=12) (v:=.int .i64 ((M:Nat):Int)) rfl (by kernel_rfl) (by kernel_rfl) (by kernel_rfl) (fun _ _ _ h=>h) (Or.inl ⟨by kernel_rfl,?_⟩) (by assumption) ?_
      ·(intro w hSw;(try dsimp only at hSw);go_simp;try with_reducible rfl)
      try simp only[Act.put,aS]
      refine wpAnyH_take (i:=13) (v:=.slice ao M cap) rfl (by kernel_rfl) (by kernel_rfl) (by kernel_rfl) (fun _ _ _ h=>h) (fB (by kernel_rfl) 208 (.tmp 68) (.tmp 74) rfl rfl rfl (fun w=>iZ ao hao u.kept.length cap M hMc hcm w)) (by assumption) ?_
      try simp only[Act.put,aS]
      refine wpAnyH_ready (rs:=[14]) (by kernel_rfl) (by simp) ?_
      refine AllReadyH.cons rfl (fun K hK=>?_) AllReadyH.nil
      rw[if_pos (by kernel_rfl)]
      refine fP (.tmp 64) (.tmp 75) 208 208 rfl rfl rfl hrun ?_
      refine hK.out _ _ ?_ (fun hHeld=>?_)
      ·(try dsimp only);exact(hbw.block _ hw1W).trans (show W3.drew.heap[w1.heap.size]? =_ from hzt)
      clear hK K
      try simp only[Act.put,aS]
      refine MG 15 ?_ ?_ (by assumption) ?_
      rotate_left
      ·(intro w hSw;(try dsimp only at hSw);go_simp;try with_reducible rfl)
      try simp only[Act.put,aS]
      refine MG 16 ?_ ?_ (by assumption) ?_
      rotate_left
      ·(intro w hSw;(try dsimp only at hSw);go_simp;try with_reducible rfl)
      try simp only[Act.put,aS]
      refine wpAnyH_ready (rs:=[17]) (by kernel_rfl) (by simp) ?_
      refine AllReadyH.cons rfl (fun K hK=>?_) AllReadyH.nil
      go_simp
      refine hK.out _ _ ?_ (fun hHeld=>?_)
      ·(try dsimp only);exact(heap_setCell_other _ ⟨C.cb,57,none⟩ _ _ (by show w1.heap.size≠C.cb;omega)).trans hHeld
      clear hK K
      try simp only[Act.put,aS]
      refine wpAnyH_done (by kernel_rfl) ?_ _
      refine NoPanic.normal ?_
      go_wp2_with fail
      go_ret
      exact HFIN.out
     exact AllReadyH.nil
    refine AllReadyH.cons rfl (fun K hK=>?_) ?_
    ·go_simp
     refine hK.out _ _ ?_ (fun hHeld=>?_)
     ·(try dsimp only);exact hHeld
     clear hK K
     try simp only[Act.put,aS]
     refine MG 11 ?_ ?_ (by assumption) ?_
     rotate_left
     ·(intro w hSw;(try dsimp only at hSw);go_simp;try with_reducible rfl)
     try simp only[Act.put,aS]
     refine wpAnyH_take (i:=12) (v:=.int .i64 ((M:Nat):Int)) rfl (by kernel_rfl) (by kernel_rfl) (by kernel_rfl) (fun _ _ _ h=>h) (Or.inl ⟨by kernel_rfl,?_⟩) (by assumption) ?_
     ·(intro w hSw;(try dsimp only at hSw);go_simp;try with_reducible rfl)
     try simp only[Act.put,aS]
     refine wpAnyH_ready (rs:=[6]) (by kernel_rfl) (by simp) ?_
     refine AllReadyH.cons rfl (fun K hK=>?_) ?_
     ·go_simp
      refine hK.out _ _ ?_ (fun hHeld=>?_)
      ·(try dsimp only);exact hHeld
      clear hK K
      try simp only[Act.put,aS]
      refine wpAnyH_take (i:=13) (v:=.slice ao M cap) rfl (by kernel_rfl) (by kernel_rfl) (by kernel_rfl) (fun _ _ _ h=>h) (fB (by kernel_rfl) 208 (.tmp 68) (.tmp 74) rfl rfl rfl (fun w=>iZ ao hao u.kept.length cap M hMc hcm w)) (by assumption) ?_
      try simp only[Act.put,aS]
      refine wpAnyH_ready (rs:=[14]) (by kernel_rfl) (by simp) ?_
      refine AllReadyH.cons rfl (fun K hK=>?_) AllReadyH.nil
      rw[if_pos (by kernel_rfl)]
      refine fP (.tmp 64) (.tmp 75) 208 208 rfl rfl rfl hrun ?_
      refine hK.out _ _ ?_ (fun hHeld=>?_)
      ·(try dsimp only);exact(hbw.block _ hw1W).trans (show W3.drew.heap[w1.heap.size]? =_ from hzt)
      clear hK K
      try simp only[Act.put,aS]
      refine MG 15 ?_ ?_ (by assumption) ?_
      rotate_left
      ·(intro w hSw;(try dsimp only at hSw);go_simp;try with_reducible rfl)
      try simp only[Act.put,aS]
      refine MG 16 ?_ ?_ (by assumption) ?_
      rotate_left
      ·(intro w hSw;(try dsimp only at hSw);go_simp;try with_reducible rfl)
      try simp only[Act.put,aS]
      refine wpAnyH_ready (rs:=[17]) (by kernel_rfl) (by simp) ?_
      refine AllReadyH.cons rfl (fun K hK=>?_) AllReadyH.nil
      go_simp
      refine hK.out _ _ ?_ (fun hHeld=>?_)
      ·(try dsimp only);exact(heap_setCell_other _ ⟨C.cb,57,none⟩ _ _ (by show w1.heap.size≠C.cb;omega)).trans hHeld
      clear hK K
      try simp only[Act.put,aS]
      refine wpAnyH_done (by kernel_rfl) ?_ _
      refine NoPanic.normal ?_
      go_wp2_with fail
      go_ret
      exact HFIN.out
     exact AllReadyH.nil
    exact AllReadyH.nil
   refine AllReadyH.cons rfl (fun K hK=>?_) ?_
   ·go_simp
    refine hK.out _ _ ?_ (fun hHeld=>?_)
    ·(try dsimp only);exact hHeld
    clear hK K
    try simp only[Act.put,aS]
    refine wpAnyH_ready (rs:=[2,10]) (by kernel_rfl) (by simp) ?_
    refine AllReadyH.cons rfl (fun K hK=>?_) ?_
    ·rw[if_pos (by kernel_rfl)]
     refine wp_buildSlice 208 316 1 _ rfl (iA (kbL b)) ie (.agg gu) Tryz.underlying208 hie hiz hiS hiP (Eq.trans (congrArg (Instr.fill _ _) (show _=[(0,Value.agg (iA (kbL b)))] by kernel_rfl)) HFill) ?_
     refine hK.out _ _ ?_ (fun hHeld=>?_)
     ·(try dsimp only);exact(heap_alloc_old _ _ hw1W).trans hHeld
     clear hK K
     try simp only[Act.put,aS]
     refine wpAnyH_ready (rs:=[10]) (by kernel_rfl) (by simp) ?_
     refine AllReadyH.cons rfl (fun K hK=>?_) ?_
     ·go_simp
      refine hK.out _ _ ?_ (fun hHeld=>?_)
      ·(try dsimp only);exact hHeld
      clear hK K
      try simp only[Act.put,aS]
      refine MG 11 ?_ ?_ (by assumption) ?_
      rotate_left
      ·(intro w hSw;(try dsimp only at hSw);go_simp;try with_reducible rfl)
      try simp only[Act.put,aS]
      refine wpAnyH_take (i:=12) (v:=.int .i64 ((M:Nat):Int)) rfl (by kernel_rfl) (by kernel_rfl) (by kernel_rfl) (fun _ _ _ h=>h) (Or.inl ⟨by kernel_rfl,?_⟩) (by assumption) ?_
      ·(intro w hSw;(try dsimp only at hSw);go_simp;try with_reducible rfl)
      try simp only[Act.put,aS]
      refine wpAnyH_take (i:=13) (v:=.slice ao M cap) rfl (by kernel_rfl) (by kernel_rfl) (by kernel_rfl) (fun _ _ _ h=>h) (fB (by kernel_rfl) 208 (.tmp 68) (.tmp 74) rfl rfl rfl (fun w=>iZ ao hao u.kept.length cap M hMc hcm w)) (by assumption) ?_
      try simp only[Act.put,aS]
      refine wpAnyH_ready (rs:=[14]) (by kernel_rfl) (by simp) ?_
      refine AllReadyH.cons rfl (fun K hK=>?_) AllReadyH.nil
      rw[if_pos (by kernel_rfl)]
      refine fP (.tmp 64) (.tmp 75) 208 208 rfl rfl rfl hrun ?_
      refine hK.out _ _ ?_ (fun hHeld=>?_)
      ·(try dsimp only);exact(hbw.block _ hw1W).trans (show W3.drew.heap[w1.heap.size]? =_ from hzt)
      clear hK K
      try simp only[Act.put,aS]
      refine MG 15 ?_ ?_ (by assumption) ?_
      rotate_left
      ·(intro w hSw;(try dsimp only at hSw);go_simp;try with_reducible rfl)
      try simp only[Act.put,aS]
      refine MG 16 ?_ ?_ (by assumption) ?_
      rotate_left
      ·(intro w hSw;(try dsimp only at hSw);go_simp;try with_reducible rfl)
      try simp only[Act.put,aS]
      refine wpAnyH_ready (rs:=[17]) (by kernel_rfl) (by simp) ?_
      refine AllReadyH.cons rfl (fun K hK=>?_) AllReadyH.nil
      go_simp
      refine hK.out _ _ ?_ (fun hHeld=>?_)
      ·(try dsimp only);exact(heap_setCell_other _ ⟨C.cb,57,none⟩ _ _ (by show w1.heap.size≠C.cb;omega)).trans hHeld
      clear hK K
      try simp only[Act.put,aS]
      refine wpAnyH_done (by kernel_rfl) ?_ _
      refine NoPanic.normal ?_
      go_wp2_with fail
      go_ret
      exact HFIN.out
     exact AllReadyH.nil
    refine AllReadyH.cons rfl (fun K hK=>?_) ?_
    ·go_simp
     refine hK.out _ _ ?_ (fun hHeld=>?_)
     ·(try dsimp only);exact hHeld
     clear hK K
     try simp only[Act.put,aS]
     refine MG 11 ?_ ?_ (by assumption) ?_
     rotate_left
     ·(intro w hSw;(try dsimp only at hSw);go_simp;try with_reducible rfl)
     try simp only[Act.put,aS]
     refine wpAnyH_take (i:=12) (v:=.int .i64 ((M:Nat):Int)) rfl (by kernel_rfl) (by kernel_rfl) (by kernel_rfl) (fun _ _ _ h=>h) (Or.inl ⟨by kernel_rfl,?_⟩) (by assumption) ?_
     ·(intro w hSw;(try dsimp only at hSw);go_simp;try with_reducible rfl)
     try simp only[Act.put,aS]
     refine wpAnyH_take (i:=13) (v:=.slice ao M cap) rfl (by kernel_rfl) (by kernel_rfl) (by kernel_rfl) (fun _ _ _ h=>h) (fB (by kernel_rfl) 208 (.tmp 68) (.tmp 74) rfl rfl rfl (fun w=>iZ ao hao u.kept.length cap M hMc hcm w)) (by assumption) ?_
     try simp only[Act.put,aS]
     refine wpAnyH_ready (rs:=[2]) (by kernel_rfl) (by simp) ?_
     refine AllReadyH.cons rfl (fun K hK=>?_) ?_
     ·rw[if_pos (by kernel_rfl)]
      refine wp_buildSlice 208 316 1 _ rfl (iA (kbL b)) ie (.agg gu) Tryz.underlying208 hie hiz hiS hiP (Eq.trans (congrArg (Instr.fill _ _) (show _=[(0,Value.agg (iA (kbL b)))] by kernel_rfl)) HFill) ?_
      refine hK.out _ _ ?_ (fun hHeld=>?_)
      ·(try dsimp only);exact(heap_alloc_old _ _ hw1W).trans hHeld
      clear hK K
      try simp only[Act.put,aS]
      refine wpAnyH_ready (rs:=[14]) (by kernel_rfl) (by simp) ?_
      refine AllReadyH.cons rfl (fun K hK=>?_) AllReadyH.nil
      rw[if_pos (by kernel_rfl)]
      refine fP (.tmp 64) (.tmp 75) 208 208 rfl rfl rfl hrun ?_
      refine hK.out _ _ ?_ (fun hHeld=>?_)
      ·(try dsimp only);exact(hbw.block _ hw1W).trans (show W3.drew.heap[w1.heap.size]? =_ from hzt)
      clear hK K
      try simp only[Act.put,aS]
      refine MG 15 ?_ ?_ (by assumption) ?_
      rotate_left
      ·(intro w hSw;(try dsimp only at hSw);go_simp;try with_reducible rfl)
      try simp only[Act.put,aS]
      refine MG 16 ?_ ?_ (by assumption) ?_
      rotate_left
      ·(intro w hSw;(try dsimp only at hSw);go_simp;try with_reducible rfl)
      try simp only[Act.put,aS]
      refine wpAnyH_ready (rs:=[17]) (by kernel_rfl) (by simp) ?_
      refine AllReadyH.cons rfl (fun K hK=>?_) AllReadyH.nil
      go_simp
      refine hK.out _ _ ?_ (fun hHeld=>?_)
      ·(try dsimp only);exact(heap_setCell_other _ ⟨C.cb,57,none⟩ _ _ (by show w1.heap.size≠C.cb;omega)).trans hHeld
      clear hK K
      try simp only[Act.put,aS]
      refine wpAnyH_done (by kernel_rfl) ?_ _
      refine NoPanic.normal ?_
      go_wp2_with fail
      go_ret
      exact HFIN.out
     exact AllReadyH.nil
    exact AllReadyH.nil
   refine AllReadyH.cons rfl (fun K hK=>?_) ?_
   ·go_simp
    refine hK.out _ _ ?_ (fun hHeld=>?_)
    ·(try dsimp only);exact hHeld
    clear hK K
    try simp only[Act.put,aS]
    refine MG 11 ?_ ?_ (by assumption) ?_
    rotate_left
    ·(intro w hSw;(try dsimp only at hSw);go_simp;try with_reducible rfl)
    try simp only[Act.put,aS]
    refine wpAnyH_take (i:=12) (v:=.int .i64 ((M:Nat):Int)) rfl (by kernel_rfl) (by kernel_rfl) (by kernel_rfl) (fun _ _ _ h=>h) (Or.inl ⟨by kernel_rfl,?_⟩) (by assumption) ?_
    ·(intro w hSw;(try dsimp only at hSw);go_simp;try with_reducible rfl)
    try simp only[Act.put,aS]
    refine wpAnyH_ready (rs:=[2,6]) (by kernel_rfl) (by simp) ?_
    refine AllReadyH.cons rfl (fun K hK=>?_) ?_
    ·rw[if_pos (by kernel_rfl)]
     refine wp_buildSlice 208 316 1 _ rfl (iA (kbL b)) ie (.agg gu) Tryz.underlying208 hie hiz hiS hiP (Eq.trans (congrArg (Instr.fill _ _) (show _=[(0,Value.agg (iA (kbL b)))] by kernel_rfl)) HFill) ?_
     refine hK.out _ _ ?_ (fun hHeld=>?_)
     ·(try dsimp only);exact(heap_alloc_old _ _ hw1W).trans hHeld
     clear hK K
     try simp only[Act.put,aS]
     refine wpAnyH_ready (rs:=[6]) (by kernel_rfl) (by simp) ?_
     refine AllReadyH.cons rfl (fun K hK=>?_) ?_
     ·go_simp
      refine hK.out _ _ ?_ (fun hHeld=>?_)
      ·(try dsimp only);exact hHeld
      clear hK K
      try simp only[Act.put,aS]
      refine wpAnyH_take (i:=13) (v:=.slice ao M cap) rfl (by kernel_rfl) (by kernel_rfl) (by kernel_rfl) (fun _ _ _ h=>h) (fB (by kernel_rfl) 208 (.tmp 68) (.tmp 74) rfl rfl rfl (fun w=>iZ ao hao u.kept.length cap M hMc hcm w)) (by assumption) ?_
      try simp only[Act.put,aS]
      refine wpAnyH_ready (rs:=[14]) (by kernel_rfl) (by simp) ?_
      refine AllReadyH.cons rfl (fun K hK=>?_) AllReadyH.nil
      rw[if_pos (by kernel_rfl)]
      refine fP (.tmp 64) (.tmp 75) 208 208 rfl rfl rfl hrun ?_
      refine hK.out _ _ ?_ (fun hHeld=>?_)
      ·(try dsimp only);exact(hbw.block _ hw1W).trans (show W3.drew.heap[w1.heap.size]? =_ from hzt)
      clear hK K
      try simp only[Act.put,aS]
      refine MG 15 ?_ ?_ (by assumption) ?_
      rotate_left
      ·(intro w hSw;(try dsimp only at hSw);go_simp;try with_reducible rfl)
      try simp only[Act.put,aS]
      refine MG 16 ?_ ?_ (by assumption) ?_
      rotate_left
      ·(intro w hSw;(try dsimp only at hSw);go_simp;try with_reducible rfl)
      try simp only[Act.put,aS]
      refine wpAnyH_ready (rs:=[17]) (by kernel_rfl) (by simp) ?_
      refine AllReadyH.cons rfl (fun K hK=>?_) AllReadyH.nil
      go_simp
      refine hK.out _ _ ?_ (fun hHeld=>?_)
      ·(try dsimp only);exact(heap_setCell_other _ ⟨C.cb,57,none⟩ _ _ (by show w1.heap.size≠C.cb;omega)).trans hHeld
      clear hK K
      try simp only[Act.put,aS]
      refine wpAnyH_done (by kernel_rfl) ?_ _
      refine NoPanic.normal ?_
      go_wp2_with fail
      go_ret
      exact HFIN.out
     exact AllReadyH.nil
    refine AllReadyH.cons rfl (fun K hK=>?_) ?_
    ·go_simp
     refine hK.out _ _ ?_ (fun hHeld=>?_)
     ·(try dsimp only);exact hHeld
     clear hK K
     try simp only[Act.put,aS]
     refine wpAnyH_take (i:=13) (v:=.slice ao M cap) rfl (by kernel_rfl) (by kernel_rfl) (by kernel_rfl) (fun _ _ _ h=>h) (fB (by kernel_rfl) 208 (.tmp 68) (.tmp 74) rfl rfl rfl (fun w=>iZ ao hao u.kept.length cap M hMc hcm w)) (by assumption) ?_
     try simp only[Act.put,aS]
     refine wpAnyH_ready (rs:=[2]) (by kernel_rfl) (by simp) ?_
     refine AllReadyH.cons rfl (fun K hK=>?_) ?_
     ·rw[if_pos (by kernel_rfl)]
      refine wp_buildSlice 208 316 1 _ rfl (iA (kbL b)) ie (.agg gu) Tryz.underlying208 hie hiz hiS hiP (Eq.trans (congrArg (Instr.fill _ _) (show _=[(0,Value.agg (iA (kbL b)))] by kernel_rfl)) HFill) ?_
      refine hK.out _ _ ?_ (fun hHeld=>?_)
      ·(try dsimp only);exact(heap_alloc_old _ _ hw1W).trans hHeld
      clear hK K
      try simp only[Act.put,aS]
      refine wpAnyH_ready (rs:=[14]) (by kernel_rfl) (by simp) ?_
      refine AllReadyH.cons rfl (fun K hK=>?_) AllReadyH.nil
      rw[if_pos (by kernel_rfl)]
      refine fP (.tmp 64) (.tmp 75) 208 208 rfl rfl rfl hrun ?_
      refine hK.out _ _ ?_ (fun hHeld=>?_)
      ·(try dsimp only);exact(hbw.block _ hw1W).trans (show W3.drew.heap[w1.heap.size]? =_ from hzt)
      clear hK K
      try simp only[Act.put,aS]
      refine MG 15 ?_ ?_ (by assumption) ?_
      rotate_left
      ·(intro w hSw;(try dsimp only at hSw);go_simp;try with_reducible rfl)
      try simp only[Act.put,aS]
      refine MG 16 ?_ ?_ (by assumption) ?_
      rotate_left
      ·(intro w hSw;(try dsimp only at hSw);go_simp;try with_reducible rfl)
      try simp only[Act.put,aS]
      refine wpAnyH_ready (rs:=[17]) (by kernel_rfl) (by simp) ?_
      refine AllReadyH.cons rfl (fun K hK=>?_) AllReadyH.nil
      go_simp
      refine hK.out _ _ ?_ (fun hHeld=>?_)
      ·(try dsimp only);exact(heap_setCell_other _ ⟨C.cb,57,none⟩ _ _ (by show w1.heap.size≠C.cb;omega)).trans hHeld
      clear hK K
      try simp only[Act.put,aS]
      refine wpAnyH_done (by kernel_rfl) ?_ _
      refine NoPanic.normal ?_
      go_wp2_with fail
      go_ret
      exact HFIN.out
     exact AllReadyH.nil
    exact AllReadyH.nil
   exact AllReadyH.nil
end Go.Proofs.YtnicjahcgnhogaaGreatDoor
