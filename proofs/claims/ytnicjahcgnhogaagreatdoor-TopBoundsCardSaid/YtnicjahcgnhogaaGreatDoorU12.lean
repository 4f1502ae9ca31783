/- Part 13 of the walk: contracts of the program's functions, each for every input. No condition. -/
import Derived.Test.YtnicjahcgnhogaaGreatDoorU11
import Derived.Great.BuildSlice
set_option linter.unusedVariables false
set_option linter.unusedSimpArgs false
set_option maxRecDepth 100000
set_option maxHeartbeats 8000000
namespace Go.Calli
open Go.RowKit
theorem lS(l:List Int)(a b:Nat):(strOfNums l).extract a b=strOfNums ((l.take b).drop a):=by
 apply ByteArray.ext
 rw[ByteArray.data_extract]
 apply Array.ext'
 simp[strOfNums,List.extract_eq_take_drop,List.map_drop,List.map_take,List.drop_take]
def numsOf(s:ByteArray):List Int:=s.data.toList.map fun c=>(c.toNat:Int)
theorem kS(s:ByteArray):strOfNums (numsOf s)=s:=by
 apply ByteArray.ext
 apply Array.ext'
 simp only[strOfNums,numsOf,List.map_map]
 conv=>rhs;rw[←List.map_id s.data.toList]
 apply List.map_congr_left
 intro c _
 simp
theorem Ej(s:ByteArray):(numsOf s).length=s.size:=by
 unfold numsOf
 rw[List.length_map]
 rfl
theorem Em(s:ByteArray): ∀z ∈ numsOf s,0≤z∧z<256:=by
 intro z hz
 simp only[numsOf,List.mem_map] at hz
 obtain⟨c,_,rfl⟩:=hz
 have:=c.toNat_lt
 omega
theorem Gi{w:World}{B e size n:Nat}{ao:Option Addr}{k cap:Nat}{xs:List Value}(h:w.ownsRow B e size (.slice ao k cap) n xs):cap≤maxLen:=by
 rcases h.2 with⟨h1,_⟩ | ⟨g,c,cur,h1,hb,hg,hn,hc,hs,ht⟩
 ·cases h1;unfold maxLen;omega
 ·cases h1;exact hc
end Go.Calli
namespace Go.Proofs.YtnicjahcgnhogaaGreatDoor
open Go Go.RowKit Go.Calli
attribute [local irreducible] wpStill wpAnyH wpAnyS wpList Code.wp
theorem NZ{α:Type}(f:α→List Value)(size:Nat)(d:α)(ms:List α):(∀x ∈ ms,(f x).length=size)→∀(i j:Nat),i<ms.length→j<size→(ms.flatMap f)[i*size+j]? =(f (ms.getD i d))[j]? :=by
 induction ms with
 | nil=>intro hf i j hi;simp at hi
 | cons m r ih=>
  intro hf i j hi hj
  have hl:=hf m ar
  rw[List.flatMap_cons]
  cases i with
  | zero=>
   rw[Nat.zero_mul,Nat.zero_add,List.getElem?_append_left aa]
   simp
  | succ i=>
   have e:(i+1)*size=i*size+size:=Nat.succ_mul i size
   rw[List.getElem?_append_right aa,hl,show(i+1)*size+j - size=i*size+j by omega,ih (fun x hx=>hf x (by simp[hx])) i j (by simpa using hi) hj]
   simp
theorem sG{α:Type}(f:α→List Value)(size:Nat)(ms:List α):(∀x ∈ ms,(f x).length=size)→(ms.flatMap f).length=ms.length*size:=by
 induction ms with
 | nil=>intro _;simp
 | cons m r ih=>intro hf;rw[List.flatMap_cons,List.length_append,ih (fun x hx=>hf x (by simp[hx])),hf m ar,List.length_cons,Nat.succ_mul];omega
theorem yB{w:World}{g n cap:Nat}{L:List Kb}(h:w.ownsRow 0 316 21 (.slice (some ⟨g,0,none⟩) n cap) n (L.flatMap kbV))(I: ∀b ∈ L,b.Ok)(hl:L.length=n){j o:Nat}(hj:j<n)(ho:o<21){v:Value}(hv:(kbV (L.getD j kb0))[o]? =some v):w.cell? ⟨g,j*21+o,none⟩=some v:=by
 have:=h.cells (g:=g) rfl (j*21+o) v (by rw[NZ kbV 21 kb0 L (fun b hb=>jZ (I b hb)) j o aa ho];exact hv)
 rwa [add0,Nat.zero_add] at this
theorem qg{w:World}{g n cap:Nat}{L:List Kb}(h:w.ownsRow 0 316 21 (.slice (some ⟨g,0,none⟩) n cap) n (L.flatMap kbV))(I: ∀b ∈ L,b.Ok)(hl:L.length=n){j:Nat}(hj:j<n):w.rangeAt g (j*21) (kbV (L.getD j kb0)):=fun o v hv=>by
 have ho:o<21:=by
  have:=(List.getElem?_eq_some_iff.1 hv).1
  rwa [jZ (I _ (by rw[show L.getD j kb0=L[j]'(by omega) by simp[List.getD,show j<L.length by omega]];exact List.getElem_mem _))] at this
 exact yB h I hl hj ho hv
theorem zD{P:Program}(T e:TypeId)(hT:P.underlying T=some (.slice e))(size:Nat)(I:(P.info? e).map (·.size)=some size)(g len cap lo hi:Nat)(h1:lo≤hi)(h2:hi≤cap)(h3:cap≤maxLen)(w:World):
  (Instr.slice T (.slice (some ⟨g,0,none⟩) len cap) (some (.int .i64 (lo:Int))) (some (.int .i64 (hi:Int))) none).run P w= .ok (.slice (some (if cap=lo then⟨g,0,none⟩ else⟨g,lo*size,none⟩)) (hi - lo) (cap - lo)) w:=by
 have he:P.elem T=e:=by simp[Program.elem,hT]
 unfold maxLen at h3
 rw[run_slice_lh w T (some ⟨g,0,none⟩) len cap (by rw[he];exact hT) .i64 .i64 lo hi aa aa aa,he]
 have hs:(sizeOf e).run P w= .ok size w:=by
  cases J:P.info? e with
  | none=>rw[J] at I;cases I
  | some i=>rw[J] at I;simp at I;simp[sizeOf,typeInfo,J,I]
 rw[hs]
 simp[Result.andThen,sliced,add0]
 split<;>rfl
theorem aN.next{X:Fx}{σ:Own}{w:World}{B:Bk}{K:Nat}{f:Fe}(h:aN X σ w B K f):aN X σ w B (K+1) f:=⟨h.row,h.ca,h.bk,h.tb,h.tf,h.n1,h.cok,h.lim.mono aa,h.img⟩
theorem FeB.next{K:Nat}{f:Fe}(h:FeB K f):FeB (K+1) f:=⟨h.f0,by have:=h.f1;omega,h.l0,by have:=h.l1;omega⟩
theorem nK{a b:Nat}(h:¬a=b):((a:Int)==(b:Int))=false:=by
 rw[beq_eq_false_iff_ne]
 intro e
 exact h (Int.ofNat.inj e)
theorem Ey{w:World}{g n cap:Nat}{L:List Kb}(h:w.ownsRow 0 316 21 (.slice (some ⟨g,0,none⟩) n cap) n (L.flatMap kbV))(hl:L.length=n){j:Nat}(hj:j<n): ∃T:List Value,w.heap[g]? =some (.cells ((L.take j).flatMap kbV++(kbV (L.getD j kb0)++((L.drop (j+1)).flatMap kbV++T))).toArray 316 (0,0))∧((L.take j).flatMap kbV++(kbV (L.getD j kb0)++((L.drop (j+1)).flatMap kbV++T))).length=cap*21:=by
 rcases h.2 with⟨e1,e2⟩ | ⟨g',cap',cur,e1,_,hg,R,U,I,J⟩
 ·omega
 ·cases e1
  have e:(L.take j).flatMap kbV++(kbV (L.getD j kb0)++((L.drop (j+1)).flatMap kbV++cur.toList.drop (n*21)))=cur.toList:=by
   have e2:L.flatMap kbV=(L.take j).flatMap kbV++(kbV (L.getD j kb0)++(L.drop (j+1)).flatMap kbV):=by
    conv=>lhs;rw[←List.take_append_drop j L,List.flatMap_append,List.drop_eq_getElem_cons (show j<L.length by omega),List.flatMap_cons]
    rw[show L.getD j kb0=L[j]'(by omega) by simp[List.getD,show j<L.length by omega]]
   rw[←List.append_assoc (kbV _),←List.append_assoc,←e2,←J,List.take_append_drop]
  refine⟨cur.toList.drop (n*21),?_,?_⟩
  ·rw[e];simpa using hg
  ·rw[e];simpa using I
theorem Eg{w:World}{g cap:Nat}{L:List Kb}{T:List Value}(I: ∀b ∈ L,b.Ok)(h:w.heap[g]? =some (.cells (L.flatMap kbV++T).toArray 316 (0,0)))(hl:(L.flatMap kbV++T).length=cap*21)(hc:cap≤maxLen):w.ownsRow 0 316 21 (.slice (some ⟨g,0,none⟩) L.length cap) L.length (L.flatMap kbV):=by
 have hf:=sG kbV 21 L (fun b hb=>jZ (I b hb))
 rw[List.length_append,hf] at hl
 exact⟨hf,.inr ⟨g,cap,_,rfl,Nat.zero_le _,h,aa,hc,by simp[hf];omega,by simp[←hf]⟩⟩
theorem aZ{P:Program}{ops:Array Oper}{S:World→Prop}{op:Oper}{a:Act}(hw:Region.wanted op (yielded ops a.tmps)=true)(ty:TypeId)(x:Operand)(ho:op.op= .load ty x)(g:Nat)(hx:a.eval x= .pointer (some ⟨g,0,none⟩))(t:TypeId)(cs:Array Value)(fr:Nat×Nat)(d:TypeDesc)(hS: ∀w,S w→w.heap[g]? =some (.cells cs t fr))(hu:P.underlying ty=some d)(hd:(match d with | .struct _ | .array _ _=>true | _=>false)=true)(hi:(P.info? ty).map (·.size)=some cs.size):YieldsIf P ops S op (.agg cs) a:=
 .inl ⟨hw,fun w I=>by
  unfold execOp
  simp only[ho,hx,Instr.loadAt,Instr.sureAddr,Sem.run_bind,Sem.run_pure,Result.andThen_ok,run_loadVar_row w g t ty cs fr d (hS w I) hu hd hi]⟩
theorem fM{P:Program}{ops:Array Oper}{S:World→Prop}{o:Oper}{a:Act}(hw:Region.wanted o (yielded ops a.tmps)=true)(T:TypeId)(x h:Operand)(ho:o.op= .slice T x none (some h) none){u k v:Value}(hx:a.eval x=u)(hh:a.eval h=k)(hr: ∀w,(Instr.sliceAt T u none (some k) none).run P w= .ok v w):YieldsIf P ops S o v a:=
 .inl ⟨hw,fun w _=>by
  unfold execOp
  simp only[ho,hx,hh,Option.map_none,Option.map_some,Sem.run_bind,Sem.run_pure,hr,Result.andThen_ok]⟩
theorem jw(ao:Option Addr)(h0: ∀a,ao=some a→a.off=0∧a.spot=none)(n cap m:Nat)(hm:m≤cap)(hc:cap≤maxLen)(w:World):(Instr.sliceAt 208 (.slice ao n cap) none (some (.int .i64 (m:Int))) none).run Tryz.prog w= .ok (.slice ao m cap) w:=by
 unfold maxLen at hc
 have he:Tryz.prog.elem 208=316:=af
 have hu:Tryz.prog.underlying 208=some (.slice (Tryz.prog.elem 208)):=by rw[he];exact Tryz.underlying208
 have h1:=run_sliceAt_slice (P:=Tryz.prog) (w:=w) 208 (.slice ao n cap) none (some (.int .i64 (m:Int))) none hu
 rw[h1,run_slice_h w 208 ao n cap hu .i64 (m:Int) aa aa,he]
 have hs:(sizeOf 316).run Tryz.prog w= .ok 21 w:=af
 rw[hs]
 cases ao with
 | none=>simp[Result.andThen,sliced]
 | some a=>
  obtain⟨e1,e2⟩:=h0 a rfl
  simp[Result.andThen,sliced]
  intro _
  simp[Addr.add]
theorem Gw:(Tryz.prog.info? 316).map (fun i=>(i.zero,i.size,i.bytes))=some (some (.agg gU),21,168):=af
theorem N7(b:Kb)(hb:b.Ok):Instr.fill (fun i=>some (i*21,21)) ((Array.range (1*21)).map ((Value.agg gU).cells[· %(Value.agg gU).cells.size]!)) [(0,.agg (iA (kbL b)))]=some (iA (kbL b)):=by
 obtain⟨n,wv,g⟩:=b
 obtain⟨h1,h2⟩:=hb
 simp only at h1 h2
 obtain⟨a0,a1,a2,a3,a4,a5,a6,a7,a8,a9,a10,a11,a12,a13,a14,a15,rfl⟩:=o5 h1
 obtain⟨b0,b1,b2,b3,rfl⟩:=vO h2
 kernel_rfl
theorem gB{P:Program}{w w':World}{o:Oper}{a:Act}{K:Act→World→Prop}{Q:Exit→Act→World→Prop}(s x:Operand)(t u:TypeId)
  (ho:o.op= .call {callee:=.builtin .append,args:=#[s,x],argTypes:=#[t,u]}) {v v' z:Value} (hs:a.eval s=v) (hx:a.eval x=z) (hr:(Builtin.append_ #[t,u] o.type #[v,z]).run P w= .ok v' w') (hK:K (a.put o.dst v') w'):Oper.wp P o a w K Q:=by
 unfold Oper.wp
 simp[execOp,ho,resolve,invoke,builtin,hs,hx,hr,Result.andThen]
 exact hK
theorem Fb(w:World)(b:Kb)(hb:b.Ok)(ao:Option Addr)(cap:Nat)(L:List Kb)(o: ∀x ∈ L,x.Ok)(J:w.ownsRow 0 316 21 (.slice ao L.length cap) L.length (L.flatMap kbV))(m:Nat)(hm:m≤L.length)(h4:L.length≤4)(ty:TypeId):
  ∃v' w',(Builtin.append_ #[208,208] ty #[.slice (some ⟨w.heap.size,0,none⟩) 1 1,.slice ao m cap]).run Tryz.prog (w.alloc (.cells (iA (kbL b)) 316))= .ok v' w'∧w'.ownsRow w.heap.size 316 21 v' (1+m) (kbV b++(L.take m).flatMap kbV)∧Below w.heap.size w w':=by
 obtain⟨i,hi,hz,hs,A0⟩:=info_parts Gw
 have A1:=jZ hb
 have I:(w.alloc (.cells (iA (kbL b)) 316)).ownsRow w.heap.size 316 21 (.slice (some ⟨w.heap.size,0,none⟩) 1 1) 1 (kbV b):=
  ⟨aa,.inr ⟨_,1,_,rfl,Me,L9 _ _,Me,aE,by rw[yD];show(kbV b).toArray.size=_;simp[A1],by rw[yD,List.toList_toArray];exact List.take_of_length_le (by show(kbV b).length≤_;omega)⟩⟩
 cases ao with
 | none=>
  have hL:L.length=0:=by
   rcases J.2 with⟨_,h⟩ | ⟨g,c,cur,h,_⟩
   ·exact h
   ·cases h
  obtain rfl:m=0:=aa
  refine⟨_,_,jq (P:=Tryz.prog) _ 208 ty 316 i Tryz.underlying208 hi I cap,by simpa using I,ae _ _⟩
 | some ad=>
  obtain⟨g,rfl⟩: ∃g,ad=⟨g,0,none⟩:=by
   rcases J.2 with⟨h,_⟩ | ⟨g,c,cur,h,_⟩
   ·cases h
   ·cases h;exact⟨g,rfl⟩
  have A2: ∀x ∈ L.take m,x.Ok:=fun x hx=>o x (List.mem_of_mem_take hx)
  have R:=sG kbV 21 (L.take m) (fun x hx=>jZ (A2 x hx))
  rw[List.length_take,Nat.min_eq_left hm] at R
  have U:L.flatMap kbV=(L.take m).flatMap kbV++(L.drop m).flatMap kbV:=by
   rw[←List.flatMap_append,List.take_append_drop]
  obtain⟨v',w',hr,h2,h3,_⟩:=run_append_own (P:=Tryz.prog) (w.alloc (.cells (iA (kbL b)) 316)) w.heap.size 208 ty 316 i (.agg gU) 21 168 Tryz.underlying208 hi hz hs A0 af aa _ 1 (kbV b) I ⟨g,0,none⟩ m cap ((L.take m).flatMap kbV) R (fun j u hu=>(J.alloc _).cells (g:=g) rfl j u (by rw[U,List.getElem?_append_left (List.getElem?_eq_some_iff.1 hu).1];exact hu)) (fun v hv=>by
   obtain⟨x,_,hx⟩:=List.mem_flatMap.1 hv
   exact zS _ v hx) aE aa ar
  refine⟨v',w',hr,h2,?_⟩
  exact((ag.refl (fun k=>k=w.heap.size) w).alloc _ |>.grown h3 fun k hk=>.inr (by cases hk;rfl)).aW Me (fun k hk e=>aa)
def lI(B:Bk)(f f':Fe)(m:Mt)(ch n:Nat)(u u':Ku):Prop:=
 (∃i,i<u.kept.length∧(u.kept.getD i kb0).n=n∧(∀j,j<i→(u.kept.getD j kb0).n≠n)∧u'={u with kept:=u.kept.getD i kb0::(u.kept.take i++u.kept.drop (i+1))}∧f'=f)∨
 ((∀j,j<u.kept.length→(u.kept.getD j kb0).n≠n)∧∃u1 b R,pV B f.c m ch n u u1 b R∧b.Ok∧u'={u1 with kept:=b::u.kept.take 3}∧f'.c=R.c∧f'.fr=f.fr+1)
def BlkP(X:Fx)(σ:Own)(B:Bk)(K:Nat)(f:Fe)(C:Kx)(u:Ku)(n:Nat)(w:World)(e:Ending)(w':World):Prop:=∃(g cap:Nat)(u':Ku)(lv:Value)(σ':Own)(f':Fe),e= .returned (.pointer (some ⟨g,0,none⟩))∧lI B f f' (B.dir.getD C.i m0) C.ch n u u'∧0<u'.kept.length∧(u'.kept.getD 0 kb0).n=n∧aN X σ' w' B (K+1) f'∧FeB (K+1) f'∧dO X.fb C σ' w' (.slice (some ⟨g,0,none⟩) u'.kept.length cap) lv u'∧ag (FC σ C.t) w w'∧Ext σ σ' w.heap.size
theorem yP(X:Fx)(σ:Own)(B:Bk)(K:Nat)(hK:K≤500000)(f:Fe)(hf:FeB K f)(C:Kx)(hC:KOk B C)(kv lv:Value)(u:Ku)(I5:0≤u.fr)(I6:u.fr≤K)(I7:u.lost.length≤K)(n:Nat)(hn:n<aO C.len)(w:World)(h:aN X σ w B K f)(A1:dO X.fb C σ w kv lv u):Calls Tryz.prog 209 #[.pointer (some ⟨C.cb,0,none⟩),.int .i64 n] w (BlkP X σ B K f C u n w):=by
 obtain⟨c53,c54,c55,c56,c57,c58,c59,f57,f58,f59⟩:=gK A1.p A1.row
 obtain⟨ao,cap,rfl⟩:=dh A1.kept
 have C9: ∀j,j<u.kept.length→∃g,ao=some ⟨g,0,none⟩∧w.cell? ⟨g,j*21,none⟩=some (.int .i64 ((u.kept.getD j kb0).n:Int)):=fun j hj=>by
  rcases A1.kept.2 with⟨e1,e2⟩ | ⟨g,cap',cur,e1,_⟩
  ·omega
  ·cases e1
   exact⟨g,rfl,yB A1.kept A1.ok rfl hj (o:=0) aa (by simp[kbV,kbL,iL])⟩
 have h4:=A1.k4
 have HC:=MI C9
 have HH:=MI h
 have HU:=MI A1
 clear C9 h A1
 go_enter Tryz.func209,Tryz.ntmps209
 go_wp2_with fail
 go_loop [13] (fun v=>∃j:Nat,j≤u.kept.length∧v= .int .i64 (j:Int)∧∀i,i<j→(u.kept.getD i kb0).n≠n) (fun v=>u.kept.length - (intOf v).toNat)
 case atStart=>exact⟨0,aa,rfl,fun i hi=>aa⟩
 case round=>
  obtain⟨j,hj,rfl,F1⟩:=hrel
  have D3:=MI F1
  clear F1
  by_cases B2:j<u.kept.length
  ·obtain⟨g,rfl,hc⟩:=HC.out j B2
   by_cases he:(u.kept.getD j kb0).n=n
   ·rw[he] at hc
    have F2:=qg HU.out.kept HU.out.ok rfl B2
    have F3:(u.kept.getD j kb0).Ok:=HU.out.ok _ (by rw[show u.kept.getD j kb0=u.kept[j] by simp[List.getD,B2]];exact List.getElem_mem _)
    have B3:=jZ F3
    have B4:(kbL (u.kept.getD j kb0)).length=21:=by have:=B3;unfold kbV at this;rwa [bU] at this
    have I0:u.kept.length≤cap:=by
     rcases HU.out.kept.2 with⟨e1,e2⟩ | ⟨g',cap',cur,e1,_,_,h1,_⟩
     ·omega
     ·cases e1;exact h1
    have A8:=Gi HU.out.kept
    unfold maxLen at A8
    generalize hX:u.kept.getD j kb0=x at*
    have HX:=MI hX
    have F4:=MI he
    clear hX he
    have A0:(Tryz.prog.info? 316).map (·.size)=some (iA (kbL x)).size:=by rw[az,B4];kernel_rfl
    have E9:(Tryz.prog.info? 316).map (·.size)=some (kbV x).length:=by rw[B3];kernel_rfl
    have B6:gU.size=(iA (kbL x)).size:=by rw[az,B4];kernel_rfl
    go_upto_region 6 with(first
     | (with_reducible refine MC 316 31 ?_;refine wpList_load_mid rfl 316 (.tmp 31) rfl g (j*21) rfl (kbV x) _ F2 Tryz.underlying316 rfl E9 ?_;rw[show(kbV x).toArray=iA (kbL x) from rfl])
     | (with_reducible refine MF 316 6 32 ?_;rw[←oO];refine wpList_store_row rfl 316 (.tmp 6) (.tmp 32) rfl _ (iA (kbL x)) rfl rfl 316 gU (L9 _ _) A0 B6 (bV _) ?_))
    have A2:=below_setRow (ae w (.cells gU 316)) Me (iA (kbL x))
    have I8:=MI (HH.out.aj A2)
    have A3:=MI (HU.out.aj A2)
    have B7:=Md (iA (kbL x)) (L9 w (.cells gU 316))
    have I9:=MI A2
    have L1:g<w.heap.size:=gX HU.out.kept rfl
    clear A2 HC F2 hc c53 c54 c55 c56 c57 c58 c59 f57 f58 f59
    generalize (w.alloc (.cells gU 316)).setRow w.heap.size (iA (kbL x))=W1 at*
    obtain⟨T,B5,F5⟩:=Ey A3.out.kept rfl B2
    rw[HX.out] at B5 F5
    obtain⟨c53,c54,c55,c56,c57,c58,c59,f57,f58,f59⟩:=gK A3.out.p A3.out.row
    have F6: ∀b ∈ u.kept.take j,b.Ok:=fun b hb=>HU.out.ok b (List.mem_of_mem_take hb)
    have A9:=sG kbV 21 (u.kept.take j) (fun b hb=>jZ (F6 b hb))
    have J0: ∀b ∈ u.kept.drop (j+1),b.Ok:=fun b hb=>HU.out.ok b (List.mem_of_mem_drop hb)
    have F7:(u.kept.take j).length=j:=by rw[List.length_take];omega
    rw[F7] at A9
    generalize hA:(u.kept.take j).flatMap kbV=A at*
    have HA:=MI hA
    clear hA
    have A4:(Tryz.prog.info? 316).map (·.size)=some 21:=af
    have J1: ∀v ∈ A,v.oneCell'=true:=fun v hv=>by
     rw[←HA.out] at hv
     obtain⟨b,_,hb⟩:=List.mem_flatMap.1 hv
     exact zS _ v hb
    have F8:=ik [] A (kbV x++((u.kept.drop (j+1)).flatMap kbV++T)) B5
    have F9:=MI B5
    have G0:(A++kbV x).length=j*21+21:=by rw[List.length_append,A9,B3]
    have C5:((A++kbV x).take 21).length=21:=by rw[List.length_take,G0];omega
    have hold:((A++kbV x).drop 21).length=A.length:=by rw[List.length_drop,G0,A9];omega
    have D4: ∀i,i<A.length→(W1.drew.cell? ⟨g,21+i,none⟩).isSome=true∧W1.drew.frozen? ⟨g,21+i,none⟩=false:=fun i hi=>rQ (w:=W1.drew) B5 21 A.length (by simp only[List.length_append,A9,B3];omega) i hi
    have C6:(W1.drew.setCells g 21 A).heap[g]? =some (.cells ((A++kbV x).take 21++(A++((u.kept.drop (j+1)).flatMap kbV++T))).toArray 316 (0,0)):=by
     have:=kT (w:=W1.drew) (b:=g) (T:=316) ((A++kbV x).take 21) ((A++kbV x).drop 21) ((u.kept.drop (j+1)).flatMap kbV++T) A (by
      rw[←List.append_assoc ((A++kbV x).take 21),List.take_append_drop,List.append_assoc];exact B5) hold
     rwa [C5] at this
    dsimp only[Act.put]
    go_cut [46] (fun v wx=>wx.heap[g]? =some (.cells ((A++kbV x).take 21++(A++((u.kept.drop (j+1)).flatMap kbV++T))).toArray 316 (0,0))∧ag (fun k=>k=g) W1 wx)
    case first=>
     by_cases h0:j=0
     ·subst h0
      obtain rfl:A=[]:=List.eq_nil_of_length_eq_zero (by rw[A9])
      have D5: ∃a2,∀w,(Instr.slice 208 (.slice (some ⟨g,0,none⟩) u.kept.length cap) (some (.int .i64 1)) (some (.int .i64 1)) none).run Tryz.prog w= .ok (.slice (some a2) 0 (cap - 1)) w:=
       ⟨_,fun w=>zD (P:=Tryz.prog) 208 316 Tryz.underlying208 21 A4 g u.kept.length cap 1 1 aa aa aE w⟩
      have L2:IntKind.i64.wrap 1=1:=rfl
      obtain⟨a2,D5⟩:=D5
      go_wp2_with fail
      go_still_tail 13,af
      repeat still_step
      try refine wpStill_nil ?_
      change wpList _ _ _ _ _ W1.drew
      refine nX rfl (.tmp 39) (.tmp 45) 208 208 rfl rfl rfl (xu (P:=Tryz.prog) W1.drew 208 208 3 316 _ _ 0 (cap - 1) 0 cap 21 Tryz.underlying208 A4 rfl) ?_
      go_wp2_with fail
      go_meet
      exact⟨C6,(ag.refl (fun k=>k=g) W1).drew⟩
     ·have L3:1≤j:=aa
      have L4:¬cap=1:=aa
      have e1:IntKind.i64.wrap ((j:Int)+1)=(j:Int)+1:=IntWalk.i64_in _ aa
      have D5: ∀w,(Instr.slice 208 (.slice (some ⟨g,0,none⟩) u.kept.length cap) (some (.int .i64 1)) (some (.int .i64 ((j:Int)+1))) none).run Tryz.prog w= .ok (.slice (some ⟨g,21,none⟩) j (cap - 1)) w:=fun w=>by
       have:=xq (P:=Tryz.prog) 208 316 Tryz.underlying208 21 A4 g u.kept.length cap 1 (j+1) aa aa aE aa w
       simpa using this
      have i1:(1:Int)≤(j:Int)+1:=aa
      have i2:(j:Int)+1≤(cap:Int):=aa
      have i3:((j:Int)+1).toNat=j+1:=aa
      have i4:j≤cap:=aa
      clear h0
      go_wp2_with fail
      go_still_tail 13,af
      repeat still_step
      try refine wpStill_nil ?_
      change wpList _ _ _ _ _ W1.drew
      refine nX rfl (.tmp 39) (.tmp 45) 208 208 rfl rfl rfl (lY (P:=Tryz.prog) W1.drew 208 208 3 316 g 21 j (cap - 1) ⟨g,0,none⟩ j cap 21 j A Tryz.underlying208 A4 (Nat.min_self j) A9 (fun i v hv=>by rw[add0,Nat.zero_add];have:=F8 i v hv;simpa using this) (fun i hi=>(D4 i hi).1) (fun i hi=>(D4 i hi).2) J1) ?_
      go_wp2_with fail
      go_meet
      exact⟨C6,((ag.refl (fun k=>k=g) W1).drew).setCells A (.inr rfl) 21⟩
    case rest=>
    obtain⟨W2,rfl⟩: ∃w',w'=wc:=⟨_,rfl⟩
    obtain⟨D6,D0⟩:=hcut
    have G1:g≠C.cb:=aI F9.out A3.out.row aq
    have D7:=D0.heap A3.out.row (fun e=>G1 e.symm)
    have D8:=D0.heap B7 aa
    clear c53 c54 c55 c56 c57 c58 c59 f57 f58 f59 B5 C6 D4 hold F8
    have J2:=MI D0
    obtain⟨c53,c54,c55,c56,c57,c58,c59,f57,f58,f59⟩:=gK A3.out.p D7
    have D9:=rQ (w:=W2.drew) D6 0 (iA (kbL x)).size (by rw[az,B4,List.length_append,C5];omega)
    have D1:(W2.drew.setCells g 0 (kbV x)).heap[g]? =some (.cells (kbV x++(A++((u.kept.drop (j+1)).flatMap kbV++T))).toArray 316 (0,0)):=
     kT (w:=W2.drew) (b:=g) (T:=316) [] ((A++kbV x).take 21) (A++((u.kept.drop (j+1)).flatMap kbV++T)) (kbV x) (by rw[List.nil_append];exact D6) (by rw[C5,B3])
    have G2:ag (fun k=>k=g) W1 (W2.drew.setCells g 0 (kbV x)):=(J2.out.drew).setCells (kbV x) (.inr rfl) 0
    have G3:(W2.drew.setCells g 0 (kbV x)).heap[C.cb]? =_:=(gI (kbV x) W2.drew g 0 C.cb (Ne.symm G1)).trans D7
    have L5:0<u.kept.length:=aa
    have K7:(0:Int)<(u.kept.length:Int):=aa
    go_upto_region 7 with fail
    refine wp_region_still_tail 6 af af ?_
    simp only[List.take_succ_cons,List.take_zero,List.drop_succ_cons,List.drop_zero]
    change wpStill _ _ W2.drew _ _ _
    repeat (first | (refine mJ rfl 316 (.tmp 6) rfl w.heap.size rfl 316 (iA (kbL x)) (0,0) _ D8 Tryz.underlying316 rfl A0 ?_) | still_step)
    try refine wpStill_nil ?_
    change wpList _ _ _ _ _ W2.drew
    refine wpList_store_mid rfl 316 (.tmp 52) (.tmp 51) rfl g 0 (iA (kbL x)) rfl rfl D9 A0 (bV _) ?_
    rw[yD,List.toList_toArray,show iL (kbL x)=kbV x from rfl]
    have J3:=MI D1
    have E0:=MI G2
    have G4:=MI G3
    clear D1 G2 G3 D7 D6 D9 D8 D0 c53 c54 c55 c56 c57 c58 c59 f57 f58 f59
    generalize W2.drew.setCells g 0 (kbV x)=W3 at*
    obtain⟨c53,c54,c55,c56,c57,c58,c59,f57,f58,f59⟩:=gK A3.out.p G4.out
    dsimp only[Act.put]
    go_wp2_with fail
    go_ret
    have E1:=HU.out.ko g rfl
    have G5:=HU.out.t3
    have G6: ∀b ∈ x::(u.kept.take j++u.kept.drop (j+1)),b.Ok:=fun b hb=>by
     rcases List.mem_cons.1 hb with rfl | hb
     ·exact F3
     ·rcases List.mem_append.1 hb with hb | hb
      ·exact F6 b hb
      ·exact J0 b hb
    have G7:(x::(u.kept.take j++u.kept.drop (j+1))).length=u.kept.length:=by
     rw[List.length_cons,List.length_append,F7,List.length_drop];omega
    have U:W3.ownsRow 0 316 21 (.slice (some ⟨g,0,none⟩) (x::(u.kept.take j++u.kept.drop (j+1))).length cap) (x::(u.kept.take j++u.kept.drop (j+1))).length ((x::(u.kept.take j++u.kept.drop (j+1))).flatMap kbV):=
     Eg (T:=T) G6 (by rw[J3.out,List.flatMap_cons,List.flatMap_append,HA.out];simp only[List.append_assoc]) (by
      rw[List.flatMap_cons,List.flatMap_append,HA.out]
      simp only[List.length_append,B3,A9] at F5⊢
      omega) aE
    exact⟨g,cap,{u with kept:=x::(u.kept.take j++u.kept.drop (j+1))},lv,σ,f,rfl,.inl ⟨j,B2,by rw[HX.out];exact F4.out,fun i hi=>D3.out i hi,by rw[HX.out],rfl⟩,ar,F4.out,(I8.out.kept (E0.out.mono fun k _ e=>by rw[e,E1];omega)).next,hf.next,⟨by simp only[G7];exact G4.out,HU.out.p,HU.out.own,HU.out.t3,U,aB A3.out.lost E0.out (fun k e hs=>by
     obtain⟨cs,B0⟩:=ah A3.out.lost e
     exact aI B0 F9.out aq hs),G6,by rw[G7];exact HU.out.k4,fun k hk=>by cases hk;exact E1,HU.out.lo⟩,(ag.au I9.out Me).andThen E0.out (fun i hi e=>.inr (.inr (by rw[e];exact E1))),Ext.refl _ _⟩
   ·have q1:(((u.kept.getD j kb0).n:Int)==(n:Int))=false:=nK he
    have J4:=MI he
    clear he
    generalize hx:(u.kept.getD j kb0).n=x at*
    have HX:=MI hx
    clear hx
    go_wp2_with fail
    go_round
    case rel=>exact⟨j+1,aa,aD,fun i hi=>by
     by_cases e:i<j
     ·exact D3.out i e
     ·obtain rfl:i=j:=aa
      rw[HX.out];exact J4.out⟩
    case measure=>simp[intOf];omega
  ·obtain rfl:j=u.kept.length:=aa
   have G8:=MI (take_any X σ B K hK f hf C hC (.slice ao u.kept.length cap) lv u I5 I6 I7 n hn w HH.out HU.out)
   unfold TakP at G8
   clear B2 hj HC c53 c54 c55 c56 c57 c58 c59 f57 f58 f59
   go_upto_region 11 with(first
    | (go_at_call 230;refine G8.out.mono ?_;rintro e w1 ⟨b,R,u1,lv1,σ1,f1,rfl,hbo,E2,G9,J5,H0,H2,E3,H3,H4⟩;have B4:(kbL b).length=21:=(by have:=jZ hbo;unfold kbV at this;rwa [bU] at this);have A0:(Tryz.prog.info? 316).map (·.size)=some (iA (kbL b)).size:=(by rw[az,B4];kernel_rfl);have B6:gU.size=(iA (kbL b)).size:=(by rw[az,B4];kernel_rfl))
    | (with_reducible refine MF 316 7 61 ?_;rw[←oO];refine wpList_store_row rfl 316 (.tmp 7) (.tmp 61) rfl _ (iA (kbL b)) rfl rfl 316 gU (L9 _ _) A0 B6 (bV _) ?_))
   obtain⟨err,z,ts,-,-,-,-,H5,J6,H6,-,-⟩:=id E2
   have J7:=MI (L8 E3.row)
   have A2:=below_setRow (ae w1 (.cells gU 316)) Me (iA (kbL b))
   have H7:=MI (G9.aj A2)
   have J:=MI (E3.aj A2)
   have B7:=Md (iA (kbL b)) (L9 w1 (.cells gU 316))
   have E4:=MI A2
   have J8:=MI E2
   have J9:=MI H5
   have K0:=MI H4
   have D2:=MI H3
   have K1:=MI H0
   have I1:=MI H2
   have K2:=MI H6
   clear E2 A2 G9 E3 H5 H4 H3 H0 H2 J6 H6
   generalize (w1.alloc (.cells gU 316)).setRow w1.heap.size (iA (kbL b))=W3 at*
   obtain⟨c53,c54,c55,c56,c57,c58,c59,f57,f58,f59⟩:=gK J.out.p J.out.row
   have E5:C.cb<W3.heap.size:=L8 J.out.row
   have K8:¬C.cb=W3.heap.size:=aa
   obtain⟨ie,B8,B9,C7,-⟩:=info_parts Gw
   have C0:¬1*ie.size>2^24:=by rw[C7];decide
   have C1:¬1*ie.size=0:=by rw[C7];decide
   have C2: ∀a,ao=some a→a.off=0∧a.spot=none:=fun a ha=>by
    rcases HU.out.kept.2 with⟨e1,e2⟩ | ⟨g',cap',cur,e1,_⟩
    ·simp only[Value.slice.injEq] at e1;rw[e1.1] at ha;cases ha
    ·cases e1;cases ha;exact⟨rfl,rfl⟩
   have I0:u.kept.length≤cap:=by
    rcases HU.out.kept.2 with⟨e1,e2⟩ | ⟨g',cap',cur,e1,_,_,h1,_⟩
    ·omega
    ·cases e1;exact h1
   have A8:=Gi HU.out.kept
   obtain⟨M,hM⟩: ∃M,min u.kept.length 3=M:=⟨_,rfl⟩
   have C3:M≤cap:=aa
   have K9:(if(3:Int)<(u.kept.length:Int) then(3:Int) else(u.kept.length:Int))=((M:Nat):Int):=by split<;>omega
   have A7:w1.heap.size<W3.drew.heap.size:=L8 B7
   have E6:=J.out.kept
   rw[J9.out] at E6
   obtain⟨v',w',I2,U,E7⟩:=Fb W3.drew b hbo ao cap u.kept HU.out.ok E6 M aa HU.out.k4 208
   obtain⟨ao',cap',rfl⟩:=dh U
   obtain⟨g',rfl⟩: ∃g',ao'=some ⟨g',0,none⟩:=by
    rcases U.2 with⟨e1,e2⟩ | ⟨g',c,cur,e1,_⟩
    ·omega
    ·simp only[Value.slice.injEq] at e1;exact⟨g',e1.1⟩
   have L0:C.cb<w1.heap.size:=J7.out
   have K3:W3.heap.size≤g':=by
    rcases U.2 with⟨e1,e2⟩ | ⟨g2,c,cur,e1,h1,_⟩
    ·omega
    ·cases e1;exact h1
   have C4:=(E7.block C.cb E5).trans (show W3.drew.heap[C.cb]? =_ from J.out.row)
   have d57:=qX J.out.p C4 4 rfl
   have g57:=frozen_of_row _ _ 57 _ _ C4
   have B0:σ1 C.cb=C.t:=J.out.own
   have G5:=J.out.t3
   have K6:g'<w'.heap.size:=gX U rfl
   have H8:u.kept.take 3=u.kept.take M:=by
    by_cases h3:u.kept.length≤3
    ·rw[List.take_of_length_le h3,List.take_of_length_le aa]
    ·rw[show M=3 by omega]
   have C8:(b::u.kept.take 3).length=1+M:=by rw[List.length_cons,List.length_take];omega
   have H9:=aA w' C.cb 57 (.slice (some ⟨g',0,none⟩) (1+M) cap')
   have B1:Below W3.heap.size W3 w':=((Below.refl _ W3).drew).trans E7
   have K4:ag (fun k=>3≤σ1 k) W3 (w'.setCell ⟨C.cb,57,none⟩ (.slice (some ⟨g',0,none⟩) (1+M) cap')):=(ag.au B1 Me).setCell (p:=⟨C.cb,57,none⟩) (.inr (by show 3≤σ1 C.cb;omega)) _
   have hx:=fA σ1 (b:=g') (n:=W3.heap.size) C.t K3
   have K5:(w'.setCell ⟨C.cb,57,none⟩ (.slice (some ⟨g',0,none⟩) (1+M) cap')).heap.size=w'.heap.size:=by simp[World.setCell]
   have I3:=aB (J.out.aj B1).lost H9 (fun k e hs=>by
    obtain⟨cs,B0⟩:=ah (J.out.aj B1).lost e
    exact aI B0 C4 aq hs)
   have E8:=aB U H9 (fun k e hs=>by
    obtain⟨cs,B0⟩:=ah U e
    exact aI B0 C4 aq hs)
   have I4:Hid (BlkP X σ B K f C u n w (.returned (.pointer (some ⟨g',0,none⟩))) (w'.setCell ⟨C.cb,57,none⟩ (.slice (some ⟨g',0,none⟩) (1+M) cap'))):=
    ⟨g',cap',{u1 with kept:=b::u.kept.take 3},lv1,Go.Proofs.YtnicjahcgnhogaaGreatDoor.fU σ1 g' C.t,f1,rfl,.inr ⟨fun i hi=>D3.out i hi,u1,b,R,J8.out,hbo,rfl,K1.out,I1.out⟩,ar,K2.out,H7.out.own K4 hx (fun k hk=>by
     rw[K5]
     by_cases e:k=g'
     ·omega
     ·rw[jY σ1 _ e] at hk;have:=H7.out.tX k hk;have:=B1.size;omega),J5,⟨by simp only[C8];exact(Ag J.out.p C4).1 _,J.out.p,(hx _ E5).trans B0,G5,by
     simp only[C8]
     refine⟨?_,?_⟩
     ·rw[List.flatMap_cons,H8];exact E8.1
     ·rw[List.flatMap_cons,H8];exact E8.2.imp id (fun⟨a,b,c,d,e,f⟩=>⟨a,b,c,d,Nat.zero_le _,f⟩),I3,fun x hx=>by
     rcases List.mem_cons.1 hx with rfl | hx
     ·exact hbo
     ·exact HU.out.ok x (List.mem_of_mem_take hx),by rw[C8];omega,fun k hk=>by cases hk;exact dN σ1 g' C.t,fun k hk=>(hx k (gX J.out.lost hk)).trans (J.out.lo k hk)⟩,((D2.out.below E4.out D2.out.size).below B1 (Nat.le_trans D2.out.size E4.out.size)).setCell (p:=⟨C.cb,57,none⟩) (.inr (.inr (.inr HU.out.own))) _,K0.out.trans hx (Nat.le_trans D2.out.size E4.out.size)⟩
   have A5:Instr.fill (fun i=>some (i*ie.size,ie.size)) ((Array.range (1*ie.size)).map ((Value.agg gU).cells[· %(Value.agg gU).cells.size]!)) [(0,.agg (iA (kbL b)))]=some (iA (kbL b)):=by rw[C7];exact N7 b hbo
   dsimp only[Act.put]
   refine wp_region_noPanic ?_
   refine wp_region_held_drew (S:=fun w'=>w'.heap[w1.heap.size]? =some (.cells (iA (kbL b)) 316 (0,0))) af ?_ (fun I=>?_)
   ·exact B7
   refine ba 0 ?_
   try simp only[Act.put,aS]
   refine wpAnyH_take (i:=1) (v:=.agg (iA (kbL b))) rfl af af af (fun _ _ _ h=>h) (aZ af 316 (.tmp 7) rfl w1.heap.size rfl 316 (iA (kbL b)) (0,0) _ (fun w h=>h) Tryz.underlying316 rfl A0) aw ?_
   try simp only[Act.put,aS]
   refine ba 3 ?_
   try simp only[Act.put,aS]
   refine ba 4 ?_
   try simp only[Act.put,aS]
   refine ba 5 ?_
   try simp only[Act.put,aS]
   refine ba 7 ?_
   try simp only[Act.put,aS]
   refine ba 8 ?_
   try simp only[Act.put,aS]
   refine ba 9 ?_
   try simp only[Act.put,aS]
   refine wpAnyH_ready (rs:=[2,6,10]) af ar (AllReadyH.cons rfl (fun K hK=>?_) (AllReadyH.cons rfl (fun K hK=>?_) (AllReadyH.cons rfl (fun K hK=>?_) AllReadyH.nil)))
   rotate_right
   focus
    go_simp
    refine hK.out _ _ ?_ (fun I=>?_)
    ·(try dsimp only);exact I
    clear hK K
    try simp only[Act.put,aS]
    refine ba 11 ?_
    try simp only[Act.put,aS]
    refine wpAnyH_take (i:=12) (v:=.int .i64 ((M:Nat):Int)) rfl af af af (fun _ _ _ h=>h) (Or.inl ⟨af,?_⟩) aw ?_
    ·(intro w A6;(try dsimp only at A6);go_simp;try with_reducible rfl)
    try simp only[Act.put,aS]
    refine wpAnyH_ready (rs:=[2,6]) af ar (AllReadyH.cons rfl (fun K hK=>?_) (AllReadyH.cons rfl (fun K hK=>?_) AllReadyH.nil))
    rotate_right
    focus
     go_simp
     refine hK.out _ _ ?_ (fun I=>?_)
     ·(try dsimp only);exact I
     clear hK K
     try simp only[Act.put,aS]
     refine wpAnyH_take (i:=13) (v:=.slice ao M cap) rfl af af af (fun _ _ _ h=>h) (fM af 208 (.tmp 68) (.tmp 74) rfl rfl rfl (fun w=>jw ao C2 u.kept.length cap M C3 A8 w)) aw ?_
     try simp only[Act.put,aS]
     refine bj 2 (fun K hK=>?_)
     rw[if_pos af]
     refine wp_buildSlice 208 316 1 _ rfl (iA (kbL b)) ie (.agg gU) Tryz.underlying208 B8 B9 C0 C1 (Eq.trans (congrArg (Instr.fill _ _) (show _=[(0,Value.agg (iA (kbL b)))] by kernel_rfl)) A5) ?_
     refine hK.out _ _ ?_ (fun I=>?_)
     ·(try dsimp only);exact(heap_alloc_old _ _ A7).trans I
     clear hK K
    rotate_right
    focus
     rw[if_pos af]
     refine wp_buildSlice 208 316 1 _ rfl (iA (kbL b)) ie (.agg gU) Tryz.underlying208 B8 B9 C0 C1 (Eq.trans (congrArg (Instr.fill _ _) (show _=[(0,Value.agg (iA (kbL b)))] by kernel_rfl)) A5) ?_
     refine hK.out _ _ ?_ (fun I=>?_)
     ·(try dsimp only);exact(heap_alloc_old _ _ A7).trans I
     clear hK K
     try simp only[Act.put,aS]
     refine bj 6 (fun K hK=>?_)
     go_simp
     refine hK.out _ _ ?_ (fun I=>?_)
     ·(try dsimp only);exact I
     clear hK K
     try simp only[Act.put,aS]
     refine wpAnyH_take (i:=13) (v:=.slice ao M cap) rfl af af af (fun _ _ _ h=>h) (fM af 208 (.tmp 68) (.tmp 74) rfl rfl rfl (fun w=>jw ao C2 u.kept.length cap M C3 A8 w)) aw ?_
   rotate_right
   focus
    go_simp
    refine hK.out _ _ ?_ (fun I=>?_)
    ·(try dsimp only);exact I
    clear hK K
    try simp only[Act.put,aS]
    refine wpAnyH_ready (rs:=[2,10]) af ar (AllReadyH.cons rfl (fun K hK=>?_) (AllReadyH.cons rfl (fun K hK=>?_) AllReadyH.nil))
    rotate_right
    focus
     go_simp
     refine hK.out _ _ ?_ (fun I=>?_)
     ·(try dsimp only);exact I
     clear hK K
     try simp only[Act.put,aS]
     refine ba 11 ?_
     try simp only[Act.put,aS]
     refine wpAnyH_take (i:=12) (v:=.int .i64 ((M:Nat):Int)) rfl af af af (fun _ _ _ h=>h) (Or.inl ⟨af,?_⟩) aw ?_
     ·(intro w A6;(try dsimp only at A6);go_simp;try with_reducible rfl)
     try simp only[Act.put,aS]
     refine wpAnyH_take (i:=13) (v:=.slice ao M cap) rfl af af af (fun _ _ _ h=>h) (fM af 208 (.tmp 68) (.tmp 74) rfl rfl rfl (fun w=>jw ao C2 u.kept.length cap M C3 A8 w)) aw ?_
     try simp only[Act.put,aS]
     refine bj 2 (fun K hK=>?_)
     rw[if_pos af]
     refine wp_buildSlice 208 316 1 _ rfl (iA (kbL b)) ie (.agg gU) Tryz.underlying208 B8 B9 C0 C1 (Eq.trans (congrArg (Instr.fill _ _) (show _=[(0,Value.agg (iA (kbL b)))] by kernel_rfl)) A5) ?_
     refine hK.out _ _ ?_ (fun I=>?_)
     ·(try dsimp only);exact(heap_alloc_old _ _ A7).trans I
     clear hK K
    rotate_right
    focus
     rw[if_pos af]
     refine wp_buildSlice 208 316 1 _ rfl (iA (kbL b)) ie (.agg gU) Tryz.underlying208 B8 B9 C0 C1 (Eq.trans (congrArg (Instr.fill _ _) (show _=[(0,Value.agg (iA (kbL b)))] by kernel_rfl)) A5) ?_
     refine hK.out _ _ ?_ (fun I=>?_)
     ·(try dsimp only);exact(heap_alloc_old _ _ A7).trans I
     clear hK K
     try simp only[Act.put,aS]
     refine bj 10 (fun K hK=>?_)
     go_simp
     refine hK.out _ _ ?_ (fun I=>?_)
     ·(try dsimp only);exact I
     clear hK K
     try simp only[Act.put,aS]
     refine ba 11 ?_
     try simp only[Act.put,aS]
     refine wpAnyH_take (i:=12) (v:=.int .i64 ((M:Nat):Int)) rfl af af af (fun _ _ _ h=>h) (Or.inl ⟨af,?_⟩) aw ?_
     ·(intro w A6;(try dsimp only at A6);go_simp;try with_reducible rfl)
     try simp only[Act.put,aS]
     refine wpAnyH_take (i:=13) (v:=.slice ao M cap) rfl af af af (fun _ _ _ h=>h) (fM af 208 (.tmp 68) (.tmp 74) rfl rfl rfl (fun w=>jw ao C2 u.kept.length cap M C3 A8 w)) aw ?_
   rotate_right
   focus
    rw[if_pos af]
    refine wp_buildSlice 208 316 1 _ rfl (iA (kbL b)) ie (.agg gU) Tryz.underlying208 B8 B9 C0 C1 (Eq.trans (congrArg (Instr.fill _ _) (show _=[(0,Value.agg (iA (kbL b)))] by kernel_rfl)) A5) ?_
    refine hK.out _ _ ?_ (fun I=>?_)
    ·(try dsimp only);exact(heap_alloc_old _ _ A7).trans I
    clear hK K
    try simp only[Act.put,aS]
    refine wpAnyH_ready (rs:=[6,10]) af ar (AllReadyH.cons rfl (fun K hK=>?_) (AllReadyH.cons rfl (fun K hK=>?_) AllReadyH.nil))
    all_goals
     go_simp
     refine hK.out _ _ ?_ (fun I=>?_)
     ·(try dsimp only);exact I
     clear hK K
     try simp only[Act.put,aS]
    rotate_right
    focus
     refine ba 11 ?_
     try simp only[Act.put,aS]
     refine wpAnyH_take (i:=12) (v:=.int .i64 ((M:Nat):Int)) rfl af af af (fun _ _ _ h=>h) (Or.inl ⟨af,?_⟩) aw ?_
     ·(intro w A6;(try dsimp only at A6);go_simp;try with_reducible rfl)
     try simp only[Act.put,aS]
     refine bj 6 (fun K hK=>?_)
     go_simp
     refine hK.out _ _ ?_ (fun I=>?_)
     ·(try dsimp only);exact I
     clear hK K
    rotate_right
    focus
     refine bj 10 (fun K hK=>?_)
     go_simp
     refine hK.out _ _ ?_ (fun I=>?_)
     ·(try dsimp only);exact I
     clear hK K
     try simp only[Act.put,aS]
     refine ba 11 ?_
     try simp only[Act.put,aS]
     refine wpAnyH_take (i:=12) (v:=.int .i64 ((M:Nat):Int)) rfl af af af (fun _ _ _ h=>h) (Or.inl ⟨af,?_⟩) aw ?_
     ·(intro w A6;(try dsimp only at A6);go_simp;try with_reducible rfl)
    all_goals
     try simp only[Act.put,aS]
     refine wpAnyH_take (i:=13) (v:=.slice ao M cap) rfl af af af (fun _ _ _ h=>h) (fM af 208 (.tmp 68) (.tmp 74) rfl rfl rfl (fun w=>jw ao C2 u.kept.length cap M C3 A8 w)) aw ?_
   all_goals
    try simp only[Act.put,aS]
    refine bj 14 (fun K hK=>?_)
    rw[if_pos af]
    refine gB (.tmp 64) (.tmp 75) 208 208 rfl rfl rfl I2 ?_
    refine hK.out _ _ ?_ (fun I=>?_)
    ·(try dsimp only);exact(E7.block _ A7).trans (show W3.drew.heap[w1.heap.size]? =_ from B7)
    clear hK K
    try simp only[Act.put,aS]
    refine ba 15 ?_
    try simp only[Act.put,aS]
    refine ba 16 ?_
    try simp only[Act.put,aS]
    refine bj 17 (fun K hK=>?_)
    go_simp
    refine hK.out _ _ ?_ (fun I=>?_)
    ·(try dsimp only);exact(heap_setCell_other _ ⟨C.cb,57,none⟩ _ _ (by show w1.heap.size≠C.cb;omega)).trans I
    clear hK K
    try simp only[Act.put,aS]
    refine wpAnyH_done af ?_ _
    refine NoPanic.normal ?_
    go_wp2_with fail
    go_ret
    exact I4.out
end Go.Proofs.YtnicjahcgnhogaaGreatDoor
