/- Part 18 of the walk: contracts of the program's functions, each for every input. No condition. -/
import Derived.Test.YtnicjahcgnhogaaGreatDoorU16
set_option linter.unusedVariables false
set_option linter.unusedSimpArgs false
set_option maxRecDepth 100000
set_option maxHeartbeats 8000000
namespace Go.Proofs.YtnicjahcgnhogaaGreatDoor
open Go Go.RowKit Go.Calli
attribute [local irreducible] wpStill wpAnyH wpAnyS wpList Code.wp
theorem dY{P:Program}{w:World}{ops:Array Oper}{rest:List Oper}{o:Oper}{a:Act}{Q:Exit→Act→World→Prop}(R:o.guard=none)(s x:Operand)(t e:TypeId)(size:Nat)
  (ho:o.op= .call {callee:=.builtin .append,args:=#[s,x],argTypes:=#[t,t]}) (hu:P.underlying t=some (.slice e))
  {z:Value} {bytes:Nat} (I:(P.info? e).map (fun i=>(i.zero,i.size,i.bytes))=some (some z,size,bytes)) (U:z.cells.size=size) (j:0<size)
  (B:Nat) (v:Value) (n:Nat) (xs:List Value) (hs:a.eval s=v) (J:w.ownsRow B e size v n xs) (us:List Value) (A0:us.length=size) (hx:a.eval x= .slice (some ⟨w.heap.size,0,none⟩) 1 1) (h1: ∀u ∈ us,u.oneCell'=true)
  (A1:(n+1)*bytes≤140737488355328) (hn:n+1≤maxLen) (hB:B≤w.heap.size)
  (h: ∀v' w',w'.ownsRow B e size v' (n+1) (xs++us)→ag (fun k=>v.ownBlock=some k) w w'→(∀k,v'.ownBlock=some k→v.ownBlock=some k∨w.heap.size≤k)→wpList P ops Q rest (a.put o.dst v') w'):wpList P ops Q (o::rest) a (w.alloc (.cells us.toArray e)):=by
 obtain⟨v',w',hr,h2,h3,h4⟩:=Calli.fV (P:=P) w t o.type e size hu I U j B v n xs J us A0 h1 A1 hn hB
 refine wpList_plain R fun K hK=>?_
 unfold Oper.wp execOp
 simp only[ho,resolve,invoke,builtin,Sem.run_bind,Sem.run_pure,Result.andThen_ok,List.map_toArray,List.map_cons,List.map_nil,hs,hx,hr]
 exact hK _ _ (h v' w' h2 h3 h4)
theorem lh{P:Program}(w:World)(t ty e:TypeId)(size:Nat)(hu:P.underlying t=some (.slice e))
  {z:Value} {bytes:Nat} (U:(P.info? e).map (fun i=>(i.zero,i.size,i.bytes))=some (some z,size,bytes)) (A3:z.cells.size=size) (A4:0<size)
  (B:Nat) (v:Value) (n:Nat) (xs:List Value) (J:w.ownsRow B e size v n xs) (ao:Option Addr) (m c:Nat) (us:List Value) (o:us.length=m*size) (R: ∀a,ao=some a→∀j u,us[j]? =some u→w.cell? (a.add j)=some u) (A5:0<m→∃a,ao=some a) (h1: ∀u ∈ us,u.oneCell'=true)
  (A0:(n+m)*bytes≤140737488355328) (hn:n+m≤maxLen) (hB:B≤w.heap.size):
  ∃v' w',(Builtin.append_ #[t,t] ty #[v,.slice ao m c]).run P w= .ok v' w'∧w'.ownsRow B e size v' (n+m) (xs++us)∧ag (fun k=>v.ownBlock=some k) w w'∧(∀k,v'.ownBlock=some k→v.ownBlock=some k∨w.heap.size≤k):=by
 obtain⟨i,hi,hz,A1,A2⟩:=info_parts U
 cases ao with
 | none=>
  have hm:m=0:=by
   apply Classical.byContradiction
   intro hn
   obtain⟨a,ha⟩:=A5 aa
   cases ha
  subst hm
  have A6:us=[]:=List.eq_nil_of_length_eq_zero aa
  subst A6
  have hr:=jq (P:=P) w t ty e i hu hi J c
  exact⟨_,_,hr,by simpa using J,ag.refl _ _,fun k hk=>.inl hk⟩
 | some ad=>
  obtain⟨v',w',hr,h2,h3,_⟩:=run_append_own (P:=P) w B t ty e i z size bytes hu hi hz A1 A2 A3 A4 v n xs J ad m c us o (R ad rfl) h1 hn A0 hB
  have I:=oM (P:=P) t ty e size hu hi hz A1 B v v' n xs J ad m c us o (R ad rfl) h1 (by rw[A2];exact A0) hn hr
  refine⟨v',w',hr,h2,(ag.refl _ w).grown h3 fun k hk=>.inr hk,fun k hk=>?_⟩
  rcases I with I | I
  ·exact .inl (I▸hk)
  ·rw[I] at hk
   cases hk
   exact .inr Me
structure Rp where
 lost:List Ls
 ended:List Int
structure pM(σ:Own)(w:World)(rb:Nat)(ov lv ev:Value)(fr rd:Int)(r:Rp):Prop where
 row:w.heap[rb]? =some (.cells #[ov,lv,ev,.int .i64 fr,.int .i64 rd] 35 (0,0))
 own:σ rb=3
 lost:w.ownsRow 0 215 3 lv r.lost.length (r.lost.flatMap ny)
 ended:w.ownsRow 0 3 1 ev r.ended.length (iL r.ended)
 lo: ∀b,lv.ownBlock=some b→σ b=3
 eo: ∀b,ev.ownBlock=some b→σ b=3
theorem pM.keep{σ:Own}{w w':World}{rb:Nat}{ov lv ev:Value}{fr rd:Int}{r:Rp}(h:pM σ w rb ov lv ev fr rd r){S:Nat→Prop}(hk:ag S w w')(hS: ∀k,S k→k<w.heap.size→σ k≠3):pM σ w' rb ov lv ev fr rd r:=
 ⟨hk.heap h.row (fun e=>hS _ e (L8 h.row) h.own),h.own,aB h.lost hk (fun k e hs=>by
  obtain⟨cs,I⟩:=ah h.lost e
  exact hS k hs (L8 I) (h.lo k e)),aB h.ended hk (fun k e hs=>by
  obtain⟨cs,I⟩:=ah h.ended e
  exact hS k hs (L8 I) (h.eo k e)),h.lo,h.eo⟩
theorem pM.aj{σ:Own}{w w':World}{rb:Nat}{ov lv ev:Value}{fr rd:Int}{r:Rp}(h:pM σ w rb ov lv ev fr rd r)(hb:Below w.heap.size w w'):pM σ w' rb ov lv ev fr rd r:=h.keep (S:=fun _=>False) (ag.au hb Me) (fun _ e=>e.elim)
theorem pM.ext{σ σ':Own}{w:World}{rb:Nat}{ov lv ev:Value}{fr rd:Int}{r:Rp}(h:pM σ w rb ov lv ev fr rd r)(he:Ext σ σ' w.heap.size):pM σ' w rb ov lv ev fr rd r:=
 ⟨h.row,(he _ (L8 h.row)).trans h.own,h.lost,h.ended,fun b e=>by
  obtain⟨cs,I⟩:=ah h.lost e
  exact(he _ (L8 I)).trans (h.lo b e),fun b e=>by
  obtain⟨cs,I⟩:=ah h.ended e
  exact(he _ (L8 I)).trans (h.eo b e)⟩
def yX(B:Bk)(f f':Fe)(id:Nat)(P:Px)(p p':Pt)(a b:Int)(lo:List Ls):Prop:=∃l r v' us',yZ B f f' p.v v' p.us us' l r∧a=jI l p.l (Envp.vl p.sh p.sl)∧b=jI r p.r (Envp.vl p.sh p.sl)∧lo=iT id us' v'.m.ch∧p'={p with v:=v',us:=kJ us' v'.m.ch,sl:=Envp.nx p.sh p.sl}
def vz(P:Px)(p:Pt):Po:=if p.over then none else some (P,p)
def yY(B:Bk)(f:Fe)(y:Ye)(r:Rp):Nat→Fe→Ye→Rp→List Int→List Int→Prop
  | 0,f',y',r',L,M=>f'=f∧y'=y∧r'=r∧L=[]∧M=[]
  | k+1,f',y',r',L',M'=>∃f1 y1 r1 L M,yY B f y r k f1 y1 r1 L M∧
    ((y1.ps.getD k none=none∧f'=f1∧y'=y1∧r'=r1∧L'=L∧M'=M)∨
     (∃P p p' a b lo,y1.ps.getD k none=some (P,p)∧yX B f1 f' k P p p' a b lo∧y'={y1 with ps:=y1.ps.set k (vz P p')}∧r'=⟨r1.lost++lo,r1.ended++(if p'.over then[(k:Int)] else[])⟩∧L'=L++[a]∧M'=M++[b]))
def OneR(B:Bk)(n:Nat)(f f':Fe)(y y':Ye)(r r':Rp)(l m:Int):Prop:=∃L M,yY B f y r n f' y' r' L M∧l=jl (pK L)∧m=jl (pK M)
def FR(σ:Own)(k:Nat):Prop:=σ k=0∨σ k=2∨4≤σ k
def FG(σ:Own)(rb:Nat)(lv ev:Value)(k:Nat):Prop:=FR σ k∨k=rb∨lv.ownBlock=some k∨ev.ownBlock=some k
theorem BK(v vol sh:Int):(Lit.int .i64 (jI v vol sh)).wf=true:=by
 unfold jI rnd
 rw[if_neg aq]
 exact wrap64_wf _
theorem jv.clr{X:Fx}{P:Px}{B:Bk}{K:Nat}{σ:Own}{w w':World}{p:Pt}(h:jv X P B K σ w p){us:List Ku}(hv:gp X P.V B K σ w' p.v us)(hk:ag (FL σ P.V.T) w w'):jv X P B K σ w' {p with us:=us}:=
 ⟨hk.heap h.row (fun e=>by have:=h.o1;unfold FL at e;omega),hv,hk.heap h.ev (fun e=>by have:=h.o2;unfold FL at e;omega),h.sok,h.st,h.o1,h.o2⟩
structure Wr where
 bs:List Int
 n:Nat
 e:Int
structure ry(w:World)(wb:Nat)(bv:Value)(x:Wr):Prop where
 row:w.heap[wb]? =some (.cells #[bv,.int .i64 (x.n:Int),.int .i64 x.e] 279 (0,0))
 own:w.ownsRow 0 5 1 bv x.bs.length (x.bs.map (.int .u8))
 len:x.bs.length=(x.n+7)/8
 wf: ∀z ∈ x.bs,(Lit.int .u8 z).wf=true
def jo(v i:Nat):Int:=((v/2^i%2:Nat):Int)
def orB(bs:List Int)(d m:Nat)(b:Int):List Int:=bs.set d (bits .or .u8 (bs.getD d 0) (IntKind.u8.wrap (b*2^(7 - m))))
def IY(x:Wr):List Int:=if x.n%8=0 then x.bs++[0] else x.bs
def putB(x:Wr)(v i:Nat):Wr:=⟨orB (IY x) (x.n/8) (x.n%8) (jo v i),x.n+1,x.e⟩
def jh(x:Wr)(v:Nat):Nat→Wr
 | 0=>x
 | i+1=>jh (putB x v i) v i
theorem Gl(bs:List Int)(d m:Nat)(b:Int):(orB bs d m b).length=bs.length:=by simp[orB]
theorem own_set{w:World}{base e n:Nat}{v:Value}{xs:List Value}(h:w.ownsRow base e 1 v n xs){g cap:Nat}(hv:v= .slice (some ⟨g,0,none⟩) n cap)(i:Nat)(hi:i<n)(u:Value):(w.setCell ⟨g,i,none⟩ u).ownsRow base e 1 v n (xs.set i u):=by
 obtain⟨h0,h1⟩:=h
 rcases h1 with⟨e1,_⟩ | ⟨g',cap',cur,e1,hb,hg,I,J,R,U⟩
 ·rw[e1] at hv;cases hv
 ·rw[e1] at hv
  cases hv
  refine⟨by rw[List.length_set];exact h0,.inr ⟨g,cap,cur.setIfInBounds i u,e1,hb,Mc hg,I,J,by simpa using R,?_⟩⟩
  rw[Array.toList_setIfInBounds,List.take_set,U]
theorem wf_set{k:IntKind}{zs:List Int}(h: ∀z ∈ zs,(Lit.int k z).wf=true)(i:Nat){x:Int}(hx:(Lit.int k x).wf=true): ∀z ∈ zs.set i x,(Lit.int k z).wf=true:=fun z hz=>by
 rcases List.mem_or_eq_of_mem_set hz with h1 | h1
 ·exact h z h1
 ·rw[h1];exact hx
theorem or_wf(x y:Int):(Lit.int .u8 (bits .or .u8 x y)).wf=true:=by
 have h:bits .or .u8 x y=IntKind.u8.wrap (((BitVec.ofInt 8 x|||BitVec.ofInt 8 y).toNat:Nat):Int):=rfl
 rw[h]
 exact wf_wrap _ _
theorem ry.bit{w:World}{wb g cap n:Nat}{bs:List Int}(I:w.heap[wb]? =some (.cells #[.slice (some ⟨g,0,none⟩) bs.length cap,.int .i64 (n:Int),()] 279 (0,0)))(J:w.ownsRow 0 5 1 (.slice (some ⟨g,0,none⟩) bs.length cap) bs.length (bs.map (.int .u8)))(hl:bs.length=n/8+1)(U: ∀z ∈ bs,(Lit.int .u8 z).wf=true)(m:Nat)(b:Int):ry ((w.setCell ⟨g,n/8,none⟩ (.int .u8 (bits .or .u8 (bs.getD (n/8) 0) (IntKind.u8.wrap (b*2^(7 - m)))))).setCell ⟨wb,1,none⟩ (.int .i64 ((n+1:Nat):Int))) wb (.slice (some ⟨g,0,none⟩) bs.length cap) ⟨orB bs (n/8) m b,n+1,0⟩:=by
 have R:wb≠g:=fun e=>by
  obtain⟨cs,j⟩:=ah J rfl
  subst e
  exact aI I j aq rfl
 have h1:=own_set J rfl (n/8) aa (.int .u8 (bits .or .u8 (bs.getD (n/8) 0) (IntKind.u8.wrap (b*2^(7 - m)))))
 rw[←List.map_set] at h1
 refine⟨?_,?_,?_,?_⟩
 ·exact Mc ((heap_setCell_other _ _ _ _ R).trans I)
 ·show World.ownsRow _ 0 5 1 _ (orB bs (n/8) m b).length _
  rw[Gl]
  exact aB h1 (eG _ wb 1 _) (fun k e e2=>R (e2.symm.trans (by injection e with e;exact e.symm)))
 ·show(orB bs (n/8) m b).length=(n+1+7)/8
  rw[Gl];omega
 ·exact wf_set U _ (or_wf _ _)
def PutP(wb:Nat)(bv:Value)(y:Wr)(w:World)(e:Ending)(w':World):Prop:=e= .returned (.tuple #[])∧∃bv',ry w' wb bv' y∧ag (fun k=>k=wb∨bv.ownBlock=some k) w w'∧(∀k,bv'.ownBlock=some k→bv.ownBlock=some k∨w.heap.size≤k)
theorem info5:(Tryz.prog.info? 5).map (fun i=>(i.zero,i.size,i.bytes))=some (some (.int .u8 0),1,1):=af
theorem u64_and1(n:Int)(h0:0≤n):bits .and .u64 n 1=n%2:=by
 have I:(BitVec.ofInt 64 1).toNat=2^1 - 1:=aq
 have key:(BitVec.ofInt 64 n&&&BitVec.ofInt 64 1).toNat=(n%((2^64:Nat):Int)).toNat%2^1:=by
  rw[BitVec.toNat_and,BitVec.toNat_ofInt,I,Nat.and_two_pow_sub_one_eq_mod]
 show IntKind.u64.wrap ((BitVec.ofInt 64 n&&&BitVec.ofInt 64 1).toNat:Nat)=n%2
 rw[key,IntKind.wrap_u64]
 omega
theorem mf(v:Nat): ∀(k:Nat)(x:Wr),(jh x v k).e=x.e:=by
 intro k
 induction k with
 | zero=>intro x;rfl
 | succ k ih=>intro x;exact(ih _).trans rfl
theorem lZ(v:Nat): ∀(k:Nat)(x:Wr),(jh x v k).n=x.n+k:=by
 intro k
 induction k with
 | zero=>intro x;rfl
 | succ k ih=>intro x;exact(ih _).trans (by show x.n+1+k=_;omega)
theorem lC{w:World}{B e size n:Nat}{v:Value}{xs:List Value}(h:w.ownsRow B e size v n xs)(hn:0<n): ∃g cap,v= .slice (some ⟨g,0,none⟩) n cap:=by
 rcases h.2 with⟨_,e2⟩ | ⟨g,cap,cur,e1,_⟩
 ·omega
 ·exact⟨g,cap,e1⟩
theorem vw{wb:Nat}{bv bq:Value}{w wr W:World}(hK:ag (fun k=>k=wb∨bv.ownBlock=some k) w wr)(I: ∀k,bq.ownBlock=some k→bv.ownBlock=some k∨w.heap.size≤k)(K:ag (fun k=>k=wb∨bq.ownBlock=some k) wr W):ag (fun k=>k=wb∨bv.ownBlock=some k) w W:=
 hK.andThen K (fun k hk e=>e.elim .inl (fun e=>(I k e).elim .inr (fun h=>aa)))
theorem put_any(wb:Nat)(bv:Value)(x:Wr)(v k:Nat)(hx:x.e=0)(hn:x.n≤100000)(hk:k≤57)(hv:v<2^k)(w:World)(h:ry w wb bv x):Calls Tryz.prog 171 #[.pointer (some ⟨wb,0,none⟩),.int .u64 (v:Int),.int .i64 (k:Int)] w (PutP wb bv (jh x v k) w):=by
 have B9:v/2^k=0:=Nat.div_eq_of_lt hv
 have C8:(v:Int)/2^k=0:=by
  have:((v/2^k:Nat):Int)=(v:Int)/2^k:=ar
  rw[←this,B9];rfl
 have D1:2^k≤2^57:=Nat.pow_le_pow_right aq hk
 have I:=h.row
 rw[hx] at I
 obtain⟨c0,c1,c2⟩:=bu I
 have H:=MI h
 have HX:=MI hx
 have HN:=MI hn
 have E2:¬(k:Int)<0:=aa
 have E3:¬57<(k:Int):=aa
 have D2:min k 64=k:=aa
 have ek:IntKind.i64.wrap ((k:Int) - 1)=(k:Int) - 1:=IntWalk.i64_in _ aa
 have HV:Hid (v<2^57):=by unfold Hid;omega
 clear h hx hn hv B9 D1 I
 go_enter Tryz.func171,Tryz.ntmps171
 go_upto_region 4 with fail
 clear c0 c1 c2 C8 D2 ek
 go_loopw [6] (fun v6 wr=>∃(r:Nat)(y:Wr)(bq:Value),r≤k∧v6= .int .i64 ((r:Int) - 1)∧ry wr wb bq y∧y.e=0∧y.n+r=x.n+k∧Hid (jh y v r=jh x v k)∧ag (fun k=>k=wb∨bv.ownBlock=some k) w wr∧(∀k,bq.ownBlock=some k→bv.ownBlock=some k∨w.heap.size≤k)) (fun v6 _=>(intOf v6+1).toNat)
 case atStart=>exact⟨k,x,bv,Me,rfl,H.out,HX.out,rfl,rfl,ag.refl _ _,fun k e=>.inl e⟩
 case round=>
  obtain⟨r,y,bq,hr,rfl,hI,hy,D3,A3,hK,A0⟩:=hrel
  by_cases D4:r=0
  ·subst D4
   have hz:¬(0:Int)≤((0:Nat):Int) - 1:=aa
   have HE:=MI hK
   go_wp2_with fail
   go_end0
   rw[←A3.out]
   exact⟨rfl,bq,hI,HE.out,A0⟩
  ·obtain⟨i,rfl⟩: ∃i,r=i+1:=⟨r - 1,aa⟩
   have D5:((i+1:Nat):Int) - 1=(i:Int):=aa
   rw[D5]
   have E4:(0:Int)≤(i:Int):=aa
   obtain⟨bs,n,e⟩:=y
   simp only at hy D3
   subst hy
   have hN:=HN.out
   have I:=hI.row
   simp only at I
   obtain⟨c0,c1,c2⟩:=bu I
   have f0:=ay I 0
   have f1:=ay I 1
   have hlen:=hI.len
   simp only at hlen
   have C0:(n:Int)%8=((n%8:Nat):Int):=aa
   have E5:(n:Int)/8=((n/8:Nat):Int):=aa
   have E6:bs.length≤13000:=aa
   have A7:=MI hlen
   have U:=MI hI.wf
   have A4:=MI hI.own
   simp only at A4 U
   have R:=MI I
   have B0:Hid (putB ⟨bs,n,0⟩ v i=⟨orB (IY ⟨bs,n,0⟩) (n/8) (n%8) (jo v i),n+1,0⟩):=rfl
   have B1:¬bq.ownBlock=some wb:=fun e=>by
    obtain⟨cs,j⟩:=ah hI.own e
    exact aI I j aq rfl
   clear hI I hlen
   by_cases B2:n%8=0
   rotate_right
   focus
    have o:IY ⟨bs,n,0⟩=bs:=if_neg B2
    have B3:Hid (jh ⟨orB bs (n/8) (n%8) (jo v i),n+1,0⟩ v i=jh x v k):=by
     unfold Hid
     rw[←A3.out]
     conv=>rhs;rw[show jh ⟨bs,n,0⟩ v (i+1)=jh (putB ⟨bs,n,0⟩ v i) v i from rfl,B0.out,o]
    have A2:¬((n%8:Nat):Int)=0:=aa
    have B4:¬(n:Int)%8=0:=aa
    have C9:((n:Int)%8==0)=false:=beq_eq_false_iff_ne.2 B4
    have D0:(((n%8:Nat):Int)==0)=false:=beq_eq_false_iff_ne.2 A2
    have hO:=A4.out
    have hR:=R.out
    obtain⟨g,cap3,rfl⟩:=lC hO (by rw[A7.out];omega)
    have B5:bs.length=n/8+1:=by rw[A7.out];omega
    have B6:=U.out
    have A1:=MI hK
    have A5:=MI A0
    clear o B0 A3 U R A4 B1 hK A0 C0 D0
    go_upto_region 8 with fail
    have A1:=A1.out
    have A5:=A5.out
    clear c0 c1 c2 f0 f1 A2 C9 B4
    have C0:(n:Int)%8=((n%8:Nat):Int):=aa
    generalize D6:wr=V at*
    clear D6
    generalize D7:bs=BS at*
    clear D7
   rotate_right
   focus
    have A2:((n%8:Nat):Int)=0:=aa
    have o:IY ⟨bs,n,0⟩=bs++[0]:=if_pos B2
    have B3:Hid (jh ⟨orB (bs++[0]) (n/8) (n%8) (jo v i),n+1,0⟩ v i=jh x v k):=by
     unfold Hid
     rw[←A3.out,←o]
     rfl
    clear o B0
    go_upto_region 8 with(at_builtin;refine dY rfl (.tmp 43) (.tmp 44) 63 5 1 rfl Tryz.underlying63 info5 rfl aa 0 _ _ _ rfl A4.out [.int .u8 0] rfl rfl (by simp[Value.oneCell']) aa aE (Nat.zero_le _) ?_;intro bQ w3 A8 B7 C1;have J:=B7.heap R.out B1;have g0:=ay J 0;obtain⟨q0,q1,q2⟩:=bu J;obtain⟨g,cap3,rfl⟩:=lC A8 (Nat.succ_pos _))
    have B8:(Value.slice (some ⟨g,0,none⟩) (bs.length+1) cap3).ownBlock≠some wb:=fun e=>by
     obtain⟨cs,j⟩:=ah A8 e
     exact aI J j aq rfl
    have hR:(w3.setCell ⟨wb,0,none⟩ (.slice (some ⟨g,0,none⟩) (bs.length+1) cap3)).heap[wb]? =some (.cells #[.slice (some ⟨g,0,none⟩) (bs.length+1) cap3,.int .i64 (n:Int),()] 279 (0,0)):=(Mc J).trans rfl
    have C2:=aB A8 (eG w3 wb 0 (.slice (some ⟨g,0,none⟩) (bs.length+1) cap3)) (fun k e e2=>B8 (by rw[e,e2]))
    obtain⟨BS,A6⟩: ∃BS,BS=bs++[0]:=⟨_,rfl⟩
    have A9:BS.length=bs.length+1:=by rw[A6];simp
    have B5:BS.length=n/8+1:=by rw[A9,A7.out];omega
    have hO:(w3.setCell ⟨wb,0,none⟩ (.slice (some ⟨g,0,none⟩) (bs.length+1) cap3)).ownsRow 0 5 1 (.slice (some ⟨g,0,none⟩) BS.length cap3) BS.length (BS.map (.int .u8)):=by
     rw[A9,A6,List.map_append];exact C2
    have B6: ∀z ∈ BS,(Lit.int .u8 z).wf=true:=fun z hz=>by
     rw[A6] at hz
     rcases List.mem_append.1 hz with h1 | h1
     ·exact U.out z h1
     ·simp at h1;subst h1;rfl
    have A5: ∀k,(Value.slice (some ⟨g,0,none⟩) BS.length cap3).ownBlock=some k→bv.ownBlock=some k∨w.heap.size≤k:=fun k e=>by
     rcases C1 k e with h1 | h1
     ·exact A0 k h1
     ·exact .inr (Nat.le_trans hK.size h1)
    have A1:ag (fun k=>k=wb∨bv.ownBlock=some k) w (w3.setCell ⟨wb,0,none⟩ (.slice (some ⟨g,0,none⟩) (bs.length+1) cap3)):=vw hK A0 ((B7.mono fun k _ e=>.inr e).setCell (p:=⟨wb,0,none⟩) (.inr (.inl rfl)) _)
    rw[←A6] at B3
    rw[←A9] at hR hO A1⊢
    clear A9 A6 A8 C2 B7 C1 B8 q0 q1 q2 g0 J B1 A2 c0 c1 c2 f0 f1 A4 U R hK A0 A3
    generalize w3.setCell ⟨wb,0,none⟩ (.slice (some ⟨g,0,none⟩) BS.length cap3)=V at*
   all_goals
    have D8:=hO.cells (g:=g) rfl (n/8) (.int .u8 (BS.getD (n/8) 0)) (by simp[List.getD,show n/8<BS.length by omega])
    rw[add0,Nat.zero_add] at D8
    have hW:=MI (ry.bit (w:=V.drew) (wb:=wb) (g:=g) (cap:=cap3) (n:=n) (bs:=BS) hR hO B5 B6 (n%8) (jo v i))
    have E7:V.frozen? ⟨g,n/8,none⟩=false:=by
     obtain⟨cs,j⟩:=ah hO rfl
     exact ay j _
    obtain⟨c0,c1,c2⟩:=bu hR
    have f1:=ay hR 1
    have C3:Hid (jo v i=((v/2^i%2:Nat):Int)):=rfl
    have E8:(v:Int)/2^i=((v/2^i:Nat):Int):=ar
    have E9:min i 64=i:=aa
    have hand:bits .and .u64 ((v/2^i:Nat):Int) 1=jo v i:=by rw[u64_and1 _ (Int.natCast_nonneg _)];rfl
    have C4:jo v i=0∨jo v i=1:=by rw[C3.out];omega
    have F1:IntKind.u8.wrap (jo v i)=jo v i:=by rcases C4 with e | e<;>rw[e]<;>rfl
    have F2:IntKind.i64.wrap (7 - ((n%8:Nat):Int))=((7 - n%8:Nat):Int):=by rw[show 7 - ((n%8:Nat):Int)=((7 - n%8:Nat):Int) by omega];exact IntWalk.i64_in _ aa
    have F3:min (7 - n%8) 8=7 - n%8:=aa
    have F4:n/8<BS.length:=aa
    have F5:IntKind.i64.wrap ((n:Int)+1)=((n+1:Nat):Int):=by rw[show(n:Int)+1=((n+1:Nat):Int) by omega];exact IntWalk.i64_in _ aa
    have F6:IntKind.i64.wrap ((i:Int) - 1)=(i:Int) - 1:=IntWalk.i64_in _ aa
    have F7:IntKind.i64.wrap ((n/8:Nat):Int)=((n/8:Nat):Int):=IntWalk.i64_in _ aa
    have C5:wb≠g:=fun e=>by
     obtain⟨cs,j⟩:=ah hO rfl
     subst e
     exact aI hR j aq rfl
    have E0: ∀u,(V.drew.setCell ⟨g,n/8,none⟩ u).cell? ⟨wb,1,none⟩=some (.int .i64 (n:Int)):=fun u=>(aA V.drew g (n/8) u).cell c1 C5
    have E1: ∀u,(V.drew.setCell ⟨g,n/8,none⟩ u).frozen? ⟨wb,1,none⟩=false:=fun u=>ay ((heap_setCell_other _ _ _ _ C5).trans hR) 1
    have F8:(n:Int).tmod 8=((n%8:Nat):Int):=rfl
    have D9:=MI A1
    clear B2
    have C6:=MI A5
    clear hO B5 C3 hR B6 C4 A1 A5
    generalize hd:n/8=d at*
    generalize hm:n%8=m at*
    have HD:=MI hd
    have HM:=MI hm
    clear hd hm
    generalize v/2^i=vi at*
    generalize C7:jo v i=bt at*
    have F9:=MI C7
    clear C7
    generalize BS.getD d 0=old at*
    go_still_tail 25,af
    repeat still_step
    try refine wpStill_nil ?_
    change wpList _ _ _ _ _ V.drew
    go_wp2_with fail
    refine⟨⟨i,_,_,aa,rfl,hW.out,rfl,?_,?_,?_,C6.out⟩,?_⟩
    ·show n+1+i=_;omega
    ·exact B3.out
    ·exact vw D9.out C6.out (((ag.refl (fun k=>k=wb∨(Value.slice (some ⟨g,0,none⟩) BS.length cap3).ownBlock=some k) V).drew.setCell (p:=⟨g,d,none⟩) (.inr (.inr rfl)) _).setCell (p:=⟨wb,1,none⟩) (.inr (.inl rfl)) _)
    ·simp[intOf]
def tV(v:Int)(k:Nat):Nat:=(v%2^k).toNat
theorem FU(v:Int)(k:Nat):tV v k<2^k:=by
 unfold tV
 have h0:(0:Int)<2^k:=Int.pow_pos aq
 have h1:=Int.emod_lt_of_pos v h0
 have h2:=Int.emod_nonneg v (Int.ne_of_gt h0)
 have h3:((2:Int)^k)=((2^k:Nat):Int):=ar
 omega
theorem J9(v:Int)(k:Nat)(hk:k≤57):bits .and .u64 (IntKind.u64.wrap v) (2^k - 1)=(tV v k:Int):=by
 have hp:2^k≤2^57:=Nat.pow_le_pow_right aq hk
 have J:1≤2^k:=Nat.one_le_two_pow
 have e:((2:Int)^k)=((2^k:Nat):Int):=ar
 have I:(BitVec.ofInt 64 ((2:Int)^k - 1)).toNat=2^k - 1:=by
  rw[BitVec.toNat_ofInt,e];omega
 have key:(BitVec.ofInt 64 (IntKind.u64.wrap v)&&&BitVec.ofInt 64 ((2:Int)^k - 1)).toNat=((IntKind.u64.wrap v)%((2^64:Nat):Int)).toNat%2^k:=by
  rw[BitVec.toNat_and,BitVec.toNat_ofInt,I,Nat.and_two_pow_sub_one_eq_mod]
 show IntKind.u64.wrap ((BitVec.ofInt 64 (IntKind.u64.wrap v)&&&BitVec.ofInt 64 ((2:Int)^k - 1)).toNat:Nat)=_
 rw[key,IntKind.wrap_u64,IntKind.wrap_u64]
 unfold tV
 have hd:((2:Int)^k)∣18446744073709551616:=by
  refine⟨2^(64 - k),?_⟩
  rw[←Int.pow_add,show k+(64 - k)=64 by omega];rfl
 have h1:v%18446744073709551616%(2:Int)^k=v%2^k:=Int.emod_emod_of_dvd v hd
 have h2:=Int.emod_nonneg v (show(18446744073709551616:Int)≠0 by decide)
 have h3:=Int.emod_lt_of_pos v (show(0:Int)<18446744073709551616 by decide)
 have h4:((v%18446744073709551616%((2^64:Nat):Int)).toNat%2^k:Nat)=(v%2^k).toNat:=by
  rw[←h1]
  generalize v%18446744073709551616=x at*
  have h5:x%((2^64:Nat):Int)=x:=Int.emod_eq_of_lt h2 (by simpa using h3)
  rw[h5,e]
  obtain⟨y,rfl⟩: ∃y:Nat,x=(y:Int):=⟨x.toNat,aa⟩
  rw[←Int.natCast_emod,Int.toNat_natCast,Int.toNat_natCast]
 rw[h4]
 have h6:=FU v k
 unfold tV at h6
 omega
theorem FT(wb:Nat)(bv:Value)(x:Wr)(v:Int)(k:Nat)(hx:x.e=0)(hn:x.n≤100000)(hk:k≤57)(hf:dX v k=true)(w:World)(h:ry w wb bv x):Calls Tryz.prog 172 #[.pointer (some ⟨wb,0,none⟩),.int .i64 v,.int .i64 (k:Int)] w (PutP wb bv (jh x (tV v k) k) w):=by
 have hF:=MI (fun w=>fits_any v k hk w)
 rw[hf] at hF
 have hP:=MI (put_any wb bv x (tV v k) k hx hn hk (FU v k) w h)
 have J:¬(k:Int)<0:=aa
 have R:¬57<(k:Int):=aa
 have U:min k 64=k:=aa
 have hp:(2:Nat)^k≤2^57:=Nat.pow_le_pow_right aq hk
 have I:1≤(2:Nat)^k:=Nat.one_le_two_pow
 have e:((2:Int)^k)=((2^k:Nat):Int):=ar
 have j:IntKind.u64.wrap ((2:Int)^k)=2^k:=by rw[IntKind.wrap_u64,e];omega
 have o:IntKind.u64.wrap ((2:Int)^k - 1)=2^k - 1:=by rw[IntKind.wrap_u64,e];omega
 have hm:=J9 v k hk
 clear h hx hn hf e hp I
 generalize tV v k=sv at*
 go_enter Tryz.func172,Tryz.ntmps172
 go_wp2_with (first
  | (go_at_call 207;refine(hF.out _).mono ?_;rintro e w1 ⟨rfl,rfl⟩)
  | (go_at_call 171;refine hP.out.mono ?_;rintro e w1 ⟨rfl,h1⟩))
 go_end0
 exact⟨rfl,h1⟩
def cdA(size:Int):Array Value:=(iL dm++[Value.int .i64 size]).toArray
structure mF(w:World)(cb:Nat)(size:Int):Prop where
 row:w.heap[cb]? =some (.cells (cdA size) 181 (0,0))
theorem mF.aj{w w':World}{cb:Nat}{size:Int}(h:mF w cb size)(hb:Below w.heap.size w w'):mF w' cb size:=⟨(hb.block _ (L8 h.row)).trans h.row⟩
theorem mF.size{w:World}{cb:Nat}{size:Int}(h:mF w cb size):w.cell? ⟨cb,32,none⟩=some (.int .i64 size):=(LZ h.row).trans rfl
def CdP(size:Int)(w:World)(e:Ending)(w':World):Prop:=Below w.heap.size w w'∧(((size<24∨96<size)∧e= .returned (.tuple #[.pointer none,.int .i64 12]))∨(24≤size∧size≤96∧∃cb,e= .returned (.tuple #[.pointer (some ⟨cb,0,none⟩),()])∧w.heap.size≤cb∧mF w' cb size))
theorem tJ(size:Int)(w:World):Calls Tryz.prog 54 #[.int .i64 size] w (CdP size w):=by
 by_cases h1:size<24
 ·go_enter Tryz.func54,Tryz.ntmps54
  go_wp2_with fail
  go_ret2
  exact⟨Below.refl _ _,.inl ⟨.inl h1,rfl⟩⟩
 ·by_cases h2:96<size
  ·go_enter Tryz.func54,Tryz.ntmps54
   go_wp2_with fail
   go_ret2
   exact⟨Below.refl _ _,.inl ⟨.inr h2,rfl⟩⟩
  ·have hL:=fun w=>vS w
   have J:Tryz.prog.built 181 [(0,.agg (iA dm)),(1,.int .i64 size)]=some (cdA size):=af
   go_enter Tryz.func54,Tryz.ntmps54
   go_wp2_with (first
    | (go_at_call 86;refine(hL _).mono ?_;rintro e w1 ⟨rfl,I⟩)
    | (with_reducible show wpList _ _ _ (Oper.mk _ (Op.build 181 _) _ _ _ _::_) _ _;refine bf rfl 181 _ rfl (cdA size) J ?_))
   go_ret2
   exact⟨I.trans ((ae _ _).mono I.size),.inr ⟨aa,aa,_,rfl,I.size,⟨(L9 _ _).trans (congrArg (fun x=>some (Obj.cells x 181 (0,0))) af)⟩⟩⟩
theorem qY(cb:Nat)(size:Int)(w:World)(h:mF w cb size):Calls Tryz.prog 95 #[.pointer (some ⟨cb,0,none⟩)] w (fun e w'=>e= .returned (.int .i64 size)∧w'=w):=by
 have hc:=h.size
 go_enter Tryz.func95,Tryz.ntmps95
 go_wp2_with fail
 go_ret
 exact⟨rfl,rfl⟩
theorem yK(cb:Nat)(size:Int)(w:World)(h:mF w cb size):Calls Tryz.prog 159 #[.pointer (some ⟨cb,0,none⟩)] w (fun e w'=>e= .returned (.bool (decide (55≤size)))∧w'=w):=by
 have hS:=qY cb size w h
 go_enter Tryz.func159,Tryz.ntmps159
 go_wp2_with (go_at_call 95;refine hS.mono ?_;rintro e w1 ⟨rfl,rfl⟩)
 go_ret
 exact⟨rfl,rfl⟩
theorem BJ(cs:Array Value)(v:Value)(h0:0<cs.size)(h: ∀i,i<cs.size→cs[i]? =some v)(n:Nat):(madeCells cs n).toList=List.replicate n v:=by
 apply List.ext_getElem
 ·simp[madeCells]
 ·intro i h1 h2
  have hm:i%cs.size<cs.size:=Nat.mod_lt _ h0
  have h3:=h _ hm
  rw[Array.getElem?_eq_getElem hm] at h3
  injection h3 with h3
  simp only[madeCells,Array.toList_map,List.getElem_map,List.getElem_replicate,Array.toList_range,List.getElem_range]
  rw[getElem!_pos cs _ hm,h3]
theorem Bl{w:World}{base g n e size:Nat}{xs:List Value}(h:w.ownsRow base e size (.slice (some ⟨g,0,none⟩) n n) n xs):w.heap[g]? =some (.cells xs.toArray e (0,0)):=by
 rcases h.2 with⟨h1,_⟩ | ⟨g',cap,cur,h1,R,hg,U,j,J,I⟩
 ·cases h1
 ·cases h1
  rw[hg]
  congr 2
  apply Array.toList_inj.1
  rw[←I,List.take_of_length_le (by simpa using Nat.le_of_eq J)]
theorem qN{w:World}{base g n e:Nat}{k:IntKind}(h:w.ownsRow base e 1 (.slice (some ⟨g,0,none⟩) n n) n (madeCells (Value.int k 0).cells (n*1)).toList):Blk k w g e (List.replicate n 0):=by
 have h2:=Bl h
 rw[BJ (Value.int k 0).cells (.int k 0) Nat.one_pos (fun i hi=>by
  have I:i<1:=hi
  have:i=0:=aa
  subst this;rfl),Nat.mul_one] at h2
 unfold Blk
 rw[List.map_replicate]
 exact h2
theorem hu5: ∃i5:TypeInfo,Tryz.prog.info? 5=some i5∧i5.zero=some (.int .u8 0)∧i5.size=1∧i5.bytes=1:=⟨_,rfl,rfl,rfl,rfl⟩
theorem Blk.splice{k:IntKind}{w:World}{b t:Nat}{zs xs:List Int}{off:Nat}(h:w.heap[b]? =some (.cells (Go.splice (zs.map (Value.int k)) off (xs.map (Value.int k))).toArray t (0,0))):Blk k w b t (Go.splice zs off xs):=by
 unfold Blk
 rw[h]
 simp[Go.splice,List.map_take,List.map_drop]
def WbP(x:Wr)(size:Nat)(w:World)(e:Ending)(w':World):Prop:=Below w.heap.size w w'∧((size<x.bs.length∧e= .returned (.tuple #[.slice none 0 0,.int .i64 3]))∨(x.bs.length≤size∧∃g,e= .returned (.tuple #[.slice (some ⟨g,0,none⟩) size size,()])∧w.heap.size≤g∧Blk .u8 w' g 5 (x.bs++List.replicate (size - x.bs.length) 0)))
theorem Du(wb:Nat)(bv:Value)(x:Wr)(size:Nat)(hs:size≤96)(hx:x.e=0)(w:World)(h:ry w wb bv x):Calls Tryz.prog 174 #[.pointer (some ⟨wb,0,none⟩),.int .i64 (size:Int)] w (WbP x size w):=by
 have I:=h.row
 rw[hx] at I
 obtain⟨c0,c1,c2⟩:=bu I
 obtain⟨ao,cap,rfl⟩:=dh h.own
 have hO:=MI h.own
 have J:=MI I
 have B1:¬(size:Int)<0:=aa
 have hE:Hid (∀w' e,Below w.heap.size w w'→size<x.bs.length→e= .returned (.tuple #[.slice none 0 0,.int .i64 3])→WbP x size w e w'):=fun w' e h1 h2 h3=>⟨h1,.inl ⟨h2,h3⟩⟩
 have hG:Hid (∀w' e g,Below w.heap.size w w'→x.bs.length≤size→e= .returned (.tuple #[.slice (some ⟨g,0,none⟩) size size,()])→w.heap.size≤g→Blk .u8 w' g 5 (Go.splice (List.replicate size 0) 0 x.bs)→WbP x size w e w'):=fun w' e g h1 h2 h3 h4 h5=>⟨h1,.inr ⟨h2,g,h3,h4,by
  rw[show Go.splice (List.replicate size (0:Int)) 0 x.bs=x.bs++List.replicate (size - x.bs.length) 0 by simp[Go.splice]] at h5
  exact h5⟩⟩
 obtain⟨i5,A2,A3,A4,A5⟩:=hu5
 obtain⟨bs,n,e⟩:=x
 simp only at hO hE hG c0 c1 c2 I J
 clear h hx I
 by_cases hl:size<bs.length
 ·have A6:(size:Int)<(bs.length:Int):=aa
  go_enter Tryz.func174,Tryz.ntmps174
  go_wp2_with fail
  go_ret2
  exact hE.out _ _ MB hl rfl
 ·have A6:¬(size:Int)<(bs.length:Int):=aa
  have B2:IntKind.i64.wrap (size:Int)=(size:Int):=IntWalk.i64_in _ aa
  go_enter Tryz.func174,Tryz.ntmps174
  go_upto_region 8 with(at_make;refine wpList_make_full _ rfl _ _ 63 rfl w.heap.size 5 _ _ _ Tryz.underlying63 A2 A3 A4 _ _ _ _ size rfl rfl rfl rfl (by rw[A5];omega) aE Me ?_;intro w3 A0 R)
  have U:Below w.heap.size w w3:=((ag.refl (fun _=>False) w).grown R (fun k hk=>by cases hk)).aW Me (fun _ _ e=>e.elim)
  have A7:=MI (qN A0)
  have A1:=MI (aQ hO.out U)
  have o:=(U.block _ (L8 J.out)).trans J.out
  obtain⟨q0,q1,q2⟩:=bu o
  have A8:Hid (0<(bs.map (Value.int .u8)).length→(some ⟨w.heap.size,0,none⟩:Option Addr)=some ⟨w.heap.size,0,none⟩∧∃ad,ao=some ad∧∀j v,(bs.map (Value.int .u8))[j]? =some v→w3.cell? (ad.add j)=some v):=fun hp=>by
   refine⟨rfl,?_⟩
   obtain⟨g,cap',hq⟩:=lC A1.out (by simpa using hp)
   cases hq
   exact⟨_,rfl,fun j v hj=>A1.out.cells rfl j v hj⟩
  clear c0 c1 c2 R A0 o
  go_wp2_with ((with_reducible show wpList _ _ _ (Oper.mk (some 35) _ _ _ _ _::_) _ _);refine wpList_copy_splice rfl _ _ 63 63 rfl 5 Tryz.underlying63 af _ _ _ _ _ _ rfl rfl w.heap.size 0 ((List.replicate size (0:Int)).map (Value.int .u8)) 5 A7.out (bs.map (Value.int .u8)) (by rw[List.length_map];exact(Nat.min_eq_left aa).symm) A8.out (by simp;omega) (lD _ _) w.heap.size w3 MB (by have:=U.size;omega) ?_;intro w4 A9 B0)
  go_ret2
  exact hG.out _ _ _ (U.trans B0) aa rfl Me (Blk.splice A9.out)
def og(q s:List Int):List Int:=(List.range 16).map (fun i=>qI (q.getD i 0) (s.getD (i/4) 0).toNat)
theorem iO(q s:List Int):(og q s).length=16:=by simp[og]
theorem KE(q s:List Int)(i:Nat)(h:i<16):(og q s).getD i 0=qI (q.getD i 0) (s.getD (i/4) 0).toNat:=by simp[og,List.getD,h]
def iF(q s:List Int):List Int:=if inB 23 s=true then og q s else z16
theorem H7(q s:List Int)(hq:q.length=16)(hs:s.length=4)(w:World):Calls Tryz.prog 227 #[.agg (iA q),.agg (iA s)] w (fun e w'=>e= .returned (.agg (iA (iF q s)))∧Below w.heap.size w w'):=by
 have o:=ae w (.cells (iA q) 194)
 have U:=L9 w (.cells (iA q) 194)
 have I:=ae (w.alloc (.cells (iA q) 194)) (.cells (iA s) 306)
 have J:=L9 (w.alloc (.cells (iA q) 194)) (.cells (iA s) 306)
 have A1:=ae ((w.alloc (.cells (iA q) 194)).alloc (.cells (iA s) 306)) (.cells #[(),(),(),(),(),(),(),(),(),(),(),(),(),(),(),()] 194)
 have A2:=L9 ((w.alloc (.cells (iA q) 194)).alloc (.cells (iA s) 306)) (.cells #[(),(),(),(),(),(),(),(),(),(),(),(),(),(),(),()] 194)
 have J:=(A1.block _ (L8 J)).trans J
 have U:=((I.trans (A1.mono I.size)).block _ (L8 U)).trans U
 have hB:=(o.trans (I.mono o.size)).trans (A1.mono (o.trans (I.mono o.size)).size)
 simp only[World.size_alloc] at J A2
 clear o I A1
 have C2:(Tryz.prog.info? 194).map (·.size)=some (iA q).size:=by rw[az,hq];kernel_rfl
 have B2:(Tryz.prog.info? 306).map (·.size)=some (iA s).size:=by rw[az,hs];kernel_rfl
 have A4:(Tryz.prog.info? 194).map (·.size)=some (iA (og q s)).size:=by rw[az,iO];kernel_rfl
 have B3:(Tryz.prog.info? 194).map (·.size)=some (iA z16).size:=af
 have HR:=MI (fun w=>pX s hs w)
 have HV:Hid (iF q s=if inB 23 s=true then og q s else z16):=rfl
 have A5:=MI (fun h k hk=>wo (m:=23) (zs:=s) h k hk)
 have HM:=MI (fun j (hj:j<16)=>qJ (og q s) q j (by rw[iO,hq]) (by rw[iO];exact hj))
 have HG:=MI (fun j (hj:j<16)=>BG (og q s) q j (by rw[iO,hq]) (by rw[iO];exact hj))
 have HL:=MI (fun j=>qK (og q s) q j (by rw[iO,hq]))
 have HX:=MI (fun i hi=>KE q s i hi)
 have HA:Hid (kL (og q s) q 16=og q s):=by have:=qM (og q s) q (by rw[iO,hq]);rwa [iO] at this
 have B4:=MI (iO q s)
 have C3:Hid (kL (og q s) q 0=q):=rY _ _
 have HS:=MI hs
 have C0:(iA q).size=(iA (og q s)).size:=by rw[az,az,iO,hq]
 go_enter Tryz.func227,Tryz.ntmps227
 go_upto_region 1 with fail
 generalize ((w.alloc (.cells (iA q) 194)).alloc (.cells (iA s) 306)).alloc (.cells #[(),(),(),(),(),(),(),(),(),(),(),(),(),(),(),()] 194)=W at*
 generalize C4:og q s=vl at*
 go_upto_if 8 with(first | (with_reducible refine MC 306 3 ?_;refine wpList_load_row rfl 306 (.tmp 3) rfl _ rfl 306 (iA s) (0,0) _ J Tryz.underlying306 rfl B2 ?_) | (go_at_call 206;refine(HR.out _).mono ?_;rintro e w1 ⟨rfl,I⟩))
 have A6:=(I.block _ (L8 U)).trans U
 have A7:=(I.block _ (L8 J)).trans J
 have A3:=(I.block _ (L8 A2)).trans A2
 have A8:=hB.trans (I.mono hB.size)
 clear U J A2 hB I HR hq hs C4 C0 C2 B2
 by_cases hr:inB 23 s=true
 ·have C5:=MI (A5.out hr)
  have hv:=HV.out
  rw[if_pos hr] at hv
  rw[hr]
  simp only[Bool.not_true]
  have A9:=MI hv
  clear hv HV A5 hr
  have B5:=MI A6
  have B6:=MI A7
  have B7:=MI A3
  have B8:=MI A8
  clear A6 A7 A3 A8
  go_upto_region 4 with fail
  go_loopw [10] (fun v10 wr=>∃j:Nat,j≤16∧v10= .int .i64 (j:Int)∧wr.heap[w.heap.size]? =some (.cells (iA (kL vl q j)) 194 (0,0))∧wr.heap[w.heap.size+1]? =some (.cells (iA s) 306 (0,0))∧wr.heap[w.heap.size+1+1]? =some (.cells #[(),(),(),(),(),(),(),(),(),(),(),(),(),(),(),()] 194 (0,0))∧Below w.heap.size w wr) (fun v10 _=>16 - aC v10)
  case atStart=>exact⟨0,aa,rfl,by rw[C3.out];exact B5.out,B6.out,B7.out,B8.out⟩
  case round=>
   clear B5 B6 B7 B8
   obtain⟨j,hj,rfl,h0,h1,h2,hb⟩:=hrel
   by_cases R:j<16
   ·have hsb:=C5.out (j/4) (by rw[HS.out];omega)
    have hX:=HX.out j R
    obtain⟨sk,B0⟩: ∃sk:Nat,s.getD (j/4) 0=(sk:Int):=⟨(s.getD (j/4) 0).toNat,aa⟩
    rw[B0] at hsb hX
    rw[Int.toNat_natCast] at hX
    have C6:=aH (k:=j/4) h1 (by rw[HS.out];omega)
    rw[B0] at C6
    have C7:=aH (k:=j) h0 (by rw[HL.out,B4.out];exact R)
    rw[HG.out j R] at C7
    have D3:=ay h0 j
    have A0:=bY h0 j (vl.getD j 0)
    rw[HM.out j R,hX] at A0
    have C8:=MI (fun w=>MW (q.getD j 0) sk aa w)
    have C9:=MI (nD j R)
    have D4:j/4<4:=aa
    have D2:((j/4:Nat):Int)<4:=aa
    generalize j/4=jb at*
    have C1:=MI A0
    have H1:=MI h1
    have H2:=MI h2
    have HB:=MI hb
    generalize q.getD j 0=qj at*
    clear h0 h1 h2 hb A0 hX B0 hsb
    go_upto_region 6 with fail
    go_region_law (first | (go_simp;go_at_call 173;refine(C9.out _).mono ?_;rintro e w' ⟨rfl,rfl⟩) | (go_simp;go_at_call 236;refine(C8.out _).mono ?_;rintro e w1 ⟨rfl,m1,rfl⟩))
    all_goals go_wp2_with fail
    all_goals refine⟨⟨j+1,aa,aD,C1.out,(heap_setCell_other _ _ _ _ (by show w.heap.size+1≠w.heap.size;omega)).trans H1.out,(heap_setCell_other _ _ _ _ (by show w.heap.size+1+1≠w.heap.size;omega)).trans H2.out,(below_drewN HB.out _).setCell (p:=⟨w.heap.size,_,none⟩) Me _⟩,by simp[aC];omega⟩
   ·obtain rfl:j=16:=aa
    have D0:wr.heap[w.heap.size]? =some (.cells (iA vl) 194 (0,0)):=by rw[←HA.out];exact h0
    clear h0
    go_wp2_with (first | (with_reducible refine MC 194 2 ?_;refine wpList_load_row rfl 194 (.tmp 2) rfl _ rfl 194 (iA vl) (0,0) _ D0 Tryz.underlying194 rfl A4 ?_) | (with_reducible refine MF 194 4 24 ?_;refine wpList_store_row rfl 194 (.tmp 4) (.tmp 24) rfl _ (iA vl) rfl rfl 194 (iA z16) h2 A4 (by rw[az vl,az z16,B4.out];simp[z16]) (bV _) ?_))
    exact bodyPost_ret (results_cell_row (fn:=Tryz.f227) rfl _ _ _ _ _ _ _ rfl (setRow_heap _ _ _ _ _ _ h2) Tryz.underlying194 rfl A4) rfl ⟨by rw[A9.out],below_setRow hb aa _⟩
 ·have hv:=HV.out
  rw[if_neg hr] at hv
  have B9:inB 23 s=false:=by simpa using hr
  rw[B9]
  simp only[Bool.not_false]
  have A9:=MI hv
  have D1:Tryz.prog.built 194 []=some (iA z16):=af
  have B1:w1.heap[w.heap.size+1+1]? =some (.cells (iA z16) 194 (0,0)):=A3
  clear hv HV A5 hr B9 A6 A7 A3
  go_wp2_with (first | (refine bf rfl 194 #[] rfl [] ?hl (iA z16) D1 ?_) | (with_reducible refine MF 194 4 9 ?_;refine wpList_store_row rfl 194 (.tmp 4) (.tmp 9) rfl _ (iA z16) rfl rfl 194 (iA z16) B1 B3 rfl (bV _) ?_))
  exact bodyPost_ret (results_cell_row (fn:=Tryz.f227) rfl _ _ _ _ _ _ _ rfl (setRow_heap _ _ _ _ _ _ B1) Tryz.underlying194 rfl B3) rfl ⟨by rw[A9.out],below_setRow A8 aa _⟩
end Go.Proofs.YtnicjahcgnhogaaGreatDoor
