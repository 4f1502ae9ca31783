/- Part 1 of the walk: contracts of the program's functions, each for every input. No condition. -/
import Derived.OrdersIn
import Derived.ProofKit
import Derived.OpenShut
import Derived.ShutString
import Derived.WalkLawsBesides
import Derived.WalkSpells
import Derived.Lib.Hide
import Derived.Lib.SlBytesConst
import Derived.BigQuiet
import Derived.Deep.DeepCutAuto
import Derived.Deep.RegionLaw
import Derived.Deep.RegionHeld3
import Derived.StillTailTactics
import Derived.Test.YtnicjahcgnhogaaGreatDoorRows
set_option linter.unusedVariables false
set_option linter.unusedSimpArgs false
set_option maxRecDepth 100000
set_option maxHeartbeats 8000000
namespace Go.Calli
open Go.RowKit
structure Row(w:World)(ao:Option Addr)(len:Nat)(xs:List Value):Prop where
 hlen:xs.length=len
 cell: ∀i v,xs[i]? =some v→∃a,ao=some a∧w.cell? (a.add i)=some v
theorem Addr.add_block(a:Addr)(i:Nat):(a.add i).block=a.block:=by
 unfold Addr.add;split<;>rfl
theorem Row.take{w:World}{ao:Option Addr}{len:Nat}{xs:List Value}(h:Row w ao len xs){n:Nat}(hn:n≤len):Row w ao n (xs.take n):=
 ⟨by rw[List.length_take,h.hlen];omega,fun i v hv=>h.cell i v (by
  rw[List.getElem?_take] at hv;split at hv
  ·exact hv
  ·cases hv)⟩
structure Ints(k:IntKind)(w:World)(ao:Option Addr)(len:Nat)(zs:List Int):Prop where
 hlen:zs.length=len
 lim:len≤maxLen
 cell: ∀i,i<len→∃a,ao=some a∧w.cell? (a.add i)=some (.int k (zs.getD i 0))
 wf: ∀z ∈ zs,(Lit.int k z).wf=true
theorem Ints.keep{k:IntKind}{B:Nat}{w w':World}{ao:Option Addr}{len:Nat}{zs:List Int}(h:Ints k w ao len zs)(hb:Below B w w')(hB:w.heap.size≤B):Ints k w' ao len zs:=
 ⟨h.hlen,h.lim,fun i hi=>by
  obtain⟨a,ha,hc⟩:=h.cell i hi
  exact⟨a,ha,by rw[hb.cell (Nat.lt_of_lt_of_le (World.block_lt_of_cell? w _ hc) hB)];exact hc⟩,h.wf⟩
theorem Ints.aj{k:IntKind}{w w':World}{ao:Option Addr}{len:Nat}{zs:List Int}(h:Ints k w ao len zs)(hb:Below w.heap.size w w'):Ints k w' ao len zs:=h.keep hb (Nat.le_refl _)
theorem Ints.take{k:IntKind}{w:World}{ao:Option Addr}{len:Nat}{zs:List Int}(h:Ints k w ao len zs){n:Nat}(hn:n≤len):Ints k w ao n (zs.take n):=
 ⟨by rw[List.length_take,h.hlen];omega,Nat.le_trans hn h.lim,fun i hi=>by
  obtain⟨a,ha,hc⟩:=h.cell i (by omega)
  refine⟨a,ha,?_⟩
  rw[hc];simp[hi],fun z hz=>h.wf z (List.mem_of_mem_take hz)⟩
theorem Ints.nil(k:IntKind)(w:World)(ao:Option Addr):Ints k w ao 0 []:=⟨rfl,by unfold maxLen;omega,fun i hi=>absurd hi (by omega),fun z hz=>by simp at hz⟩
theorem add0(b o j:Nat):(⟨b,o,none⟩:Addr).add j=⟨b,o+j,none⟩:=by unfold Addr.add;split<;>simp_all
theorem Ints.new(k:IntKind)(w:World)(zs:List Int)(e:TypeId)(fr:Nat×Nat)(cs:Array Value)(I:cs=(zs.map (Value.int k)).toArray)(n:Nat)(hn:zs.length=n)(hm:n≤maxLen)(hw: ∀z ∈ zs,(Lit.int k z).wf=true):
  Ints k (w.alloc (.cells cs e fr)) (some ⟨w.heap.size,0,none⟩) n zs:=by
 subst I
 refine⟨hn,hm,fun i hi=>⟨_,rfl,?_⟩,hw⟩
 have hb:(w.alloc (.cells (zs.map (Value.int k)).toArray e fr)).heap[w.heap.size]? =some (.cells (zs.map (Value.int k)).toArray e fr):=by
  show(w.heap.push _)[w.heap.size]? =_
  simp
 rw[add0,cell_of_row _ _ _ _ _ _ hb]
 simp[show i<zs.length by omega]
theorem Ints.byte{w:World}{ao:Option Addr}{len:Nat}{zs:List Int}(h:Ints .u8 w ao len zs){i:Nat}(hi:i<len):
  ∃(a:Addr)(c:Nat),ao=some a∧Hid (zs.getD i 0=(c:Int))∧w.cell? (a.add i)=some (.int .u8 c)∧c<256:=by
 obtain⟨a,ha,hc⟩:=h.cell i hi
 have h2:=bounds_u8 (h.wf (zs.getD i 0) (by simp[List.getElem?_eq_getElem (show i<zs.length by rw[h.hlen];exact hi)]))
 refine⟨a,(zs.getD i 0).toNat,ha,?_,?_,by omega⟩
 ·unfold Hid;omega
 ·rw[hc];congr 2;omega
theorem Ints.int{w:World}{ao:Option Addr}{len:Nat}{zs:List Int}(h:Ints .i64 w ao len zs){i:Nat}(hi:i<len):
  ∃(a:Addr)(c:Int),ao=some a∧Hid (zs.getD i 0=c)∧w.cell? (a.add i)=some (.int .i64 c)∧-9223372036854775808≤c∧c≤9223372036854775807:=by
 obtain⟨a,ha,hc⟩:=h.cell i hi
 have h2:=bounds_i64 (h.wf (zs.getD i 0) (by simp[List.getElem?_eq_getElem (show i<zs.length by rw[h.hlen];exact hi)]))
 exact⟨a,zs.getD i 0,ha,rfl,hc,h2.1,h2.2⟩
theorem gG(zs:List Int)(k:Nat)(h:k<zs.length):zs.take (k+1)=zs.take k++[zs.getD k 0]:=by
 rw[List.take_succ_eq_append_getElem h];simp[List.getElem?_eq_getElem h]
def spl:Array Value→Nat→List Value→Array Value
 | cs,_,[]=>cs
 | cs,o,v::r=>spl (cs.setIfInBounds o v) (o+1) r
theorem KP(vs:List Value): ∀(cs:Array Value)(o:Nat),(spl cs o vs).size=cs.size:=by
 induction vs with
 | nil=>intro cs o;rfl
 | cons v r ih=>intro cs o;simp[spl,ih]
theorem uu(vs:List Value): ∀(cs:Array Value)(o j:Nat),o+vs.length≤cs.size→(spl cs o vs)[j]? =if o≤j∧j<o+vs.length then vs[j - o]? else cs[j]? :=by
 induction vs with
 | nil=>intro cs o j _;simp only[spl,List.length_nil];rw[if_neg (by omega)]
 | cons v r ih=>
  intro cs o j h
  simp only[List.length_cons] at h
  rw[spl,ih _ _ _ (by simp;omega)]
  by_cases hj:j=o
  ·subst hj
   rw[if_neg (by omega),if_pos (by simp),Array.getElem?_setIfInBounds_self_of_lt (by omega)]
   simp
  ·by_cases h2:o+1≤j∧j<o+1+r.length
   ·rw[if_pos h2,if_pos (by simp;omega),show j - o=(j - (o+1))+1 by omega]
    simp
   ·rw[if_neg h2,if_neg (by simp;omega),Array.getElem?_setIfInBounds_ne (by omega)]
theorem spl_all(cs:Array Value)(vs:List Value)(h:vs.length=cs.size):spl cs 0 vs=vs.toArray:=by
 apply Array.ext_getElem?
 intro j
 rw[uu vs cs 0 j (by omega)]
 by_cases hj:j<vs.length
 ·rw[if_pos (by omega)];simp
 ·rw[if_neg (by omega),Array.getElem?_eq_none (by omega)];simp;omega
theorem iR(vs:List Value): ∀(w:World)(b o:Nat)(cs:Array Value)(t:TypeId),w.heap[b]? =some (.cells cs t (0,0))→(w.setCells b o vs).heap[b]? =some (.cells (spl cs o vs) t (0,0)):=by
 induction vs with
 | nil=>intro w b o cs t h;exact h
 | cons v r ih=>intro w b o cs t h;exact ih _ _ _ _ _ (heap_setCell_same _ _ _ _ _ _ h)
theorem gI(vs:List Value): ∀(w:World)(b o k:Nat),k≠b→(w.setCells b o vs).heap[k]? =w.heap[k]? :=by
 induction vs with
 | nil=>intro w b o k _;rfl
 | cons v r ih=>intro w b o k h;rw[World.setCells,ih _ _ _ _ h,heap_setCell_other _ _ _ _ h]
theorem lK(vs:List Value): ∀{B:Nat}{a w:World}(_:Below B a w){b:Nat}(_:B≤b)(o:Nat),Below B a (w.setCells b o vs):=by
 induction vs with
 | nil=>intro B a w h b _ o;exact h
 | cons v r ih=>intro B a w h b hb o;exact ih (h.setCell (by exact hb) v) hb _
theorem ae(w:World)(o:Obj):Below w.heap.size w (w.alloc o):=(Below.refl _ _).alloc (Nat.le_refl _) _
structure ag(S:Nat→Prop)(w w':World):Prop where
 os:w'.os=w.os
 tape:w'.tape=w.tape
 output:w'.output=w.output
 size:w.heap.size≤w'.heap.size
 block: ∀k,k<w.heap.size→¬S k→w'.heap[k]? =w.heap[k]?
namespace ag
variable {S S':Nat→Prop} {a w w':World}
theorem refl(S:Nat→Prop)(w:World):ag S w w:=⟨rfl,rfl,rfl,Nat.le_refl _,fun _ _ _=>rfl⟩
theorem trans(h:ag S a w)(k:ag S w w'):ag S a w':=
 ⟨k.os.trans h.os,k.tape.trans h.tape,k.output.trans h.output,Nat.le_trans h.size k.size,fun i hi hs=>(k.block i (Nat.lt_of_lt_of_le hi h.size) hs).trans (h.block i hi hs)⟩
theorem mono(h:ag S w w')(hs: ∀k,k<w.heap.size→S k→S' k):ag S' w w':=⟨h.os,h.tape,h.output,h.size,fun k hk hn=>h.block k hk fun e=>hn (hs k hk e)⟩
theorem andThen(h:ag S a w)(k:ag S' w w')(hs: ∀i,i<a.heap.size→S' i→S i):ag S a w':=
 ⟨k.os.trans h.os,k.tape.trans h.tape,k.output.trans h.output,Nat.le_trans h.size k.size,fun i hi hn=>(k.block i (Nat.lt_of_lt_of_le hi h.size) fun e=>hn (hs i hi e)).trans (h.block i hi hn)⟩
theorem drew(h:ag S a w):ag S a w.drew:=⟨h.os,h.tape,h.output,h.size,h.block⟩
theorem drewN(h:ag S a w)(n:Nat):ag S a (w.drewN n):=⟨h.os,h.tape,h.output,h.size,h.block⟩
theorem alloc(h:ag S a w)(o:Obj):ag S a (w.alloc o):=
 h.trans ⟨rfl,rfl,rfl,by simp,fun _ hk _=>Below.heap_alloc _ _ _ hk⟩
theorem setCell(h:ag S a w){p:Addr}(hp:a.heap.size≤p.block∨S p.block)(v:Value):ag S a (w.setCell p v):=
 h.andThen (S':=fun k=>k=p.block) ⟨rfl,rfl,rfl,by simp[World.setCell],fun k _ hn=>Below.heap_setCell _ _ _ _ hn⟩ fun i hi e=>by
  rcases hp with hp | hp
  ·omega
  ·exact e▸hp
theorem below(h:ag S a w){B:Nat}(hb:Below B w w')(hB:a.heap.size≤B):ag S a w':=
 ⟨hb.os.trans h.os,hb.tape.trans h.tape,hb.output.trans h.output,Nat.le_trans h.size hb.size,fun i hi hn=>(hb.block i (by omega)).trans (h.block i hi hn)⟩
theorem au{B:Nat}(hb:Below B w w')(hB:w.heap.size≤B):ag S w w':=(ag.refl S w).below hb hB
theorem grown{row:Option Nat}(h:ag S a w)(hg:w.grownBy w' row)(hr: ∀k,row=some k→a.heap.size≤k∨S k):ag S a w':=
 h.andThen (S':=fun k=>some k=row) ⟨hg.os,hg.tape,hg.output,hg.size,fun k hk hn=>hg.block k hk hn⟩ fun i hi e=>by
  rcases hr i e.symm with h | h
  ·omega
  ·exact h
theorem setCells(vs:List Value): ∀{w:World}(_:ag S a w){b:Nat}(_:a.heap.size≤b∨S b)(o:Nat),ag S a (w.setCells b o vs):=by
 induction vs with
 | nil=>intro w h b _ o;exact h
 | cons v r ih=>intro w h b hb o;exact ih (h.setCell (by exact hb) v) hb _
theorem aW(h:ag S a w){B:Nat}(hB:B≤a.heap.size)(hs: ∀k,k<B→¬S k):Below B a w:=
 ⟨h.os,h.tape,h.output,h.size,fun k hk=>h.block k (by omega) (hs k hk)⟩
theorem heap(h:ag S w w'){b:Nat}{o:Obj}(hb:w.heap[b]? =some o)(hn:¬S b):w'.heap[b]? =some o:=
 (h.block b (Array.getElem?_eq_some_iff.1 hb).1 hn).trans hb
theorem cell(h:ag S w w'){p:Addr}{v:Value}(hc:w.cell? p=some v)(hn:¬S p.block):w'.cell? p=some v:=
 (World.cell?_of_block (h.block p.block (World.block_lt_of_cell? w p hc) hn)).trans hc
end ag
theorem Ints.kept{S:Nat→Prop}{k:IntKind}{w w':World}{ao:Option Addr}{len:Nat}{zs:List Int}(h:Ints k w ao len zs)(hk:ag S w w')(hS: ∀a,ao=some a→¬S a.block):Ints k w' ao len zs:=
 ⟨h.hlen,h.lim,fun i hi=>by
  obtain⟨a,ha,hc⟩:=h.cell i hi
  exact⟨a,ha,hk.cell hc (by rw[Addr.add_block];exact hS a ha)⟩,h.wf⟩
def Under(ao:Option Addr)(B:Nat):Prop:=∀a,ao=some a→a.block<B
theorem Ints.under{k:IntKind}{w:World}{ao:Option Addr}{len:Nat}{zs:List Int}(h:Ints k w ao len zs)(hl:0<len):Under ao w.heap.size:=fun a ha=>by
 obtain⟨a',I,hc⟩:=h.cell 0 hl
 obtain rfl:a'=a:=by rw[ha] at I;exact(Option.some.inj I).symm
 have:=World.block_lt_of_cell? w _ hc
 rwa [Addr.add_block] at this
theorem bf{P:Program}{ops:Array Oper}{rest:List Oper}{o:Oper}{a:Act}{w:World}{Q:Exit→Act→World→Prop}(I:o.guard=none)(t:TypeId)(parts:Array (Nat×Operand))(ho:o.op= .build t parts)
  (l:List (Nat×Value)) (hl:(parts.map fun(i,x)=>(i,a.eval x)).toList=l) (cells:Array Value) (hc:P.built t l=some cells)
  (h:wpList P ops Q rest (a.put o.dst (.agg cells)) w):wpList P ops Q (o::rest) a w:=by
 subst hl
 exact wpList_plain I fun _ hK=>wp_build t parts ho (by rw[hc];rfl) (hK _ _ (by rw[hc];exact h))
theorem mZ{w:World}{base e:Nat}{v:Value}{n:Nat}{xs:List Value}(h:w.ownsRow base e 1 v n xs):
  ∃ao cap,v= .slice ao n cap∧n≤cap∧Row w ao n xs∧n≤maxLen∧Under ao w.heap.size∧(∀a,ao=some a→base≤a.block∧∃cs,w.heap[a.block]? =some (.cells cs e (0,0))):=by
 have hx:=h.1
 rcases h.2 with⟨rfl,rfl⟩ | ⟨g,cap,cur,rfl,hb,hg,hn,hc,hs,ht⟩
 ·refine⟨none,0,rfl,Nat.le_refl _,⟨by simpa using hx,?_⟩,by unfold maxLen;omega,fun a ha=>(by cases ha),fun a ha=>(by cases ha)⟩
  have:xs=[]:=List.eq_nil_of_length_eq_zero (by simpa using hx)
  subst this
  intro i v hv;simp at hv
 ·refine⟨_,cap,rfl,hn,⟨by simpa using hx,fun i v hv=>⟨_,rfl,h.cells (g:=g) rfl i v hv⟩⟩,by omega,fun a ha=>?_,fun a ha=>?_⟩
  ·cases ha;exact(Array.getElem?_eq_some_iff.1 hg).1
  ·cases ha;exact⟨hb,_,hg⟩
theorem Row.ints{w:World}{ao:Option Addr}{n:Nat}{k:IntKind}{zs:List Int}(h:Row w ao n (zs.map (Value.int k)))(hm:n≤maxLen)(hw: ∀z ∈ zs,(Lit.int k z).wf=true):Ints k w ao n zs:=by
 have hl:zs.length=n:=by have:=h.hlen;simpa using this
 refine⟨hl,hm,fun i hi=>?_,hw⟩
 exact h.cell i _ (by simp[show i<zs.length by omega])
theorem zN(w:World)(v:Value)(t:TypeId): ∀j u,[v][j]? =some u→(w.alloc (.cells #[v] t)).cell? ((⟨w.heap.size,0,none⟩:Addr).add j)=some u:=by
 intro j u hu
 have hj:j=0:=by
  have:=(List.getElem?_eq_some_iff.1 hu).1
  simp at this;omega
 subst hj
 simp at hu;subst hu
 rw[add0,cell_of_row _ _ _ _ _ _ (heap_alloc_new _ _)];rfl
theorem oz{v:Value}(h:v.oneCell'=true): ∀u ∈ [v],u.oneCell'=true:=by simpa using h
theorem aB{w w':World}{S:Nat→Prop}{base e size:Nat}{v:Value}{n:Nat}{xs:List Value}(h:w.ownsRow base e size v n xs)(hk:ag S w w')(hS: ∀k,v.ownBlock=some k→¬S k):w'.ownsRow base e size v n xs:=by
 refine⟨h.1,?_⟩
 rcases h.2 with hn | ⟨g,cap,cur,rfl,hb,hg,rest⟩
 ·exact .inl hn
 ·exact .inr ⟨g,cap,cur,rfl,hb,hk.heap hg (hS g rfl),rest⟩
theorem ah{w:World}{base e size:Nat}{v:Value}{n:Nat}{xs:List Value}(h:w.ownsRow base e size v n xs){k:Nat}(hk:v.ownBlock=some k): ∃cs,w.heap[k]? =some (.cells cs e (0,0)):=by
 rcases h.2 with⟨rfl,_⟩ | ⟨g,cap,cur,rfl,_,hg,_⟩
 ·simp[Value.ownBlock] at hk
 ·simp[Value.ownBlock] at hk;subst hk;exact⟨_,hg⟩
theorem aI{w:World}{a b t u:Nat}{cs ds:Array Value}{f g:Nat×Nat}(h:w.heap[a]? =some (.cells cs t f))(k:w.heap[b]? =some (.cells ds u g))(ht:t≠u):a≠b:=by
 intro e;subst e;rw[h] at k;simp at k;exact ht k.2.1
theorem qx{P:Program}{w:World}{ops:Array Oper}{rest:List Oper}{o:Oper}{a:Act}{Q:Exit→Act→World→Prop}(U:o.guard=none)(s x:Operand)(t e:TypeId)
  (ho:o.op= .call {callee:=.builtin .append,args:=#[s,x],argTypes:=#[t,t]}) (hu:P.underlying t=some (.slice e))
  {z:Value} {bytes:Nat} (I:(P.info? e).map (fun i=>(i.zero,i.size,i.bytes))=some (some z,1,bytes)) (j:z.cells.size=1)
  (B:Nat) (v:Value) (n:Nat) (xs:List Value) (hs:a.eval s=v) (R:w.ownsRow B e 1 v n xs) (u:Value) (hx:a.eval x= .slice (some ⟨w.heap.size,0,none⟩) 1 1) (h1:u.oneCell'=true)
  (A0:(n+1)*bytes≤140737488355328) (hn:n+1≤maxLen) (hB:B≤w.heap.size)
  (h: ∀v' w',w'.ownsRow B e 1 v' (n+1) (xs++[u])→ag (fun k=>v.ownBlock=some k) w w'→wpList P ops Q rest (a.put o.dst v') w'):wpList P ops Q (o::rest) a (w.alloc (.cells #[u] e)):=by
 obtain⟨i,hi,hz,A1,A2⟩:=info_parts I
 refine wpList_append_own _ U s x t ho B e i z 1 bytes hu hi hz A1 A2 j (by decide) v n xs hs (R.alloc _) ⟨w.heap.size,0,none⟩ 1 1 [u] hx rfl (zN _ _ _) (oz h1) hn A0 (by simp;omega) ?_
 intro v' w' J hg _
 exact h v' w' J (((ag.refl _ w).alloc _).grown hg fun k hk=>.inr hk)
theorem Ef{w w':World}{B e size:Nat}{v:Value}{n:Nat}{xs:List Value}(h:w.ownsRow B e size v n xs)(hk:ag (fun k=>v.ownBlock=some k) w w')(hB:B≤w.heap.size):Below B w w':=
 hk.aW hB fun k I hv=>by have:=(h.lt k hv).1;omega
theorem Ints.some{k:IntKind}{w:World}{ao:Option Addr}{len:Nat}{zs:List Int}(h:Ints k w ao len zs)(hl:0<len): ∃a,ao=Option.some a∧∀i,i<len→w.cell? (a.add i)=Option.some (.int k (zs.getD i 0)):=by
 obtain⟨a,ha,_⟩:=h.cell 0 hl
 refine⟨a,ha,fun i hi=>?_⟩
 obtain⟨a',I,hc⟩:=h.cell i hi
 rw[ha] at I;cases I;exact hc
theorem uB{k:IntKind}{zs:List Int}(h: ∀z ∈ zs,(Lit.int k z).wf=true)(h0:(Lit.int k 0).wf=true)(i:Nat):(Lit.int k (zs.getD i 0)).wf=true:=by
 by_cases hi:i<zs.length
 ·rw[show zs.getD i 0=zs[i] by simp[hi]];exact h _ (List.getElem_mem _)
 ·rw[show zs.getD i 0=0 by simp[Nat.le_of_not_lt hi]];exact h0
theorem bD{a x y:World}(h:Below a.heap.size a x)(k:Below x.heap.size x y):Below a.heap.size a y:=h.trans (k.mono h.size)
theorem ji{a x:World}(h:Below a.heap.size a x)(o:Obj):Below a.heap.size a (x.alloc o):=h.alloc h.size o
theorem bg{k:IntKind}{a b:Int}(h:a=b):Ending.returned (.int k a)= .returned (.int k b):=by rw[h]
theorem aP{a b:Bool}(h:a=b):Ending.returned (.bool a)= .returned (.bool b):=by rw[h]
instance:Coe Unit Value:=⟨fun _=>.int .i64 0⟩
theorem MI{p:Prop}(h:p):Go.RowKit.Hid p:=h
theorem aS{α:Type}:(∀(l:List α)(i:Nat)(h:i<l.toArray.size),l.toArray[i]=l[i]'(by simpa using h))∧(∀(a:α)(l:List α)(h:0<(a::l).length),(a::l)[0]=a)∧(∀(a:α)(l:List α)(i:Nat)(h:i+1<(a::l).length),(a::l)[i+1]=l[i]'(Nat.lt_of_succ_lt_succ h))∧(∀(l:List α)(i:Nat)(a:α),l.toArray.setIfInBounds i a=(l.set i a).toArray)∧(∀(x:α)(l:List α)(a:α),(x::l).set 0 a=a::l)∧(∀(x:α)(l:List α)(i:Nat)(a:α),(x::l).set (i+1) a=x::l.set i a):=⟨fun _ _ _=>List.getElem_toArray _,fun _ _ _=>rfl,fun _ _ _ _=>rfl,fun _ _ _=>List.setIfInBounds_toArray _ _ _,fun _ _ _=>rfl,fun _ _ _ _=>rfl⟩
open Go.RowKit in
theorem LY{w:World}{g j:Nat}{cs:Array Value}{t:TypeId}{fr:Nat×Nat}{v:Option Value}(hg:w.heap[g]? =some (.cells cs t fr))(e:cs[j]? =v):w.cell? ⟨g,j,none⟩=v:=(cell_of_row _ _ _ _ _ _ hg).trans e
open Go.RowKit in
theorem LZ{w:World}{g j:Nat}{cs:Array Value}{t:TypeId}{fr:Nat×Nat}(hg:w.heap[g]? =some (.cells cs t fr)):w.cell? ⟨g,j,none⟩=cs[j]? :=cell_of_row _ _ _ _ _ _ hg
open Go.RowKit in
theorem L6{w:World}{g j:Nat}{cs:Array Value}{t:TypeId}(hg:w.heap[g]? =some (.cells cs t (0,0))):w.frozen? ⟨g,j,none⟩=false:=frozen_of_row _ _ _ _ _ hg
open Go.RowKit in
theorem Mc{w:World}{g i:Nat}{cs:Array Value}{t:TypeId}{v:Value}(hg:w.heap[g]? =some (.cells cs t (0,0))):(w.setCell ⟨g,i,none⟩ v).heap[g]? =some (.cells (cs.setIfInBounds i v) t (0,0)):=heap_setCell_same w g i cs t v hg
theorem Md{w:World}{g:Nat}{old:Array Value}(cs:Array Value){t:TypeId}{fr:Nat×Nat}(hg:w.heap[g]? =some (.cells old t fr)):(w.setRow g cs).heap[g]? =some (.cells cs t fr):=setRow_heap w g old cs t fr hg
theorem L8{w:World}{b:Nat}{o:Obj}(h:w.heap[b]? =some o):b<w.heap.size:=lt_of_block h
theorem L9(w:World)(o:Obj):(w.alloc o).heap[w.heap.size]? =some o:=heap_alloc_new w o
theorem Me{n:Nat}:n≤n:=Nat.le_refl n
theorem MB{n:Nat}{w:World}:Below n w w:=Below.refl n w
theorem MC(T s:Nat){P:Program}{ops:Array Oper}{Q:Exit→Act→World→Prop}{d:_}{ty:_}{ps:_}{af:_}{gd:_}{r:List Oper}{a:Act}{w:World}(h:wpList P ops Q (Oper.mk d (Op.load T (Operand.tmp s)) ty ps af gd::r) a w):wpList P ops Q (Oper.mk d (Op.load T (Operand.tmp s)) ty ps af gd::r) a w:=h
theorem MF(T s x:Nat){P:Program}{ops:Array Oper}{Q:Exit→Act→World→Prop}{d:_}{ty:_}{ps:_}{af:_}{gd:_}{r:List Oper}{a:Act}{w:World}(h:wpList P ops Q (Oper.mk d (Op.store T (Operand.tmp s) (Operand.tmp x)) ty ps af gd::r) a w):wpList P ops Q (Oper.mk d (Op.store T (Operand.tmp s) (Operand.tmp x)) ty ps af gd::r) a w:=h
theorem MG{P:Program}{ops:Array Oper}{Q:Exit→Act→World→Prop}{md:Region.Mode}{S:World→Prop}(i:Nat){oi:Oper}(v:Value){fuel:Nat}{listed:Array Bool}{a:Act}{w:World}(hy: ∀w,S w→(execOp a.eval oi).run P w= .ok (.value v) w)(hS:S w)(h:wpAnyH P md ops Q S fuel (listed.setIfInBounds i true) (a.put oi.dst v) w)(hi:ops[i]? =some oi:=by rfl)(hs:Region.noSelect ops=true:=by kernel_rfl)(hf:Region.free md ops listed i=true:=by kernel_rfl)(hr:(Region.ready md ops listed).contains i=true:=by kernel_rfl)(hQ: ∀c a w,Q (.panic c) (a.put oi.dst v) w→Q (.panic c) a w:=by exact fun _ _ _ h=>h)(hw:Region.wanted oi (yielded ops a.tmps)=true:=by kernel_rfl):wpAnyH P md ops Q S (fuel+1) listed a w:=wpAnyH_take hi hs hf hr hQ (Or.inl ⟨hw,hy⟩) hS h
theorem MH{F:Fence}{n:Nat}{P:Program}{ops:Array Oper}{Q:Exit→Act→World→Prop}{md:Region.Mode}(i:Nat){oi:Oper}(v:Value){fuel:Nat}{listed:Array Bool}{a:Act}{w:World}(hy: ∀w,(execOp a.eval oi).run P w= .ok (.value v) w)(h:wpAnyIn F n P md ops Q fuel (listed.setIfInBounds i true) (a.put oi.dst v) w)(I:F.round=none:=by rfl)(hi:ops[i]? =some oi:=by rfl)(hs:Region.noSelect ops=true:=by kernel_rfl)(hf:Region.free md ops listed i=true:=by kernel_rfl)(hr:(Region.ready md ops listed).contains i=true:=by kernel_rfl)(hQ: ∀c a w,Q (.panic c) (a.put oi.dst v) w→Q (.panic c) a w:=by exact fun _ _ _ h=>h)(hw:Region.wanted oi (yielded ops a.tmps)=true:=by rfl)(hb: ∀w,oi.about P w a.eval=none:=by exact fun _=>rfl):wpAnyIn F n P md ops Q (fuel+1) listed a w:=wpAnyIn_take I hi hs hf hr hQ ⟨Or.inl ⟨hw,hy⟩,hb⟩ h
theorem ba{P:Program}{ops:Array Oper}{Q:Exit→Act→World→Prop}{md:Region.Mode}{S:World→Prop}{v:Value}(i:Nat){oi:Oper}{fuel:Nat}{listed:Array Bool}{a:Act}{w:World}(h:wpAnyH P md ops Q S fuel (listed.setIfInBounds i true) (a.put oi.dst v) w)(hi:ops[i]? =some oi:=by rfl)(hy: ∀w,S w→(execOp a.eval oi).run P w= .ok (.value v) w:=by intro w I;(try dsimp only at I);go_simp;try with_reducible rfl)(hS:S w:=by assumption)(hs:Region.noSelect ops=true:=by kernel_rfl)(hf:Region.free md ops listed i=true:=by kernel_rfl)(hr:(Region.ready md ops listed).contains i=true:=by kernel_rfl)(hQ: ∀c a w,Q (.panic c) (a.put oi.dst v) w→Q (.panic c) a w:=by exact fun _ _ _ h=>h)(hw:Region.wanted oi (yielded ops a.tmps)=true:=by kernel_rfl):wpAnyH P md ops Q S (fuel+1) listed a w:=wpAnyH_take hi hs hf hr hQ (Or.inl ⟨hw,hy⟩) hS h
theorem bh{F:Fence}{n:Nat}{P:Program}{ops:Array Oper}{Q:Exit→Act→World→Prop}{md:Region.Mode}{v:Value}(i:Nat){oi:Oper}{fuel:Nat}{listed:Array Bool}{a:Act}{w:World}(h:wpAnyIn F n P md ops Q fuel (listed.setIfInBounds i true) (a.put oi.dst v) w)(I:F.round=none:=by rfl)(hi:ops[i]? =some oi:=by rfl)(hy: ∀w,(execOp a.eval oi).run P w= .ok (.value v) w:=by intro w9;first | (go_simp;done) | (go_simp;with_reducible rfl))(hs:Region.noSelect ops=true:=by kernel_rfl)(hf:Region.free md ops listed i=true:=by kernel_rfl)(hr:(Region.ready md ops listed).contains i=true:=by kernel_rfl)(hQ: ∀c a w,Q (.panic c) (a.put oi.dst v) w→Q (.panic c) a w:=by exact fun _ _ _ h=>h)(hw:Region.wanted oi (yielded ops a.tmps)=true:=by rfl)(hb: ∀w,oi.about P w a.eval=none:=by exact fun _=>rfl):wpAnyIn F n P md ops Q (fuel+1) listed a w:=wpAnyIn_take I hi hs hf hr hQ ⟨Or.inl ⟨hw,hy⟩,hb⟩ h
theorem bj{P:Program}{ops:Array Oper}{Q:Exit→Act→World→Prop}{md:Region.Mode}{S:World→Prop}(i:Nat){o:Oper}{fuel:Nat}{listed:Array Bool}{a:Act}{w:World}(h: ∀(K':Act→World→Prop),Shut (∀(a:Act)(w:World),S w→(S w→wpAnyH P md ops Q S fuel (listed.setIfInBounds i true) a w)→K' a w)→if Region.wanted o (yielded ops a.tmps)=true then Oper.wp P o a w K' Q else K' (a.put o.dst undef) w)(ho:ops[i]? =some o:=by rfl)(hr:Region.ready md ops listed=[i]:=by kernel_rfl):wpAnyH P md ops Q S (fuel+1) listed a w:=wpAnyH_ready hr (by simp) (AllReadyH.cons ho h AllReadyH.nil)
theorem bl{F:Fence}{n:Nat}{P:Program}{ops:Array Oper}{Q:Exit→Act→World→Prop}{md:Region.Mode}(i:Nat){o:Oper}{fuel:Nat}{listed:Array Bool}{a:Act}{w:World}(h: ∀(K':Act→World→Prop),(∀(a:Act)(w:World),wpAnyIn F n P md ops Q fuel (listed.setIfInBounds i true) a w→K' a w)→if Region.wanted o (yielded ops a.tmps)=true then Oper.wpIn F n P o a w K' Q else(∀(f:FuncId),Oper.about P w a.eval o=some f→F.fn f)∧K' (a.put o.dst undef) w)(ho:ops[i]? =some o:=by rfl)(hr:Region.ready md ops listed=[i]:=by kernel_rfl):wpAnyIn F n P md ops Q (fuel+1) listed a w:=wpAnyIn_ready hr (by simp) (AllReadyIn.cons ho h AllReadyIn.nil)
theorem aa{p:Prop}(h:p:=by omega):p:=h
theorem af{p:Prop}(h:p:=by kernel_rfl):p:=h
theorem aq{p:Prop}(h:p:=by decide):p:=h
theorem ar{p:Prop}(h:p:=by simp):p:=h
theorem aw{p:Prop}(h:p:=by assumption):p:=h
theorem aD{p:Prop}(h:p:=by go_num):p:=h
theorem aE{p:Prop}(h:p:=by unfold maxLen;omega):p:=h
end Go.Calli
namespace Go.Calli
open Go.RowKit
variable {P:Program}
theorem jq(w:World)(t ty e:TypeId)(i:TypeInfo)(ht:P.underlying t=some (.slice e))(hi:P.info? e=some i){base size:Nat}{v:Value}{n:Nat}{xs:List Value}(I:w.ownsRow base e size v n xs)(c:Nat):
  (Builtin.append_ #[t,t] ty #[v,.slice none 0 c]).run P w= .ok v w:=by
 rcases I.2 with⟨rfl,rfl⟩ | ⟨g,cap,cur,rfl,j,hg,J,o,A0,R⟩
 ·simp[Builtin.append_,run_underlying ht,sizeOf,typeInfo,hi,Builtin.lenOf,Builtin.firstCells]
 ·have U:n+0≤cap:=aa
  simp[Builtin.append_,run_underlying ht,sizeOf,typeInfo,hi,Builtin.lenOf,J,Builtin.firstCells,loadCells,storeCells,Sem.run_pure]
theorem Ints.row{k:IntKind}{w:World}{ao:Option Addr}{n:Nat}{zs:List Int}(h:Ints k w ao n zs):Row w ao n (zs.map (Value.int k)):=by
 refine⟨by simpa using h.hlen,fun i v hv=>?_⟩
 have hi:i<zs.length:=by
  rcases Nat.lt_or_ge i zs.length with h1 | h1
  ·exact h1
  ·simp[List.getElem?_eq_none h1] at hv
 obtain⟨a,ha,hc⟩:=h.cell i (by rw[←h.hlen];exact hi)
 simp[List.getElem?_eq_getElem hi] at hv
 subst hv
 exact⟨a,ha,by rw[hc];simp[hi]⟩
theorem Ints.uA{k:IntKind}{w:World}{ao:Option Addr}{n:Nat}{zs:List Int}(h:Ints k w ao n zs)(hh:ao=none):n=0:=by
 rcases Nat.eq_zero_or_pos n with h0 | h0
 ·exact h0
 ·obtain⟨a',I,_⟩:=h.some h0
  rw[hh] at I;cases I
theorem lD(k:IntKind)(zs:List Int): ∀u ∈ zs.map (Value.int k),u.oneCell'=true:=by
 intro u hu
 obtain⟨z,_,rfl⟩:=List.mem_map.1 hu
 rfl
theorem Ints.drop{k:IntKind}{w:World}{a:Addr}{n:Nat}{zs:List Int}(h:Ints k w (Option.some a) n zs){j:Nat}(hj:j≤n):Ints k w (Option.some (a.add j)) (n - j) (zs.drop j):=by
 refine⟨by rw[List.length_drop,h.hlen],Nat.le_trans (Nat.sub_le _ _) h.lim,fun i hi=>⟨_,rfl,?_⟩,fun z hz=>h.wf z (List.mem_of_mem_drop hz)⟩
 obtain⟨a',R,hc⟩:=h.cell (j+i) aa
 cases R
 have e:(a.add j).add i=a.add (j+i):=by
  unfold Addr.add
  by_cases I:j=0
  ·simp[I]
  ·by_cases J:i=0
   ·simp[J]
   ·simp[I,J];omega
 rw[e,hc];simp
theorem rf{w w':World}(t ty e:TypeId)(hu:P.underlying t=some (.slice e)){i:TypeInfo}(hi:P.info? e=some i){z:Value}(hz:i.zero=some z)(R:i.size=1)
  (B:Nat) (v v':Value) (n:Nat) (xs:List Value) (U:w.ownsRow B e 1 v n xs)
  (ad:Addr) (m c:Nat) (news:List Value) (hl:news.length=m) (J: ∀j u,news[j]? =some u→w.cell? (ad.add j)=some u) (h1: ∀u ∈ news,u.oneCell'=true)
  (A0:(n+m)*i.bytes≤140737488355328) (hn:n+m≤maxLen)
  (hr:(Builtin.append_ #[t,t] ty #[v,.slice (some ad) m c]).run P w= .ok v' w'):v'.ownBlock=v.ownBlock∨v'.ownBlock=some w.heap.size:=by
 unfold maxLen at hn
 rcases U.2 with⟨rfl,rfl⟩ | ⟨g,cap,cur,rfl,A3,hg,A4,A5,A1,A2⟩
 ·by_cases hm:m=0
  ·subst hm
   have I:(Builtin.append_ #[t,t] ty #[.slice none 0 0,.slice (some ad) 0 c]).run P w= .ok (.slice none 0 0) w:=by
    simp[Builtin.append_,run_underlying hu,sizeOf,typeInfo,hi,Builtin.lenOf,Builtin.firstCells,loadCells,loadCellsFrom]
   rw[I] at hr
   cases hr
   exact .inl rfl
  ·have I:=run_append_nil (P:=P) w t ty e i z hu hi hz ad m c news (by rw[R];omega) J aa aa (by simp only[Nat.zero_add] at A0;omega)
   rw[I] at hr
   cases hr
   exact .inr rfl
 ·by_cases o:n+m≤cap
  ·have I:=run_append_room (P:=P) w t ty e i hu hi g n cap cur hg ad m c news (by rw[R];omega) J h1 o (by rw[R,A1,hl];omega)
   rw[I] at hr
   cases hr
   exact .inl rfl
  ·have holds: ∀j u,xs[j]? =some u→w.cell? ((⟨g,0,none⟩:Addr).add j)=some u:=U.cells (g:=g) rfl
   have I:=run_append_grow (P:=P) w t ty e i z hu hi hz ⟨g,0,none⟩ n cap xs (by rw[R];simpa using U.1) holds ad m c news (by rw[R];omega) J aa aa (growslice_fits aa A0)
   rw[I] at hr
   cases hr
   exact .inr rfl
theorem Lr(w:World)(t ty e:TypeId)(hu:P.underlying t=some (.slice e))
  {z:Value} {bytes:Nat} (R:(P.info? e).map (fun i=>(i.zero,i.size,i.bytes))=some (some z,1,bytes)) (A0:z.cells.size=1)
  (B:Nat) (v:Value) (n:Nat) (xs:List Value) (I:w.ownsRow B e 1 v n xs)
  (ao:Option Addr) (m c:Nat) (news:List Value) (J:Row w ao m news) (h1: ∀u ∈ news,u.oneCell'=true) (o:ao=none→m=0)
  (A1:(n+m)*bytes≤140737488355328) (hn:n+m≤maxLen) (hB:B≤w.heap.size):
  ∃v' w',(Builtin.append_ #[t,t] ty #[v,.slice ao m c]).run P w= .ok v' w'∧w'.ownsRow B e 1 v' (n+m) (xs++news)∧ag (fun k=>v.ownBlock=some k) w w':=by
 obtain⟨i,hi,hz,A2,A3⟩:=info_parts R
 cases ao with
 | some ad=>
  obtain⟨v',w',hr,h2,h3,_⟩:=run_append_own (P:=P) w B t ty e i z 1 bytes hu hi hz A2 A3 A0 aq v n xs I ad m c news (by rw[J.hlen];omega) (fun j u hj=>by
   obtain⟨a',A4,hc⟩:=J.cell j u hj
   cases A4
   exact hc) h1 hn A1 hB
  exact⟨v',w',hr,h2,(ag.refl _ w).grown h3 fun k hk=>.inr hk⟩
 | none=>
  obtain rfl:=o rfl
  have hl:=J.hlen
  have U:news=[]:=List.eq_nil_of_length_eq_zero (by simpa using hl)
  subst U
  exact⟨v,w,jq (P:=P) w t ty e i hu hi I c,by simpa using I,ag.refl _ w⟩
theorem qw{w:World}{ops:Array Oper}{rest:List Oper}{o:Oper}{a:Act}{Q:Exit→Act→World→Prop}(A1:o.guard=none)(s x:Operand)(t e:TypeId)
  (ho:o.op= .call {callee:=.builtin .append,args:=#[s,x],argTypes:=#[t,t]}) (hu:P.underlying t=some (.slice e))
  {z:Value} {bytes:Nat} (R:(P.info? e).map (fun i=>(i.zero,i.size,i.bytes))=some (some z,1,bytes)) (A3:z.cells.size=1)
  (B:Nat) (v:Value) (n:Nat) (xs:List Value) (hs:a.eval s=v) (I:w.ownsRow B e 1 v n xs)
  (ao:Option Addr) (m c:Nat) (news:List Value) (hx:a.eval x= .slice ao m c) (J:Row w ao m news) (h1: ∀u ∈ news,u.oneCell'=true) (A2:ao=none→m=0)
  (A4:(n+m)*bytes≤140737488355328) (hn:n+m≤maxLen) (hB:B≤w.heap.size)
  (h: ∀v' w',w'.ownsRow B e 1 v' (n+m) (xs++news)→ag (fun k=>v.ownBlock=some k) w w'→wpList P ops Q rest (a.put o.dst v') w'):wpList P ops Q (o::rest) a w:=by
 obtain⟨i,hi,hz,A5,A6⟩:=info_parts R
 cases ao with
 | some ad=>
  refine wpList_append_own _ A1 s x t ho B e i z 1 bytes hu hi hz A5 A6 A3 aq v n xs hs I ad m c news hx (by rw[J.hlen];omega) (fun j u hj=>?_) h1 hn A4 hB ?_
  ·obtain⟨a',A7,hc⟩:=J.cell j u hj
   cases A7
   exact hc
  ·intro v' w' U hg _
   exact h v' w' U ((ag.refl _ w).grown hg fun k hk=>.inr hk)
 | none=>
  obtain rfl:=A2 rfl
  have hl:=J.hlen
  have A0:news=[]:=List.eq_nil_of_length_eq_zero (by simpa using hl)
  subst A0
  have hr:=jq (P:=P) w t o.type e i hu hi I c
  refine wpList_plain A1 fun K hK=>?_
  unfold Oper.wp execOp
  simp only[ho,resolve,invoke,builtin,Sem.run_bind,Sem.run_pure,Result.andThen_ok,List.map_toArray,List.map_cons,List.map_nil,hs,hx,hr]
  refine hK _ _ (h v w ?_ (ag.refl _ w))
  simpa using I
theorem yM{w:World}{ao:Option Addr}{n:Nat}{zs:List Int}(h:Ints .u8 w ao n zs)(src e dst:TypeId)(c:Nat)(hs:P.underlying src=some (.slice e))(he:P.underlying e=some (.int .u8))(hd:P.underlying dst=some .string):
  (convert src dst (.slice ao n c)).run P w= .ok (.string (strOfNums zs)) w:=by
 cases ao with
 | none=>
  obtain rfl:=h.uA rfl
  have hz:zs=[]:=List.eq_nil_of_length_eq_zero h.hlen
  subst hz
  rw[run_convert_bytes_nil w src e hs he 0 c dst hd]
  rfl
 | some a=>
  have hl:(loadCells a n).run P w= .ok (zs.map (Value.int .u8)).toArray w:=by
   have:=run_loadCells_list (P:=P) w a (zs.map (Value.int .u8)) (fun j v hj=>by
    obtain⟨a',I,hc⟩:=h.row.cell j v hj
    cases I
    exact hc)
   simpa[h.hlen] using this
  rw[run_convert_bytes_string w src dst e _ n c hs he hd,run_bytesToString w _ n c zs hl,foldl_push_bytes]
  simp[strOfNums,ByteArray.empty,ByteArray.emptyWithCapacity]
  rfl
theorem nY{w:World}{ops:Array Oper}{rest:List Oper}{o:Oper}{a:Act}{Q:Exit→Act→World→Prop}(A1:o.guard=none)(s x:Operand)(t e:TypeId)
  (ho:o.op= .call {callee:=.builtin .append,args:=#[s,x],argTypes:=#[t,t]}) (hu:P.underlying t=some (.slice e))
  {z:Value} {bytes:Nat} (R:(P.info? e).map (fun i=>(i.zero,i.size,i.bytes))=some (some z,1,bytes)) (A2:z.cells.size=1)
  (B:Nat) (v:Value) (n:Nat) (xs:List Value) (hs:a.eval s=v) (J:w.ownsRow B e 1 v n xs) (u:Value) (hx:a.eval x= .slice (some ⟨w.heap.size,0,none⟩) 1 1) (h1:u.oneCell'=true)
  (U:(n+1)*bytes≤140737488355328) (hn:n+1≤maxLen) (hB:B≤w.heap.size)
  (h: ∀v' w',w'.ownsRow B e 1 v' (n+1) (xs++[u])→ag (fun k=>v.ownBlock=some k) w w'→(v'.ownBlock=v.ownBlock∨∃k,v'.ownBlock=some k∧w.heap.size≤k)→wpList P ops Q rest (a.put o.dst v') w'):wpList P ops Q (o::rest) a (w.alloc (.cells #[u] e)):=by
 obtain⟨i,hi,hz,j,A0⟩:=info_parts R
 obtain⟨v',w',hr,h2,h3,_⟩:=run_append_own (P:=P) (w.alloc (.cells #[u] e)) B t o.type e i z 1 bytes hu hi hz j A0 A2 aq v n xs (J.alloc _) ⟨w.heap.size,0,none⟩ 1 1 [u] rfl (zN _ _ _) (oz h1) hn U (by simp;omega)
 have I:=rf (P:=P) t o.type e hu hi hz j B v v' n xs (J.alloc _) ⟨w.heap.size,0,none⟩ 1 1 [u] rfl (zN _ _ _) (oz h1) (by rw[A0];exact U) hn hr
 refine wpList_plain A1 fun K hK=>?_
 unfold Oper.wp execOp
 simp only[ho,resolve,invoke,builtin,Sem.run_bind,Sem.run_pure,Result.andThen_ok,List.map_toArray,List.map_cons,List.map_nil,hs,hx,hr]
 refine hK _ _ (h v' w' h2 (((ag.refl _ w).alloc _).grown h3 fun k hk=>.inr hk) ?_)
 rcases I with I | I
 ·exact .inl I
 ·exact .inr ⟨_,I,ar⟩
end Go.Calli
namespace Go.Calli
open Go
variable {P:Program} {md:Region.Mode} {w:World} {S:World→Prop} {Q:Exit→Act→World→Prop}
end Go.Calli
namespace Go.Proofs.YtnicjahcgnhogaaGreatDoor
open Go Go.RowKit Go.Calli
attribute [local irreducible] wpStill wpAnyH wpAnyS wpList Code.wp
def Qt(v:Value)(w:World)(e:Ending)(w':World):Prop:=e= .returned v∧∃m,w'=w.drewN m
theorem wu(n:Int):bits .and .i64 n 1=n%2:=by
 have I:(BitVec.ofInt 64 1).toNat=2^1 - 1:=aq
 have key:(BitVec.ofInt 64 n&&&BitVec.ofInt 64 1).toNat=(n%((2^64:Nat):Int)).toNat%2^1:=by
  rw[BitVec.toNat_and,BitVec.toNat_ofInt,I,Nat.and_two_pow_sub_one_eq_mod]
 show IntKind.i64.wrap ((BitVec.ofInt 64 n&&&BitVec.ofInt 64 1).toNat:Nat)=n%2
 rw[key,IntKind.wrap_i64]
 omega
def mi(v lo hi:Int):Int:=if v<lo∨hi<lo then lo else if hi<v then hi else v
def rnd(v:Int)(p:Nat):Int:=if p=0 then v else wrap64 (v/2^p+v/2^(p - 1)%2)
theorem sK(v lo hi:Int)(w:World):Calls Tryz.prog 141 #[.int .i64 v,.int .i64 lo,.int .i64 hi] w (Qt (.int .i64 (mi v lo hi)) w):=by
 by_cases h1:v<lo
 ·go_enter Tryz.func141,Tryz.ntmps141
  go_wp2_with fail
  go_ret
  exact⟨bg (by unfold mi;rw[if_pos (Or.inl h1)]),0,rfl⟩
 ·by_cases h2:hi<lo
  ·go_enter Tryz.func141,Tryz.ntmps141
   go_wp2_with fail
   go_ret
   exact⟨bg (by unfold mi;rw[if_pos (Or.inr h2)]),0,rfl⟩
  ·by_cases h3:hi<v
   ·go_enter Tryz.func141,Tryz.ntmps141
    go_wp2_with fail
    go_ret
    exact⟨bg (by unfold mi;rw[if_neg aa,if_pos h3]),0,rfl⟩
   ·go_enter Tryz.func141,Tryz.ntmps141
    go_wp2_with fail
    go_ret
    exact⟨bg (by unfold mi;rw[if_neg aa,if_neg aa]),0,rfl⟩
def jl(v:Int):Int:=mi v (-32768) 32767
theorem oU(v:Int)(w:World):Calls Tryz.prog 113 #[.int .i64 v] w (Qt (.int .i64 (jl v)) w):=by
 have hC:=fun w=>sK v (-32768) 32767 w
 go_enter Tryz.func113,Tryz.ntmps113
 go_wp2_with (go_at_call 141;refine(hC _).mono ?_;rintro e w1 ⟨rfl,n1,rfl⟩)
 go_ret
 exact⟨rfl,n1,rfl⟩
theorem DX(v:Int)(w:World):Calls Tryz.prog 138 #[.int .i64 v,()] w (Qt (.int .i64 v) w):=by
 go_enter Tryz.func138,Tryz.ntmps138
 go_wp2_with fail
 go_ret
 exact⟨rfl,0,rfl⟩
theorem Ip(v:Int)(p:Nat)(h0:0<p)(h1:p≤62)(w:World):Calls Tryz.prog 138 #[.int .i64 v,.int .i64 p] w (Qt (.int .i64 (rnd v p)) w):=by
 have I:¬(p:Int)=0:=aa
 have J:¬(p:Int)<0:=aa
 have R:¬62<(p:Int):=aa
 have hw:IntKind.i64.wrap ((p:Int) - 1)=((p - 1:Nat):Int):=by rw[show(p:Int) - 1=((p - 1:Nat):Int) by omega];exact IntWalk.i64_in _ aa
 have hm:min p 64=p:=aa
 have U:min (p - 1) 64=p - 1:=aa
 have e1:bits BinOp.and IntKind.i64 (v/2^(p - 1)) 1=v/2^(p - 1)%2:=wu _
 have HR:Hid (rnd v p=wrap64 (v/2^p+v/2^(p - 1)%2)):=by unfold Hid rnd;rw[if_neg aa]
 go_enter Tryz.func138,Tryz.ntmps138
 go_wp2_with fail
 go_quiet (fail)
 go_wp2_with fail
 go_ret
 exact⟨bg (by rw[HR.out]),nq,rfl⟩
theorem jO(v:Int)(p:Nat)(h1:p≤62)(w:World):Calls Tryz.prog 138 #[.int .i64 v,.int .i64 p] w (Qt (.int .i64 (rnd v p)) w):=by
 by_cases h0:p=0
 ·subst h0
  have:=DX v w
  rwa [show v=rnd v 0 from(if_pos rfl).symm] at this
 ·exact Ip v p aa h1 w
def qI(v:Int)(p:Nat):Int:=if p=0 then wrap64 v else if wrap64 (2^(p - 1))≤v.tmod (2^p) then wrap64 (wrap64 (v.tdiv (2^p))+1) else if v.tmod (2^p)≤wrap64 (-2^(p - 1)) then wrap64 (wrap64 (v.tdiv (2^p)) - 1) else wrap64 (v.tdiv (2^p))
def cutZ(v:Int)(p:Nat):Int:=wrap64 (v.tdiv (2^p))
def wV(v:Int):Int:=if v= -9223372036854775808 then 9223372036854775807 else if v<0 then wrap64 (-v) else v
theorem uD(v:Int)(w:World):Calls Tryz.prog 197 #[.int .i64 v] w (Qt (.int .i64 (wV v)) w):=by
 by_cases h1:v= -9223372036854775808
 ·subst h1
  go_enter Tryz.func197,Tryz.ntmps197
  go_wp2_with fail
  go_ret
  exact⟨rfl,0,rfl⟩
 ·by_cases h2:v<0
  ·go_enter Tryz.func197,Tryz.ntmps197
   go_wp2_with fail
   go_ret
   exact⟨bg (by unfold wV;rw[if_neg h1,if_pos h2]<;>rfl),0,rfl⟩
  ·go_enter Tryz.func197,Tryz.ntmps197
   go_wp2_with fail
   go_ret
   exact⟨bg (by unfold wV;rw[if_neg h1,if_neg aa]),0,rfl⟩
theorem vC(p:Nat)(h:p≤62):(1:Int)≤2^p∧(2:Int)^p≤4611686018427387904:=by
 have h1:(2:Nat)^p≤2^62:=Nat.pow_le_pow_right aq h
 have h2:1≤(2:Nat)^p:=Nat.one_le_two_pow
 have e:((2:Int)^p)=((2^p:Nat):Int):=ar
 rw[e]
 exact⟨aa,aa⟩
theorem cut_any(v:Int)(p:Nat)(h1:p≤62)(w:World):Calls Tryz.prog 254 #[.int .i64 v,.int .i64 p] w (Qt (.int .i64 (cutZ v p)) w):=by
 have I:¬(p:Int)<0:=aa
 have J:¬62<(p:Int):=aa
 have hm:min p 64=p:=aa
 obtain⟨a1,a2⟩:=vC p h1
 have hw:IntKind.i64.wrap (2^p)=2^p:=IntWalk.i64_in _ aa
 have R:¬((2:Int)^p=0):=aa
 go_enter Tryz.func254,Tryz.ntmps254
 go_wp2_with fail
 go_ret
 exact⟨rfl,0,rfl⟩
theorem MW(v:Int)(p:Nat)(h1:p≤62)(w:World):Calls Tryz.prog 236 #[.int .i64 v,.int .i64 p] w (Qt (.int .i64 (qI v p)) w):=by
 have I:¬(p:Int)<0:=aa
 have J:¬62<(p:Int):=aa
 have hm:min p 64=p:=aa
 have R:min (p - 1) 64=p - 1:=aa
 obtain⟨a1,a2⟩:=vC p h1
 have hw:IntKind.i64.wrap (2^p)=2^p:=IntWalk.i64_in _ aa
 have U:¬((2:Int)^p=0):=aa
 by_cases h0:p=0
 ·subst h0
  go_enter Tryz.func236,Tryz.ntmps236
  go_upto_region 3 with fail
  go_quiet (fail)
  go_wp2_with fail
  go_ret
  exact⟨bg (by unfold qI;rw[if_pos rfl]),nq,rfl⟩
 ·have hz:¬(p:Int)=0:=aa
  have j:IntKind.i64.wrap ((p:Int) - 1)=((p - 1:Nat):Int):=by rw[show(p:Int) - 1=((p - 1:Nat):Int) by omega];exact IntWalk.i64_in _ aa
  go_enter Tryz.func236,Tryz.ntmps236
  go_upto_region 3 with fail
  go_quiet (fail)
  go_wp2_with fail
  all_goals go_ret
  ·exact⟨bg (by unfold qI;rw[if_neg h0,if_pos aw]),nq,rfl⟩
  ·exact⟨bg (by unfold qI;rw[if_neg h0,if_neg aa,if_pos aw]),nq,rfl⟩
  ·exact⟨bg (by unfold qI;rw[if_neg h0,if_neg aa,if_neg aa]),nq,rfl⟩
def kM:Nat→Nat→Nat
 | 0,_=>0
 | k+1,n=>if n=0 then 0 else kM k (n/2)+1
def kE(v:Int):Int:=if v=0 then 0 else 1+kM 64 (if v<0 then(-v - 1).toNat else v.toNat)
def aC(v:Value):Nat:=match v with
 | .int _ n=>n.toNat
 | _=>0
def jf(l:List Int):Int:=l.foldl (fun p v=>max p (wV v)) 0
theorem Ea(l:List Int)(j:Nat)(h:j<l.length):jf (l.take (j+1))=max (jf (l.take j)) (wV (l.getD j 0)):=by
 unfold jf
 rw[gG l j h,List.foldl_append];rfl
theorem vG(ao:Option Addr)(n cap:Nat)(zs:List Int)(w:World)(h:Ints .i64 w ao n zs):Calls Tryz.prog 166 #[.slice ao n cap] w (Qt (.int .i64 (jf zs)) w):=by
 have HA:=MI (fun v w=>uD v w)
 have o:=h.hlen
 have J:=h.lim
 unfold maxLen at J
 go_enter Tryz.func166,Tryz.ntmps166
 go_upto_region 3 with fail
 go_loopw [3,8] (fun v3 v8 wr=>∃j:Nat,j≤n∧v8= .int .i64 (j:Int)∧v3= .int .i64 (jf (zs.take j))∧∃m,wr=w.drewN m) (fun _ v8 _=>n - aC v8)
 case atStart=>exact⟨0,aa,rfl,rfl,0,rfl⟩
 case round=>
  obtain⟨j,hj,rfl,rfl,m,rfl⟩:=hrel
  by_cases R:j<n
  ·obtain⟨a,v,rfl,hv,hc,-⟩:=h.int R
   have I:=Ea zs j aa
   rw[hv] at I
   have U:=MI I
   clear I hv
   go_wp2_with (go_at_call 197;refine(HA.out _ _).mono ?_;rintro e w2 ⟨rfl,m2,rfl⟩)
   refine⟨⟨j+1,aa,aD,by rw[U.out];congr 1;split<;>omega,m+m2,rfl⟩,?_⟩
   simp[aC];omega
  ·obtain rfl:j=n:=aa
   rw[List.take_of_length_le aa]
   go_wp2_with fail
   go_ret
   exact⟨rfl,m,rfl⟩
def addZ(s v:Int):Int:=if 0<s∧0<v∧wrap64 (s+v)<0 then 9223372036854775807 else if s<0∧v<0∧0≤wrap64 (s+v) then -9223372036854775808 else wrap64 (s+v)
def pK(l:List Int):Int:=l.foldl addZ 0
theorem JL(l:List Int)(j:Nat)(h:j<l.length):pK (l.take (j+1))=addZ (pK (l.take j)) (l.getD j 0):=by
 unfold pK
 rw[gG l j h,List.foldl_append];rfl
theorem add_any(ao:Option Addr)(n cap:Nat)(zs:List Int)(w:World)(h:Ints .i64 w ao n zs):Calls Tryz.prog 114 #[.slice ao n cap] w (Qt (.int .i64 (pK zs)) w):=by
 have o:=h.hlen
 have J:=h.lim
 unfold maxLen at J
 go_enter Tryz.func114,Tryz.ntmps114
 go_upto_region 3 with fail
 go_loopw [3,9] (fun v3 v9 wr=>∃j:Nat,j≤n∧v9= .int .i64 (j:Int)∧v3= .int .i64 (pK (zs.take j))∧∃m,wr=w.drewN m) (fun _ v9 _=>n - aC v9)
 case atStart=>exact⟨0,aa,rfl,rfl,0,rfl⟩
 case round=>
  obtain⟨j,hj,rfl,rfl,m,rfl⟩:=hrel
  by_cases R:j<n
  ·obtain⟨a,v,rfl,hv,hc,-⟩:=h.int R
   have I:=JL zs j aa
   rw[hv] at I
   have U:=MI I
   clear I hv
   generalize pK (zs.take j)=s at*
   have HZ:Hid (addZ s v=if 0<s∧0<v∧wrap64 (s+v)<0 then 9223372036854775807 else if s<0∧v<0∧0≤wrap64 (s+v) then -9223372036854775808 else wrap64 (s+v)):=rfl
   go_wp2_with fail
   all_goals
    refine⟨⟨j+1,aa,aD,by rw[U.out,HZ.out];congr 1;(repeat' split)<;>omega,m,rfl⟩,?_⟩
    simp[aC];omega
  ·obtain rfl:j=n:=aa
   rw[List.take_of_length_le aa]
   go_wp2_with fail
   go_ret
   exact⟨rfl,m,rfl⟩
theorem Gn(ao:Option Addr)(n cap:Nat)(zs:List Int)(w:World)(h:Ints .i64 w ao n zs):Calls Tryz.prog 77 #[.slice ao n cap] w (Qt (.int .i64 (jl (pK zs))) w):=by
 have hA:=add_any ao n cap zs w h
 have hS:=fun w=>oU (pK zs) w
 go_enter Tryz.func77,Tryz.ntmps77
 go_wp2_with (first | (go_at_call 114;refine hA.mono ?_;rintro e w1 ⟨rfl,n1,rfl⟩) | (go_at_call 113;refine(hS _).mono ?_;rintro e w2 ⟨rfl,n2,rfl⟩))
 go_ret
 exact⟨rfl,n1+n2,rfl⟩
theorem JH(k n:Nat)(h:n<2^(k+1))(h0:0<n):kM (k+1) n=kM k (n/2)+1:=by
 show(if n=0 then 0 else kM k (n/2)+1)=_
 rw[if_neg aa]
theorem JG: ∀(k n:Nat),n<2^k→kM (k+1) n=kM k n:=by
  intro k
  induction k with
  | zero => intro n h; have : n = 0 := aa
            subst this;rfl
  | succ k ih=>
    intro n h
    show(if n=0 then 0 else kM (k+1) (n/2)+1)=if n=0 then 0 else kM k (n/2)+1
    rw[ih (n/2) (by rw[Nat.pow_succ] at h;omega)]
theorem uC: ∀(k n:Nat),kM k n≤k:=by
 intro k
 induction k with
 | zero=>intro n;exact Me
 | succ k ih=>
  intro n
  show(if n=0 then 0 else kM k (n/2)+1)≤k+1
  have:=ih (n/2)
  split<;>omega
theorem OH(n:Nat)(h:n<2^63)(h0:0<n):kM 64 n=kM 64 (n/2)+1:=by
 rw[JH 63 n aa h0,JG 63 (n/2) aa]
theorem i64_not(v:Int)(h1: -9223372036854775808≤v)(h2:v≤9223372036854775807):bits .xor .i64 (-1) v= -v - 1:=by
 have key:(BitVec.ofInt 64 (-1)^^^BitVec.ofInt 64 v).toNat=2^64 - 1 - (v%((2^64:Nat):Int)).toNat:=by
  rw[show BitVec.ofInt 64 (-1)=BitVec.allOnes 64 by decide,BitVec.allOnes_xor,BitVec.toNat_not,BitVec.toNat_ofInt]
 show IntKind.i64.wrap ((BitVec.ofInt 64 (-1)^^^BitVec.ofInt 64 v).toNat:Nat)= -v - 1
 rw[key,IntKind.wrap_i64]
 omega
theorem xH(v:Int)(h1: -9223372036854775808≤v)(h2:v≤9223372036854775807)(w:World):Calls Tryz.prog 165 #[.int .i64 v] w (Qt (.int .i64 (kE v)) w):=by
 by_cases h0:v=0
 ·subst h0
  go_enter Tryz.func165,Tryz.ntmps165
  go_wp2_with fail
  go_ret
  exact⟨rfl,0,rfl⟩
 ·obtain⟨x,hx,A0⟩: ∃x:Nat,x=(if v<0 then(-v - 1).toNat else v.toNat)∧x<2^63:=⟨_,rfl,by split<;>omega⟩
  have HV:Hid (kE v=1+(kM 64 x:Nat)):=by unfold Hid kE;rw[if_neg h0,hx]
  have A1:=uC 64 x
  have HX:Hid ((x:Int)=if v<0 then -v - 1 else v):=by unfold Hid;rw[hx];split<;>omega
  clear hx
  have HT:Hid (∀k:Int,k=1+(kM 64 x:Nat)→kE v=k):=fun k hk=>by rw[HV.out,hk]
  by_cases hn:v<0
  ·have J:=HX.out
   rw[if_pos hn] at J
   have hg:¬(v=0):=h0
   go_enter Tryz.func165,Tryz.ntmps165
   go_upto_region 6 with fail
   go_loopw [0,3] (fun v0 v3 wr=>∃y k:Nat,v0= .int .i64 (y:Int)∧v3= .int .i64 (k:Int)∧y≤x∧k≤65∧Hid (k+kM 64 y=1+kM 64 x)∧wr=w) (fun v0 _ _=>aC v0)
   case atStart=>exact⟨x,1,by rw[J,←i64_not v h1 h2]<;>rfl,rfl,Me,aa,rfl,rfl⟩
   case round=>
    obtain⟨y,k,rfl,rfl,o,hk,hb,rfl⟩:=hrel
    by_cases hy:0<y
    ·have R:=OH y aa hy
     have I:=hb.out
     have U:=uC 64 (y/2)
     rw[R] at I
     have HB:Hid (k+1+kM 64 (y/2)=1+kM 64 x):=by unfold Hid;omega
     have j:k+1≤65:=aa
     clear R I hb U
     go_wp2_with fail
     refine⟨⟨y/2,k+1,aD,aD,aa,j,HB.out,trivial⟩,?_⟩
     simp[aC];omega
    ·obtain rfl:y=0:=aa
     have I:=hb.out
     rw[show kM 64 0=0 by rfl] at I
     have HK:Hid (kE v=(k:Int)):=HT.out _ aa
     clear hb I
     go_wp2_with fail
     go_ret
     exact⟨bg HK.out.symm,0,rfl⟩
  ·have J:=HX.out
   rw[if_neg hn] at J
   subst J
   go_enter Tryz.func165,Tryz.ntmps165
   go_upto_region 6 with fail
   go_loopw [0,3] (fun v0 v3 wr=>∃y k:Nat,v0= .int .i64 (y:Int)∧v3= .int .i64 (k:Int)∧y≤x∧k≤65∧Hid (k+kM 64 y=1+kM 64 x)∧wr=w) (fun v0 _ _=>aC v0)
   case atStart=>exact⟨x,1,rfl,rfl,Me,aa,rfl,rfl⟩
   case round=>
    obtain⟨y,k,rfl,rfl,o,hk,hb,rfl⟩:=hrel
    by_cases hy:0<y
    ·have R:=OH y aa hy
     have I:=hb.out
     have U:=uC 64 (y/2)
     rw[R] at I
     have HB:Hid (k+1+kM 64 (y/2)=1+kM 64 x):=by unfold Hid;omega
     have j:k+1≤65:=aa
     clear R I hb U
     go_wp2_with fail
     refine⟨⟨y/2,k+1,aD,aD,aa,j,HB.out,trivial⟩,?_⟩
     simp[aC];omega
    ·obtain rfl:y=0:=aa
     have I:=hb.out
     rw[show kM 64 0=0 by rfl] at I
     have HK:Hid (kE (x:Int)=(k:Int)):=HT.out _ aa
     clear hb I
     go_wp2_with fail
     go_ret
     exact⟨bg HK.out.symm,0,rfl⟩
end Go.Proofs.YtnicjahcgnhogaaGreatDoor
