/- Part 17 of the walk: contracts of the program's functions, each for every input. No condition. -/
import Derived.Test.YtnicjahcgnhogaaGreatDoorU15
import Derived.Lib.Bytealg
import Derived.Lib.Bytes
set_option linter.unusedVariables false
set_option linter.unusedSimpArgs false
set_option maxRecDepth 100000
set_option maxHeartbeats 8000000
namespace Go.Proofs.YtnicjahcgnhogaaGreatDoor
open Go Go.RowKit Go.Calli
attribute [local irreducible] wpStill wpAnyH wpAnyS wpList Code.wp
theorem zero98(w:World):(zeroValue 98).run Tryz.prog w= .ok (.pointer none) w:=af
def jP(Y:Yx)(y:Ye):Ye:={y with ps:=List.replicate Y.n none}
theorem IE(X:Fx)(Y:Yx)(B:Bk)(K:Nat)(σ:Own)(f:Fe)(y:Ye)(w:World)(h:aN X σ w B K f)(hy:YIs X Y B K σ w y):Calls Tryz.prog 9 #[.pointer (some ⟨Y.yb,0,none⟩)] w (fun e w'=>e= .returned (.tuple #[])∧aN X σ w' B K f∧YIs X Y B K σ w' (jP Y y)∧ag (FO σ) w w'):=by
 have HN:=MI (iC X Y B K σ y w hy)
 obtain⟨c0,c1,c2⟩:=hy.cells
 have R:=hy.n1
 have J: ∀ty,(Builtin.clear_ #[83] ty #[.slice (some ⟨Y.sb,0,none⟩) Y.n Y.n]).run Tryz.prog w= .ok (.tuple #[]) (w.setCells Y.sb 0 (List.replicate Y.n (.pointer none))):=
  fun ty=>Lib.run_clear_slice w 83 98 ty (.pointer none) Tryz.underlying83 zero98 rfl rfl Y.sb 0 Y.n Y.n aa (fun j hj=>by rw[Nat.zero_add,hy.cell hj];rfl) (fun j _=>L6 hy.sl)
 have hk:ag (fun k=>k=Y.sb) w (w.setCells Y.sb 0 (List.replicate Y.n (.pointer none))):=(ag.refl (fun k=>k=Y.sb) w).setCells _ (.inr rfl) _
 have I:Y.yb≠Y.sb:=fun e=>by have:=hy.o1;have:=hy.o2;rw[e] at*;omega
 have HE:Hid (aN X σ (w.setCells Y.sb 0 (List.replicate Y.n (.pointer none))) B K f∧YIs X Y B K σ (w.setCells Y.sb 0 (List.replicate Y.n (.pointer none))) (jP Y y)∧ag (FO σ) w (w.setCells Y.sb 0 (List.replicate Y.n (.pointer none)))):=by
  have ho:=hy.o2
  refine⟨h.kept (hk.mono fun k _ e=>by rw[e,ho];omega),⟨hk.heap hy.row I,?_,by simp[jP],hy.n1,hy.n2,hy.o1,hy.o2,fun i P p hq=>?_,hy.c0,hy.c1⟩,hk.mono fun k _ e=>by unfold FO;rw[e,ho];omega⟩
  ·have h1:=kT (T:=98) (w:=w) (b:=Y.sb) [] (y.ps.map nU) [] (List.replicate Y.n (.pointer none)) (by simpa using hy.sl) (by simp[hy.len])
   simp only[jP,List.map_replicate,nU]
   simpa using h1
  ·exfalso
   simp only[jP,List.getD] at hq
   rcases Nat.lt_or_ge i Y.n with hl | hl
   ·simp[hl] at hq
   ·simp[Nat.not_lt.2 hl] at hq
 clear h hy hk I c0 c2
 go_enter Tryz.func9,Tryz.ntmps9
 go_wp2_with (first | (go_at_call 27;refine HN.out.mono ?_;rintro e w' ⟨rfl,rfl⟩) | (simp only[J]))
 go_end0
 exact⟨rfl,HE.out⟩
def aG(σ:Own)(a b t:Nat):Own:=fun k=>if a≤k∧k<b then t else σ k
theorem dA(σ:Own)(a b t:Nat):Ext σ (aG σ a b t) a:=fun k hk=>if_neg aa
theorem aX(σ:Own){a b k:Nat}(t:Nat)(h0:a≤k)(h1:k<b):aG σ a b t k=t:=if_pos ⟨h0,h1⟩
theorem dW(σ:Own){a b k:Nat}(t:Nat)(h:k<a):aG σ a b t k=σ k:=if_neg aa
theorem aN.aG{X:Fx}{σ:Own}{w w':World}{B:Bk}{K:Nat}{f:Fe}(h:aN X σ w B K f)(hk:ag (fun k=>3≤σ k) w w')(t:Nat):aN X (aG σ w.heap.size w'.heap.size t) w' B K f:=
 h.own hk (dA σ _ _ t) (fun k hn=>by
  have hs:=hk.size
  rcases Nat.lt_or_ge k w.heap.size with hl | hl
  ·omega
  ·rcases Nat.lt_or_ge k w'.heap.size with h2 | h2
   ·exact h2
   ·exfalso
    have e:Proofs.YtnicjahcgnhogaaGreatDoor.aG σ w.heap.size w'.heap.size t k=σ k:=if_neg aa
    rw[e] at hn
    have:=h.tX k hn
    omega)
theorem YIs.keep{X:Fx}{Y:Yx}{B:Bk}{K:Nat}{σ:Own}{w w':World}{y:Ye}(h:YIs X Y B K σ w y){S:Nat→Prop}(hk:ag S w w')(hS: ∀k,S k→k<w.heap.size→σ k<4):YIs X Y B K σ w' y:=by
 refine⟨hk.heap h.row (fun e=>?_),hk.heap h.sl (fun e=>?_),h.len,h.n1,h.n2,h.o1,h.o2,fun i P p hq=>?_,h.c0,h.c1⟩
 ·have:=hS _ e (L8 h.row);have:=h.o1;omega
 ·have:=hS _ e (L8 h.sl);have:=h.o2;omega
 ·obtain⟨h1,h2⟩:=h.pt i P p hq
  exact⟨h1,h2.keep hk (fun k e hl=>by have:=hS k e hl;omega)⟩
theorem YIs.aj{X:Fx}{Y:Yx}{B:Bk}{K:Nat}{σ:Own}{w w':World}{y:Ye}(h:YIs X Y B K σ w y)(hb:Below w.heap.size w w'):YIs X Y B K σ w' y:=h.keep (S:=fun _=>False) (ag.au hb Me) (fun _ e=>e.elim)
theorem YIs.ext{X:Fx}{Y:Yx}{B:Bk}{K:Nat}{σ σ':Own}{w:World}{y:Ye}(h:YIs X Y B K σ w y)(he:Ext σ σ' w.heap.size):YIs X Y B K σ' w y:=
 ⟨h.row,h.sl,h.len,h.n1,h.n2,(he _ (L8 h.row)).trans h.o1,(he _ (L8 h.sl)).trans h.o2,fun i P p hq=>⟨(h.pt i P p hq).1,(h.pt i P p hq).2.ext he⟩,h.c0,h.c1⟩
theorem YIs.up{X:Fx}{Y:Yx}{B:Bk}{K L:Nat}{σ:Own}{w:World}{y:Ye}(h:YIs X Y B K σ w y)(hl:K≤L):YIs X Y B L σ w y:=
 ⟨h.row,h.sl,h.len,h.n1,h.n2,h.o1,h.o2,fun i P p hq=>⟨(h.pt i P p hq).1,(h.pt i P p hq).2.up hl⟩,h.c0,h.c1⟩
theorem sN(X:Fx)(σ:Own)(B:Bk)(K:Nat)(f:Fe)(w:World)(h:aN X σ w B K f):Calls Tryz.prog 37 #[.pointer (some ⟨X.A.cb,0,none⟩)] w (fun e w'=>e= .returned (.pointer (some ⟨X.A.b,0,none⟩))∧w=w'):=by
 have hr:=h.ca.row
 have c4:w.cell? ⟨X.A.cb,4,none⟩=some (.pointer (some ⟨X.A.b,0,none⟩)):=LY hr rfl
 have I:=Cch.pq (X.ad σ) X.n f.c w h.ca
 have J:Calls Tryz.prog 73 #[.pointer (some ⟨X.A.cb,0,none⟩)] w (Cch.Same (.bool false) w):=I
 have HN:=MI J
 unfold Cch.Same at HN
 clear h hr I J
 go_enter Tryz.func37,Tryz.ntmps37
 go_wp2_with (go_at_call 73;refine HN.out.mono ?_;rintro e w' ⟨rfl,rfl⟩)
 go_ret
 exact⟨rfl,rfl⟩
theorem qh(X:Fx)(σ:Own)(B:Bk)(K:Nat)(f:Fe)(w:World)(h:aN X σ w B K f):Calls Tryz.prog 38 #[.pointer (some ⟨X.A.b,0,none⟩)] w (fun e w'=>e= .returned (.int .i64 f.c.d.r)∧w=w'):=by
 obtain⟨m,-,hd⟩:=h.ca.dsk
 refine(Cch.Iy X.A.b X.A.mb X.A.ib X.A.kap m f.c.d w hd).mono ?_
 rintro e w' ⟨h1,h2⟩
 exact⟨h1,h2⟩
theorem info98:(Tryz.prog.info? 98).map (fun i=>(i.zero,i.size,i.bytes))=some (some (.pointer none),1,8):=af
def uP(n:Nat):Array Value:=madeCells (Value.pointer none).cells (n*1)
theorem Lh(n:Nat):uP n=((List.replicate n (none:Po)).map nU).toArray:=by
 have h:(uP n).toList=(List.replicate n (Value.pointer none)):=by
  apply List.ext_getElem
  ·simp[uP,madeCells]
  ·intro i h1 h2
   simp[uP,madeCells,Value.cells,Nat.mod_one]
 rw[List.map_replicate]
 show uP n=(List.replicate n (Value.pointer none)).toArray
 rw[←h]
theorem Ew(n:Nat)(hn:n≤16)(w:World):(Instr.makeSlice 83 (.int .i64 (n:Int)) (.int .i64 (n:Int))).run Tryz.prog w= .ok (.slice (some ⟨w.heap.size,0,none⟩) n n) (w.alloc (.cells (uP n) 98)):=by
 obtain⟨i,hi,hz,I,J⟩:=info_parts info98
 have R:(i.bytes:Int)*(n:Int)≤281474976710656:=by
  have h:((i.bytes*n:Nat):Int)≤281474976710656:=by rw[J];omega
  rwa [Int.natCast_mul] at h
 have hr:=run_make (P:=Tryz.prog) w 83 98 i _ Tryz.underlying83 hi hz .i64 .i64 n n aa (Int.le_refl _) R aa
 simp only[Int.toNat_natCast] at hr
 rw[hr,I]
 rfl
def xy(n:Nat):Ye:=⟨List.replicate n none,0⟩
def PNewP(X:Fx)(B:Bk)(K:Nat)(σ:Own)(f:Fe)(n:Nat)(w:World)(e:Ending)(w':World):Prop:=∃Y σ',Y.n=n∧e= .returned (.tuple #[.pointer (some ⟨Y.yb,0,none⟩),()])∧aN X σ' w' B K f∧YIs X Y B K σ' w' (xy n)∧Below w.heap.size w w'∧Ext σ σ' w.heap.size
theorem LQ(X:Fx)(σ:Own)(B:Bk)(K:Nat)(f:Fe)(n:Int)(hn:n<1∨16<n)(w:World)(h:aN X σ w B K f):Calls Tryz.prog 43 #[.pointer (some ⟨X.fb,0,none⟩),.int .i64 n] w (fun e w'=>e= .returned (.tuple #[.pointer none,.int .i64 1])∧w=w'):=by
 have HB:=MI (jB X σ B K f w h)
 clear h
 by_cases h1:n<1
 ·clear hn
  go_enter Tryz.func43,Tryz.ntmps43
  go_wp2_with (go_at_call 32;refine HB.out.mono ?_;rintro e w' ⟨rfl,rfl⟩)
  go_ret2
  exact⟨rfl,rfl⟩
 ·have h2:16<n:=aa
  clear hn
  go_enter Tryz.func43,Tryz.ntmps43
  go_wp2_with (go_at_call 32;refine HB.out.mono ?_;rintro e w' ⟨rfl,rfl⟩)
  go_ret2
  exact⟨rfl,rfl⟩
theorem IG(X:Fx)(σ:Own)(B:Bk)(K:Nat)(f:Fe)(n:Nat)(h1:1≤n)(h2:n≤16)(w:World)(h:aN X σ w B K f):Calls Tryz.prog 43 #[.pointer (some ⟨X.fb,0,none⟩),.int .i64 n] w (PNewP X B K σ f n w):=by
 have HB:=MI (jB X σ B K f w h)
 have I:=Ew n h2
 have HH:=MI h
 obtain⟨Z,hZ⟩: ∃Z,Z=uP n:=⟨_,rfl⟩
 rw[←hZ] at I
 have HZ:=MI hZ
 have t1:¬(n:Int)<1:=aa
 have t2:¬(16:Int)<n:=aa
 clear hZ h
 go_enter Tryz.func43,Tryz.ntmps43
 go_wp2_with (go_at_call 32;refine HB.out.mono ?_;rintro e w' ⟨rfl,rfl⟩)
 go_ret2
 obtain⟨d1,d2⟩:=MapKept.heap_alloc (w.alloc (.cells Z 98)) (.cells #[.pointer (some ⟨X.fb,0,none⟩),.slice (some ⟨w.heap.size,0,none⟩) n n,()] 85)
 have a1:=(MapKept.heap_alloc w (.cells Z 98)).1
 have e1:=(d2 w.heap.size (by rw[World.size_alloc];omega)).trans a1
 rw[World.size_alloc] at d1
 rw[HZ.out,Lh] at e1 d1⊢
 have J:=ae w (.cells ((List.replicate n (none:Po)).map nU).toArray 98)
 have R:=ae (w.alloc (.cells ((List.replicate n (none:Po)).map nU).toArray 98)) (.cells #[.pointer (some ⟨X.fb,0,none⟩),.slice (some ⟨w.heap.size,0,none⟩) n n,()] 85)
 have hs:(w.alloc (.cells ((List.replicate n (none:Po)).map nU).toArray 98)).heap.size=w.heap.size+1:=World.size_alloc _ _
 have F1:=HH.out.fU J (b:=w.heap.size) 5 Me aa
 have F2:=F1.fU R (b:=w.heap.size+1) 4 aa (by rw[World.size_alloc];omega)
 refine⟨⟨w.heap.size+1,w.heap.size,n⟩,_,rfl,rfl,F2,⟨d1,e1,by simp[xy],h1,by show n≤64;omega,dN _ _ _,?_,fun i P p hq=>?_,Int.le_refl _,by show(0:Int)≤_;omega⟩,ji (ae _ _) _,?_⟩
 ·show fU (fU σ w.heap.size 5) (w.heap.size+1) 4 w.heap.size=5
  rw[jY _ _ aa,dN]
 ·exfalso
  simp only[xy,List.getD] at hq
  rcases Nat.lt_or_ge i n with hl | hl
  ·simp[hl] at hq
  ·simp[Nat.not_lt.2 hl] at hq
 ·exact(fA σ 5 Me).trans (fA _ 4 aa) Me
def vo0(m:Mt):Vo:=⟨m,0,4294967296,false⟩
def I5(σ:Own)(a b c0 c1 T:Nat):Own:=fun k=>if a≤k∧k<b then(if k=c0 then T+1 else if k=c1 then T+2 else T) else σ k
theorem VnR.FB{X:Fx}{σ:Own}{B:Bk}{K:Nat}{f:Fe}{i:Nat}{w w':World}(h:aN X σ w B K f)(hi:i<B.dir.length){vb:Nat}{cs:List Nat}{cv:Value}(A2:w.heap.size≤vb)(hr:VnR X i (B.dir.getD i m0) vb w (B.dir.getD i m0).ch cs cv w')(T:Nat)(hT:10≤T):
  ∃σ',Ext σ σ' w.heap.size∧aN X σ' w' B K f∧gp X ⟨vb,i,cs,T⟩ B K σ' w' (vo0 (B.dir.getD i m0)) (List.replicate (B.dir.getD i m0).ch u0):=by
 have hm:=h.bk.ok.m i hi
 generalize hM:B.dir.getD i m0=m at*
 have B2:=hm.c0
 have B3:=hm.c1
 have B4:=hr.low.size
 have A3:=L8 hr.row
 have A4: ∀k,k<m.ch→cs.getD k 0<w'.heap.size:=fun k hk=>L8 (hr.cur k hk)
 have A5: ∀k,k<m.ch→cs.getD k 0≠vb:=fun k hk e=>aI (hr.cur k hk) hr.row aq e
 refine⟨I5 σ w.heap.size w'.heap.size (cs.getD 0 0) (cs.getD 1 0) T,fun k hk=>if_neg aa,?_,?_⟩
 ·refine h.own (ag.au hr.low Me) (fun k hk=>if_neg aa) (fun k hn=>?_)
  rcases Nat.lt_or_ge k w'.heap.size with h2 | h2
  ·exact h2
  ·exfalso
   have e:I5 σ w.heap.size w'.heap.size (cs.getD 0 0) (cs.getD 1 0) T k=σ k:=if_neg aa
   rw[e] at hn
   have:=h.tX k hn
   omega
 ·have A1:=hr.own
  obtain⟨pb,cap,A6,A7,J,R⟩: ∃pb cap,cv= .slice (some ⟨pb,0,none⟩) m.ch cap∧w.heap.size≤pb∧(∃cur,w'.heap[pb]? =some (.cells cur 149 (0,0)))∧∀k,k<m.ch→w'.cell? ⟨pb,k,none⟩=some (D9 (cs.getD k 0)):=by
   rcases A1.2 with⟨h1,h2⟩ | ⟨g',cap,cur,h1,A8,hg,B5,B6,B7,U⟩
   ·exfalso;omega
   ·refine⟨g',cap,h1,A8,⟨cur,hg⟩,fun k hk=>(LZ hg).trans ?_⟩
    have e:cur.toList[k]? =(cs.map D9)[k]? :=by
     rw[←U,List.getElem?_take]
     simp[hk]
    have A9:k<cs.length:=by rw[hr.len];exact hk
    rw[←Array.getElem?_toList,e]
    simp[List.getD,A9]
  obtain⟨cur,o⟩:=J
  have J:=L8 o
  have B0: ∀k,k<m.ch→cs.getD k 0≠pb:=fun k hk e=>aI (hr.cur k hk) o aq e
  have A0: ∀b,w.heap.size≤b→b<w'.heap.size→(∀k,k<m.ch→cs.getD k 0≠b)→I5 σ w.heap.size w'.heap.size (cs.getD 0 0) (cs.getD 1 0) T b=T:=fun b h0 h1 h2=>by
   have e0:b≠cs.getD 0 0:=fun e=>h2 0 aa e.symm
   unfold I5
   rw[if_pos ⟨h0,h1⟩,if_neg e0]
   by_cases B1:1<m.ch
   ·rw[if_neg (fun e=>h2 1 B1 e.symm)]
   ·have e1:cs.getD 1 0=0:=by
     have hl:=hr.len
     simp[List.getD,show ¬1<cs.length by omega]
    have hp:=L8 h.row
    rw[if_neg (by rw[e1];omega)]
  subst A6
  refine⟨hi,hM.symm,⟨hm,by show(0:Int)≤0;decide,by show(0:Int)≤4611686052787126272;decide,fun _=>by show(0:Int)<4611686018427387904;decide,by show(0:Int)≤4294967296;decide,by show(4294967296:Int)≤34359738368;decide⟩,by simp[vo0],hT,⟨pb,cap,hr.row,A0 pb A7 J B0,J,R⟩,A0 vb A2 A3 A5,fun k hk=>?_,fun k hk=>?_⟩
  ·have I:k<m.ch:=hk
   have eu:(List.replicate m.ch u0).getD k u0=u0:=by simp[List.getD,I]
   have eo:I5 σ w.heap.size w'.heap.size (cs.getD 0 0) (cs.getD 1 0) T (cs.getD k 0)=T+1+k:=by
    unfold I5
    rw[if_pos ⟨hr.lo k I,A4 k I⟩]
    have:k=0∨k=1:=aa
    rcases this with rfl | rfl
    ·rw[if_pos rfl]
    ·have:=hr.inc 0 1 aa I
     rw[if_neg aa,if_pos rfl]
   rw[eu]
   exact⟨.slice none 0 0,.slice none 0 0,hr.cur k I,rfl,eo,(by show 10≤T+1+k;omega),World.ownsRow_nil _ _ _ _,World.ownsRow_nil _ _ _ _,fun b hb=>(by cases hb),(by show 0≤4;omega),fun j e=>(by cases e),fun j e=>(by cases e)⟩
  ·have I:k<m.ch:=hk
   have eu:(List.replicate m.ch u0).getD k u0=u0:=by simp[List.getD,I]
   rw[eu]
   exact⟨by show(0:Int)≤0;omega,by show(0:Int)≤(K:Int);omega,Nat.zero_le _,fun z hz=>by cases hz⟩
def ui(a b:ByteArray):Int:=Lib.compareBytes a.data.toList b.data.toList
theorem JA(a b:ByteArray)(w:World):Calls Tryz.prog 69 #[.string a,.string b] w (fun e w'=>e= .returned (.int .i64 (ui a b))∧w'=w):=by
 unfold ui
 go_enter Tryz.func69,Tryz.ntmps69
 go_wp2
 rw[run_callFunc_extern Tryz.func105 af af af (e:=Extern.BytealgCompare.compare) af,Lib.run_compareString]
 simp only[Result.andThen]
 rw[Oper.upon_value]
 go_wp2
 go_ret
 exact⟨rfl,rfl⟩
theorem yN(a b:ByteArray)(w:World):Calls Tryz.prog 31 #[.string a,.string b] w (fun e w'=>e= .returned (.int .i64 (ui a b))∧w'=w):=by
 have H:=MI (JA a b w)
 generalize ui a b=c at*
 go_enter Tryz.func31,Tryz.ntmps31
 go_wp2_with (go_at_call 69;refine H.out.mono ?_;rintro e w' ⟨rfl,rfl⟩)
 go_ret
 exact⟨rfl,rfl⟩
theorem JB(m:Mt)(b:ByteArray)(w:World):Calls Tryz.prog 30 #[.agg (aF m),.string b] w (fun e w'=>e= .returned (.int .i64 (ui m.nm b))∧Below w.heap.size w w'):=by
 have H:=MI (fun w=>yN m.nm b w)
 generalize ui m.nm b=c at*
 have hz:=L9 w (.cells (aF m) 54)
 have c0:(w.alloc (.cells (aF m) 54)).cell? ⟨w.heap.size,0,none⟩=some (.string m.nm):=LY hz rfl
 have HB:=MI (ae w (.cells (aF m) 54))
 clear hz
 unfold aF at*
 go_enter Tryz.func30,Tryz.ntmps30
 go_wp2_with (go_at_call 31;refine(H.out _).mono ?_;rintro e w' ⟨rfl,rfl⟩)
 go_ret
 exact⟨rfl,HB.out⟩
def bsL(d:List Mt)(t:ByteArray):Nat→Nat→Nat→Nat
 | 0,lo,_=>lo
 | k+1,lo,hi=>if lo<hi then(if ui (d.getD ((lo+hi)/2) m0).nm t<0 then bsL d t k ((lo+hi)/2+1) hi else bsL d t k lo ((lo+hi)/2)) else lo
def eH(d:List Mt)(t:ByteArray):Nat:=bsL d t (d.length+1) 0 d.length
def fG(d:List Mt)(t:ByteArray):Bool:=decide (eH d t<d.length∧ui (d.getD (eH d t) m0).nm t=0)
theorem lQ{P:Program}{ops:Array Oper}{rest:List Oper}{op:Oper}{a:Act}{w:World}{Q:Exit→Act→World→Prop}(hw:Region.wanted op (yielded ops a.tmps)=true)(ty:TypeId)(x:Operand)(ho:op.op= .load ty x)
  (b o:Nat) (hx:a.eval x= .pointer (some ⟨b,o,none⟩)) (cs:List Value) (d:TypeDesc) (hc:w.rangeAt b o cs)
  (hu:P.underlying ty=some d) (hd:d.isRow=true) (hi:(P.info? ty).map (·.size)=some cs.length)
  (h:wpList P ops Q rest (a.put op.dst (.agg cs.toArray)) w):wpList P ops Q (op::rest) a w:=
 wpList_step fun K hK=>by
  rw[if_pos hw]
  exact wp_load_mid ty x ho b o hx cs d hc hu hd hi (hK _ _ h)
def BsP(d:List Mt)(t:ByteArray)(w:World)(e:Ending)(w':World):Prop:=e= .returned (.tuple #[.int .i64 (eH d t:Int),.bool (fG d t)])∧Below w.heap.size w w'
theorem bs_any(D:Bd)(B:Bk)(t:ByteArray)(w:World)(h:lJ D w B):Calls Tryz.prog 29 #[.slice D.dv B.dir.length D.EP,.string t,.func (.func 30) #[] #[]] w (BsP B.dir t w):=by
 have HB:=MI h
 have B5:=h.ok.d1
 have HF:=MI (show bsL B.dir t (B.dir.length+1) 0 B.dir.length=eH B.dir t from rfl)
 have HC:=MI (fun m w=>JB m t w)
 obtain⟨dv,A1⟩: ∃dv,dv=D.dv:=⟨_,rfl⟩
 rw[←A1]
 have HD:=MI A1
 clear h A1
 go_enter Tryz.func29,Tryz.ntmps29
 go_wp2_with fail
 go_loopw [9,10] (fun v9 v10 wr=>∃lo hi k:Nat,v9= .int .i64 (lo:Int)∧v10= .int .i64 (hi:Int)∧lo≤B.dir.length∧hi≤B.dir.length∧hi - lo<k∧Hid (bsL B.dir t k lo hi=eH B.dir t)∧Hid (Below w.heap.size w wr)) (fun v9 v10 _=>aC v10 - aC v9)
 case atStart=>exact⟨0,B.dir.length,B.dir.length+1,rfl,rfl,aa,aa,aa,HF,Below.refl _ _⟩
 case round=>
  obtain⟨lo,hi,k,rfl,rfl,A7,A8,hk,hR,I⟩:=hrel
  have j:=HB.out.aj I.out
  by_cases A6:lo<hi
  ·obtain⟨k',rfl⟩: ∃k',k=k'+1:=⟨k - 1,aa⟩
   obtain⟨db,o,hr⟩:=j.at_ (show(lo+hi)/2<B.dir.length by omega)
   have A9:(lo:Int)<(hi:Int):=aa
   obtain⟨mid,U⟩: ∃mid,mid=(lo+hi)/2:=⟨_,rfl⟩
   have e:=MI (show((lo:Int)+(hi:Int))/2=(mid:Int) by omega)
   have B6:mid<B.dir.length:=aa
   have B7:lo≤mid:=aa
   have B8:mid<hi:=aa
   have B3:=MI U
   have A3:Hid ((if ui (B.dir.getD mid m0).nm t<0 then bsL B.dir t k' (mid+1) hi else bsL B.dir t k' lo mid)=eH B.dir t):=by
    have h1:=hR.out
    unfold bsL at h1
    rw[if_pos A6,←U] at h1
    exact h1
   rw[←U] at hr
   have A0:=MI (HC.out (B.dir.getD mid m0) wr)
   have J:(Tryz.prog.info? 54).map (·.size)=some (aV (B.dir.getD mid m0)).length:=af
   generalize B.dir.getD mid m0=m at*
   generalize B0:ui m.nm t=c at*
   have B4:(mid:Int)<(B.dir.length:Int):=aa
   clear U
   go_upto_region 5 with fail
   rw[e.out]
   have A2:dv=some ⟨db,0,none⟩:=HD.out.trans o
   subst A2
   clear hR B0 j HC o
   by_cases hc:c<0
   ·rw[if_pos hc] at A3
    go_wp2_with (first
     | (with_reducible refine MC 54 27 ?_;refine wpList_load_mid rfl 54 (.tmp 27) rfl db (mid*9) rfl (aV m) _ hr Tryz.underlying54 rfl J ?_;rw[show(aV m).toArray=aF m from rfl])
     | (go_at_call 30;refine A0.out.mono ?_;rintro e w2 ⟨rfl,hb⟩))
    exact⟨⟨mid+1,hi,k',aD,rfl,aa,A8,aa,A3,bD I.out hb⟩,by simp[aC];omega⟩
   ·rw[if_neg hc] at A3
    go_wp2_with (first
     | (with_reducible refine MC 54 27 ?_;refine wpList_load_mid rfl 54 (.tmp 27) rfl db (mid*9) rfl (aV m) _ hr Tryz.underlying54 rfl J ?_;rw[show(aV m).toArray=aF m from rfl])
     | (go_at_call 30;refine A0.out.mono ?_;rintro e w2 ⟨rfl,hb⟩))
    exact⟨⟨lo,mid,k',rfl,rfl,A7,aa,aa,A3,bD I.out hb⟩,by simp[aC];omega⟩
  ·obtain⟨k',rfl⟩: ∃k',k=k'+1:=⟨k - 1,aa⟩
   have R:eH B.dir t=lo:=by
    have h1:=hR.out
    unfold bsL at h1
    rw[if_neg A6] at h1
    exact h1.symm
   have A9:¬(lo:Int)<(hi:Int):=aa
   by_cases hn:lo<B.dir.length
   ·obtain⟨db,o,hr⟩:=j.at_ hn
    have A0:=MI (HC.out (B.dir.getD lo m0) wr)
    have J:(Tryz.prog.info? 54).map (·.size)=some (aV (B.dir.getD lo m0)).length:=af
    have A4:=MI (show fG B.dir t=decide (ui (B.dir.getD lo m0).nm t=0) by unfold fG;rw[R];simp[hn])
    have A5:=MI R
    generalize B.dir.getD lo m0=m at*
    generalize ui m.nm t=c at*
    have B1:(lo:Int)<(B.dir.length:Int):=aa
    have A2:dv=some ⟨db,0,none⟩:=HD.out.trans o
    subst A2
    have B9:(Instr.loadAt 54 (.pointer (some ⟨db,lo*9,none⟩))).run Tryz.prog wr= .ok (.agg (aF m)) wr:=run_loadAt_mid wr db (lo*9) 54 (aV m) _ hr Tryz.underlying54 rfl J
    clear hR R j HC o HF
    unfold BsP
    by_cases hc:c=0
    ·subst hc
     go_wp2_with (first
      | (with_reducible refine MC 54 43 ?_;refine lQ af 54 (.tmp 43) rfl db (lo*9) rfl (aV m) _ hr Tryz.underlying54 rfl J ?_;rw[show(aV m).toArray=aF m from rfl])
      | (go_at_call 30;refine A0.out.mono ?_;rintro e w2 ⟨rfl,hb⟩))
     all_goals go_ret2
     all_goals exact⟨by rw[A5.out,A4.out];rfl,bD I.out hb⟩
    ·have C0:(c==0)=false:=by simpa using hc
     have B2:Hid (decide (c=0)=false):=decide_eq_false hc
     go_wp2_with (first
      | (with_reducible refine MC 54 43 ?_;refine lQ af 54 (.tmp 43) rfl db (lo*9) rfl (aV m) _ hr Tryz.underlying54 rfl J ?_;rw[show(aV m).toArray=aF m from rfl])
      | (go_at_call 30;refine A0.out.mono ?_;rintro e w2 ⟨rfl,hb⟩))
     all_goals go_ret2
     all_goals exact⟨by rw[A5.out,A4.out,B2.out];rfl,bD I.out hb⟩
   ·have A4:=MI (show fG B.dir t=false by unfold fG;rw[R];simp[hn])
    have A5:=MI R
    have B1:¬(lo:Int)<(B.dir.length:Int):=aa
    clear hR R j HC HF
    unfold BsP
    go_wp2_with fail
    all_goals go_ret2
    all_goals exact⟨by rw[A5.out,A4.out];rfl,I.out⟩
theorem sV(D:Bd)(B:Bk)(t:ByteArray)(w:World)(h:lJ D w B):Calls Tryz.prog 11 #[.pointer (some ⟨D.bb,0,none⟩),.string t] w (BsP B.dir t w):=by
 have hN:=MI (sQ D B w h)
 have hB:=MI (bs_any D B t w h)
 obtain⟨c0,c1,c2⟩:=dG h.row
 clear h
 unfold BsP at*
 go_enter Tryz.func11,Tryz.ntmps11
 go_wp2_with (first
  | (go_at_call 28;refine hN.out.mono ?_;rintro e w' ⟨rfl,rfl⟩)
  | (go_at_call 29;refine hB.out.mono ?_;rintro e w' ⟨rfl,hb⟩))
 go_ret2
 exact⟨rfl,hb⟩
theorem Cj{d:List Mt}{t:ByteArray}(h:fG d t=true):eH d t<d.length:=(of_decide_eq_true h).1
def Byt(l:List Int):Prop:=∀z ∈ l,0≤z∧z<256
theorem nums_at(l:List Int)(hb:Byt l)(k:Nat)(hk:k<l.length)(hs:k<(strOfNums l).size):(((strOfNums l)[k]'hs).toNat:Int)=l.getD k 0:=by
 have h:=hb (l.getD k 0) (by rw[show l.getD k 0=l[k] by simp[List.getD,hk]];exact List.getElem_mem _)
 rw[show l.getD k 0=l[k] by simp[List.getD,hk]] at h⊢
 have e:(strOfNums l)[k]'hs=(strOfNums l).data[k]'hs:=rfl
 rw[e]
 simp only[strOfNums,List.getElem_toArray,List.getElem_map]
 simp
 omega
theorem vZ(l:List Int)(hb:Byt l)(k:Nat)(hk:k<l.length)(w:World):(Instr.index 9 (.string (strOfNums l)) (.int .i64 (k:Int))).run Tryz.prog w= .ok (.int .u8 (l.getD k 0)) w:=by
 rw[run_index_string w 9 _ .i64 k Tryz.underlying9,dif_pos ⟨aa,by rw[strOfNums_size];omega⟩]
 congr 2
 exact nums_at l hb k hk (by rw[strOfNums_size];exact hk)
theorem yE{l:List Int}{k:Nat}(h:k<l.length):l.getD k 0 ∈ l:=by
 rw[show l.getD k 0=l[k] by simp[List.getD,h]];exact List.getElem_mem _
theorem vJ(l:List Int):(strOfNums l).toList.isEmpty=decide (l.length=0):=by
 rw[Lib.strOfNums_toList]
 cases l<;>simp[Lib.bytesOf]
theorem Byt.take{l:List Int}(h:Byt l)(k:Nat):Byt (l.take k):=fun z hz=>h z (List.mem_of_mem_take hz)
theorem Hw{l:List Int}{k n:Nat}(h:k<n):(l.take n).getD k 0=l.getD k 0:=by simp[List.getD,List.getElem?_take,h]
def uI(l:List Int):Nat→Nat
 | 0=>0
 | k+1=>if l.getD k 0=0 then uI l k else k+1
def pO(l:List Int):List Int:=l.take (uI l l.length)
theorem Hz(l:List Int)(hb:Byt l)(hl:l.length≤100000)(w:World):Calls Tryz.prog 115 #[.string (strOfNums l),.int .u8 0] w (fun e w'=>e= .returned (.string (strOfNums (pO l)))∧w=w'):=by
 have HR:=MI (show pO l=l.take (uI l l.length) from rfl)
 generalize pO l=R at*
 go_enter Tryz.func115,Tryz.ntmps115
 go_wp2_with fail
 go_loopw [0] (fun v0 wr=>∃k:Nat,k≤l.length∧v0= .string (strOfNums (l.take k))∧Hid (R=l.take (uI l k))∧w=wr) (fun v0 _=>match v0 with | .string s=>s.size | _=>0)
 case atStart=>exact⟨l.length,Me,by rw[List.take_of_length_le Me],HR,rfl⟩
 case round=>
  clear HR
  obtain⟨k,hk,rfl,hR,rfl⟩:=hrel
  cases k with
  | zero=>
   have I:=MI (show R=[] by rw[hR.out];rfl)
   have j:(strOfNums (l.take 0)).size=0:=by rw[strOfNums_size];simp
   have HT:=MI (show strOfNums (l.take 0)=strOfNums [] by simp)
   clear hR
   generalize strOfNums (l.take 0)=S at*
   go_wp2_with fail
   go_ret
   exact⟨by rw[I.out];exact congrArg (fun z=>Ending.returned (.string z)) HT.out,rfl⟩
  | succ k=>
   have j:(strOfNums (l.take (k+1))).size=k+1:=by rw[strOfNums_size,List.length_take];omega
   have o: ∀w,(Instr.index 9 (.string (strOfNums (l.take (k+1)))) (.int .i64 (k:Int))).run Tryz.prog w= .ok (.int .u8 (l.getD k 0)) w:=fun w=>by
    rw[vZ _ (hb.take _) k (by rw[List.length_take];omega),Hw aa]
   have hex:(strOfNums (l.take (k+1))).extract 0 k=strOfNums (l.take k):=by rw[lS,List.drop_zero,List.take_take];congr 2;omega
   have HU:=MI (show uI l (k+1)=if l.getD k 0=0 then uI l k else k+1 from rfl)
   have e1:IntKind.i64.wrap (((k+1:Nat):Int) - 1)=(k:Int):=by rw[IntWalk.i64_in _ aa];omega
   have e2:IntKind.i64.wrap ((k:Int)+1 - 1)=(k:Int):=by rw[IntWalk.i64_in _ aa];omega
   have J:(strOfNums (l.take k)).size=k:=by rw[strOfNums_size,List.length_take];omega
   have HX:=MI hex
   have A1:k+1≤100000:=aa
   by_cases hz:l.getD k 0=0
   ·have I:=MI (show R=l.take (uI l k) by rw[hR.out,HU.out,if_pos hz])
    rw[hz] at o
    have A0:=MI (show strOfNums (l.take k)=strOfNums (l.take k) from rfl)
    clear hR hb HU hz
    generalize strOfNums (l.take (k+1))=S at*
    obtain⟨S2,U⟩: ∃S2,S2=strOfNums (l.take k):=⟨_,rfl⟩
    rw[←U] at hex J HX
    have A0:=MI U
    clear U
    go_wp2_with fail
    exact⟨⟨k,aa,by rw[A0.out],I,trivial⟩,by show S2.size<S.size;omega⟩
   ·have I:=MI (show R=l.take (k+1) by rw[hR.out,HU.out,if_neg hz])
    have A2:(l.getD k 0==0)=false:=by simpa using hz
    obtain⟨S,hS⟩: ∃S,S=strOfNums (l.take (k+1)):=⟨_,rfl⟩
    rw[←hS] at j o hex HX⊢
    have HT:=MI hS
    clear hR hb HU hz J hS
    generalize l.getD k 0=c at*
    go_wp2_with fail
    go_ret
    exact⟨by rw[I.out,←HT.out];rfl,rfl⟩
theorem Kw(l:List Int)(hb:Byt l)(h0:0<l.length)(hl:l.length≤100000)(w:World):Calls Tryz.prog 80 #[.string (strOfNums l),.string (ByteArray.mk #[0])] w (fun e w'=>e= .returned (.string (strOfNums (pO l)))∧w=w'):=by
 have HC:=MI (Hz l hb hl w)
 have I:(strOfNums l).toList.isEmpty=false:=by rw[vJ];simpa using(by intro e;rw[e] at h0;simp at h0)
 generalize strOfNums (pO l)=R at*
 generalize strOfNums l=S at*
 go_enter Tryz.func80,Tryz.ntmps80
 go_wp2_with (go_at_call 115;refine HC.out.mono ?_;rintro e w1 ⟨rfl,rfl⟩)
 go_ret
 exact⟨rfl,rfl⟩
def ku(l:List Int):Bool:=decide (0<l.length∧l.length≤32)&&l.all (fun z=>decide (32<z∧z<127))
theorem OO{l:List Int}{p:Int→Bool}(h: ∀i,i<l.length→p (l.getD i 0)=true):l.all p=true:=by
 rw[List.all_eq_true]
 intro x hx
 obtain⟨i,hi,rfl⟩:=List.mem_iff_getElem.1 hx
 have:=h i hi
 rwa [show l.getD i 0=l[i] by simp[List.getD,hi]] at this
theorem all_not{l:List Int}{p:Int→Bool}{i:Nat}(hi:i<l.length)(h:p (l.getD i 0)=false):l.all p=false:=by
 rw[←Bool.not_eq_true,List.all_eq_true]
 intro h2
 have:=h2 _ (yE hi)
 rw[h] at this
 cases this
theorem vX(l:List Int)(hb:Byt l)(hl:l.length≤1000000000000)(w:World):Calls Tryz.prog 119 #[.string (strOfNums l)] w (fun e w'=>e= .returned (.bool (ku l))∧w=w'):=by
 have A0:(strOfNums l).size=l.length:=strOfNums_size l
 have I:=vJ l
 have HD:=MI (show ku l=(decide (0<l.length∧l.length≤32)&&l.all (fun z=>decide (32<z∧z<127))) from rfl)
 have J:=fun k hk w=>vZ l hb k hk w
 generalize ku l=R at*
 obtain⟨S,hS⟩: ∃S,S=strOfNums l:=⟨_,rfl⟩
 rw[←hS] at A0 I J⊢
 clear hS
 by_cases h0:l.length=0
 ·have hR:=MI (show R=false by rw[HD.out,h0];rfl)
  have U:S.toList.isEmpty=true:=by rw[I];simpa using h0
  clear HD I J
  go_enter Tryz.func119,Tryz.ntmps119
  go_wp2_with fail
  go_ret
  exact⟨by rw[hR.out];rfl,rfl⟩
 have U:S.toList.isEmpty=false:=by rw[I];simpa using h0
 by_cases A6:32<l.length
 ·have hR:=MI (show R=false by rw[HD.out,decide_eq_false aa];rfl)
  clear HD I J
  go_enter Tryz.func119,Tryz.ntmps119
  go_wp2_with fail
  go_ret
  exact⟨by rw[hR.out];rfl,rfl⟩
 have j:=MI (show R=l.all (fun z=>decide (32<z∧z<127)) by rw[HD.out,decide_eq_true aa];rfl)
 have A3:l.length≤32:=aa
 have A2:¬(32:Int)<(l.length:Int):=aa
 have HB:=MI hb
 clear HD I
 go_enter Tryz.func119,Tryz.ntmps119
 go_wp2_with fail
 go_loopw [13] (fun v13 wr=>∃k:Nat,k≤l.length∧v13= .int .i64 (k:Int)∧Hid (∀i,i<k→(decide (32<l.getD i 0∧l.getD i 0<127))=true)∧w=wr) (fun v13 _=>l.length - aC v13)
 case atStart=>exact⟨0,aa,rfl,(fun i hi=>aa),rfl⟩
 case round=>
  obtain⟨k,hk,rfl,hP,rfl⟩:=hrel
  by_cases o:k<l.length
  ·have A4:(k:Int)<(l.length:Int):=aa
   have A5:=J k o
   have A7:=HB.out _ (yE o)
   have HN:=MI (fun h=>all_not (p:=fun z=>decide (32<z∧z<127)) o h)
   have HS:Hid (decide (32<l.getD k 0∧l.getD k 0<127)=true→∀i,i<k+1→(decide (32<l.getD i 0∧l.getD i 0<127))=true):=fun h i hi=>by
    rcases Nat.lt_or_ge i k with h1 | h1
    ·exact hP.out i h1
    ·obtain rfl:i=k:=aa
     exact h
   clear J hP U
   generalize l.getD k 0=c at*
   by_cases h1:c≤32
   ·have hR:=MI (show R=false by rw[j.out,HN.out (decide_eq_false aa)])
    clear HN HS
    go_wp2_with fail
    go_ret
    exact⟨by rw[hR.out];rfl,rfl⟩
   by_cases h2:127≤c
   ·have hR:=MI (show R=false by rw[j.out,HN.out (decide_eq_false aa)])
    clear HN HS
    go_wp2_with fail
    go_ret
    exact⟨by rw[hR.out];rfl,rfl⟩
   have A1:=MI (HS.out (decide_eq_true aa))
   clear HN HS
   go_wp2_with fail
   exact⟨⟨k+1,aa,aD,A1.out,trivial⟩,by simp[aC];omega⟩
  ·obtain rfl:k=l.length:=aa
   have hR:=MI (show R=true by rw[j.out];exact OO hP.out)
   have A8:¬(l.length:Int)<(l.length:Int):=aa
   clear J hP
   go_wp2_with fail
   go_ret
   exact⟨by rw[hR.out];rfl,rfl⟩
def oG(is:Bool)(a b n:Int):Bool:=if is then decide (0≤a∧a<b∧b≤n) else decide (a=0∧b=0)
theorem xG(is:Bool)(a b n:Int)(w:World):Calls Tryz.prog 120 #[.bool is,.int .i64 a,.int .i64 b,.int .i64 n] w (fun e w'=>e= .returned (.bool (oG is a b n))∧w=w'):=by
 have HD:=MI (show oG is a b n=(if is then decide (0≤a∧a<b∧b≤n) else decide (a=0∧b=0)) from rfl)
 generalize oG is a b n=R at*
 cases is with
 | false=>
  have I:Hid (R=decide (a=0∧b=0)):=HD.out
  clear HD
  by_cases h1:a=0
  ·subst h1
   by_cases h2:b=0
   ·subst h2
    have hR:=MI (show R=true by rw[I.out];rfl)
    clear I
    go_enter Tryz.func120,Tryz.ntmps120
    go_wp2_with fail
    go_ret
    exact⟨by rw[hR.out];rfl,rfl⟩
   ·have hR:=MI (show R=false by rw[I.out];exact decide_eq_false (fun h=>h2 h.2))
    have J:(b==0)=false:=by simpa using h2
    clear I
    go_enter Tryz.func120,Tryz.ntmps120
    go_wp2_with fail
    go_ret
    exact⟨by rw[hR.out];rfl,rfl⟩
  ·have hR:=MI (show R=false by rw[I.out];exact decide_eq_false (fun h=>h1 h.1))
   have J:(a==0)=false:=by simpa using h1
   clear I
   go_enter Tryz.func120,Tryz.ntmps120
   go_wp2_with fail
   go_ret
   exact⟨by rw[hR.out];rfl,rfl⟩
 | true=>
  have I:Hid (R=decide (0≤a∧a<b∧b≤n)):=HD.out
  clear HD
  by_cases h1:0≤a
  ·by_cases h2:a<b
   ·by_cases h3:b≤n
    ·have hR:=MI (show R=true by rw[I.out];exact decide_eq_true ⟨h1,h2,h3⟩)
     clear I
     go_enter Tryz.func120,Tryz.ntmps120
     go_wp2_with fail
     go_ret
     exact⟨by rw[hR.out];rfl,rfl⟩
    ·have hR:=MI (show R=false by rw[I.out];exact decide_eq_false (fun h=>h3 h.2.2))
     clear I
     go_enter Tryz.func120,Tryz.ntmps120
     go_wp2_with fail
     go_ret
     exact⟨by rw[hR.out];rfl,rfl⟩
   ·have hR:=MI (show R=false by rw[I.out];exact decide_eq_false (fun h=>h2 h.2.1))
    clear I
    go_enter Tryz.func120,Tryz.ntmps120
    go_wp2_with fail
    go_ret
    exact⟨by rw[hR.out];rfl,rfl⟩
  ·have hR:=MI (show R=false by rw[I.out];exact decide_eq_false (fun h=>h1 h.1))
   clear I
   go_enter Tryz.func120,Tryz.ntmps120
   go_wp2_with fail
   go_ret
   exact⟨by rw[hR.out];rfl,rfl⟩
def byteAt(v size i:Nat):Int:=((v/2^(8*(size - 1 - i))%256:Nat):Int)
def kH(zs:List Int)(o size v:Nat):Nat→List Int
 | 0=>zs
 | k+1=>(kH zs o size v k).set (o+k) (byteAt v size k)
theorem kG(zs:List Int)(o size v:Nat): ∀k,(kH zs o size v k).length=zs.length:=by
 intro k
 induction k with
 | zero=>rfl
 | succ k ih=>simp only[kH,List.length_set,ih]
def NumP(b:Nat)(zs:List Int)(w:World)(e:Ending)(w':World):Prop:=e= .returned (.tuple #[])∧Blk .u8 w' b 5 zs∧ag (fun k=>k=b) w w'
theorem lF(b off len cap:Nat)(zs:List Int)(at_ size v:Nat)(hs:size≤4)(R:at_+size≤len)(hlen:off+len≤zs.length)(hz:zs.length≤60000)(hv:v<4294967296)(w:World)(h:Blk .u8 w b 5 zs):Calls Tryz.prog 96 #[.slice (some ⟨b,off,none⟩) len cap,.int .i64 at_,.int .i64 size,.int .i64 v] w (NumP b (kH zs (off+at_) size v size) w):=by
 go_enter Tryz.func96,Tryz.ntmps96
 go_wp2_with fail
 go_loopw [10] (fun v10 wr=>∃j:Nat,j≤size∧v10= .int .i64 (j:Int)∧Blk .u8 wr b 5 (kH zs (off+at_) size v j)∧ag (fun k=>k=b) w wr) (fun v10 _=>size - aC v10)
 case atStart=>exact⟨0,aa,rfl,h,ag.refl _ _⟩
 case round=>
  obtain⟨j,hj,rfl,hB,hK⟩:=hrel
  by_cases U:j<size
  ·have J:(j:Int)<(size:Int):=aa
   have e1:IntKind.i64.wrap ((at_:Int)+(j:Int))=((at_+j:Nat):Int):=by rw[IntWalk.i64_in _ aa];omega
   have e2:IntKind.i64.wrap ((size:Int) - 1)=((size - 1:Nat):Int):=by rw[IntWalk.i64_in _ aa];omega
   have e3:IntKind.i64.wrap (((size - 1:Nat):Int) - (j:Int))=((size - 1 - j:Nat):Int):=by rw[IntWalk.i64_in _ aa];omega
   have e4:IntKind.i64.wrap (8*((size - 1 - j:Nat):Int))=((8*(size - 1 - j):Nat):Int):=by rw[IntWalk.i64_in _ aa];omega
   have e5:min (8*(size - 1 - j)) 64=8*(size - 1 - j):=aa
   have o:at_+j<len:=aa
   have hc:=hB.cell (i:=off+(at_+j)) (by rw[kG];omega)
   have hf:=hB.frozen (off+(at_+j))
   have I:Blk .u8 (wr.setCell ⟨b,off+(at_+j),none⟩ (.int .u8 ((v:Int)/2^(8*(size - 1 - j))%256))) b 5 (kH zs (off+at_) size v (j+1)):=by
    have h1:=hB.set (off+(at_+j)) ((v:Int)/2^(8*(size - 1 - j))%256)
    have h2:(v:Int)/2^(8*(size - 1 - j))%256=byteAt v size j:=by unfold byteAt;simp
    rw[h2] at h1⊢
    rw[show kH zs (off+at_) size v (j+1)=(kH zs (off+at_) size v j).set (off+at_+j) (byteAt v size j) from rfl,Nat.add_assoc]
    exact h1
   go_wp2_with fail
   refine⟨⟨j+1,aa,aD,I,hK.setCell (p:=⟨b,off+(at_+j),none⟩) (.inr rfl) _⟩,by simp[aC];omega⟩
  ·obtain rfl:j=size:=aa
   go_wp2_with fail
   go_end0
   exact⟨rfl,hB,hK⟩
end Go.Proofs.YtnicjahcgnhogaaGreatDoor
