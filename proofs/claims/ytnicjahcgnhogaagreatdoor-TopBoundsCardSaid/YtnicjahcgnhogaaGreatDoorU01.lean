/- Part 2 of the walk: contracts of the program's functions, each for every input. No condition. -/
import Derived.Test.YtnicjahcgnhogaaGreatDoorU00
import Derived.Deep.WholeRow
import Derived.Laws.CopyOwn
set_option linter.unusedVariables false
set_option linter.unusedSimpArgs false
set_option maxRecDepth 100000
set_option maxHeartbeats 8000000
namespace Go.Calli
open Go.RowKit
def Blk(k:IntKind)(w:World)(b:Nat)(t:TypeId)(zs:List Int):Prop:=w.heap[b]? =some (.cells (zs.map (Value.int k)).toArray t (0,0))
theorem Blk.lt{k:IntKind}{w:World}{b:Nat}{t:TypeId}{zs:List Int}(h:Blk k w b t zs):b<w.heap.size:=(Array.getElem?_eq_some_iff.1 h).1
theorem Blk.cell{k:IntKind}{w:World}{b:Nat}{t:TypeId}{zs:List Int}(h:Blk k w b t zs){i:Nat}(hi:i<zs.length):w.cell? ⟨b,i,none⟩=some (.int k (zs.getD i 0)):=by
 rw[LZ h];simp[hi]
theorem Blk.frozen{k:IntKind}{w:World}{b:Nat}{t:TypeId}{zs:List Int}(h:Blk k w b t zs)(i:Nat):w.frozen? ⟨b,i,none⟩=false:=L6 h
theorem Blk.set{k:IntKind}{w:World}{b:Nat}{t:TypeId}{zs:List Int}(h:Blk k w b t zs)(i:Nat)(x:Int):Blk k (w.setCell ⟨b,i,none⟩ (.int k x)) b t (zs.set i x):=by
 unfold Blk
 rw[Mc h]
 simp
theorem Blk.kept{k:IntKind}{w w':World}{b:Nat}{t:TypeId}{zs:List Int}{S:Nat→Prop}(h:Blk k w b t zs)(hk:ag S w w')(hS:¬S b):Blk k w' b t zs:=hk.heap h hS
theorem Blk.aj{k:IntKind}{w w':World}{b:Nat}{t:TypeId}{zs:List Int}(h:Blk k w b t zs)(hb:Below w.heap.size w w'):Blk k w' b t zs:=(hb.block b h.lt).trans h
theorem Blk.ints{k:IntKind}{w:World}{b:Nat}{t:TypeId}{zs:List Int}(h:Blk k w b t zs)(n:Nat)(hn:zs.length=n)(hm:n≤maxLen)(hw: ∀z ∈ zs,(Lit.int k z).wf=true):Ints k w (some ⟨b,0,none⟩) n zs:=
 ⟨hn,hm,fun i hi=>⟨_,rfl,by rw[add0,Nat.zero_add];exact h.cell aa⟩,hw⟩
end Go.Calli
namespace Go.Proofs.YtnicjahcgnhogaaGreatDoor
open Go Go.RowKit Go.Calli
attribute [local irreducible] wpStill wpAnyH wpAnyS wpList Code.wp
def iA(zs:List Int):Array Value:=(zs.map (Value.int .i64)).toArray
theorem az(zs:List Int):(iA zs).size=zs.length:=by simp[iA]
theorem NF(zs:List Int)(k:Nat)(h:k<zs.length):(iA zs)[k]? =some (.int .i64 (zs.getD k 0)):=by simp[iA,List.getD,h]
theorem bV(zs:List Int):(iA zs).all (·.oneCell')=true:=by simp[iA,Value.oneCell']
theorem gZ{P:Program}(T e n:Nat)(hT:P.underlying T=some (.array n e))(he:P.underlying e=some (.int .i64))(hs:(P.info? e).map (·.size)=some 1)(zs:List Int)(hn:zs.length=n)(k:Nat)(hk:k<n)(w:World):(Instr.index T (.agg (iA zs)) (.int .i64 (k:Int))).run P w= .ok (.int .i64 (zs.getD k 0)) w:=by
 have h1:(0:Int)≤(k:Int)∧(k:Int)<(n:Int):=aa
 have hg:=NF zs k aa
 cases hi:P.info? e with
 | none=>rw[hi] at hs;cases hs
 | some i=>
  rw[hi] at hs
  simp only[Option.map_some,Option.some.injEq] at hs
  simp[Instr.index,run_underlying hT,asIntOf,h1,go_sem,sizeOf,typeInfo,hi,hs,part,run_underlying he,isAgg,hg]
  intro h;omega
theorem OL(i:Nat)(hi:i<16)(w:World):Calls Tryz.prog 173 #[.int .i64 (i:Int)] w (Qt (.int .i64 ((i/4:Nat):Int)) w):=by
 go_enter Tryz.func173,Tryz.ntmps173
 go_wp2_with fail
 go_ret
 exact⟨bg aa,0,rfl⟩
def inB(m:Int)(zs:List Int):Bool:=zs.all (fun x=>decide (0≤x∧x≤m))
theorem Gy{m:Int}{zs:List Int}(h: ∀k,k<zs.length→0≤zs.getD k 0∧zs.getD k 0≤m):inB m zs=true:=by
 unfold inB
 rw[List.all_eq_true]
 intro x hx
 obtain⟨k,hk,rfl⟩:=List.getElem_of_mem hx
 have:=h k hk
 rw[show zs.getD k 0=zs[k] by simp[List.getD,hk]] at this
 exact decide_eq_true this
theorem ND{m:Int}{zs:List Int}(k:Nat)(hk:k<zs.length)(h:¬(0≤zs.getD k 0∧zs.getD k 0≤m)):inB m zs=false:=by
 cases hb:inB m zs with
 | false=>rfl
 | true=>
  unfold inB at hb
  rw[List.all_eq_true] at hb
  have:=of_decide_eq_true (hb zs[k] (List.getElem_mem hk))
  rw[show zs.getD k 0=zs[k] by simp[List.getD,hk]] at h
  exact absurd this h
theorem ww(zs:List Int)(hn:zs.length=4)(w:World):Calls Tryz.prog 204 #[.agg (iA zs)] w (fun e w'=>e= .returned (.bool (inB 3 zs))∧Below w.heap.size w w'):=by
 have HX:=MI (fun k (hk:k<4) w=>gZ (P:=Tryz.prog) 191 3 4 Tryz.underlying191 Tryz.underlying3 af zs hn k hk w)
 have U:=ae w (.cells (iA zs) 191)
 have HY:=MI (Gy (m:=3) (zs:=zs))
 have HN:=MI (fun k hk h=>ND (m:=3) (zs:=zs) k hk h)
 have hi:(Tryz.prog.info? 191).map (·.size)=some (iA zs).size:=by rw[az,hn];kernel_rfl
 have hz:=L9 w (.cells (iA zs) 191)
 go_enter Tryz.func204,Tryz.ntmps204
 go_upto_region 1 with fail
 generalize w.alloc (.cells (iA zs) 191)=W at*
 go_upto_region 2 with(with_reducible refine MC 191 1 ?_;refine wpList_load_row rfl 191 (.tmp 1) rfl _ rfl 191 (iA zs) (0,0) _ hz Tryz.underlying191 rfl hi ?_)
 have HB:=MI U
 clear hi hz U
 go_loopw [6] (fun v6 wr=>∃j:Nat,j≤4∧v6= .int .i64 (j:Int)∧Hid (∀k,k<j→0≤zs.getD k 0∧zs.getD k 0≤3)∧wr=W) (fun v6 _=>4 - aC v6)
 case atStart=>exact⟨0,aa,rfl,fun k hk=>aa,rfl⟩
 case round=>
  obtain⟨j,hj,rfl,I,rfl⟩:=hrel
  by_cases o:j<4
  ·have hx:=HX.out j o
   have J:=HN.out j aa
   have R:0≤zs.getD j 0∧zs.getD j 0≤3→Hid (∀k,k<j+1→0≤zs.getD k 0∧zs.getD k 0≤3):=fun h k hk=>by
    by_cases A0:k=j
    ·subst A0;exact h
    ·exact I.out k aa
   generalize zs.getD j 0=x at*
   by_cases h0:x<0
   ·have hb:=MI (J aa)
    clear J R I
    go_wp2_with fail
    go_ret
    exact⟨aP hb.out.symm,HB.out⟩
   ·by_cases h1:3<x
    ·have hb:=MI (J aa)
     clear J R I
     go_wp2_with fail
     go_ret
     exact⟨aP hb.out.symm,HB.out⟩
    ·have A1:=R aa
     clear J R I
     go_wp2_with fail
     refine⟨⟨j+1,aa,aD,A1,trivial⟩,?_⟩
     simp[aC];omega
  ·obtain rfl:j=4:=aa
   have hb:=MI (HY.out (by rw[hn];exact I.out))
   clear I
   go_wp2_with fail
   go_ret
   exact⟨aP hb.out.symm,HB.out⟩
theorem pX(zs:List Int)(hn:zs.length=4)(w:World):Calls Tryz.prog 206 #[.agg (iA zs)] w (fun e w'=>e= .returned (.bool (inB 23 zs))∧Below w.heap.size w w'):=by
 have HX:=MI (fun k (hk:k<4) w=>gZ (P:=Tryz.prog) 306 3 4 Tryz.underlying306 Tryz.underlying3 af zs hn k hk w)
 have U:=ae w (.cells (iA zs) 306)
 have HY:=MI (Gy (m:=23) (zs:=zs))
 have HN:=MI (fun k hk h=>ND (m:=23) (zs:=zs) k hk h)
 have hi:(Tryz.prog.info? 306).map (·.size)=some (iA zs).size:=by rw[az,hn];kernel_rfl
 have hz:=L9 w (.cells (iA zs) 306)
 go_enter Tryz.func206,Tryz.ntmps206
 go_upto_region 1 with fail
 generalize w.alloc (.cells (iA zs) 306)=W at*
 go_upto_region 2 with(with_reducible refine MC 306 1 ?_;refine wpList_load_row rfl 306 (.tmp 1) rfl _ rfl 306 (iA zs) (0,0) _ hz Tryz.underlying306 rfl hi ?_)
 have HB:=MI U
 clear hi hz U
 go_loopw [6] (fun v6 wr=>∃j:Nat,j≤4∧v6= .int .i64 (j:Int)∧Hid (∀k,k<j→0≤zs.getD k 0∧zs.getD k 0≤23)∧wr=W) (fun v6 _=>4 - aC v6)
 case atStart=>exact⟨0,aa,rfl,fun k hk=>aa,rfl⟩
 case round=>
  obtain⟨j,hj,rfl,I,rfl⟩:=hrel
  by_cases o:j<4
  ·have hx:=HX.out j o
   have J:=HN.out j aa
   have R:0≤zs.getD j 0∧zs.getD j 0≤23→Hid (∀k,k<j+1→0≤zs.getD k 0∧zs.getD k 0≤23):=fun h k hk=>by
    by_cases A0:k=j
    ·subst A0;exact h
    ·exact I.out k aa
   generalize zs.getD j 0=x at*
   by_cases h0:x<0
   ·have hb:=MI (J aa)
    clear J R I
    go_wp2_with fail
    go_ret
    exact⟨aP hb.out.symm,HB.out⟩
   ·by_cases h1:23<x
    ·have hb:=MI (J aa)
     clear J R I
     go_wp2_with fail
     go_ret
     exact⟨aP hb.out.symm,HB.out⟩
    ·have A1:=R aa
     clear J R I
     go_wp2_with fail
     refine⟨⟨j+1,aa,aD,A1,trivial⟩,?_⟩
     simp[aC];omega
  ·obtain rfl:j=4:=aa
   have hb:=MI (HY.out (by rw[hn];exact I.out))
   clear I
   go_wp2_with fail
   go_ret
   exact⟨aP hb.out.symm,HB.out⟩
def atZ(g:List Int)(i:Nat):Int:=if inB 3 g=true then g.getD (i/4) 0 else 0
theorem aH{w:World}{b T:Nat}{zs:List Int}(h:w.heap[b]? =some (.cells (iA zs) T (0,0))){k:Nat}(hk:k<zs.length):w.cell? ⟨b,k,none⟩=some (.int .i64 (zs.getD k 0)):=by
 rw[LZ h];exact NF zs k hk
theorem bY{w:World}{b T:Nat}{zs:List Int}(h:w.heap[b]? =some (.cells (iA zs) T (0,0)))(k:Nat)(v:Int):(w.setCell ⟨b,k,none⟩ (.int .i64 v)).heap[b]? =some (.cells (iA (zs.set k v)) T (0,0)):=by
 rw[Mc h]
 unfold iA
 simp
theorem bK{w:World}{b:Nat}{v0 v1 v2 v3:Value}{T:Nat}(h:w.heap[b]? =some (.cells #[v0,v1,v2,v3] T (0,0))):
  w.cell? ⟨b,0,none⟩=some v0∧w.cell? ⟨b,1,none⟩=some v1∧w.cell? ⟨b,2,none⟩=some v2∧w.cell? ⟨b,3,none⟩=some v3:=
 ⟨LY h rfl,LY h rfl,LY h rfl,LY h rfl⟩
theorem zV(zs:List Int)(hn:zs.length=4)(i:Nat)(hi:i<16)(w:World):Calls Tryz.prog 192 #[.agg (iA zs),.int .i64 (i:Int)] w (fun e w'=>e= .returned (.int .i64 (atZ zs i))∧Below w.heap.size w w'):=by
 match zs,hn with
 | [a,b,c,d],hn=>
  have I:=ae w (.cells #[.int .i64 a,.int .i64 b,.int .i64 c,.int .i64 d] 191)
  have hz:=L9 w (.cells #[.int .i64 a,.int .i64 b,.int .i64 c,.int .i64 d] 191)
  have HR:Hid (∀w,Calls Tryz.prog 204 #[.agg #[.int .i64 a,.int .i64 b,.int .i64 c,.int .i64 d]] w (fun e w'=>e= .returned (.bool (inB 3 [a,b,c,d]))∧Below w.heap.size w w')):=fun w=>ww [a,b,c,d] hn w
  have HA:Hid (atZ [a,b,c,d] i=if inB 3 [a,b,c,d]=true then[a,b,c,d].getD (i/4) 0 else 0):=rfl
  have R:Hid (∀w':World,w'.heap[w.heap.size]? =some (.cells #[.int .i64 a,.int .i64 b,.int .i64 c,.int .i64 d] 191 (0,0))→w'.cell? ⟨w.heap.size,i/4,none⟩=some (.int .i64 ([a,b,c,d].getD (i/4) 0))):=fun w' h=>aH (zs:=[a,b,c,d]) h (by show i/4<4;omega)
  generalize inB 3 [a,b,c,d]=B at*
  generalize [a,b,c,d].getD (i/4) 0=x at*
  show Calls Tryz.prog 192 #[.agg #[.int .i64 a,.int .i64 b,.int .i64 c,.int .i64 d],.int .i64 (i:Int)] w _
  have h0:¬(i:Int)<0:=aa
  have h1:¬16≤i:=aa
  go_enter Tryz.func192,Tryz.ntmps192
  go_upto_region 1 with fail
  generalize w.alloc (.cells #[.int .i64 a,.int .i64 b,.int .i64 c,.int .i64 d] 191)=W at*
  have HZ:=MI hz
  obtain⟨c0,c1,c2,c3⟩:=bK hz
  clear hz
  cases B
  ·go_wp2_with (go_at_call 204;refine(HR.out _).mono ?_;rintro e w1 ⟨rfl,J⟩)
   go_ret
   exact⟨bg (by rw[HA.out];rfl),I.trans (J.mono I.size)⟩
  ·go_upto_region 3 with(go_at_call 204;refine(HR.out _).mono ?_;rintro e w1 ⟨rfl,J⟩)
   have U:=R.out w1 ((J.block _ (L8 HZ.out)).trans HZ.out)
   clear c0 c1 c2 c3 HR
   go_wp2_with fail
   go_ret
   exact⟨bg (by rw[HA.out];rfl),I.trans (J.mono I.size)⟩
def jE(c v:Int):Int:=rnd (wrap64 (c*v)) 14
theorem Bh(c v:Int)(w:World):Calls Tryz.prog 221 #[.int .i64 c,.int .i64 v] w (Qt (.int .i64 (jE c v)) w):=by
 have hR:=MI (fun w=>jO (wrap64 (c*v)) 14 aq w)
 go_enter Tryz.func221,Tryz.ntmps221
 go_wp2_with (go_at_call 138;refine(hR.out _).mono ?_;rintro e w1 ⟨rfl,n1,rfl⟩)
 go_ret
 exact⟨rfl,n1,rfl⟩
def nZ(p u a b:Int):Int×Int:=
 let a1:=wrap64 (a+jE p b)
 let b1:=wrap64 (b - jE u a1)
 (wrap64 (a1+jE p b1),b1)
def lW(p u a b:Int):Int×Int:=
 let a1:=wrap64 (a - jE p b)
 let b1:=wrap64 (b+jE u a1)
 (wrap64 (a1 - jE p b1),b1)
def Ap(x:Int×Int)(w:World)(e:Ending)(w':World):Prop:=e= .returned (.tuple #[.int .i64 x.1,.int .i64 x.2])∧Below w.heap.size w w'
theorem bW{w:World}{b:Nat}{v0 v1:Value}{T:Nat}(h:w.heap[b]? =some (.cells #[v0,v1] T (0,0))):w.cell? ⟨b,0,none⟩=some v0∧w.cell? ⟨b,1,none⟩=some v1:=
 ⟨LY h rfl,LY h rfl⟩
theorem Az(p u a b:Int)(w:World):Calls Tryz.prog 196 #[.int .i64 a,.int .i64 b,.agg #[.int .i64 p,.int .i64 u]] w (Ap (nZ p u a b) w):=by
 have I:=ae w (.cells #[.int .i64 p,.int .i64 u] 171)
 have hz:=L9 w (.cells #[.int .i64 p,.int .i64 u] 171)
 have HP:=MI (fun c v w=>Bh c v w)
 have HT:Hid (nZ p u a b=(wrap64 (wrap64 (a+jE p b)+jE p (wrap64 (b - jE u (wrap64 (a+jE p b))))),wrap64 (b - jE u (wrap64 (a+jE p b))))):=rfl
 go_enter Tryz.func196,Tryz.ntmps196
 go_upto_region 1 with fail
 generalize w.alloc (.cells #[.int .i64 p,.int .i64 u] 171)=W at*
 obtain⟨c0,c1⟩:=bW hz
 clear hz
 go_wp2_with (go_at_call 221;refine(HP.out _ _ _).mono ?_;rintro e w1 ⟨rfl,n1,rfl⟩)
 go_ret2
 exact⟨by rw[HT.out];rfl,I.trans ⟨rfl,rfl,rfl,Me,fun _ _=>rfl⟩⟩
theorem wS(p u a b:Int)(w:World):Calls Tryz.prog 231 #[.int .i64 a,.int .i64 b,.agg #[.int .i64 p,.int .i64 u]] w (Ap (lW p u a b) w):=by
 have I:=ae w (.cells #[.int .i64 p,.int .i64 u] 171)
 have hz:=L9 w (.cells #[.int .i64 p,.int .i64 u] 171)
 have HP:=MI (fun c v w=>Bh c v w)
 have HT:Hid (lW p u a b=(wrap64 (wrap64 (a - jE p b) - jE p (wrap64 (b+jE u (wrap64 (a - jE p b))))),wrap64 (b+jE u (wrap64 (a - jE p b))))):=rfl
 go_enter Tryz.func231,Tryz.ntmps231
 go_upto_region 1 with fail
 generalize w.alloc (.cells #[.int .i64 p,.int .i64 u] 171)=W at*
 obtain⟨c0,c1⟩:=bW hz
 clear hz
 go_wp2_with (go_at_call 221;refine(HP.out _ _ _).mono ?_;rintro e w1 ⟨rfl,n1,rfl⟩)
 go_ret2
 exact⟨by rw[HT.out];rfl,I.trans ⟨rfl,rfl,rfl,Me,fun _ _=>rfl⟩⟩
def aJ:List Int:=([0,1,2,3,4,5,6,7]:List Int).flatMap (fun k=>[(2*k+1)*512,((2*k+1)*1048576+(1024+(2*k+1)*(2*k+1))/2)/(1024+(2*k+1)*(2*k+1))])
theorem AA(k:Nat)(hk:k<8)(w:World):Calls Tryz.prog 145 #[.int .i64 (k:Int)] w (fun e w'=>e= .returned (.agg #[.int .i64 (aJ.getD (2*k) 0),.int .i64 (aJ.getD (2*k+1) 0)])∧Below w.heap.size w w'):=by
 have:k=0∨k=1∨k=2∨k=3∨k=4∨k=5∨k=6∨k=7:=aa
 have I:=ae w (.cells #[(),()] 171)
 have hz:=L9 w (.cells #[(),()] 171)
 have hi:(Tryz.prog.info? 171).map (·.size)=some 2:=af
 rcases this with rfl | rfl | rfl | rfl | rfl | rfl | rfl | rfl
 all_goals
  go_enter Tryz.func145,Tryz.ntmps145
  go_upto_region 1 with fail
  generalize w.alloc (.cells #[(),()] 171)=W at*
  have HZ:=MI hz
  obtain⟨c0,c1⟩:=bW hz
  have f0:W.frozen? ⟨w.heap.size,0,none⟩=false:=L6 hz
  have f1:W.frozen? ⟨w.heap.size,1,none⟩=false:=L6 hz
  clear hz
  go_wp2_with fail
  refine bodyPost_ret (results_cell_row (fn:=Tryz.f145) rfl _ _ _ _ _ _ _ rfl (Mc (Mc HZ.out)) Tryz.underlying171 rfl hi) rfl ⟨rfl,(I.setCell Me _).setCell Me _⟩
theorem KI(s:Nat)(hs:s≤23)(w:World):Calls Tryz.prog 274 #[.int .i64 (s:Int)] w (fun e w'=>e= .returned (.int .i64 (2^s))∧w=w'):=by
 have h0:¬(s:Int)<0:=aa
 have h1:¬23<s:=aa
 have hm:min s 64=s:=aa
 obtain⟨a1,a2⟩:=vC s aa
 have hw:IntKind.i64.wrap (2^s)=2^s:=IntWalk.i64_in _ aa
 go_enter Tryz.func274,Tryz.ntmps274
 go_wp2_with fail
 go_ret
 exact⟨rfl,rfl⟩
theorem tC{w:World}{b:Nat}{cs:Array Value}{T:Nat}(h:w.heap[b]? =some (.cells cs T (0,0))):w.frozen? ⟨b,0,none⟩=false∧w.frozen? ⟨b,1,none⟩=false∧w.frozen? ⟨b,2,none⟩=false∧w.frozen? ⟨b,3,none⟩=false:=
 ⟨L6 h,L6 h,L6 h,L6 h⟩
def TapP(q:Nat)(w:World)(e:Ending)(w':World):Prop:=(∃t:List Int,t.length=4∧(q=0→t=[0,65536,0,0])∧e= .returned (.agg (iA t)))∧Below w.heap.size w w'
theorem AO(q:Nat)(hq:q<32)(w:World):Calls Tryz.prog 176 #[.int .i64 (q:Int)] w (TapP q w):=by
 have I:=ae w (.cells #[(),(),(),()] 285)
 have hz:=L9 w (.cells #[(),(),(),()] 285)
 have hi:(Tryz.prog.info? 285).map (·.size)=some 4:=af
 have h0:¬(q:Int)<0:=aa
 have h1:¬32≤q:=aa
 by_cases J:q=0
 ·subst J
  go_enter Tryz.func176,Tryz.ntmps176
  go_upto_region 1 with fail
  generalize w.alloc (.cells #[(),(),(),()] 285)=W at*
  have HZ:=MI hz
  obtain⟨c0,c1,c2,c3⟩:=bK hz
  obtain⟨f0,f1,f2,f3⟩:=tC hz
  clear hz
  go_wp2_with fail
  exact bodyPost_ret (results_cell_row (fn:=Tryz.f176) rfl _ _ _ _ _ _ _ rfl (Mc (Mc (Mc (Mc HZ.out)))) Tryz.underlying285 rfl hi) rfl ⟨⟨[0,65536,0,0],rfl,fun _=>rfl,rfl⟩,(((I.setCell Me _).setCell Me _).setCell Me _).setCell Me _⟩
 ·go_enter Tryz.func176,Tryz.ntmps176
  go_upto_region 1 with fail
  generalize w.alloc (.cells #[(),(),(),()] 285)=W at*
  have HZ:=MI hz
  obtain⟨c0,c1,c2,c3⟩:=bK hz
  obtain⟨f0,f1,f2,f3⟩:=tC hz
  clear hz
  go_wp2_with fail
  exact bodyPost_ret (results_cell_row (fn:=Tryz.f176) rfl _ _ _ _ _ _ _ rfl (Mc (Mc (Mc (Mc HZ.out)))) Tryz.underlying285 rfl hi) rfl ⟨⟨[_,_,_,_],rfl,fun h=>absurd h J,rfl⟩,(((I.setCell Me _).setCell Me _).setCell Me _).setCell Me _⟩
def kL(f q:List Int)(j:Nat):List Int:=f.take j++q.drop j
theorem rY(f q:List Int):kL f q 0=q:=by simp[kL]
theorem qM(f q:List Int)(h:f.length=q.length):kL f q f.length=f:=by unfold kL;rw[List.take_length,h,List.drop_length,List.append_nil]
theorem qK(f q:List Int)(j:Nat)(h:f.length=q.length):(kL f q j).length=f.length:=by simp[kL];omega
theorem BG(f q:List Int)(j:Nat)(h:f.length=q.length)(hj:j<f.length):(kL f q j).getD j 0=q.getD j 0:=by
 unfold kL
 simp only[List.getD]
 rw[List.getElem?_append_right (by simp;omega)]
 simp
 congr 2;omega
theorem qJ(f q:List Int)(j:Nat)(h:f.length=q.length)(hj:j<f.length):(kL f q j).set j (f.getD j 0)=kL f q (j+1):=by
 unfold kL
 rw[List.set_append_right _ _ (by simp;omega),gG f j hj,List.append_assoc,List.length_take,Nat.min_eq_left aa,Nat.sub_self,List.drop_eq_getElem_cons aa]
 rfl
def z16:List Int:=List.replicate 16 0
theorem ay{w:World}{b:Nat}{cs:Array Value}{T:Nat}(h:w.heap[b]? =some (.cells cs T (0,0)))(o:Nat):w.frozen? ⟨b,o,none⟩=false:=L6 h
theorem xN(w:World):Calls Tryz.prog 123 #[] w (fun e w'=>e= .returned (.agg (iA aJ))∧Below w.heap.size w w'):=by
 have hT:=MI (fun k hk w=>AA k hk w)
 have J:=ae w (.cells #[(),(),(),(),(),(),(),(),(),(),(),(),(),(),(),()] 172)
 have R:=L9 w (.cells #[(),(),(),(),(),(),(),(),(),(),(),(),(),(),(),()] 172)
 have I:=ae (w.alloc (.cells #[(),(),(),(),(),(),(),(),(),(),(),(),(),(),(),()] 172)) (.cells #[(),(),(),(),(),(),(),(),(),(),(),(),(),(),(),()] 172)
 have U:=L9 (w.alloc (.cells #[(),(),(),(),(),(),(),(),(),(),(),(),(),(),(),()] 172)) (.cells #[(),(),(),(),(),(),(),(),(),(),(),(),(),(),(),()] 172)
 have A1:=(I.block _ (L8 R)).trans R
 have hB:=J.trans (I.mono J.size)
 rw[World.size_alloc] at U
 clear J I R
 have hi:(Tryz.prog.info? 172).map (·.size)=some (iA aJ).size:=af
 have HM:=MI (fun j (hj:j<16)=>qJ aJ z16 j rfl hj)
 have HL:=MI (fun j=>qK aJ z16 j rfl)
 have HA:Hid (kL aJ z16 16=aJ):=qM aJ z16 rfl
 have o:((w.alloc (.cells #[(),(),(),(),(),(),(),(),(),(),(),(),(),(),(),()] 172)).alloc (.cells #[(),(),(),(),(),(),(),(),(),(),(),(),(),(),(),()] 172)).heap[w.heap.size+1]? =some (.cells (iA (kL aJ z16 0)) 172 (0,0)):=U
 have A0:((w.alloc (.cells #[(),(),(),(),(),(),(),(),(),(),(),(),(),(),(),()] 172)).alloc (.cells #[(),(),(),(),(),(),(),(),(),(),(),(),(),(),(),()] 172)).heap[w.heap.size]? =some (.cells (iA z16) 172 (0,0)):=A1
 clear U A1
 go_enter Tryz.func123,Tryz.ntmps123
 go_upto_region 3 with fail
 generalize (w.alloc (.cells #[(),(),(),(),(),(),(),(),(),(),(),(),(),(),(),()] 172)).alloc (.cells #[(),(),(),(),(),(),(),(),(),(),(),(),(),(),(),()] 172)=W at*
 have A2:=MI o
 have A3:=MI A0
 have HB:=MI hB
 clear o A0 hB
 go_loopw [3] (fun v3 wr=>∃j:Nat,j≤8∧v3= .int .i64 (j:Int)∧wr.heap[w.heap.size+1]? =some (.cells (iA (kL aJ z16 (2*j))) 172 (0,0))∧wr.heap[w.heap.size]? =some (.cells (iA z16) 172 (0,0))∧Below w.heap.size w wr) (fun v3 _=>8 - aC v3)
 case atStart=>exact⟨0,aa,rfl,A2.out,A3.out,HB.out⟩
 case round=>
  clear A2 A3 HB
  obtain⟨j,hj,rfl,h1,h0,hb⟩:=hrel
  by_cases A6:j<8
  ·have HB:=MI hb
   have H1:=MI h1
   have H0:=MI h0
   have A4:=HM.out (2*j) aa
   have A5:=HM.out (2*j+1) aa
   have A7:=MI (hT.out j A6)
   clear h1 h0 hb
   generalize aJ.getD (2*j) 0=ta at*
   generalize aJ.getD (2*j+1) 0=tb at*
   have A8:Hid (((kL aJ z16 (2*j)).set (j*2) ta).set (j*2+1) tb=kL aJ z16 (2*(j+1))):=by
    unfold Hid
    rw[show j*2=2*j by omega,A4,A5,show 2*(j+1)=2*j+1+1 by omega]
   clear A4 A5
   go_wp2_with (go_at_call 145;refine(A7.out _).mono ?_;rintro e w1 ⟨rfl,I⟩;have h1:=(I.block _ (L8 H1.out)).trans H1.out;have h0:=(I.block _ (L8 H0.out)).trans H0.out;have fa:=ay h1 (j*2);have fb:=ay h1 (j*2+1);have ca:=aH (k:=j*2) h1 (by rw[HL.out];show j*2<16;omega);have cb:=aH (k:=j*2+1) h1 (by rw[HL.out];show j*2+1<16;omega);have h1:=MI h1;have h0:=MI h0)
   have hs:=bY (bY h1.out (j*2) ta) (j*2+1) tb
   rw[A8.out] at hs
   refine⟨⟨j+1,aa,aD,hs,?_,?_⟩,?_⟩
   ·rw[heap_setCell_other _ _ _ _ (by show w.heap.size≠w.heap.size+1;omega),heap_setCell_other _ _ _ _ (by show w.heap.size≠w.heap.size+1;omega)]
    exact h0.out
   ·exact((HB.out.trans (I.mono HB.out.size)).setCell (p:=⟨w.heap.size+1,_,none⟩) (by show w.heap.size≤w.heap.size+1;omega) _).setCell (p:=⟨w.heap.size+1,_,none⟩) (by show w.heap.size≤w.heap.size+1;omega) _
   ·simp[aC];omega
  ·obtain rfl:j=8:=aa
   have A9:wr.heap[w.heap.size+1]? =some (.cells (iA aJ) 172 (0,0)):=by rw[←HA.out];exact h1
   clear h1
   go_wp2_with (first | (with_reducible refine MC 172 1 ?_;refine wpList_load_row rfl 172 (.tmp 1) rfl _ rfl 172 (iA aJ) (0,0) _ A9 Tryz.underlying172 rfl hi ?_) | (with_reducible refine MF 172 0 11 ?_;refine wpList_store_row rfl 172 (.tmp 0) (.tmp 11) rfl _ (iA aJ) rfl rfl 172 (iA z16) h0 hi af (bV _) ?_))
   exact bodyPost_ret (results_cell_row (fn:=Tryz.f123) rfl _ _ _ _ _ _ _ rfl (setRow_heap _ _ _ _ _ _ h0) Tryz.underlying172 rfl hi) rfl ⟨rfl,below_setRow hb Me _⟩
theorem below_drewN{B:Nat}{w w':World}(h:Below B w w')(n:Nat):Below B w (w'.drewN n):=⟨h.os,h.tape,h.output,h.size,h.block⟩
structure Mt where
 nm:ByteArray
 len:Nat
 rate:Nat
 ch:Nat
 loop:Bool
 ls:Nat
 le:Nat
 sums:Nat
 first:Nat
def aV(m:Mt):List Value:=[.string m.nm,.int .i64 m.len,.int .i64 m.rate,.int .i64 m.ch,.bool m.loop,.int .i64 m.ls,.int .i64 m.le,.int .i64 m.sums,.int .i64 m.first]
def aF(m:Mt):Array Value:=#[.string m.nm,.int .i64 m.len,.int .i64 m.rate,.int .i64 m.ch,.bool m.loop,.int .i64 m.ls,.int .i64 m.le,.int .i64 m.sums,.int .i64 m.first]
structure Mt.Ok(m:Mt):Prop where
 l0:1≤m.len
 l1:m.len≤1048576
 r0:1≤m.rate
 r1:m.rate≤192000
 c0:1≤m.ch
 c1:m.ch≤2
 p0:m.loop=true→m.ls<m.le
 p1:m.le≤m.len
 p2:m.loop=false→m.ls=0∧m.le=0
def gV(m:Mt)(a:Int):Int:=if a<0 then -1 else if m.loop=false then(if(m.len:Int)≤a then -1 else a) else if a<(m.le:Int) then a else m.ls+(a - m.ls)%((m.le:Int) - m.ls)
theorem Hq{m:Mt}(h:m.Ok)(a:Int): -1≤gV m a∧gV m a<m.len:=by
 have h1:=h.l0;have h2:=h.p1;have h3:=h.p0
 unfold gV
 split
 ·omega
 ·split
  ·split<;>omega
  ·rename_i hl
   have hl:m.loop=true:=by simpa using hl
   have h4:=h3 hl
   split
   ·omega
   ·have e1:=Int.emod_nonneg (a - m.ls) (show((m.le:Int) - m.ls)≠0 by omega)
    have e2:=Int.emod_lt_of_pos (a - m.ls) (show 0<((m.le:Int) - m.ls) by omega)
    omega
theorem DC(m:Mt)(hm:m.Ok)(a:Int)(h0: -9223372036854775808≤a)(h1:a≤9223372036854775807)(w:World):Calls Tryz.prog 177 #[.agg (aF m),.int .i64 a] w (fun e w'=>e= .returned (.int .i64 (gV m a))∧Below w.heap.size w w'):=by
 have hl:=hm.l1;have hp:=hm.p1;have I:=hm.p0
 have HB:=MI (ae w (.cells (aF m) 54))
 obtain⟨r,hr⟩: ∃r,gV m a=r:=⟨_,rfl⟩
 rw[hr]
 unfold gV at hr
 obtain⟨nm,len,rate,ch,loop,ls,le,sums,first⟩:=m
 unfold aF at*
 simp only at hl hp I hr
 have HU:=MI hr
 clear hr
 by_cases ha:a<0
 ·rw[if_pos ha] at HU
  go_enter Tryz.func177,Tryz.ntmps177
  go_wp2_with fail
  go_ret
  exact⟨bg HU.out,HB.out⟩
 ·rw[if_neg ha] at HU
  cases loop with
  | false=>
   rw[if_pos rfl] at HU
   by_cases hb:(len:Int)≤a
   ·rw[if_pos hb] at HU
    go_enter Tryz.func177,Tryz.ntmps177
    go_wp2_with fail
    go_ret
    exact⟨bg HU.out,HB.out⟩
   ·rw[if_neg hb] at HU
    go_enter Tryz.func177,Tryz.ntmps177
    go_wp2_with fail
    go_ret
    exact⟨bg HU.out,HB.out⟩
  | true=>
   rw[if_neg aq] at HU
   have J:=I rfl
   clear I
   by_cases hb:a<(le:Int)
   ·rw[if_pos hb] at HU
    go_enter Tryz.func177,Tryz.ntmps177
    go_wp2_with fail
    go_ret
    exact⟨bg HU.out,HB.out⟩
   ·rw[if_neg hb] at HU
    have e1:IntKind.i64.wrap (a - (ls:Int))=a - ls:=IntWalk.i64_in _ aa
    have e2:IntKind.i64.wrap ((le:Int) - (ls:Int))=(le:Int) - ls:=IntWalk.i64_in _ aa
    have e3:(a - (ls:Int)).tmod ((le:Int) - ls)=(a - ls)%((le:Int) - ls):=Int.tmod_eq_emod_of_nonneg aa
    have e0:¬(le:Int) - ls=0:=aa
    have e5:=Int.emod_nonneg (a - ls) (show((le:Int) - ls)≠0 by omega)
    have e6:=Int.emod_lt_of_pos (a - ls) (show 0<((le:Int) - ls) by omega)
    have e7:IntKind.i64.wrap ((a - (ls:Int))%((le:Int) - ls))=(a - ls)%((le:Int) - ls):=IntWalk.i64_in _ aa
    have e4:IntKind.i64.wrap ((ls:Int)+(a - ls)%((le:Int) - ls))=(ls:Int)+(a - ls)%((le:Int) - ls):=IntWalk.i64_in _ aa
    go_enter Tryz.func177,Tryz.ntmps177
    go_upto_region 9 with fail
    go_quiet (fail)
    go_wp2_with fail
    go_ret
    exact⟨bg HU.out,below_drewN HB.out _⟩
def jQ(a:Int):Int:=a%4294967296/134217728
theorem Jd(n:Int):bits .and .i64 n 4294967295=n%4294967296:=by
 have I:(BitVec.ofInt 64 4294967295).toNat=2^32 - 1:=aq
 have key:(BitVec.ofInt 64 n&&&BitVec.ofInt 64 4294967295).toNat=(n%((2^64:Nat):Int)).toNat%2^32:=by
  rw[BitVec.toNat_and,BitVec.toNat_ofInt,I,Nat.and_two_pow_sub_one_eq_mod]
 show IntKind.i64.wrap ((BitVec.ofInt 64 n&&&BitVec.ofInt 64 4294967295).toNat:Nat)=n%4294967296
 rw[key,IntKind.wrap_i64]
 omega
theorem IL(a:Int)(w:World):Calls Tryz.prog 175 #[.int .i64 a] w (fun e w'=>e= .returned (.int .i64 (jQ a))∧w=w'):=by
 have e1:=Jd a
 have e2:IntKind.i64.wrap (a%4294967296/134217728)=a%4294967296/134217728:=IntWalk.i64_in _ aa
 go_enter Tryz.func175,Tryz.ntmps175
 go_wp2_with fail
 go_ret
 exact⟨bg (by unfold jQ;omega),rfl⟩
def qP(m:Mt)(a:Int):Int:=a - (a/4294967296 - m.le - 4)/((m.le:Int) - m.ls)*((m.le:Int) - m.ls)*4294967296
theorem BX{m:Mt}(h:m.Ok)(hl:m.loop=true){a:Int}(h0:4611686018427387904≤a)(h1:a≤9223372036854775807):0≤qP m a∧qP m a<18014398509481984:=by
 have h2:=h.l1;have h3:=h.p1;have h4:=h.p0 hl
 unfold qP
 have e1:=Int.ediv_mul_le (a/4294967296 - m.le - 4) (show((m.le:Int) - m.ls)≠0 by omega)
 have e2:=Int.emod_lt_of_pos (a/4294967296 - m.le - 4) (show 0<((m.le:Int) - m.ls) by omega)
 have e3:=Int.emod_nonneg (a/4294967296 - m.le - 4) (show((m.le:Int) - m.ls)≠0 by omega)
 have e4:=Int.mul_ediv_add_emod (a/4294967296 - m.le - 4) ((m.le:Int) - m.ls)
 rw[Int.mul_comm] at e4
 generalize (a/4294967296 - m.le - 4)/((m.le:Int) - m.ls)*((m.le:Int) - m.ls)=P at*
 generalize (a/4294967296 - m.le - 4)%((m.le:Int) - m.ls)=R at*
 omega
theorem NG(m:Mt)(hm:m.Ok)(I:m.loop=true)(a:Int)(h0:4611686018427387904≤a)(h1:a≤9223372036854775807)(w:World):Calls Tryz.prog 180 #[.agg (aF m),.int .i64 a] w (fun e w'=>e= .returned (.int .i64 (qP m a))∧Below w.heap.size w w'):=by
 have hl:=hm.l1;have hp:=hm.p1;have J:=hm.p0 I
 have HB:=MI (ae w (.cells (aF m) 54))
 obtain⟨r,hr⟩: ∃r,qP m a=r:=⟨_,rfl⟩
 have R:=BX hm I h0 h1
 rw[hr] at R
 rw[hr]
 unfold qP at hr
 obtain⟨nm,len,rate,ch,loop,ls,le,sums,first⟩:=m
 unfold aF at*
 simp only at hl hp J hr I
 subst I
 have e1:IntKind.i64.wrap ((le:Int) - (ls:Int))=(le:Int) - ls:=IntWalk.i64_in _ aa
 have e2:IntKind.i64.wrap (a/4294967296 - le)=a/4294967296 - le:=IntWalk.i64_in _ aa
 have e3:IntKind.i64.wrap (a/4294967296 - le - 4)=a/4294967296 - le - 4:=IntWalk.i64_in _ aa
 have q1:=Int.ediv_mul_le (a/4294967296 - le - 4) (show((le:Int) - ls)≠0 by omega)
 have q2:=Int.ediv_nonneg (show 0≤a/4294967296 - le - 4 by omega) (show 0≤(le:Int) - ls by omega)
 have q3:=Int.ediv_le_self (a:=a/4294967296 - le - 4) ((le:Int) - ls) aa
 have q4:=Int.mul_nonneg q2 (show 0≤(le:Int) - ls by omega)
 have e4:(a/4294967296 - le - 4).tdiv ((le:Int) - ls)=(a/4294967296 - le - 4)/((le:Int) - ls):=Int.tdiv_eq_ediv_of_nonneg aa
 have e5:IntKind.i64.wrap ((a/4294967296 - le - 4)/((le:Int) - ls))=(a/4294967296 - le - 4)/((le:Int) - ls):=IntWalk.i64_in _ aa
 have n0:¬(le:Int) - ls<1:=aa
 have n1:¬a/4294967296 - le - 4<(le:Int) - ls:=aa
 have n2:¬(le:Int) - ls=0:=aa
 have e6:IntKind.i64.wrap ((a/4294967296 - le - 4)/((le:Int) - ls)*((le:Int) - ls))=(a/4294967296 - le - 4)/((le:Int) - ls)*((le:Int) - ls):=IntWalk.i64_in _ aa
 have e7:IntKind.i64.wrap ((a/4294967296 - le - 4)/((le:Int) - ls)*((le:Int) - ls)*4294967296)=(a/4294967296 - le - 4)/((le:Int) - ls)*((le:Int) - ls)*4294967296:=IntWalk.i64_in _ aa
 have e8:IntKind.i64.wrap (a - (a/4294967296 - le - 4)/((le:Int) - ls)*((le:Int) - ls)*4294967296)=a - (a/4294967296 - le - 4)/((le:Int) - ls)*((le:Int) - ls)*4294967296:=IntWalk.i64_in _ aa
 have HU:=MI hr
 clear hr q1 q2 q3 q4
 go_enter Tryz.func180,Tryz.ntmps180
 go_wp2_with fail
 go_ret
 exact⟨bg HU.out,HB.out⟩
theorem flipS{P:Program}{F:FuncId}{args:Array Value}{w:World}{v:Value}(h:Calls P F args w fun e w'=>e= .returned v∧w=w'):Calls P F args w fun e w'=>e= .returned v∧w'=w:=h.mono fun _ _ ⟨a,b⟩=>⟨a,b.symm⟩
theorem nD(i:Nat)(hi:i<16)(w:World):Calls Tryz.prog 173 #[.int .i64 (i:Int)] w (fun e w'=>e= .returned (.int .i64 ((i/4:Nat):Int))∧w'=w):=by
 go_enter Tryz.func173,Tryz.ntmps173
 go_wp2_with fail
 go_ret
 exact⟨bg aa,rfl⟩
def pI(q s:List Int):List Int:=(List.range 16).map (fun i=>wrap64 (q.getD i 0*2^(s.getD (i/4) 0).toNat))
theorem iM(q s:List Int):(pI q s).length=16:=by simp[pI]
theorem J6(q s:List Int)(i:Nat)(h:i<16):(pI q s).getD i 0=wrap64 (q.getD i 0*2^(s.getD (i/4) 0).toNat):=by simp[pI,List.getD,h]
def valuesL(q s:List Int):List Int:=if inB 23 s=true then pI q s else z16
theorem wo{m:Int}{zs:List Int}(h:inB m zs=true)(k:Nat)(hk:k<zs.length):0≤zs.getD k 0∧zs.getD k 0≤m:=by
 unfold inB at h
 rw[List.all_eq_true] at h
 have:=of_decide_eq_true (h zs[k] (List.getElem_mem hk))
 rwa [show zs.getD k 0=zs[k] by simp[List.getD,hk]]
theorem Dz(q s:List Int)(hq:q.length=16)(hs:s.length=4)(w:World):Calls Tryz.prog 266 #[.agg (iA q),.agg (iA s)] w (fun e w'=>e= .returned (.agg (iA (valuesL q s)))∧Below w.heap.size w w'):=by
 have o:=ae w (.cells (iA q) 194)
 have U:=L9 w (.cells (iA q) 194)
 have I:=ae (w.alloc (.cells (iA q) 194)) (.cells (iA s) 306)
 have J:=L9 (w.alloc (.cells (iA q) 194)) (.cells (iA s) 306)
 have A1:=ae ((w.alloc (.cells (iA q) 194)).alloc (.cells (iA s) 306)) (.cells #[(),(),(),(),(),(),(),(),(),(),(),(),(),(),(),()] 194)
 have A2:=L9 ((w.alloc (.cells (iA q) 194)).alloc (.cells (iA s) 306)) (.cells #[(),(),(),(),(),(),(),(),(),(),(),(),(),(),(),()] 194)
 have J:=(A1.block _ (L8 J)).trans J
 have U:=((I.trans (A1.mono I.size)).block _ (L8 U)).trans U
 have hB:=(o.trans (I.mono o.size)).trans (A1.mono (o.trans (I.mono o.size)).size)
 simp only[World.size_alloc] at J A2
 clear o I A1
 have C2:(Tryz.prog.info? 194).map (·.size)=some (iA q).size:=by rw[az,hq];kernel_rfl
 have B2:(Tryz.prog.info? 306).map (·.size)=some (iA s).size:=by rw[az,hs];kernel_rfl
 have A4:(Tryz.prog.info? 194).map (·.size)=some (iA (pI q s)).size:=by rw[az,iM];kernel_rfl
 have B3:(Tryz.prog.info? 194).map (·.size)=some (iA z16).size:=af
 have HR:=MI (fun w=>pX s hs w)
 have HV:Hid (valuesL q s=if inB 23 s=true then pI q s else z16):=rfl
 have A5:=MI (fun h k hk=>wo (m:=23) (zs:=s) h k hk)
 have HM:=MI (fun j (hj:j<16)=>qJ (pI q s) q j (by rw[iM,hq]) (by rw[iM];exact hj))
 have HG:=MI (fun j (hj:j<16)=>BG (pI q s) q j (by rw[iM,hq]) (by rw[iM];exact hj))
 have HL:=MI (fun j=>qK (pI q s) q j (by rw[iM,hq]))
 have HX:=MI (fun i hi=>J6 q s i hi)
 have HA:Hid (kL (pI q s) q 16=pI q s):=by have:=qM (pI q s) q (by rw[iM,hq]);rwa [iM] at this
 have B4:=MI (iM q s)
 have C3:Hid (kL (pI q s) q 0=q):=rY _ _
 have HS:=MI hs
 have C0:(iA q).size=(iA (pI q s)).size:=by rw[az,az,iM,hq]
 go_enter Tryz.func266,Tryz.ntmps266
 go_upto_region 1 with fail
 generalize ((w.alloc (.cells (iA q) 194)).alloc (.cells (iA s) 306)).alloc (.cells #[(),(),(),(),(),(),(),(),(),(),(),(),(),(),(),()] 194)=W at*
 generalize C4:pI q s=vl at*
 go_upto_if 8 with(first | (with_reducible refine MC 306 3 ?_;refine wpList_load_row rfl 306 (.tmp 3) rfl _ rfl 306 (iA s) (0,0) _ J Tryz.underlying306 rfl B2 ?_) | (go_at_call 206;refine(HR.out _).mono ?_;rintro e w1 ⟨rfl,I⟩))
 have A6:=(I.block _ (L8 U)).trans U
 have A7:=(I.block _ (L8 J)).trans J
 have A3:=(I.block _ (L8 A2)).trans A2
 have A8:=hB.trans (I.mono hB.size)
 clear U J A2 hB I HR hq hs C4 C0 C2 B2
 by_cases hr:inB 23 s=true
 ·have C5:=MI (A5.out hr)
  have hv:=HV.out
  rw[if_pos hr] at hv
  rw[hr]
  simp only[Bool.not_true]
  have A9:=MI hv
  clear hv HV A5 hr
  have B5:=MI A6
  have B6:=MI A7
  have B7:=MI A3
  have B8:=MI A8
  clear A6 A7 A3 A8
  go_upto_region 4 with fail
  go_loopw [10] (fun v10 wr=>∃j:Nat,j≤16∧v10= .int .i64 (j:Int)∧wr.heap[w.heap.size]? =some (.cells (iA (kL vl q j)) 194 (0,0))∧wr.heap[w.heap.size+1]? =some (.cells (iA s) 306 (0,0))∧wr.heap[w.heap.size+1+1]? =some (.cells #[(),(),(),(),(),(),(),(),(),(),(),(),(),(),(),()] 194 (0,0))∧Below w.heap.size w wr) (fun v10 _=>16 - aC v10)
  case atStart=>exact⟨0,aa,rfl,by rw[C3.out];exact B5.out,B6.out,B7.out,B8.out⟩
  case round=>
   clear B5 B6 B7 B8
   obtain⟨j,hj,rfl,h0,h1,h2,hb⟩:=hrel
   by_cases R:j<16
   ·have hsb:=C5.out (j/4) (by rw[HS.out];omega)
    have hX:=HX.out j R
    obtain⟨sk,B0⟩: ∃sk:Nat,s.getD (j/4) 0=(sk:Int):=⟨(s.getD (j/4) 0).toNat,aa⟩
    rw[B0] at hsb hX
    rw[Int.toNat_natCast] at hX
    have C6:=aH (k:=j/4) h1 (by rw[HS.out];omega)
    rw[B0] at C6
    have C7:=aH (k:=j) h0 (by rw[HL.out,B4.out];exact R)
    rw[HG.out j R] at C7
    have D3:=ay h0 j
    have A0:=bY h0 j (vl.getD j 0)
    rw[HM.out j R,hX] at A0
    have C8:=MI (KI sk aa)
    have C9:=MI (nD j R)
    have D4:j/4<4:=aa
    have D2:((j/4:Nat):Int)<4:=aa
    generalize j/4=jb at*
    have C1:=MI A0
    have H1:=MI h1
    have H2:=MI h2
    have HB:=MI hb
    generalize q.getD j 0=qj at*
    clear h0 h1 h2 hb A0 hX B0 hsb
    go_upto_region 6 with fail
    go_still_tail 10,af
    still_call (C9.out _)
    repeat still_step
    still_call (flipS (C8.out _))
    repeat still_step
    try refine wpStill_nil ?_
    change wpList _ _ _ _ _ wr.drew
    go_wp2_with fail
    refine⟨⟨j+1,aa,aD,C1.out,?_,?_,?_⟩,?_⟩
    ·exact(heap_setCell_other _ _ _ _ (by show w.heap.size+1≠w.heap.size;omega)).trans H1.out
    ·exact(heap_setCell_other _ _ _ _ (by show w.heap.size+1+1≠w.heap.size;omega)).trans H2.out
    ·exact HB.out.drew.setCell (p:=⟨w.heap.size,_,none⟩) Me _
    ·simp[aC];omega
   ·obtain rfl:j=16:=aa
    have D0:wr.heap[w.heap.size]? =some (.cells (iA vl) 194 (0,0)):=by rw[←HA.out];exact h0
    clear h0
    go_wp2_with (first | (with_reducible refine MC 194 2 ?_;refine wpList_load_row rfl 194 (.tmp 2) rfl _ rfl 194 (iA vl) (0,0) _ D0 Tryz.underlying194 rfl A4 ?_) | (with_reducible refine MF 194 4 24 ?_;refine wpList_store_row rfl 194 (.tmp 4) (.tmp 24) rfl _ (iA vl) rfl rfl 194 (iA z16) h2 A4 (by rw[az vl,az z16,B4.out];simp[z16]) (bV _) ?_))
    exact bodyPost_ret (results_cell_row (fn:=Tryz.f266) rfl _ _ _ _ _ _ _ rfl (setRow_heap _ _ _ _ _ _ h2) Tryz.underlying194 rfl A4) rfl ⟨by rw[A9.out],below_setRow hb aa _⟩
 ·have hv:=HV.out
  rw[if_neg hr] at hv
  have B9:inB 23 s=false:=by simpa using hr
  rw[B9]
  simp only[Bool.not_false]
  have A9:=MI hv
  have D1:Tryz.prog.built 194 []=some (iA z16):=af
  have B1:w1.heap[w.heap.size+1+1]? =some (.cells (iA z16) 194 (0,0)):=A3
  clear hv HV A5 hr B9 A6 A7 A3
  go_wp2_with (first | (refine bf rfl 194 #[] rfl [] ?hl (iA z16) D1 ?_) | (with_reducible refine MF 194 4 9 ?_;refine wpList_store_row rfl 194 (.tmp 4) (.tmp 9) rfl _ (iA z16) rfl rfl 194 (iA z16) B1 B3 rfl (bV _) ?_))
  exact bodyPost_ret (results_cell_row (fn:=Tryz.f266) rfl _ _ _ _ _ _ _ rfl (setRow_heap _ _ _ _ _ _ B1) Tryz.underlying194 rfl B3) rfl ⟨by rw[A9.out],below_setRow A8 aa _⟩
end Go.Proofs.YtnicjahcgnhogaaGreatDoor
