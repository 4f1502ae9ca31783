/- Part 23 of the walk: contracts of the program's functions, each for every input. No condition. -/
import Derived.Test.YtnicjahcgnhogaaGreatDoorQ21
import Derived.Test.YtnicjahcgnhogaaGreatDoorQ03
import Derived.Test.YtnicjahcgnhogaaGreatDoorQ14
import Derived.Laws.StructEq
import Derived.Test.YtnicjahcgnhogaaGreatDoorQ13
set_option linter.unusedVariables false
set_option linter.unusedSimpArgs false
set_option maxRecDepth 100000
set_option maxHeartbeats 8000000
namespace Go.Proofs.YtnicjahcgnhogaaGreatDoor
open Go Go.RowKit Go.Calli
attribute [local irreducible] wpStill wpAnyH wpAnyS wpList Code.wp
theorem lW(n:Nat)(hn:n≤1000000)(w:World):Calls Tryz.prog 44 #[.int .i64 n] w (fun e w'=>e= .returned (.int .i64 ((20+64*n:Nat):Int))∧w=w'):=by
 have HR:=MI (show((20+64*n:Nat):Int)=16+(n:Int)*64+4 by omega)
 generalize ((20+64*n:Nat):Int)=R at*
 go_enter Tryz.func44,Tryz.ntmps44
 go_wp2_with fail
 go_ret
 exact⟨by rw[HR.out];rfl,rfl⟩
def upZ(n k:Nat):Nat:=(n+k - 1)/k*k
theorem Ii(n k:Nat)(h0:0<k)(hk:k≤1024)(hn:n≤1000000000000)(w:World):Calls Tryz.prog 83 #[.int .i64 n,.int .i64 k] w (fun e w'=>e= .returned (.int .i64 ((upZ n k:Nat):Int))∧w=w'):=by
 have HR:=MI (show((upZ n k:Nat):Int)=((n:Int)+k - 1)/k*k by
  unfold upZ
  rw[Int.natCast_mul,Int.natCast_ediv,show((n+k - 1:Nat):Int)=(n:Int)+k - 1 by omega])
 generalize ((upZ n k:Nat):Int)=R at*
 have hk0:¬(k:Int)=0:=by omega
 have hb1:0≤((n:Int)+k - 1)/k:=Int.ediv_nonneg (by omega) (by omega)
 have hb2:((n:Int)+k - 1)/k*k≤(n:Int)+k - 1:=Int.ediv_mul_le _ hk0
 have hb3:((n:Int)+k - 1)/k≤(n:Int)+k - 1:=by
  have:=Int.ediv_le_self (b:=(k:Int)) (a:=(n:Int)+k - 1) (by omega)
  exact this
 have ht:Int.tdiv ((n:Int)+k - 1) k=((n:Int)+k - 1)/k:=Int.tdiv_eq_ediv_of_nonneg (by omega)
 generalize hq:((n:Int)+k - 1)/k=q at*
 go_enter Tryz.func83,Tryz.ntmps83
 go_wp2_with fail
 have hb0:0≤q*(k:Int):=Int.mul_nonneg hb1 (by omega)
 have hw:=IntWalk.wrap64_in (q*(k:Int)) (by omega)
 go_ret
 exact⟨by rw[HR.out];exact aX hw,rfl⟩
theorem Dn(m:Mt)(hl:m.len≤1048576)(hc:m.ch≤2)(w:World):Calls Tryz.prog 82 #[.agg (aB m)] w (fun e w'=>e= .returned (.int .i64 ((bu m.len*m.ch:Nat):Int))∧Below w.heap.size w w'):=by
 have HB:=MI (ae w (.cells (aB m) 54))
 have HC:=MI (fun w=>count_any m.len (by omega) w)
 have hcn:bu m.len≤1048576:=by unfold bu;omega
 have hmn:=Nat.mul_le_mul hcn hc
 have HR:=MI (show((bu m.len*m.ch:Nat):Int)=(bu m.len:Int)*(m.ch:Int) from Int.natCast_mul _ _)
 have hw:IntKind.i64.wrap ((bu m.len:Int)*(m.ch:Int))=((bu m.len*m.ch:Nat):Int):=by
  rw[HR.out.symm]
  exact IntWalk.i64_in _ (by omega)
 generalize ((bu m.len*m.ch:Nat):Int)=R at*
 obtain⟨nm,len,rate,ch,loop,ls,le,sums,first⟩:=m
 unfold aB at*
 simp only at*
 generalize bu len=q at*
 clear hmn
 go_enter Tryz.func82,Tryz.ntmps82
 go_upto_region 1 with fail
 go_quiet (first | (go_at_call 121;exact Calls.quiet_of_same (HC.out _)))
 go_wp2_with fail
 go_ret
 exact⟨rfl,below_drewN HB.out _⟩
theorem wZ:(Tryz.prog.info? 5).map (fun i=>(i.zero,i.size,i.bytes))=some (some (.int .u8 0),1,1):=by kernel_rfl
theorem yt{w:World}{base e:Nat}{v:Value}{n:Nat}{xs:List Value}(h:w.ownsRow base e 1 v n xs): ∃ao cap,v= .slice ao n cap∧n≤cap∧Row w ao n xs∧(∀a,ao=some a→base≤a.block∧a.off=0∧a.spot=none):=by
 obtain⟨ao,cap,hv,hc,hr,-⟩:=lM h
 refine⟨ao,cap,hv,hc,hr,fun a ha=>?_⟩
 subst ha
 rcases h.2 with⟨h1,_⟩ | ⟨g,cap2,cur,h1,hb,_⟩
 ·rw[hv] at h1;cases h1
 ·rw[hv] at h1;cases h1;exact⟨hb,rfl,rfl⟩
theorem xI{w w':World}{o:Obj}(hk:af (fun k=>(Value.slice (some ⟨w.heap.size,0,none⟩) 0 0).ownBlock=some k) (w.alloc o) w'):Below w.heap.size w w':=((af.au (S:=fun _=>False) (ae w o) Me).andThen hk (fun i hi e=>by cases e;exact absurd hi (Nat.lt_irrefl _))).bg Me (fun _ _ e=>e)
def ClnP(n:Nat)(bs:List Int)(w:World)(e:Ending)(w':World):Prop:=∃ro rc,e= .returned (.slice ro n rc)∧n≤rc∧Ints .u8 w' ro n bs∧(∀a,ro=some a→w.heap.size≤a.block∧a.off=0∧a.spot=none)∧Below w.heap.size w w'
theorem clone_any(a:Addr)(n cap:Nat)(bs:List Int)(hn:n≤100000)(w:World)(h:Ints .u8 w (some a) n bs):Calls Tryz.prog 47 #[.slice (some a) n cap] w (ClnP n bs w):=by
 have hb:=ae w (.cells #[] 5)
 have hown:=wO w 5 1
 have hrow:=(h.ah hb).row
 have HWf:=MI h.wf
 have HL:=MI h.hlen
 have hnil: ∀w,(binOp .eql 63 (.slice (some a) n cap) (.slice none 0 0)).run Tryz.prog w= .ok (.bool false) w:=fun _=>rfl
 clear h
 go_enter Tryz.func47,Tryz.ntmps47
 go_wp2_with (at_builtin;refine Cch.jK rfl (.tmp 5) (.tmp 6) 63 5 rfl Tryz.underlying63 wZ rfl w.heap.size _ 0 [] rfl hown a n cap (bs.map (Value.int .u8)) rfl hrow (kL _ _) (by omega) (by unfold maxLen;omega) (by simp) ?_;intro v' w' ho hk hv)
 rw[Nat.zero_add,List.nil_append] at ho
 obtain⟨ro,rc,rfl,hrc,hrr,hrb⟩:=yt ho
 go_ret
 exact⟨ro,rc,rfl,hrc,Row.ints hrr (by unfold maxLen;omega) HWf.out,hrb,xI hk⟩
theorem JV:(Tryz.prog.info? 54).map (fun i=>(i.zero,i.size,i.bytes))=some (some (.agg #[.string ⟨#[]⟩,(),(),(),.bool false,(),(),(),()]),9,80):=by kernel_rfl
theorem jB(m:Mt):(aP m).length=9:=rfl
theorem wS(ms:List Mt): ∀u ∈ ms.flatMap aP,u.oneCell'=true:=fun u hu=>by
 obtain⟨m,-,hm⟩:=List.mem_flatMap.1 hu
 simp only[aP,List.mem_cons,List.not_mem_nil,or_false] at hm
 rcases hm with rfl | rfl | rfl | rfl | rfl | rfl | rfl | rfl | rfl<;>rfl
def ClmP(ms:List Mt)(w:World)(e:Ending)(w':World):Prop:=∃v,e= .returned v∧w'.ownsRow w.heap.size 54 9 v ms.length (ms.flatMap aP)∧Below w.heap.size w w'
theorem DI(v:Value)(ms:List Mt)(hn:ms.length≤1000)(w:World)(h:w.ownsRow 0 54 9 v ms.length (ms.flatMap aP)):Calls Tryz.prog 49 #[v] w (ClmP ms w):=by
 obtain⟨ao,cap,rfl,hc,hr,hb0⟩:=jO m0 jB (by decide) h
 cases ao with
 | none=>
  have hnil: ∀w,(binOp .eql 87 (.slice none ms.length cap) (.slice none 0 0)).run Tryz.prog w= .ok (.bool true) w:=fun _=>rfl
  have hm0:ms=[]:=by
   rcases h.2 with⟨h1,h2⟩ | ⟨g,c,cur,h1,_⟩
   ·exact List.eq_nil_of_length_eq_zero h2
   ·cases h1
  have HM:=MI hm0
  clear h hr hb0 hm0
  go_enter Tryz.func49,Tryz.ntmps49
  go_wp2_with fail
  go_ret
  exact⟨_,rfl,by rw[HM.out];exact World.ownsRow_nil _ _ _ _,Below.refl _ _⟩
 | some a=>
  have hnil: ∀w,(binOp .eql 87 (.slice (some a) ms.length cap) (.slice none 0 0)).run Tryz.prog w= .ok (.bool false) w:=fun _=>rfl
  have hb:=ae w (.cells #[] 54)
  have hown:=wO w 54 9
  have hcell:=(hr.ah hb).flat jB (by decide)
  have hlen:=flat_length aP 9 jB ms
  have hone:=wS ms
  clear h hr hb0
  go_enter Tryz.func49,Tryz.ntmps49
  go_wp2_with (at_builtin;refine bY rfl (.tmp 5) (.tmp 6) 87 54 9 rfl Tryz.underlying87 JV rfl (by decide) w.heap.size _ 0 [] rfl hown a ms.length cap (ms.flatMap aP) hlen rfl hcell hone (by omega) (by unfold maxLen;omega) (by simp) ?_;intro v' w' ho hk)
  rw[Nat.zero_add,List.nil_append] at ho
  go_ret
  exact⟨_,rfl,ho,xI hk⟩
def eqM(a b:Mt):Bool:=(a.nm.toList==b.nm.toList)&&((a.len:Int)==b.len)&&((a.rate:Int)==b.rate)&&((a.ch:Int)==b.ch)&&(a.loop==b.loop)&&((a.ls:Int)==b.ls)&&((a.le:Int)==b.le)&&((a.sums:Int)==b.sums)&&((a.first:Int)==b.first)
theorem JA(a b:Mt)(w:World):(binOp .neq 54 (.agg (aB a)) (.agg (aB b))).run Tryz.prog w= .ok (.bool (!(eqM a b))) w:=by
 rw[run_neq_struct,run_equalIn_agg (d:=9999) w 54 _ _ (by kernel_rfl) (by kernel_rfl)]
 have h9:Tryz.prog.underlying 9=some .string:=Tryz.underlying9
 simp only[Program.fieldsOf,Tryz.underlying54]
 simp[go_sem,aB,eqM,Tryz.underlying3,Tryz.underlying4,Tryz.underlying9]
 by_cases h1:a.nm.toList=b.nm.toList
 case neg=>simp[h1]
 by_cases h2:a.len=b.len
 case neg=>
  have g:¬((a.len:Int)=(b.len:Int)):=by omega
  simp[h1,h2,g]
 by_cases h3:a.rate=b.rate
 case neg=>
  have g:¬((a.rate:Int)=(b.rate:Int)):=by omega
  simp[h1,h2,h3,g]
 by_cases h4:a.ch=b.ch
 case neg=>
  have g:¬((a.ch:Int)=(b.ch:Int)):=by omega
  simp[h1,h2,h3,h4,g]
 by_cases h5:a.loop=b.loop
 case neg=>simp[h1,h2,h3,h4,h5]
 by_cases h6:a.ls=b.ls
 case neg=>
  have g:¬((a.ls:Int)=(b.ls:Int)):=by omega
  simp[h1,h2,h3,h4,h5,h6,g]
 by_cases h7:a.le=b.le
 case neg=>
  have g:¬((a.le:Int)=(b.le:Int)):=by omega
  simp[h1,h2,h3,h4,h5,h6,h7,g]
 by_cases h8:a.sums=b.sums
 case neg=>
  have g:¬((a.sums:Int)=(b.sums:Int)):=by omega
  simp[h1,h2,h3,h4,h5,h6,h7,h8,g]
 by_cases h9:a.first=b.first
 case neg=>
  have g:¬((a.first:Int)=(b.first:Int)):=by omega
  simp[h1,h2,h3,h4,h5,h6,h7,h8,h9,g]
 simp[h1,h2,h3,h4,h5,h6,h7,h8,h9]
theorem eqM_pos{a b:Mt}(h:eqM a b=true):a.sums=b.sums∧a.first=b.first:=by
 unfold eqM at h
 simp only[Bool.and_eq_true,beq_iff_eq] at h
 omega
theorem tZ{w:World}{ao:Option Addr}{n:Nat}{ms:List Mt}(h:bH aP 9 m0 w ao n ms)(h0: ∀a,ao=some a→a.off=0∧a.spot=none){i:Nat}(hi:i<n): ∃b,ao=some ⟨b,0,none⟩∧w.rangeAt b (i*9) (aP (ms.getD i m0)):=by
 obtain⟨a,ha,hc⟩:=h.cell i hi
 obtain⟨h1,h2⟩:=h0 a ha
 obtain⟨b,o,sp⟩:=a
 simp only at h1 h2
 subst h1 h2
 refine⟨b,ha,fun j v hv=>?_⟩
 have:=hc j v hv
 rwa [add0,add0,Nat.zero_add] at this
theorem dL{w:World}{b o:Nat}{m:Mt}(h:w.rangeAt b o (aP m)):w.cell? ⟨b,o,none⟩=some (.string m.nm)∧w.cell? ⟨b,o+1,none⟩=some (.int .i64 m.len)∧w.cell? ⟨b,o+2,none⟩=some (.int .i64 m.rate)∧w.cell? ⟨b,o+3,none⟩=some (.int .i64 m.ch)∧w.cell? ⟨b,o+4,none⟩=some (.bool m.loop)∧w.cell? ⟨b,o+5,none⟩=some (.int .i64 m.ls)∧w.cell? ⟨b,o+6,none⟩=some (.int .i64 m.le)∧w.cell? ⟨b,o+7,none⟩=some (.int .i64 m.sums)∧w.cell? ⟨b,o+8,none⟩=some (.int .i64 m.first):=
 ⟨h 0 _ rfl,h 1 _ rfl,h 2 _ rfl,h 3 _ rfl,h 4 _ rfl,h 5 _ rfl,h 6 _ rfl,h 7 _ rfl,h 8 _ rfl⟩
def eqL(a b:List Mt)(n:Nat):Bool:=(List.range n).all (fun i=>eqM (a.getD i m0) (b.getD i m0))
theorem KA{a b:List Mt}{n:Nat}(h:eqL a b n=true){i:Nat}(hi:i<n):eqM (a.getD i m0) (b.getD i m0)=true:=by
 unfold eqL at h
 rw[List.all_eq_true] at h
 exact h i (List.mem_range.2 hi)
theorem eqL_not{a b:List Mt}{n i:Nat}(hi:i<n)(h:eqM (a.getD i m0) (b.getD i m0)=false):eqL a b n=false:=by
 rw[←Bool.not_eq_true]
 intro h2
 rw[KA h2 hi] at h
 cases h
theorem GY(ao bo:Option Addr)(n ac bc:Nat)(hn:n≤1000)(xs ys:List Mt)(w:World)(ha:bH aP 9 m0 w ao n xs)(hb:bH aP 9 m0 w bo n ys)(ha0: ∀a,ao=some a→a.off=0∧a.spot=none)(hb0: ∀a,bo=some a→a.off=0∧a.spot=none):Calls Tryz.prog 51 #[.slice ao n ac,.slice bo n bc] w (fun e w'=>e= .returned (.bool (eqL xs ys n))∧Below w.heap.size w w'):=by
 have HD:=MI (fun i hi h=>eqL_not (a:=xs) (b:=ys) (n:=n) (i:=i) hi h)
 have HT:Hid ((∀i,i<n→eqM (xs.getD i m0) (ys.getD i m0)=true)→eqL xs ys n=true):=fun h=>by
  unfold eqL
  rw[List.all_eq_true]
  exact fun i hi=>h i (List.mem_range.1 hi)
 have HA:=MI ha
 have HB:=MI hb
 generalize eqL xs ys n=R at*
 clear ha hb
 go_enter Tryz.func51,Tryz.ntmps51
 go_wp2_with fail
 go_loopw [13] (fun v13 wr=>∃i m:Nat,i≤n∧v13= .int .i64 (i:Int)∧Hid (∀j,j<i→eqM (xs.getD j m0) (ys.getD j m0)=true)∧wr=w.drewN m) (fun v13 _=>n - aG v13)
 case atStart=>exact⟨0,0,by omega,rfl,(fun j hj=>by omega),rfl⟩
 case round=>
  obtain⟨i,m,hi,rfl,hP,rfl⟩:=hrel
  by_cases hlt:i<n
  ·have hlt2:(i:Int)<(n:Int):=by omega
   obtain⟨ga,hga,hra⟩:=tZ (HA.out.ah (below_drewN MB (m+1))) ha0 hlt
   obtain⟨gb,hgb,hrb⟩:=tZ (HB.out.ah (below_drewN MB (m+1))) hb0 hlt
   have HN:=MI (HD.out i hlt)
   have HS:Hid (eqM (xs.getD i m0) (ys.getD i m0)=true→∀j,j<i+1→eqM (xs.getD j m0) (ys.getD j m0)=true):=fun h j hj=>by
    rcases Nat.lt_or_ge j i with h1 | h1
    ·exact hP.out j h1
    ·obtain rfl:j=i:=by omega
     exact h
   generalize xs.getD i m0=x at*
   generalize ys.getD i m0=y at*
   have hne:=JA x y
   have hsx:(Tryz.prog.info? 54).map (·.size)=some (aP x).length:=by kernel_rfl
   have hsy:(Tryz.prog.info? 54).map (·.size)=some (aP y).length:=by kernel_rfl
   subst hga
   subst hgb
   generalize eqM x y=q at*
   clear hP
   go_upto_region 6 with fail
   obtain⟨a0,a1,a2,a3,a4,a5,a6,a7,a8⟩:=dL hra
   obtain⟨b0,b1,b2,b3,b4,b5,b6,b7,b8⟩:=dL hrb
   unfold aB at hne
   cases q with
   | true=>
    have HS2:=MI (HS.out rfl)
    clear HS HN hra hrb
    go_region_law (fail)
    all_goals go_wp2_with fail
    all_goals exact⟨⟨i+1,_,by omega,by go_num,HS2.out,rfl⟩,by simp[aG];omega⟩
   | false=>
    have hR:=MI (HN.out rfl)
    clear HS HN hra hrb
    go_region_law (fail)
    all_goals go_wp2_with fail
    all_goals go_ret
    all_goals exact⟨by rw[hR.out];rfl,below_drewN MB _⟩
  ·obtain rfl:i=n:=by omega
   have hR:=MI (HT.out hP.out)
   have hnl:¬(i:Int)<(i:Int):=by omega
   clear hP
   go_wp2_with fail
   go_ret
   exact⟨by rw[hR.out];rfl,below_drewN MB _⟩
def frm(m:Mt):Nat:=bu m.len*m.ch
def plA(size:Nat)(ms:List Mt):Nat→Nat
 | 0=>20+64*ms.length
 | i+1=>upZ (plA size ms i+4*frm (ms.getD i m0)) 16+size*frm (ms.getD i m0)
def plM(size:Nat)(ms:List Mt)(i:Nat):Mt:={ms.getD i m0 with sums:=plA size ms i,first:=upZ (plA size ms i+4*frm (ms.getD i m0)) 16}
def plL(size:Nat)(ms:List Mt)(k:Nat):List Mt:=(List.range k).map (plM size ms)++ms.drop k
theorem Jn(size:Nat)(ms:List Mt):plL size ms 0=ms:=by simp[plL]
theorem plL_at(size:Nat)(ms:List Mt)(k:Nat):(plL size ms k).getD k m0=ms.getD k m0:=by
 unfold plL
 rw[List.getD,List.getElem?_append_right (by simp),List.getD]
 simp
theorem plL_set(size:Nat)(ms:List Mt)(k:Nat)(h:k<ms.length):(plL size ms k).set k (plM size ms k)=plL size ms (k+1):=by
 unfold plL
 rw[List.set_append_right _ _ (by simp),List.range_succ,List.map_append]
 simp only[List.length_map,List.length_range,Nat.sub_self,List.append_assoc,List.map_cons,List.map_nil,List.cons_append,List.nil_append]
 rw[List.drop_eq_getElem_cons h]
 rfl
theorem plL_get(size:Nat)(ms:List Mt)(i:Nat)(h:i<ms.length):(plL size ms ms.length).getD i m0=plM size ms i:=by
 unfold plL
 rw[List.getD,List.getElem?_append_left (by simpa using h)]
 simp[h]
theorem sV(n k:Nat)(h:0<k):n≤upZ n k∧upZ n k≤n+k - 1:=by
 unfold upZ
 have h1:=Nat.div_mul_le_self (n+k - 1) k
 have h2:=Nat.mod_lt (n+k - 1) h
 have h3:=Nat.div_add_mod (n+k - 1) k
 rw[Nat.mul_comm] at h3
 omega
theorem J8{m:Mt}(hl:m.len≤1048576)(hc:m.ch≤2):frm m≤131072:=by
 have h1:bu m.len≤65536:=by unfold bu;omega
 have h2:=Nat.mul_le_mul h1 hc
 unfold frm
 omega
theorem plA_le(size:Nat)(hs:size≤96)(ms:List Mt)(hm: ∀i,i<ms.length→(ms.getD i m0).len≤1048576∧(ms.getD i m0).ch≤2): ∀i,i≤ms.length→plA size ms i≤20+64*ms.length+i*13200000:=by
 intro i
 induction i with
 | zero=>intro _;simp[plA]
 | succ i ih=>
  intro hi
  have h1:=ih (by omega)
  have h2:=J8 (hm i (by omega)).1 (hm i (by omega)).2
  have h3:=(sV (plA size ms i+4*frm (ms.getD i m0)) 16 (by decide)).2
  have h4:=Nat.mul_le_mul hs h2
  simp only[plA]
  omega
def PlS(w:World)(b n:Nat)(ms:List Mt):Prop:=ms.length=n∧∃cs:Array Value,w.heap[b]? =some (.cells cs 54 (0,0))∧∀j,j<n→∀k u,(aP (ms.getD j m0))[k]? =some u→cs[j*9+k]? =some u
theorem PlS.keep{w w':World}{b n:Nat}{ms:List Mt}(h:PlS w b n ms){S:Nat→Prop}(hk:af S w w')(hS:¬S b):PlS w' b n ms:=by
 obtain⟨h1,cs,h2,h3⟩:=h
 exact⟨h1,cs,hk.heap h2 hS,h3⟩
theorem PlS.ah{w w':World}{b n:Nat}{ms:List Mt}(h:PlS w b n ms)(hb:Below w.heap.size w w'):PlS w' b n ms:=h.keep (S:=fun _=>False) (af.au hb Me) (fun e=>e)
theorem PlS.range{w:World}{b n:Nat}{ms:List Mt}(h:PlS w b n ms){i:Nat}(hi:i<n):w.rangeAt b (i*9) (aP (ms.getD i m0)):=fun k u hu=>by
 obtain⟨h1,cs,h2,h3⟩:=h
 exact(LZ h2).trans (h3 i hi k u hu)
theorem PlS.frozen{w:World}{b n:Nat}{ms:List Mt}(h:PlS w b n ms)(o:Nat):w.frozen? ⟨b,o,none⟩=false:=by
 obtain⟨h1,cs,h2,h3⟩:=h
 exact frozen_of_row _ _ o _ _ h2
theorem PlS.recs{w:World}{b n:Nat}{ms:List Mt}(h:PlS w b n ms)(hn:n≤maxLen):bH aP 9 m0 w (some ⟨b,0,none⟩) n ms:=
 ⟨h.1,hn,fun i hi=>⟨_,rfl,fun j u hu=>by
  rw[add0,add0,Nat.zero_add]
  exact h.range hi j u hu⟩⟩
theorem PlS.put{w:World}{b n:Nat}{ms:List Mt}(h:PlS w b n ms){i:Nat}(hi:i<n){m':Mt}{c:Nat}(hc:c<9){v:Value}(hm:aP m'=(aP (ms.getD i m0)).set c v):PlS (w.setCell ⟨b,i*9+c,none⟩ v) b n (ms.set i m'):=by
 obtain⟨h1,cs,h2,h3⟩:=h
 refine⟨by rw[List.length_set];exact h1,_,Mc h2,fun j hj k u hu=>?_⟩
 have hk:k<9:=(List.getElem?_eq_some_iff.1 hu).1
 rw[Array.getElem?_setIfInBounds]
 by_cases hji:j=i
 ·subst hji
  rw[show(ms.set j m').getD j m0=m' by simp[List.getD,h1,hj],hm,List.getElem?_set] at hu
  by_cases hkc:c=k
  ·subst hkc
   rw[if_pos rfl,if_pos (by simpa[aP] using hc)] at hu
   have h5:=h3 j hj c _ (List.getElem?_eq_getElem (by simpa[aP] using hc))
   rw[if_pos rfl,if_pos (Array.getElem?_eq_some_iff.1 h5).1]
   exact hu
  ·rw[if_neg hkc] at hu
   rw[if_neg (by omega)]
   exact h3 j hj k u hu
 ·rw[show(ms.set i m').getD j m0=ms.getD j m0 by simp[List.getD,List.getElem?_set,show ¬i=j by omega]] at hu
  rw[if_neg (by omega)]
  exact h3 j hj k u hu
theorem PlS.drew{w:World}{b n:Nat}{ms:List Mt}(h:PlS w b n ms):PlS w.drew b n ms:=h
def BplP(size:Nat)(ms:List Mt)(b n:Nat)(w:World)(e:Ending)(w':World):Prop:=e= .returned (.int .i64 ((upZ (plA size ms n) 64:Nat):Int))∧PlS w' b n (plL size ms n)∧af (fun k=>k=b) w w'
theorem vg(size:Nat)(hs:size≤96)(ms:List Mt)(n:Nat)(hn:n≤64)(hln:ms.length=n)(hm: ∀i,i<n→(ms.getD i m0).len≤1048576∧(ms.getD i m0).ch≤2)(b cap:Nat)(w:World)(h:PlS w b n ms):Calls Tryz.prog 50 #[.slice (some ⟨b,0,none⟩) n cap,.int .i64 size] w (BplP size ms b n w):=by
 have HA:=MI (plA_le size hs ms (by rw[hln];exact hm))
 have HD:=MI (fun w=>lW n (by omega) w)
 have HU:=MI (fun x k h0 hk hx w=>Ii x k h0 hk hx w)
 have HM:=MI hm
 have HH:=MI h
 have HLn:=MI hln
 clear h hm hln
 go_enter Tryz.func50,Tryz.ntmps50
 go_wp2_with (go_at_call 44;refine(HD.out _).mono ?_;rintro e w' ⟨rfl,rfl⟩)
 go_loopw [12,5] (fun v12 v5 wr=>∃i:Nat,i≤n∧v12= .int .i64 (i:Int)∧v5= .int .i64 (plA size ms i:Int)∧PlS wr b n (plL size ms i)∧af (fun k=>k=b) w wr) (fun v12 _ _=>n - aG v12)
 case atStart=>exact⟨0,by omega,rfl,congrArg (Value.int .i64) (by unfold plA;rw[HLn.out];omega),by rw[Jn];exact HH.out,af.refl _ _⟩
 case round=>
  clear HH
  obtain⟨i,hi,rfl,rfl,hS,hK⟩:=hrel
  by_cases hlt:i<n
  ·have hlt2:(i:Int)<(n:Int):=by omega
   have hA1:=HA.out i (by rw[HLn.out];omega)
   have hA2:=HA.out (i+1) (by rw[HLn.out];omega)
   have hX:=HM.out i hlt
   have hF1:=J8 hX.1 hX.2
   have hsf:=Nat.mul_le_mul hs hF1
   have hset:=plL_set size ms i (by rw[HLn.out];exact hlt)
   have hat:=plL_at size ms i
   have hpM:plM size ms i={ms.getD i m0 with sums:=plA size ms i,first:=upZ (plA size ms i+4*frm (ms.getD i m0)) 16}:=rfl
   have hA3:plA size ms (i+1)=upZ (plA size ms i+4*frm (ms.getD i m0)) 16+size*frm (ms.getD i m0):=rfl
   have hup:=(sV (plA size ms i+4*frm (ms.getD i m0)) 16 (by decide)).2
   rw[HLn.out] at hA1 hA2
   generalize ms.getD i m0=Xm at*
   have HS1:Hid (∀w1 v,v=Value.int .i64 (plA size ms i:Int)→w1=wr.setCell ⟨b,i*9+7,none⟩ v→PlS w1 b n ((plL size ms i).set i {Xm with sums:=plA size ms i})):=fun w1 v h1 h2=>by
    subst h2
    exact hS.put hlt (by decide) (by rw[hat,h1];rfl)
   have hg1:((plL size ms i).set i {Xm with sums:=plA size ms i}).getD i m0={Xm with sums:=plA size ms i}:=by simp[List.getD,hS.1,hlt]
   have hset2:((plL size ms i).set i {Xm with sums:=plA size ms i}).set i (plM size ms i)=plL size ms (i+1):=by rw[←hset];simp
   have hnl:=hS.range hlt
   rw[hat] at hnl
   obtain⟨a0,a1,a2,a3,a4,a5,a6,a7,a8⟩:=dL hnl
   have z7:=hS.frozen (i*9+7)
   have HFr0:=fun(s f:Nat) w=>Dn {Xm with sums:=s,first:=f} hX.1 hX.2 w
   have hfe:Hid (bu Xm.len*Xm.ch=frm Xm):=rfl
   have hK':=MI hK
   obtain⟨nm,len,rate,ch,loop,ls,le,sums,first⟩:=Xm
   unfold aB at HFr0
   simp only at*
   have HFr:=MI HFr0
   rw[show(bu len*ch:Nat)=frm ⟨nm,len,rate,ch,loop,ls,le,sums,first⟩ from rfl] at HFr
   generalize frm ⟨nm,len,rate,ch,loop,ls,le,sums,first⟩=F at*
   generalize plA size ms i=A at*
   have HSet:=MI hset2
   have HG1:=MI hg1
   have HPM:=MI hpM
   have HA3:=MI hA3
   have HS:=MI hS
   have hl0:Hid ((plL size ms i).length=n):=hS.1
   have HU1:Hid (∀w,Calls Tryz.prog 83 #[.int .i64 ((A:Int)+4*(F:Int)),.int .i64 16] w (fun e w'=>e= .returned (.int .i64 ((upZ (A+4*F) 16:Nat):Int))∧w=w')):=fun w=>by
    have h1:=HU.out (A+4*F) 16 (by decide) (by decide) (by omega) w
    rw[show((A+4*F:Nat):Int)=(A:Int)+4*(F:Int) by omega] at h1
    exact h1
   generalize upZ (A+4*F) 16=Fi at*
   clear hA3 HU HD hset hat hnl hS HFr0 hset2 hg1 hpM hfe hX hK
   go_upto_region 6 with fail
   have hS1:=HS1.out _ _ rfl rfl
   have hK1:af (fun k=>k=b) w (wr.setCell ⟨b,i*9+7,none⟩ (.int .i64 (A:Int))):=hK'.out.setCell (p:=⟨b,i*9+7,none⟩) (.inr rfl) _
   clear a0 a1 a2 a3 a4 a5 a6 a7 a8 z7 HS1 HS hK'
   generalize wr.setCell ⟨b,i*9+7,none⟩ (.int .i64 (A:Int))=W1 at*
   have hnl:=hS1.range hlt
   rw[HG1.out] at hnl
   obtain⟨a0,a1,a2,a3,a4,a5,a6,a7,a8⟩:=dL hnl
   have HS1:=MI hS1
   have HK1:=MI hK1
   clear hnl hS1 hK1
   go_upto_region 8 with(first
    | (go_at_call 82;refine(HFr.out A first _).mono ?_;rintro e w2 ⟨rfl,hb2⟩;have hS2:=HS1.out.ah hb2;have hnl2:=hS2.range hlt;rw[HG1.out] at hnl2;obtain⟨d0,d1,d2,d3,d4,d5,d6,d7,d8⟩:=dL hnl2;have z8:=hS2.frozen (i*9+8))
    | (go_at_call 83;refine(HU1.out _).mono ?_;rintro e w' ⟨rfl,rfl⟩))
   have hS3:PlS (w2.setCell ⟨b,i*9+8,none⟩ (.int .i64 (Fi:Int))) b n (plL size ms (i+1)):=by
    have h1:=hS2.put hlt (m':=⟨nm,len,rate,ch,loop,ls,le,A,Fi⟩) (c:=8) (by decide) (v:=.int .i64 (Fi:Int)) (by rw[HG1.out];rfl)
    rw[←HPM.out,HSet.out] at h1
    exact h1
   have hK3:af (fun k=>k=b) w (w2.setCell ⟨b,i*9+8,none⟩ (.int .i64 (Fi:Int))):=((HK1.out.andThen (af.au hb2 Me) (S':=fun _=>False) (fun _ _ e=>e.elim))).setCell (p:=⟨b,i*9+8,none⟩) (.inr rfl) _
   have hgi:(plL size ms (i+1)).getD i m0=⟨nm,len,rate,ch,loop,ls,le,A,Fi⟩:=by
    have h1:(plL size ms (i+1)).getD i m0=plM size ms i:=by
     rw[←HSet.out]
     simp[List.getD,hl0.out,hlt]
    rw[h1,HPM.out]
   clear hS2 hnl2 d0 d1 d2 d3 d4 d5 d6 d7 d8 z8 hb2 a0 a1 a2 a3 a4 a5 a6 a7 a8
   generalize w2.setCell ⟨b,i*9+8,none⟩ (.int .i64 (Fi:Int))=W3 at*
   have hnl:=hS3.drew.range hlt
   rw[hgi] at hnl
   obtain⟨a0,a1,a2,a3,a4,a5,a6,a7,a8⟩:=dL hnl
   obtain⟨Pr,hPr⟩: ∃Pr,Pr=size*F:=⟨_,rfl⟩
   have hPi:(size:Int)*(F:Int)=(Pr:Int):=by rw[hPr];exact(Int.natCast_mul _ _).symm
   rw[←hPr] at hsf HA3
   have hw:IntKind.i64.wrap ((size:Int)*(F:Int))=(Pr:Int):=by rw[hPi];exact IntWalk.i64_in _ (by omega)
   have hw2:IntKind.i64.wrap ((Fi:Int)+(Pr:Int))=(Fi:Int)+(Pr:Int):=IntWalk.i64_in _ (by omega)
   have HS3:=MI hS3
   have HK3:=MI hK3
   have HGi:=MI hgi
   clear hnl hPi hPr hS3 hK3 hgi
   go_region_law (go_simp;go_at_call 82;refine(HFr.out A Fi _).mono ?_;rintro e w4 ⟨rfl,hb4⟩;have hS4:=HS3.out.drew.ah hb4;have hnl2:=hS4.range hlt;rw[HGi.out] at hnl2;obtain⟨d0,d1,d2,d3,d4,d5,d6,d7,d8⟩:=dL hnl2)
   all_goals go_wp2_with fail
   all_goals refine⟨⟨i+1,by omega,by go_num,congrArg (Value.int .i64) (by rw[HA3.out];omega),hS4,HK3.out.drew.andThen (af.au hb4 Me) (S':=fun _=>False) (fun _ _ e=>e.elim)⟩,?_⟩
   all_goals (simp[aG];omega)
  ·obtain rfl:i=n:=by omega
   have hnl:¬(i:Int)<(i:Int):=by omega
   have hA1:=HA.out i (by rw[HLn.out];omega)
   have HUe:=MI (fun w=>HU.out (plA size ms i) 64 (by decide) (by decide) (by rw[HLn.out] at hA1;omega) w)
   have H5:=MI hS
   have H6:=MI hK
   clear hS hK hA1 HU HD
   obtain⟨A,hA⟩: ∃A,A=plA size ms i:=⟨_,rfl⟩
   rw[←hA] at HUe⊢
   have HAe:=MI hA
   clear hA
   go_wp2_with (go_at_call 83;refine(HUe.out _).mono ?_;rintro e w' ⟨rfl,rfl⟩)
   go_ret
   exact⟨by rw[HAe.out];rfl,H5.out,H6.out⟩
theorem wE(b off len cap lo:Nat)(h1:lo≤len)(h2:lo<cap)(h3:len≤cap)(hc:cap≤60000)(w:World):(Instr.sliceAt 63 (.slice (some ⟨b,off,none⟩) len cap) (some (.int .i64 (lo:Int))) none none).run Tryz.prog w= .ok (.slice (some ⟨b,off+lo,none⟩) (len - lo) (cap - lo)) w:=by
 have he:Tryz.prog.elem 63=5:=by kernel_rfl
 have hu:Tryz.prog.underlying 63=some (.slice (Tryz.prog.elem 63)):=by rw[he];exact Tryz.underlying63
 rw[run_sliceAt_slice (P:=Tryz.prog) (w:=w) 63 (.slice (some ⟨b,off,none⟩) len cap) (some (.int .i64 (lo:Int))) none none hu,run_slice_l w 63 (some ⟨b,off,none⟩) len cap hu .i64 lo (by omega) (by omega),he]
 have hs:(sizeOf 5).run Tryz.prog w= .ok 1 w:=by kernel_rfl
 rw[hs]
 simp[Result.andThen,sliced,show ¬cap=lo by omega,add0]
theorem FB(b off len cap hi:Nat)(h1:hi≤cap)(hc:cap≤60000)(w:World):(Instr.sliceAt 63 (.slice (some ⟨b,off,none⟩) len cap) none (some (.int .i64 (hi:Int))) none).run Tryz.prog w= .ok (.slice (some ⟨b,off,none⟩) hi cap) w:=by
 have he:Tryz.prog.elem 63=5:=by kernel_rfl
 have hu:Tryz.prog.underlying 63=some (.slice (Tryz.prog.elem 63)):=by rw[he];exact Tryz.underlying63
 rw[run_sliceAt_slice (P:=Tryz.prog) (w:=w) 63 (.slice (some ⟨b,off,none⟩) len cap) none (some (.int .i64 (hi:Int))) none hu,run_slice_h w 63 (some ⟨b,off,none⟩) len cap hu .i64 hi (by omega) (by omega),he]
 have hs:(sizeOf 5).run Tryz.prog w= .ok 1 w:=by kernel_rfl
 rw[hs]
 simp[Result.andThen,sliced,add0]
theorem lD{P:Program}{ops:Array Oper}{S:World→Prop}{o:Oper}{a:Act}(hw:Region.wanted o (yielded ops a.tmps)=true)(T:TypeId)(x h:Operand)(ho:o.op= .slice T x (some h) none none){u k v:Value}(hx:a.eval x=u)(hh:a.eval h=k)(hr: ∀w,(Instr.sliceAt T u (some k) none none).run P w= .ok v w):YieldsIf P ops S o v a:=
 .inl ⟨hw,fun w _=>by
  unfold execOp
  simp only[ho,hx,hh,Option.map_none,Option.map_some,Sem.run_bind,Sem.run_pure,hr,Result.andThen_ok]⟩
def hd0(zs:List Int)(n size:Nat):List Int:=(jP (jP (bz zs 0 [67,65,76,49]) 4 4 zs.length 4) 8 2 n 2).set 10 ((size:Int)%256)
def hdS(zs:List Int)(ms:List Mt)(size:Nat):Nat→List Int
 | 0=>hd0 zs ms.length size
 | i+1=>Aq (hdS zs ms size i) (16+64*i) (ms.getD i m0)
def uM(zs:List Int)(ms:List Mt)(size:Nat):List Int:=
 let z:=hdS zs ms size ms.length
 jP z (16+64*ms.length) 4 (fH (z.take (16+64*ms.length))).toNat 4
theorem hd0_len(zs:List Int)(n size:Nat)(h:4≤zs.length):(hd0 zs n size).length=zs.length:=by
 unfold hd0
 rw[List.length_set,kN,kN,jy _ _ _ (by simpa using h)]
theorem hdS_len(zs:List Int)(ms:List Mt)(size:Nat)(h:20+64*ms.length≤zs.length)(hm: ∀i,i<ms.length→MtB (ms.getD i m0)): ∀i,i≤ms.length→(hdS zs ms size i).length=zs.length:=by
 intro i
 induction i with
 | zero=>intro _;exact hd0_len _ _ _ (by omega)
 | succ i ih=>
  intro hi
  have h1:=ih (by omega)
  have h2:=(hm i (by omega)).nm
  rw[hdS,KC _ _ _ (by omega),h1]
def W8(l:List Int):Prop:=∀z ∈ l,(Lit.int .u8 z).wf=true
theorem Hf(v size i:Nat):(Lit.int .u8 (byteAt v size i)).wf=true:=by
 unfold byteAt
 have:(((v/2^(8*(size - 1 - i))%256:Nat):Int))=IntKind.u8.wrap ((v/2^(8*(size - 1 - i))%256:Nat):Int):=by rw[IntKind.wrap_u8];omega
 rw[this]
 exact wf_wrap _ _
theorem sJ{zs:List Int}(h:W8 zs)(o size v:Nat): ∀k,W8 (jP zs o size v k):=by
 intro k
 induction k with
 | zero=>exact h
 | succ k ih=>exact wf_set ih _ (Hf _ _ _)
theorem Bl{xs vs:List Int}(h:W8 xs)(o:Nat)(hv:W8 vs):W8 (bz xs o vs):=fun z hz=>by
 unfold bz at hz
 rcases List.mem_append.1 hz with h1 | h1
 ·exact h z (List.mem_of_mem_take h1)
 ·rcases List.mem_append.1 h1 with h2 | h2
  ·exact hv z h2
  ·exact h z (List.mem_of_mem_drop h2)
theorem Ij(c:Nat)(h:c<256):(Lit.int .u8 (c:Int)).wf=true:=by
 have:(c:Int)=IntKind.u8.wrap (c:Int):=by rw[IntKind.wrap_u8];omega
 rw[this]
 exact wf_wrap _ _
theorem nmB_w8(t:ByteArray):W8 (nmB t):=fun z hz=>by
 unfold nmB at hz
 obtain⟨x,_,rfl⟩:=List.mem_map.1 hz
 exact Ij _ x.toNat_lt
theorem entN_w8{zs:List Int}(h:W8 zs)(off:Nat)(m:Mt): ∀i,W8 (qZ zs off m i):=by
 intro i
 induction i with
 | zero=>exact Bl h _ (nmB_w8 _)
 | succ i ih=>exact sJ ih _ _ _ _
theorem entZ_w8{zs:List Int}(h:W8 zs)(off:Nat)(m:Mt)(hc:m.ch≤2):W8 (Aq zs off m):=by
 have h1:W8 ((qZ zs off m 6).set (off+56) ((m.ch:Int)%256)):=wf_set (entN_w8 h off m 6) _ (by
  rw[show(m.ch:Int)%256=((m.ch:Nat):Int) by omega];exact Ij _ (by omega))
 unfold Aq
 split
 ·exact wf_set h1 _ (by rfl)
 ·exact h1
theorem hdS_w8{zs:List Int}(h:W8 zs)(ms:List Mt)(size:Nat)(hs:size≤96)(hm: ∀i,i<ms.length→MtB (ms.getD i m0)): ∀i,i≤ms.length→W8 (hdS zs ms size i):=by
 intro i
 induction i with
 | zero=>
  intro _
  unfold hdS hd0
  exact wf_set (sJ (sJ (Bl h _ (by intro z hz;simp at hz;rcases hz with rfl | rfl | rfl | rfl<;>rfl)) _ _ _ _) _ _ _ _) _ (by
   rw[show(size:Int)%256=((size:Nat):Int) by omega];exact Ij _ (by omega))
 | succ i ih=>intro hi;exact entZ_w8 (ih (by omega)) _ _ (hm i (by omega)).ch
theorem DX{l:List Int}(h:wfL l)(i:Nat){x:Int}(hx:(Lit.int .i64 x).wf=true):wfL (l.set i x):=wf_set h i hx
theorem turn_wf(p u a b:Int):(Lit.int .i64 (oJ p u a b).1).wf=true∧(Lit.int .i64 (oJ p u a b).2).wf=true:=⟨wrap64_wf _,wrap64_wf _⟩
theorem zF(r:Nat){b:List Int}(h:wfL b)(x:Pr r):wfL (jo r b x):=by
 unfold jo
 exact DX (DX h _ (turn_wf _ _ _ _).1) _ (turn_wf _ _ _ _).2
theorem jY(r:Nat)(xs:List (Pr r)): ∀b:List Int,wfL b→wfL (dm r b xs):=by
 induction xs with
 | nil=>intro b h;exact h
 | cons x l ih=>intro b h;exact ih _ (zF r h x)
theorem fwdL_wf{b:List Int}(h:wfL b):wfL (iH b):=jY _ _ _ (jY _ _ _ (jY _ _ _ (jY _ _ _ h)))
theorem Ah(b:List Int):(iH b).length=b.length:=by simp only[iH,gQ]
theorem wF{xs vs:List Int}(h:wfL xs)(o:Nat)(hv:wfL vs):wfL (bz xs o vs):=fun z hz=>by
 unfold bz at hz
 rcases List.mem_append.1 hz with h1 | h1
 ·exact h z (List.mem_of_mem_take h1)
 ·rcases List.mem_append.1 h1 with h2 | h2
  ·exact hv z h2
  ·exact h z (List.mem_of_mem_drop h2)
def rowOf(z:List Int)(o n:Nat):List Int:=(z.drop o).take n
theorem lH(z:List Int)(o n:Nat)(h:o+n≤z.length):(rowOf z o n).length=n:=by simp[rowOf];omega
theorem zq{z:List Int}(h:wfL z)(o n:Nat):wfL (rowOf z o n):=fun x hx=>h x (List.mem_of_mem_drop (List.mem_of_mem_take hx))
theorem nU(z:List Int)(n:Nat)(h:z.length=n):rowOf z 0 n=z:=by simp[rowOf,←h]
theorem tV{α:Type}(z v:List α)(h:v.length=z.length):bz z 0 v=v:=by simp[bz,h]
theorem up_flat(b:List Int)(hb:b.length=16)(h:wfL b):upL b [0,0,0,0]=b:=by
 apply List.ext_getElem
 ·rw[ji,hb]
 ·intro i h1 h2
  have hi:i<16:=by rwa [ji] at h1
  have h3:=DZ b [0,0,0,0] i hi
  rw[List.getD_eq_getElem?_getD,List.getElem?_eq_getElem h1,Option.getD_some] at h3
  rw[h3]
  have h4:atZ [0,0,0,0] i=0:=by
   unfold atZ
   rw[if_pos (by decide)]
   rcases(show i/4=0∨i/4=1∨i/4=2∨i/4=3 by omega) with e | e | e | e<;>rw[e]<;>rfl
  rw[h4,show b.getD i 0=b[i] by simp[List.getD,h2]]
  have h5:=bounds_i64 (h b[i] (List.getElem_mem h2))
  show wrap64 (b[i]*2^(0:Int).toNat)=b[i]
  rw[show b[i]*2^(0:Int).toNat=b[i] by simp]
  unfold wrap64
  omega
def SpecP(c:Nat)(l gs:List Int)(w:World)(e:Ending)(w':World):Prop:=∃g cap z',e= .returned (.slice (some ⟨g,0,none⟩) c cap)∧w'.ownsRow w.heap.size 194 16 (.slice (some ⟨g,0,none⟩) c cap) c (iL z')∧wfL z'∧Below w.heap.size w w'∧(c=1→gs=[0,0,0,0]→z'=iH (jS l))
theorem Ae{w:World}{base g cap c:Nat}{z:List Int}(h:w.ownsRow base 194 16 (.slice (some ⟨g,0,none⟩) c cap) c (iL z))(o m:Nat):w.rangeAt g o (iL (rowOf z o m)):=by
 have:=nV h o m
 unfold rowOf iL at*
 rwa [List.map_take,List.map_drop]
theorem own_iL{w:World}{base g cap c:Nat}{z:List Int}(h:w.ownsRow base 194 16 (.slice (some ⟨g,0,none⟩) c cap) c (iL z))(o:Nat)(v:List Int)(ho:o+v.length≤c*16):(w.setCells g o (iL v)).ownsRow base 194 16 (.slice (some ⟨g,0,none⟩) c cap) c (iL (bz z o v)):=by
 have:=yu h rfl o (iL v) (by rw[dA];exact ho)
 unfold bz iL at*
 simpa[List.map_take,List.map_drop] using this
theorem Ez{w:World}{base g cap c:Nat}{z:List Int}(h:w.ownsRow base 194 16 (.slice (some ⟨g,0,none⟩) c cap) c (iL z)):z.length=c*16:=by
 have:=h.1
 rwa [dA] at this
theorem kF(w:World)(b o:Nat)(cells:Array Value)(ht:w.there b o cells.size)(h1:cells.all (·.oneCell')=true):(storeCells ⟨b,o,none⟩ cells.toList 0).run Tryz.prog w= .ok () (w.setCells b o cells.toList):=by
 have:=run_storeCells_cells (P:=Tryz.prog) b o cells.toList 0 w (fun j hj=>by simpa using(ht j (by simpa using hj)).1) (fun j hj=>by simpa using(ht j (by simpa using hj)).2)
  (fun v hv=>(Array.all_eq_true_iff_forall_mem.1 h1) v (by simpa using hv))
 simpa only[Nat.add_zero] using this
theorem own_base{w:World}{B B' e size n:Nat}{v:Value}{xs:List Value}(h:w.ownsRow B e size v n xs)(hb:B'≤B):w.ownsRow B' e size v n xs:=by
 obtain⟨h0,h1⟩:=h
 refine⟨h0,?_⟩
 rcases h1 with h1 | ⟨g,cap,cur,e1,hb',r⟩
 ·exact .inl h1
 ·exact .inr ⟨g,cap,cur,e1,Nat.le_trans hb hb',r⟩
theorem i194(z:List Int)(h:z.length=16):(Tryz.prog.info? 194).map (·.size)=some (iL z).length:=by rw[dA,h];kernel_rfl
theorem i191(z:List Int)(h:z.length=4):(Tryz.prog.info? 191).map (·.size)=some (iL z).length:=by rw[dA,h];kernel_rfl
theorem zg(ao:Option Addr)(n cap:Nat)(l:List Int)(hn0:0<n)(hn:n≤10000)(hwl:wfL l)(gg gcap:Nat)(gs:List Int)(hgs:gs.length=bu n*4)(hmeet:2≤bu n→LJ (bu n))(w:World)(hI:Ints .i64 w ao n l)(hG:Blk .i64 w gg 191 gs):Calls Tryz.prog 131 #[.agg (iA cO),.slice ao n cap,.slice (some ⟨gg,0,none⟩) (bu n) gcap] w (SpecP (bu n) l gs w):=by
 have hba:=ae w (.cells (iA cO) 178)
 have hz0:=L9 w (.cells (iA cO) 178)
 have hgl:=hG.lt
 have hBk:=MI (vk ao n cap l (by omega) _ (hI.ah hba))
 have HG:=MI (hG.ah hba)
 have hpl:=Jr l
 rw[hI.hlen] at hpl
 have HPL:=MI hpl
 have HPW:Hid (wfL (jS l)):=padL_wf hwl
 have hi178:(Tryz.prog.info? 178).map (·.size)=some (iA cO).size:=by kernel_rfl
 have HB:=MI hba
 have HZ:=MI hz0
 have HM:=MI hmeet
 have HGS:=MI hgs
 have hc0:0<bu n:=by unfold bu;omega
 have hc1:bu n≤1000:=by unfold bu;omega
 have HLt:=MI hgl
 clear hba hI hG hmeet hgs hwl hpl hgl
 generalize bu n=c at*
 go_enter Tryz.func131,Tryz.ntmps131
 go_upto_region 3 with(go_at_call 160;refine hBk.out.mono ?_;rintro e w1 ⟨g,rfl,hge,hblk,hb1⟩)
 have hz1:=rwB HZ.out hb1
 have hG1:=HG.out.ah hb1
 have hB1:=HB.out.trans (hb1.mono HB.out.size)
 have hgw:w.heap.size+1≤g:=Nat.le_trans (L8 HZ.out) hge
 have HZ1:=MI hz1
 have HG1:=MI hG1
 have HB1:=MI hB1
 have HBK:=MI hblk
 clear hz0 hz1 hG1 hB1 hblk hge hb1 HZ HG HB
 go_loopw [14] (fun v14 wr=>∃(i:Nat)(z:List Int),i≤c∧v14= .int .i64 (i:Int)∧Blk .i64 wr g 194 z∧z.length=c*16∧wfL z∧Blk .i64 wr gg 191 gs∧wr.heap[w.heap.size]? =some (.cells (iA cO) 178 (0,0))∧Below w.heap.size w wr∧(c=1→gs=[0,0,0,0]→z=jS l)) (fun v14 _=>c - aG v14)
 case atStart=>exact⟨0,jS l,by omega,rfl,HBK.out,HPL.out,HPW.out,HG1.out,HZ1.out,HB1.out,fun _ _=>rfl⟩
 case round=>
  clear HBK HG1 HZ1 HB1
  obtain⟨i,z,hi,rfl,hblk,hzl,hzw,hG,hZ,hB,hfl⟩:=hrel
  by_cases hic:i<c
  ·have hic2:(i:Int)<(c:Int):=by omega
   have hm16:i*16+16≤c*16:=by omega
   have hm4:i*4+4≤c*4:=by omega
   have hrb:wr.drew.rangeAt g (i*16) (iL (rowOf z (i*16) 16)):=Blk.range hblk (i*16) 16 (by omega)
   have hrg:wr.drew.rangeAt gg (i*4) (iL (rowOf gs (i*4) 4)):=Blk.range hG (i*4) 4 (by rw[HGS.out];omega)
   have hl1:=lH z (i*16) 16 (by omega)
   have hl2:=lH gs (i*4) 4 (by rw[HGS.out];omega)
   have hU:=MI (fun W=>EW (rowOf z (i*16) 16) (rowOf gs (i*4) 4) hl1 hl2 W)
   have hs1:=i194 _ hl1
   have hs2:=i191 _ hl2
   have hul:=ji (rowOf z (i*16) 16) (rowOf gs (i*4) 4)
   have hus:(Tryz.prog.info? 194).map (·.size)=some (iA (upL (rowOf z (i*16) 16) (rowOf gs (i*4) 4))).size:=by rw[az,hul];kernel_rfl
   have hNX:Hid (wfL (bz z (i*16) (upL (rowOf z (i*16) 16) (rowOf gs (i*4) 4)))∧(bz z (i*16) (upL (rowOf z (i*16) 16) (rowOf gs (i*4) 4))).length=c*16∧(c=1→gs=[0,0,0,0]→bz z (i*16) (upL (rowOf z (i*16) 16) (rowOf gs (i*4) 4))=jS l)):=by
    refine⟨wF hzw _ (upL_wf _ _),by rw[jy _ _ _ (by rw[hul];omega)];exact hzl,fun h1 h2=>?_⟩
    have hi0:i=0:=by omega
    subst hi0
    have hz16:z.length=16:=by omega
    rw[show rowOf z (0*16) 16=z from nU z 16 hz16,show rowOf gs (0*4) 4=gs from nU gs 4 (by rw[h2];rfl),h2,up_flat z hz16 hzw,show bz z (0*16) z=z from tV z z rfl]
    exact hfl h1 h2
   have hSet:Hid (∀W,Blk .i64 W g 194 z→Blk .i64 (W.setCells g (i*16) (iA (upL (rowOf z (i*16) 16) (rowOf gs (i*4) 4))).toList) g 194 (bz z (i*16) (upL (rowOf z (i*16) 16) (rowOf gs (i*4) 4)))):=fun W h=>Blk.setCells h (i*16) (by rw[hul];omega)
   have hTh:Hid (∀W,Blk .i64 W g 194 z→W.there g (i*16) (iA (upL (rowOf z (i*16) 16) (rowOf gs (i*4) 4))).size):=fun W h=>yY h (i*16) _ (by rw[az,hul];simp;omega)
   have HBK:=MI hblk
   have HGw:=MI hG
   have HZw:=MI hZ
   have HBw:=MI hB
   have hgl2:=hblk.lt
   have hggl:=hG.lt
   have hrl1:=hl1
   have HUL:=MI hul
   have hrl2:=hl2
   clear hblk hG hZ hB hfl hul hl1 hl2 hzl hzw
   generalize bz z (i*16) (upL (rowOf z (i*16) 16) (rowOf gs (i*4) 4))=z2 at*
   generalize upL (rowOf z (i*16) 16) (rowOf gs (i*4) 4)=u at*
   generalize rowOf z (i*16) 16=rb at*
   generalize rowOf gs (i*4) 4=rg at*
   go_upto_region 6 with fail
   obtain⟨x0,x1,x2,x3,x4,x5,x6,x7,x8,x9,x10,x11,x12,x13,x14,x15,rfl⟩:=yB hrl1
   obtain⟨r0,r1,r2,r3,rfl⟩:=mV hrl2
   have cb0:wr.drew.cell? ⟨g,i*16,none⟩=some (.int .i64 x0):=hrb 0 _ rfl
   have cb1:wr.drew.cell? ⟨g,i*16+1,none⟩=some (.int .i64 x1):=hrb 1 _ rfl
   have cb2:wr.drew.cell? ⟨g,i*16+2,none⟩=some (.int .i64 x2):=hrb 2 _ rfl
   have cb3:wr.drew.cell? ⟨g,i*16+3,none⟩=some (.int .i64 x3):=hrb 3 _ rfl
   have cb4:wr.drew.cell? ⟨g,i*16+4,none⟩=some (.int .i64 x4):=hrb 4 _ rfl
   have cb5:wr.drew.cell? ⟨g,i*16+5,none⟩=some (.int .i64 x5):=hrb 5 _ rfl
   have cb6:wr.drew.cell? ⟨g,i*16+6,none⟩=some (.int .i64 x6):=hrb 6 _ rfl
   have cb7:wr.drew.cell? ⟨g,i*16+7,none⟩=some (.int .i64 x7):=hrb 7 _ rfl
   have cb8:wr.drew.cell? ⟨g,i*16+8,none⟩=some (.int .i64 x8):=hrb 8 _ rfl
   have cb9:wr.drew.cell? ⟨g,i*16+9,none⟩=some (.int .i64 x9):=hrb 9 _ rfl
   have cb10:wr.drew.cell? ⟨g,i*16+10,none⟩=some (.int .i64 x10):=hrb 10 _ rfl
   have cb11:wr.drew.cell? ⟨g,i*16+11,none⟩=some (.int .i64 x11):=hrb 11 _ rfl
   have cb12:wr.drew.cell? ⟨g,i*16+12,none⟩=some (.int .i64 x12):=hrb 12 _ rfl
   have cb13:wr.drew.cell? ⟨g,i*16+13,none⟩=some (.int .i64 x13):=hrb 13 _ rfl
   have cb14:wr.drew.cell? ⟨g,i*16+14,none⟩=some (.int .i64 x14):=hrb 14 _ rfl
   have cb15:wr.drew.cell? ⟨g,i*16+15,none⟩=some (.int .i64 x15):=hrb 15 _ rfl
   have cg0:wr.drew.cell? ⟨gg,i*4,none⟩=some (.int .i64 r0):=hrg 0 _ rfl
   have cg1:wr.drew.cell? ⟨gg,i*4+1,none⟩=some (.int .i64 r1):=hrg 1 _ rfl
   have cg2:wr.drew.cell? ⟨gg,i*4+2,none⟩=some (.int .i64 r2):=hrg 2 _ rfl
   have cg3:wr.drew.cell? ⟨gg,i*4+3,none⟩=some (.int .i64 r3):=hrg 3 _ rfl
   have hU2:=MI (show ∀W,Calls Tryz.prog 162 #[.agg #[.int .i64 x0,.int .i64 x1,.int .i64 x2,.int .i64 x3,.int .i64 x4,.int .i64 x5,.int .i64 x6,.int .i64 x7,.int .i64 x8,.int .i64 x9,.int .i64 x10,.int .i64 x11,.int .i64 x12,.int .i64 x13,.int .i64 x14,.int .i64 x15],.agg #[.int .i64 r0,.int .i64 r1,.int .i64 r2,.int .i64 r3]] W (fun e w'=>e= .returned (.agg (iA u))∧Below W.heap.size W w') from hU.out)
   have husz:(iA u).size=16:=by rw[az];exact HUL.out
   clear hU hrb hrg
   go_region_law (go_simp;go_at_call 162;refine(hU2.out _).mono ?_;rintro e w2 ⟨rfl,hb2⟩;have hk2:=HBK.out.ah (w':=w2) (show Below wr.heap.size wr w2 from((Below.refl _ wr).drew).trans hb2);have hth:=hTh.out _ hk2;have hst:=run_storeAt_mid (P:=Tryz.prog) w2 g (i*16) 194 (iA u) hth hus (bP _);have hst2:=kF w2 g (i*16) (iA u) hth (bP _))
   all_goals
    have hbX:Below wr.heap.size wr w2:=((Below.refl _ wr).drew).trans hb2
    have hG3:=(fZ (iA u).toList w2 g (i*16) gg (by have:=HLt.out;omega)).trans (HGw.out.ah hbX)
    have hZ3:=(fZ (iA u).toList w2 g (i*16) w.heap.size (by omega)).trans (rwB HZw.out hbX)
    have hB3:Below w.heap.size w (w2.setCells g (i*16) (iA u).toList):=mW (HBw.out.trans (hbX.mono HBw.out.size)) (by omega) _ _
    have hS3:=hSet.out _ hk2
    clear hbX hth hst hst2 hk2 hb2
    generalize w2.setCells g (i*16) (iA u).toList=W3 at*
    go_wp2_with fail
    exact⟨⟨i+1,z2,by omega,by go_num,hS3,hNX.out.2.1,hNX.out.1,hG3,hZ3,hB3,hNX.out.2.2⟩,by simp[aG];omega⟩
  ·obtain rfl:i=c:=by omega
   have hm16:0<i:=hc0
   have hJ:=MI (JM i hc0 (by omega) g i z hzl hzw HM.out wr hblk)
   have HBw:=MI hB
   have HFl:=MI hfl
   have HZw:=MI hZ
   clear hblk hG hB hfl hzl hzw
   go_upto_region 10 with(first
    | ((with_reducible refine MC 178 3 ?_);refine wpList_load_row rfl 178 (.tmp 3) rfl w.heap.size rfl 178 (iA cO) (0,0) _ hZ Tryz.underlying178 rfl hi178 ?_)
    | (go_at_call 163;refine hJ.out.mono ?_;rintro e w2 ⟨g2,cap2,z2,rfl,hO2,hw2,hb2,he2⟩))
   have hZ2:=rwB HZw.out hb2
   have hB2:=HBw.out.trans (hb2.mono HBw.out.size)
   have hge:wr.heap.size≤g2:=mr hO2 rfl
   have hO2:=own_base hO2 HBw.out.size
   have hg2:w.heap.size+1≤g2:=Nat.le_trans (L8 HZw.out) hge
   have HZ2:=MI hZ2
   have HB2:=MI hB2
   have HO2:=MI hO2
   clear hZ hZ2 hB2 hge hO2 hb2 HZw HBw hJ
   go_loopw [39] (fun v39 wr=>∃(k:Nat)(y:List Int),k≤i∧v39= .int .i64 (k:Int)∧wr.ownsRow w.heap.size 194 16 (.slice (some ⟨g2,0,none⟩) i cap2) i (iL y)∧wfL y∧wr.heap[w.heap.size]? =some (.cells (iA cO) 178 (0,0))∧Below w.heap.size w wr∧(i=1→gs=[0,0,0,0]→y=if k=0 then jS l else iH (jS l))) (fun v39 _=>i - aG v39)
   case atStart=>exact⟨0,z2,by omega,rfl,HO2.out,hw2,HZ2.out,HB2.out,fun h1 h2=>by rw[if_pos rfl,he2 h1,HFl.out h1 h2]⟩
   case round=>
    clear HO2 HZ2 HB2
    obtain⟨k,y,hk,rfl,hO,hyw,hZ,hB,hfl⟩:=hrel
    by_cases hkc:k<i
    ·have hkc2:(k:Int)<(i:Int):=by omega
     have hyl:=Ez hO
     have hm16:k*16+16≤i*16:=by omega
     have hrb:wr.drew.rangeAt g2 (k*16) (iL (rowOf y (k*16) 16)):=Ae hO (k*16) 16
     have hl1:=lH y (k*16) 16 (by omega)
     have hU:=MI (fun W=>Ai (rowOf y (k*16) 16) hl1 W)
     have hul:=Ah (rowOf y (k*16) 16)
     rw[hl1] at hul
     have hus:(Tryz.prog.info? 194).map (·.size)=some (iA (iH (rowOf y (k*16) 16))).size:=by rw[az,hul];kernel_rfl
     have hNX:Hid (wfL (bz y (k*16) (iH (rowOf y (k*16) 16)))∧(i=1→gs=[0,0,0,0]→bz y (k*16) (iH (rowOf y (k*16) 16))=iH (jS l))):=by
      refine⟨wF hyw _ (fwdL_wf (zq hyw _ _)),fun h1 h2=>?_⟩
      have hk0:k=0:=by omega
      subst hk0
      have hy16:y.length=16:=by omega
      have h3:=hfl h1 h2
      rw[if_pos rfl] at h3
      rw[show rowOf y (0*16) 16=y from nU y 16 hy16,show bz y (0*16) (iH y)=iH y from tV y _ (Ah y),h3]
     have hSet:Hid (∀W:World,W.ownsRow w.heap.size 194 16 (.slice (some ⟨g2,0,none⟩) i cap2) i (iL y)→(W.setCells g2 (k*16) (iA (iH (rowOf y (k*16) 16))).toList).ownsRow w.heap.size 194 16 (.slice (some ⟨g2,0,none⟩) i cap2) i (iL (bz y (k*16) (iH (rowOf y (k*16) 16))))):=by
      generalize iH (rowOf y (k*16) 16)=u at*
      intro W h
      have h5:=own_iL h (k*16) u (by rw[hul];exact hm16)
      exact h5
     have hTh:Hid (∀W:World,W.ownsRow w.heap.size 194 16 (.slice (some ⟨g2,0,none⟩) i cap2) i (iL y)→W.there g2 (k*16) (iA (iH (rowOf y (k*16) 16))).size):=by
      generalize iH (rowOf y (k*16) 16)=u at*
      intro W h
      exact Gn h (k*16) _ (by rw[az,hul];exact hm16)
     have hrg:wr.drew.rangeAt w.heap.size 16 (iL aI):=fun j v hv=>by
      rw[LZ (show wr.drew.heap[w.heap.size]? =_ from hZ)]
      show(iA (aI++aI))[16+j]? =some v
      unfold iA
      rw[List.map_append,List.getElem?_toArray]
      have hlt:(aI.map (Value.int .i64)).length=16:=by kernel_rfl
      have h5:(aI.map (Value.int .i64)++aI.map (Value.int .i64))[16+j]? =(aI.map (Value.int .i64))[16+j - (aI.map (Value.int .i64)).length]? :=List.getElem?_append_right (by rw[hlt];omega)
      rw[hlt,show 16+j - 16=j by omega] at h5
      exact h5.trans hv
     have hOw:=MI hO
     have HZw:=MI hZ
     have HBw:=MI hB
     have HUL:=MI hul
     have hrl1:=hl1
     have htl:aI.length=16:=by kernel_rfl
     clear hO hZ hB hfl hul hl1 hyw
     generalize bz y (k*16) (iH (rowOf y (k*16) 16))=z3 at*
     generalize iH (rowOf y (k*16) 16)=u at*
     generalize rowOf y (k*16) 16=rb at*
     generalize aI=tL at*
     go_upto_region 12 with fail
     obtain⟨x0,x1,x2,x3,x4,x5,x6,x7,x8,x9,x10,x11,x12,x13,x14,x15,rfl⟩:=yB hrl1
     obtain⟨t0,t1,t2,t3,t4,t5,t6,t7,t8,t9,t10,t11,t12,t13,t14,t15,rfl⟩:=yB htl
     have cb0:wr.drew.cell? ⟨g2,k*16,none⟩=some (.int .i64 x0):=hrb 0 _ rfl
     have cb1:wr.drew.cell? ⟨g2,k*16+1,none⟩=some (.int .i64 x1):=hrb 1 _ rfl
     have cb2:wr.drew.cell? ⟨g2,k*16+2,none⟩=some (.int .i64 x2):=hrb 2 _ rfl
     have cb3:wr.drew.cell? ⟨g2,k*16+3,none⟩=some (.int .i64 x3):=hrb 3 _ rfl
     have cb4:wr.drew.cell? ⟨g2,k*16+4,none⟩=some (.int .i64 x4):=hrb 4 _ rfl
     have cb5:wr.drew.cell? ⟨g2,k*16+5,none⟩=some (.int .i64 x5):=hrb 5 _ rfl
     have cb6:wr.drew.cell? ⟨g2,k*16+6,none⟩=some (.int .i64 x6):=hrb 6 _ rfl
     have cb7:wr.drew.cell? ⟨g2,k*16+7,none⟩=some (.int .i64 x7):=hrb 7 _ rfl
     have cb8:wr.drew.cell? ⟨g2,k*16+8,none⟩=some (.int .i64 x8):=hrb 8 _ rfl
     have cb9:wr.drew.cell? ⟨g2,k*16+9,none⟩=some (.int .i64 x9):=hrb 9 _ rfl
     have cb10:wr.drew.cell? ⟨g2,k*16+10,none⟩=some (.int .i64 x10):=hrb 10 _ rfl
     have cb11:wr.drew.cell? ⟨g2,k*16+11,none⟩=some (.int .i64 x11):=hrb 11 _ rfl
     have cb12:wr.drew.cell? ⟨g2,k*16+12,none⟩=some (.int .i64 x12):=hrb 12 _ rfl
     have cb13:wr.drew.cell? ⟨g2,k*16+13,none⟩=some (.int .i64 x13):=hrb 13 _ rfl
     have cb14:wr.drew.cell? ⟨g2,k*16+14,none⟩=some (.int .i64 x14):=hrb 14 _ rfl
     have cb15:wr.drew.cell? ⟨g2,k*16+15,none⟩=some (.int .i64 x15):=hrb 15 _ rfl
     have cg0:wr.drew.cell? ⟨w.heap.size,16,none⟩=some (.int .i64 t0):=hrg 0 _ rfl
     have cg1:wr.drew.cell? ⟨w.heap.size,17,none⟩=some (.int .i64 t1):=hrg 1 _ rfl
     have cg2:wr.drew.cell? ⟨w.heap.size,18,none⟩=some (.int .i64 t2):=hrg 2 _ rfl
     have cg3:wr.drew.cell? ⟨w.heap.size,19,none⟩=some (.int .i64 t3):=hrg 3 _ rfl
     have cg4:wr.drew.cell? ⟨w.heap.size,20,none⟩=some (.int .i64 t4):=hrg 4 _ rfl
     have cg5:wr.drew.cell? ⟨w.heap.size,21,none⟩=some (.int .i64 t5):=hrg 5 _ rfl
     have cg6:wr.drew.cell? ⟨w.heap.size,22,none⟩=some (.int .i64 t6):=hrg 6 _ rfl
     have cg7:wr.drew.cell? ⟨w.heap.size,23,none⟩=some (.int .i64 t7):=hrg 7 _ rfl
     have cg8:wr.drew.cell? ⟨w.heap.size,24,none⟩=some (.int .i64 t8):=hrg 8 _ rfl
     have cg9:wr.drew.cell? ⟨w.heap.size,25,none⟩=some (.int .i64 t9):=hrg 9 _ rfl
     have cg10:wr.drew.cell? ⟨w.heap.size,26,none⟩=some (.int .i64 t10):=hrg 10 _ rfl
     have cg11:wr.drew.cell? ⟨w.heap.size,27,none⟩=some (.int .i64 t11):=hrg 11 _ rfl
     have cg12:wr.drew.cell? ⟨w.heap.size,28,none⟩=some (.int .i64 t12):=hrg 12 _ rfl
     have cg13:wr.drew.cell? ⟨w.heap.size,29,none⟩=some (.int .i64 t13):=hrg 13 _ rfl
     have cg14:wr.drew.cell? ⟨w.heap.size,30,none⟩=some (.int .i64 t14):=hrg 14 _ rfl
     have cg15:wr.drew.cell? ⟨w.heap.size,31,none⟩=some (.int .i64 t15):=hrg 15 _ rfl
     have hU2:=MI (show ∀W,Calls Tryz.prog 164 #[.agg #[.int .i64 t0,.int .i64 t1,.int .i64 t2,.int .i64 t3,.int .i64 t4,.int .i64 t5,.int .i64 t6,.int .i64 t7,.int .i64 t8,.int .i64 t9,.int .i64 t10,.int .i64 t11,.int .i64 t12,.int .i64 t13,.int .i64 t14,.int .i64 t15],.agg #[.int .i64 x0,.int .i64 x1,.int .i64 x2,.int .i64 x3,.int .i64 x4,.int .i64 x5,.int .i64 x6,.int .i64 x7,.int .i64 x8,.int .i64 x9,.int .i64 x10,.int .i64 x11,.int .i64 x12,.int .i64 x13,.int .i64 x14,.int .i64 x15]] W (fun e w'=>e= .returned (.agg (iA u))∧Below W.heap.size W w') from hU.out)
     have husz:(iA u).size=16:=by rw[az];exact HUL.out
     clear hU hrb hrg
     go_region_law (go_simp;go_at_call 164;refine(hU2.out _).mono ?_;rintro e w3 ⟨rfl,hb3⟩;have hk3:=dF hOw.out (w':=w3) (show Below wr.heap.size wr w3 from((Below.refl _ wr).drew).trans hb3);have hth:=hTh.out _ hk3;have hst:=run_storeAt_mid (P:=Tryz.prog) w3 g2 (k*16) 194 (iA u) hth hus (bP _);have hst2:=kF w3 g2 (k*16) (iA u) hth (bP _))
     all_goals
      have hbX:Below wr.heap.size wr w3:=((Below.refl _ wr).drew).trans hb3
      have hZ3:=(fZ (iA u).toList w3 g2 (k*16) w.heap.size (by omega)).trans (rwB HZw.out hbX)
      have hB3:Below w.heap.size w (w3.setCells g2 (k*16) (iA u).toList):=mW (HBw.out.trans (hbX.mono HBw.out.size)) (by omega) _ _
      have hS3:=hSet.out _ hk3
      clear hbX hth hst hst2 hk3 hb3
      generalize w3.setCells g2 (k*16) (iA u).toList=W3 at*
      go_wp2_with fail
      exact⟨⟨k+1,z3,by omega,by go_num,hS3,hNX.out.1,hZ3,hB3,fun h1 h2=>by rw[if_neg (by omega)];exact hNX.out.2 h1 h2⟩,by simp[aG];omega⟩
    ·obtain rfl:k=i:=by omega
     have hO0:=MI hO
     have hB0:=MI hB
     have hF0:=MI hfl
     clear hO hB hZ hfl
     go_wp2_with fail
     go_ret
     exact⟨g2,cap2,y,rfl,hO0.out,hyw,hB0.out,fun h1 h2=>by have:=hF0.out h1 h2;rwa [if_neg (by omega)] at this⟩
end Go.Proofs.YtnicjahcgnhogaaGreatDoor
