/- Part 21 of the walk: contracts of the program's functions, each for every input. No condition. -/
import Derived.Test.YtnicjahcgnhogaaGreatDoorU19
set_option linter.unusedVariables false
set_option linter.unusedSimpArgs false
set_option maxRecDepth 100000
set_option maxHeartbeats 8000000
namespace Go.Proofs.YtnicjahcgnhogaaGreatDoor
open Go Go.RowKit Go.Calli
attribute [local irreducible] wpStill wpAnyH wpAnyS wpList Code.wp
def nI(m:Mt):Bool:=ku (numsOf m.nm)&&(decide (1≤m.len)&&(decide (m.len≤1048576)&&(decide (1≤m.rate)&&(decide (m.rate≤192000)&&(decide (m.ch=1∨m.ch=2)&&oG m.loop m.ls m.le m.len)))))
theorem En(s:ByteArray):Byt (numsOf s):=Em s
theorem Ir{m:Mt}(h:nI m=true):m.Ok:=by
 unfold nI at h
 simp only[Bool.and_eq_true,decide_eq_true_eq] at h
 obtain⟨_,h1,h2,h3,h4,h5,h6⟩:=h
 have h7:(m.loop=true→m.ls<m.le)∧m.le≤m.len∧(m.loop=false→m.ls=0∧m.le=0):=by
  unfold oG at h6
  cases hl:m.loop with
  | true=>
   rw[hl] at h6
   simp only[if_true,decide_eq_true_eq] at h6
   exact⟨(fun _=>aa),aa,(fun h=>by cases h)⟩
  | false=>
   rw[hl] at h6
   simp only[Bool.false_eq_true,if_false,decide_eq_true_eq] at h6
   exact⟨(fun h=>by cases h),aa,(fun _=>aa)⟩
 exact⟨h1,h2,h3,h4,aa,aa,h7.1,h7.2.1,h7.2.2⟩
theorem xw(m:Mt)(U:m.nm.size≤1000000)(w:World):Calls Tryz.prog 81 #[.agg (aF m)] w (fun e w'=>e= .returned (.bool (nI m))∧Below w.heap.size w w'):=by
 have HB:=MI (ae w (.cells (aF m) 54))
 have I:=vX (numsOf m.nm) (En _) (by rw[Ej];omega) (w.alloc (.cells (aF m) 54))
 rw[kS] at I
 have HI:=MI I
 have HL:=MI (xG m.loop m.ls m.le m.len (w.alloc (.cells (aF m) 54)))
 have HD:=MI (show nI m=(ku (numsOf m.nm)&&(decide (1≤m.len)&&(decide (m.len≤1048576)&&(decide (1≤m.rate)&&(decide (m.rate≤192000)&&(decide (m.ch=1∨m.ch=2)&&oG m.loop m.ls m.le m.len)))))) from rfl)
 clear I
 generalize nI m=R at*
 generalize ku (numsOf m.nm)=bI at*
 generalize J:oG m.loop m.ls m.le m.len=bL at*
 have j:=MI J
 clear J
 obtain⟨nm,len,rate,ch,loop,ls,le,sums,first⟩:=m
 unfold aF at*
 simp only at*
 cases bI with
 | false=>
  have hR:=MI (show R=false by rw[HD.out];rfl)
  clear HD
  go_enter Tryz.func81,Tryz.ntmps81
  go_wp2_with (first | (go_at_call 119;refine HI.out.mono ?_;rintro e w' ⟨rfl,rfl⟩) | (go_at_call 120;refine HL.out.mono ?_;rintro e w' ⟨rfl,rfl⟩))
  go_ret
  exact⟨by rw[hR.out];rfl,HB.out⟩
 | true=>
  by_cases h0:1≤len
  case neg=>
   have hR:=MI (show R=false by rw[HD.out,decide_eq_false h0];rfl)
   have g0:¬(1≤(len:Int)):=aa
   clear HD
   go_enter Tryz.func81,Tryz.ntmps81
   go_wp2_with (first | (go_at_call 119;refine HI.out.mono ?_;rintro e w' ⟨rfl,rfl⟩) | (go_at_call 120;refine HL.out.mono ?_;rintro e w' ⟨rfl,rfl⟩))
   go_ret
   exact⟨by rw[hR.out];rfl,HB.out⟩
  case pos=>
   have g0:1≤(len:Int):=aa
   by_cases h1:len≤1048576
   case neg=>
    have hR:=MI (show R=false by rw[HD.out,decide_eq_true h0,decide_eq_false h1];rfl)
    have g1:¬((len:Int)≤1048576):=aa
    clear HD
    go_enter Tryz.func81,Tryz.ntmps81
    go_wp2_with (first | (go_at_call 119;refine HI.out.mono ?_;rintro e w' ⟨rfl,rfl⟩) | (go_at_call 120;refine HL.out.mono ?_;rintro e w' ⟨rfl,rfl⟩))
    go_ret
    exact⟨by rw[hR.out];rfl,HB.out⟩
   case pos=>
    have g1:(len:Int)≤1048576:=aa
    by_cases h2:1≤rate
    case neg=>
     have hR:=MI (show R=false by rw[HD.out,decide_eq_true h0,decide_eq_true h1,decide_eq_false h2];rfl)
     have g2:¬(1≤(rate:Int)):=aa
     clear HD
     go_enter Tryz.func81,Tryz.ntmps81
     go_wp2_with (first | (go_at_call 119;refine HI.out.mono ?_;rintro e w' ⟨rfl,rfl⟩) | (go_at_call 120;refine HL.out.mono ?_;rintro e w' ⟨rfl,rfl⟩))
     go_ret
     exact⟨by rw[hR.out];rfl,HB.out⟩
    case pos=>
     have g2:1≤(rate:Int):=aa
     by_cases h3:rate≤192000
     case neg=>
      have hR:=MI (show R=false by rw[HD.out,decide_eq_true h0,decide_eq_true h1,decide_eq_true h2,decide_eq_false h3];rfl)
      have g3:¬((rate:Int)≤192000):=aa
      clear HD
      go_enter Tryz.func81,Tryz.ntmps81
      go_wp2_with (first | (go_at_call 119;refine HI.out.mono ?_;rintro e w' ⟨rfl,rfl⟩) | (go_at_call 120;refine HL.out.mono ?_;rintro e w' ⟨rfl,rfl⟩))
      go_ret
      exact⟨by rw[hR.out];rfl,HB.out⟩
     case pos=>
      have g3:(rate:Int)≤192000:=aa
      by_cases h5:ch=1
      case pos=>
       have hR:=MI (show R=bL by rw[HD.out,decide_eq_true h0,decide_eq_true h1,decide_eq_true h2,decide_eq_true h3,decide_eq_true (.inl h5)];rfl)
       subst h5
       clear HD
       go_enter Tryz.func81,Tryz.ntmps81
       go_wp2_with (first | (go_at_call 119;refine HI.out.mono ?_;rintro e w' ⟨rfl,rfl⟩) | (go_at_call 120;refine HL.out.mono ?_;rintro e w' ⟨rfl,rfl⟩))
       go_ret
       exact⟨by rw[hR.out];rfl,HB.out⟩
      case neg=>
       have n5:((ch:Int)==1)=false:=by simp;omega
       by_cases h6:ch=2
       case pos=>
        have hR:=MI (show R=bL by rw[HD.out,decide_eq_true h0,decide_eq_true h1,decide_eq_true h2,decide_eq_true h3,decide_eq_true (.inr h6)];rfl)
        subst h6
        clear HD
        go_enter Tryz.func81,Tryz.ntmps81
        go_wp2_with (first | (go_at_call 119;refine HI.out.mono ?_;rintro e w' ⟨rfl,rfl⟩) | (go_at_call 120;refine HL.out.mono ?_;rintro e w' ⟨rfl,rfl⟩))
        go_ret
        exact⟨by rw[hR.out];rfl,HB.out⟩
       case neg=>
        have hR:=MI (show R=false by rw[HD.out,decide_eq_true h0,decide_eq_true h1,decide_eq_true h2,decide_eq_true h3,decide_eq_false (fun h=>h.elim h5 h6)];rfl)
        have n6:((ch:Int)==2)=false:=by simp;omega
        clear HD
        go_enter Tryz.func81,Tryz.ntmps81
        go_wp2_with (first | (go_at_call 119;refine HI.out.mono ?_;rintro e w' ⟨rfl,rfl⟩) | (go_at_call 120;refine HL.out.mono ?_;rintro e w' ⟨rfl,rfl⟩))
        go_ret
        exact⟨by rw[hR.out];rfl,HB.out⟩
theorem nC(n:Nat)(hn:n≤1000000)(w:World):Calls Tryz.prog 44 #[.int .i64 n] w (fun e w'=>e= .returned (.int .i64 ((20+64*n:Nat):Int))∧w=w'):=by
 have HR:=MI (show((20+64*n:Nat):Int)=16+(n:Int)*64+4 by omega)
 generalize ((20+64*n:Nat):Int)=R at*
 go_enter Tryz.func44,Tryz.ntmps44
 go_wp2_with fail
 go_ret
 exact⟨by rw[HR.out];rfl,rfl⟩
def upZ(n k:Nat):Nat:=(n+k - 1)/k*k
theorem J7(n k:Nat)(h0:0<k)(hk:k≤1024)(hn:n≤1000000000000)(w:World):Calls Tryz.prog 83 #[.int .i64 n,.int .i64 k] w (fun e w'=>e= .returned (.int .i64 ((upZ n k:Nat):Int))∧w=w'):=by
 have HR:=MI (show((upZ n k:Nat):Int)=((n:Int)+k - 1)/k*k by
  unfold upZ
  rw[Int.natCast_mul,Int.natCast_ediv,show((n+k - 1:Nat):Int)=(n:Int)+k - 1 by omega])
 generalize ((upZ n k:Nat):Int)=R at*
 have I:¬(k:Int)=0:=aa
 have J:0≤((n:Int)+k - 1)/k:=Int.ediv_nonneg aa aa
 have U:((n:Int)+k - 1)/k*k≤(n:Int)+k - 1:=Int.ediv_mul_le _ I
 have j:((n:Int)+k - 1)/k≤(n:Int)+k - 1:=by
  have:=Int.ediv_le_self (b:=(k:Int)) (a:=(n:Int)+k - 1) aa
  exact this
 have ht:Int.tdiv ((n:Int)+k - 1) k=((n:Int)+k - 1)/k:=Int.tdiv_eq_ediv_of_nonneg aa
 generalize hq:((n:Int)+k - 1)/k=q at*
 go_enter Tryz.func83,Tryz.ntmps83
 go_wp2_with fail
 have o:0≤q*(k:Int):=Int.mul_nonneg J aa
 have hw:=IntWalk.wrap64_in (q*(k:Int)) aa
 go_ret
 exact⟨by rw[HR.out];exact bg hw,rfl⟩
theorem EJ(m:Mt)(hl:m.len≤1048576)(hc:m.ch≤2)(w:World):Calls Tryz.prog 82 #[.agg (aF m)] w (fun e w'=>e= .returned (.int .i64 ((aO m.len*m.ch:Nat):Int))∧Below w.heap.size w w'):=by
 have HB:=MI (ae w (.cells (aF m) 54))
 have HC:=MI (fun w=>count_any m.len aa w)
 have I:aO m.len≤1048576:=by unfold aO;omega
 have J:=Nat.mul_le_mul I hc
 have HR:=MI (show((aO m.len*m.ch:Nat):Int)=(aO m.len:Int)*(m.ch:Int) from Int.natCast_mul _ _)
 have hw:IntKind.i64.wrap ((aO m.len:Int)*(m.ch:Int))=((aO m.len*m.ch:Nat):Int):=by
  rw[HR.out.symm]
  exact IntWalk.i64_in _ aa
 generalize ((aO m.len*m.ch:Nat):Int)=R at*
 obtain⟨nm,len,rate,ch,loop,ls,le,sums,first⟩:=m
 unfold aF at*
 simp only at*
 generalize aO len=q at*
 clear J
 go_enter Tryz.func82,Tryz.ntmps82
 go_upto_region 1 with fail
 go_quiet (first | (go_at_call 121;exact Calls.quiet_of_same (HC.out _)))
 go_wp2_with fail
 go_ret
 exact⟨rfl,below_drewN HB.out _⟩
theorem yC:(Tryz.prog.info? 5).map (fun i=>(i.zero,i.size,i.bytes))=some (some (.int .u8 0),1,1):=af
theorem zK{w:World}{base e:Nat}{v:Value}{n:Nat}{xs:List Value}(h:w.ownsRow base e 1 v n xs): ∃ao cap,v= .slice ao n cap∧n≤cap∧Row w ao n xs∧(∀a,ao=some a→base≤a.block∧a.off=0∧a.spot=none):=by
 obtain⟨ao,cap,hv,hc,hr,-⟩:=mZ h
 refine⟨ao,cap,hv,hc,hr,fun a ha=>?_⟩
 subst ha
 rcases h.2 with⟨h1,_⟩ | ⟨g,cap2,cur,h1,hb,_⟩
 ·rw[hv] at h1;cases h1
 ·rw[hv] at h1;cases h1;exact⟨hb,rfl,rfl⟩
theorem yR{w w':World}{o:Obj}(hk:ag (fun k=>(Value.slice (some ⟨w.heap.size,0,none⟩) 0 0).ownBlock=some k) (w.alloc o) w'):Below w.heap.size w w':=((ag.au (S:=fun _=>False) (ae w o) Me).andThen hk (fun i hi e=>by cases e;exact absurd hi (Nat.lt_irrefl _))).aW Me (fun _ _ e=>e)
def ClnP(n:Nat)(bs:List Int)(w:World)(e:Ending)(w':World):Prop:=∃ro rc,e= .returned (.slice ro n rc)∧n≤rc∧Ints .u8 w' ro n bs∧(∀a,ro=some a→w.heap.size≤a.block∧a.off=0∧a.spot=none)∧Below w.heap.size w w'
theorem clone_any(a:Addr)(n cap:Nat)(bs:List Int)(hn:n≤100000)(w:World)(h:Ints .u8 w (some a) n bs):Calls Tryz.prog 47 #[.slice (some a) n cap] w (ClnP n bs w):=by
 have hb:=ae w (.cells #[] 5)
 have I:=yh w 5 1
 have J:=(h.aj hb).row
 have R:=MI h.wf
 have HL:=MI h.hlen
 have o: ∀w,(binOp .eql 63 (.slice (some a) n cap) (.slice none 0 0)).run Tryz.prog w= .ok (.bool false) w:=fun _=>rfl
 clear h
 go_enter Tryz.func47,Tryz.ntmps47
 go_wp2_with (at_builtin;refine Cch.kD rfl (.tmp 5) (.tmp 6) 63 5 rfl Tryz.underlying63 yC rfl w.heap.size _ 0 [] rfl I a n cap (bs.map (Value.int .u8)) rfl J (lD _ _) aa aE ar ?_;intro v' w' ho hk hv)
 rw[Nat.zero_add,List.nil_append] at ho
 obtain⟨ro,rc,rfl,hrc,U,j⟩:=zK ho
 go_ret
 exact⟨ro,rc,rfl,hrc,Row.ints U aE R.out,j,yR hk⟩
theorem Nz:(Tryz.prog.info? 54).map (fun i=>(i.zero,i.size,i.bytes))=some (some (.agg #[.string ⟨#[]⟩,(),(),(),.bool false,(),(),(),()]),9,80):=af
theorem jR(m:Mt):(aV m).length=9:=rfl
theorem yt(ms:List Mt): ∀u ∈ ms.flatMap aV,u.oneCell'=true:=fun u hu=>by
 obtain⟨m,-,hm⟩:=List.mem_flatMap.1 hu
 simp only[aV,List.mem_cons,List.not_mem_nil,or_false] at hm
 rcases hm with rfl | rfl | rfl | rfl | rfl | rfl | rfl | rfl | rfl<;>rfl
def ClmP(ms:List Mt)(w:World)(e:Ending)(w':World):Prop:=∃v,e= .returned v∧w'.ownsRow w.heap.size 54 9 v ms.length (ms.flatMap aV)∧Below w.heap.size w w'
theorem EY(v:Value)(ms:List Mt)(hn:ms.length≤1000)(w:World)(h:w.ownsRow 0 54 9 v ms.length (ms.flatMap aV)):Calls Tryz.prog 49 #[v] w (ClmP ms w):=by
 obtain⟨ao,cap,rfl,hc,hr,J⟩:=jG m0 jR aq h
 cases ao with
 | none=>
  have U: ∀w,(binOp .eql 87 (.slice none ms.length cap) (.slice none 0 0)).run Tryz.prog w= .ok (.bool true) w:=fun _=>rfl
  have R:ms=[]:=by
   rcases h.2 with⟨h1,h2⟩ | ⟨g,c,cur,h1,_⟩
   ·exact List.eq_nil_of_length_eq_zero h2
   ·cases h1
  have HM:=MI R
  clear h hr J R
  go_enter Tryz.func49,Tryz.ntmps49
  go_wp2_with fail
  go_ret
  exact⟨_,rfl,by rw[HM.out];exact World.ownsRow_nil _ _ _ _,Below.refl _ _⟩
 | some a=>
  have U: ∀w,(binOp .eql 87 (.slice (some a) ms.length cap) (.slice none 0 0)).run Tryz.prog w= .ok (.bool false) w:=fun _=>rfl
  have hb:=ae w (.cells #[] 54)
  have j:=yh w 54 9
  have I:=(hr.aj hb).flat jR aq
  have hlen:=flat_length aV 9 jR ms
  have o:=yt ms
  clear h hr J
  go_enter Tryz.func49,Tryz.ntmps49
  go_wp2_with (at_builtin;refine dU rfl (.tmp 5) (.tmp 6) 87 54 9 rfl Tryz.underlying87 Nz rfl aq w.heap.size _ 0 [] rfl j a ms.length cap (ms.flatMap aV) hlen rfl I o aa aE ar ?_;intro v' w' ho hk)
  rw[Nat.zero_add,List.nil_append] at ho
  go_ret
  exact⟨_,rfl,ho,yR hk⟩
def eqM(a b:Mt):Bool:=(a.nm.toList==b.nm.toList)&&((a.len:Int)==b.len)&&((a.rate:Int)==b.rate)&&((a.ch:Int)==b.ch)&&(a.loop==b.loop)&&((a.ls:Int)==b.ls)&&((a.le:Int)==b.le)&&((a.sums:Int)==b.sums)&&((a.first:Int)==b.first)
theorem MS(a b:Mt)(w:World):(binOp .neq 54 (.agg (aF a)) (.agg (aF b))).run Tryz.prog w= .ok (.bool (!(eqM a b))) w:=by
 rw[run_neq_struct,run_equalIn_agg (d:=9999) w 54 _ _ af af]
 have h9:Tryz.prog.underlying 9=some .string:=Tryz.underlying9
 simp only[Program.fieldsOf,Tryz.underlying54]
 simp[go_sem,aF,eqM,Tryz.underlying3,Tryz.underlying4,Tryz.underlying9]
 by_cases h1:a.nm.toList=b.nm.toList
 case neg=>simp[h1]
 by_cases h2:a.len=b.len
 case neg=>
  have g:¬((a.len:Int)=(b.len:Int)):=aa
  simp[h1,h2,g]
 by_cases h3:a.rate=b.rate
 case neg=>
  have g:¬((a.rate:Int)=(b.rate:Int)):=aa
  simp[h1,h2,h3,g]
 by_cases h4:a.ch=b.ch
 case neg=>
  have g:¬((a.ch:Int)=(b.ch:Int)):=aa
  simp[h1,h2,h3,h4,g]
 by_cases h5:a.loop=b.loop
 case neg=>simp[h1,h2,h3,h4,h5]
 by_cases h6:a.ls=b.ls
 case neg=>
  have g:¬((a.ls:Int)=(b.ls:Int)):=aa
  simp[h1,h2,h3,h4,h5,h6,g]
 by_cases h7:a.le=b.le
 case neg=>
  have g:¬((a.le:Int)=(b.le:Int)):=aa
  simp[h1,h2,h3,h4,h5,h6,h7,g]
 by_cases h8:a.sums=b.sums
 case neg=>
  have g:¬((a.sums:Int)=(b.sums:Int)):=aa
  simp[h1,h2,h3,h4,h5,h6,h7,h8,g]
 by_cases h9:a.first=b.first
 case neg=>
  have g:¬((a.first:Int)=(b.first:Int)):=aa
  simp[h1,h2,h3,h4,h5,h6,h7,h8,h9,g]
 simp[h1,h2,h3,h4,h5,h6,h7,h8,h9]
theorem eqM_pos{a b:Mt}(h:eqM a b=true):a.sums=b.sums∧a.first=b.first:=by
 unfold eqM at h
 simp only[Bool.and_eq_true,beq_iff_eq] at h
 omega
theorem uZ{w:World}{ao:Option Addr}{n:Nat}{ms:List Mt}(h:bP aV 9 m0 w ao n ms)(h0: ∀a,ao=some a→a.off=0∧a.spot=none){i:Nat}(hi:i<n): ∃b,ao=some ⟨b,0,none⟩∧w.rangeAt b (i*9) (aV (ms.getD i m0)):=by
 obtain⟨a,ha,hc⟩:=h.cell i hi
 obtain⟨h1,h2⟩:=h0 a ha
 obtain⟨b,o,sp⟩:=a
 simp only at h1 h2
 subst h1 h2
 refine⟨b,ha,fun j v hv=>?_⟩
 have:=hc j v hv
 rwa [add0,add0,Nat.zero_add] at this
theorem dR{w:World}{b o:Nat}{m:Mt}(h:w.rangeAt b o (aV m)):w.cell? ⟨b,o,none⟩=some (.string m.nm)∧w.cell? ⟨b,o+1,none⟩=some (.int .i64 m.len)∧w.cell? ⟨b,o+2,none⟩=some (.int .i64 m.rate)∧w.cell? ⟨b,o+3,none⟩=some (.int .i64 m.ch)∧w.cell? ⟨b,o+4,none⟩=some (.bool m.loop)∧w.cell? ⟨b,o+5,none⟩=some (.int .i64 m.ls)∧w.cell? ⟨b,o+6,none⟩=some (.int .i64 m.le)∧w.cell? ⟨b,o+7,none⟩=some (.int .i64 m.sums)∧w.cell? ⟨b,o+8,none⟩=some (.int .i64 m.first):=
 ⟨h 0 _ rfl,h 1 _ rfl,h 2 _ rfl,h 3 _ rfl,h 4 _ rfl,h 5 _ rfl,h 6 _ rfl,h 7 _ rfl,h 8 _ rfl⟩
def eqL(a b:List Mt)(n:Nat):Bool:=(List.range n).all (fun i=>eqM (a.getD i m0) (b.getD i m0))
theorem Oc{a b:List Mt}{n:Nat}(h:eqL a b n=true){i:Nat}(hi:i<n):eqM (a.getD i m0) (b.getD i m0)=true:=by
 unfold eqL at h
 rw[List.all_eq_true] at h
 exact h i (List.mem_range.2 hi)
theorem eqL_not{a b:List Mt}{n i:Nat}(hi:i<n)(h:eqM (a.getD i m0) (b.getD i m0)=false):eqL a b n=false:=by
 rw[←Bool.not_eq_true]
 intro h2
 rw[Oc h2 hi] at h
 cases h
theorem Jt(ao bo:Option Addr)(n ac bc:Nat)(hn:n≤1000)(xs ys:List Mt)(w:World)(ha:bP aV 9 m0 w ao n xs)(hb:bP aV 9 m0 w bo n ys)(o: ∀a,ao=some a→a.off=0∧a.spot=none)(A0: ∀a,bo=some a→a.off=0∧a.spot=none):Calls Tryz.prog 51 #[.slice ao n ac,.slice bo n bc] w (fun e w'=>e= .returned (.bool (eqL xs ys n))∧Below w.heap.size w w'):=by
 have HD:=MI (fun i hi h=>eqL_not (a:=xs) (b:=ys) (n:=n) (i:=i) hi h)
 have HT:Hid ((∀i,i<n→eqM (xs.getD i m0) (ys.getD i m0)=true)→eqL xs ys n=true):=fun h=>by
  unfold eqL
  rw[List.all_eq_true]
  exact fun i hi=>h i (List.mem_range.1 hi)
 have HA:=MI ha
 have HB:=MI hb
 generalize eqL xs ys n=R at*
 clear ha hb
 go_enter Tryz.func51,Tryz.ntmps51
 go_wp2_with fail
 go_loopw [13] (fun v13 wr=>∃i m:Nat,i≤n∧v13= .int .i64 (i:Int)∧Hid (∀j,j<i→eqM (xs.getD j m0) (ys.getD j m0)=true)∧wr=w.drewN m) (fun v13 _=>n - aC v13)
 case atStart=>exact⟨0,0,aa,rfl,(fun j hj=>aa),rfl⟩
 case round=>
  obtain⟨i,m,hi,rfl,hP,rfl⟩:=hrel
  by_cases I:i<n
  ·have A5:(i:Int)<(n:Int):=aa
   obtain⟨ga,A1,J⟩:=uZ (HA.out.aj (below_drewN MB (m+1))) o I
   obtain⟨gb,A2,U⟩:=uZ (HB.out.aj (below_drewN MB (m+1))) A0 I
   have HN:=MI (HD.out i I)
   have HS:Hid (eqM (xs.getD i m0) (ys.getD i m0)=true→∀j,j<i+1→eqM (xs.getD j m0) (ys.getD j m0)=true):=fun h j hj=>by
    rcases Nat.lt_or_ge j i with h1 | h1
    ·exact hP.out j h1
    ·obtain rfl:j=i:=aa
     exact h
   generalize xs.getD i m0=x at*
   generalize ys.getD i m0=y at*
   have A3:=MS x y
   have A6:(Tryz.prog.info? 54).map (·.size)=some (aV x).length:=af
   have A7:(Tryz.prog.info? 54).map (·.size)=some (aV y).length:=af
   subst A1
   subst A2
   generalize eqM x y=q at*
   clear hP
   go_upto_region 6 with fail
   obtain⟨a0,a1,a2,a3,a4,a5,a6,a7,a8⟩:=dR J
   obtain⟨b0,b1,b2,b3,b4,b5,b6,b7,b8⟩:=dR U
   unfold aF at A3
   cases q with
   | true=>
    have A4:=MI (HS.out rfl)
    clear HS HN J U
    go_region_law (fail)
    all_goals go_wp2_with fail
    all_goals exact⟨⟨i+1,_,aa,aD,A4.out,rfl⟩,by simp[aC];omega⟩
   | false=>
    have hR:=MI (HN.out rfl)
    clear HS HN J U
    go_region_law (fail)
    all_goals go_wp2_with fail
    all_goals go_ret
    all_goals exact⟨by rw[hR.out];rfl,below_drewN MB _⟩
  ·obtain rfl:i=n:=aa
   have hR:=MI (HT.out hP.out)
   have A8:¬(i:Int)<(i:Int):=aa
   clear hP
   go_wp2_with fail
   go_ret
   exact⟨by rw[hR.out];rfl,below_drewN MB _⟩
def frm(m:Mt):Nat:=aO m.len*m.ch
def plA(size:Nat)(ms:List Mt):Nat→Nat
 | 0=>20+64*ms.length
 | i+1=>upZ (plA size ms i+4*frm (ms.getD i m0)) 16+size*frm (ms.getD i m0)
def plM(size:Nat)(ms:List Mt)(i:Nat):Mt:={ms.getD i m0 with sums:=plA size ms i,first:=upZ (plA size ms i+4*frm (ms.getD i m0)) 16}
def plL(size:Nat)(ms:List Mt)(k:Nat):List Mt:=(List.range k).map (plM size ms)++ms.drop k
theorem LU(size:Nat)(ms:List Mt):plL size ms 0=ms:=by simp[plL]
theorem plL_len(size:Nat)(ms:List Mt)(k:Nat)(h:k≤ms.length):(plL size ms k).length=ms.length:=by simp[plL];omega
theorem plL_at(size:Nat)(ms:List Mt)(k:Nat):(plL size ms k).getD k m0=ms.getD k m0:=by
 unfold plL
 rw[List.getD,List.getElem?_append_right ar,List.getD]
 simp
theorem plL_set(size:Nat)(ms:List Mt)(k:Nat)(h:k<ms.length):(plL size ms k).set k (plM size ms k)=plL size ms (k+1):=by
 unfold plL
 rw[List.set_append_right _ _ ar,List.range_succ,List.map_append]
 simp only[List.length_map,List.length_range,Nat.sub_self,List.append_assoc,List.map_cons,List.map_nil,List.cons_append,List.nil_append]
 rw[List.drop_eq_getElem_cons h]
 rfl
theorem F9(size:Nat)(ms:List Mt)(i:Nat)(h:i<ms.length):(plL size ms ms.length).getD i m0=plM size ms i:=by
 unfold plL
 rw[List.getD,List.getElem?_append_left (by simpa using h)]
 simp[h]
theorem nH(n k:Nat)(h:0<k):n≤upZ n k∧upZ n k≤n+k - 1:=by
 unfold upZ
 have h1:=Nat.div_mul_le_self (n+k - 1) k
 have h2:=Nat.mod_lt (n+k - 1) h
 have h3:=Nat.div_add_mod (n+k - 1) k
 rw[Nat.mul_comm] at h3
 omega
theorem NT{m:Mt}(hl:m.len≤1048576)(hc:m.ch≤2):frm m≤131072:=by
 have h1:aO m.len≤65536:=by unfold aO;omega
 have h2:=Nat.mul_le_mul h1 hc
 unfold frm
 omega
theorem plA_le(size:Nat)(hs:size≤96)(ms:List Mt)(hm: ∀i,i<ms.length→(ms.getD i m0).len≤1048576∧(ms.getD i m0).ch≤2): ∀i,i≤ms.length→plA size ms i≤20+64*ms.length+i*13200000:=by
 intro i
 induction i with
 | zero=>intro _;simp[plA]
 | succ i ih=>
  intro hi
  have h1:=ih aa
  have h2:=NT (hm i aa).1 (hm i aa).2
  have h3:=(nH (plA size ms i+4*frm (ms.getD i m0)) 16 aq).2
  have h4:=Nat.mul_le_mul hs h2
  simp only[plA]
  omega
def PlS(w:World)(b n:Nat)(ms:List Mt):Prop:=ms.length=n∧∃cs:Array Value,w.heap[b]? =some (.cells cs 54 (0,0))∧∀j,j<n→∀k u,(aV (ms.getD j m0))[k]? =some u→cs[j*9+k]? =some u
theorem PlS.keep{w w':World}{b n:Nat}{ms:List Mt}(h:PlS w b n ms){S:Nat→Prop}(hk:ag S w w')(hS:¬S b):PlS w' b n ms:=by
 obtain⟨h1,cs,h2,h3⟩:=h
 exact⟨h1,cs,hk.heap h2 hS,h3⟩
theorem PlS.aj{w w':World}{b n:Nat}{ms:List Mt}(h:PlS w b n ms)(hb:Below w.heap.size w w'):PlS w' b n ms:=h.keep (S:=fun _=>False) (ag.au hb Me) (fun e=>e)
theorem PlS.range{w:World}{b n:Nat}{ms:List Mt}(h:PlS w b n ms){i:Nat}(hi:i<n):w.rangeAt b (i*9) (aV (ms.getD i m0)):=fun k u hu=>by
 obtain⟨h1,cs,h2,h3⟩:=h
 exact(LZ h2).trans (h3 i hi k u hu)
theorem PlS.frozen{w:World}{b n:Nat}{ms:List Mt}(h:PlS w b n ms)(o:Nat):w.frozen? ⟨b,o,none⟩=false:=by
 obtain⟨h1,cs,h2,h3⟩:=h
 exact frozen_of_row _ _ o _ _ h2
theorem PlS.recs{w:World}{b n:Nat}{ms:List Mt}(h:PlS w b n ms)(hn:n≤maxLen):bP aV 9 m0 w (some ⟨b,0,none⟩) n ms:=
 ⟨h.1,hn,fun i hi=>⟨_,rfl,fun j u hu=>by
  rw[add0,add0,Nat.zero_add]
  exact h.range hi j u hu⟩⟩
theorem PlS.put{w:World}{b n:Nat}{ms:List Mt}(h:PlS w b n ms){i:Nat}(hi:i<n){m':Mt}{c:Nat}(hc:c<9){v:Value}(hm:aV m'=(aV (ms.getD i m0)).set c v):PlS (w.setCell ⟨b,i*9+c,none⟩ v) b n (ms.set i m'):=by
 obtain⟨h1,cs,h2,h3⟩:=h
 refine⟨by rw[List.length_set];exact h1,_,Mc h2,fun j hj k u hu=>?_⟩
 have hk:k<9:=(List.getElem?_eq_some_iff.1 hu).1
 rw[Array.getElem?_setIfInBounds]
 by_cases J:j=i
 ·subst J
  rw[show(ms.set j m').getD j m0=m' by simp[List.getD,h1,hj],hm,List.getElem?_set] at hu
  by_cases I:c=k
  ·subst I
   rw[if_pos rfl,if_pos (by simpa[aV] using hc)] at hu
   have h5:=h3 j hj c _ (List.getElem?_eq_getElem (by simpa[aV] using hc))
   rw[if_pos rfl,if_pos (Array.getElem?_eq_some_iff.1 h5).1]
   exact hu
  ·rw[if_neg I] at hu
   rw[if_neg aa]
   exact h3 j hj k u hu
 ·rw[show(ms.set i m').getD j m0=ms.getD j m0 by simp[List.getD,List.getElem?_set,show ¬i=j by omega]] at hu
  rw[if_neg aa]
  exact h3 j hj k u hu
theorem PlS.drew{w:World}{b n:Nat}{ms:List Mt}(h:PlS w b n ms):PlS w.drew b n ms:=h
def BplP(size:Nat)(ms:List Mt)(b n:Nat)(w:World)(e:Ending)(w':World):Prop:=e= .returned (.int .i64 ((upZ (plA size ms n) 64:Nat):Int))∧PlS w' b n (plL size ms n)∧ag (fun k=>k=b) w w'
theorem wR(size:Nat)(hs:size≤96)(ms:List Mt)(n:Nat)(hn:n≤64)(A3:ms.length=n)(hm: ∀i,i<n→(ms.getD i m0).len≤1048576∧(ms.getD i m0).ch≤2)(b cap:Nat)(w:World)(h:PlS w b n ms):Calls Tryz.prog 50 #[.slice (some ⟨b,0,none⟩) n cap,.int .i64 size] w (BplP size ms b n w):=by
 have HA:=MI (plA_le size hs ms (by rw[A3];exact hm))
 have HD:=MI (fun w=>nC n aa w)
 have HU:=MI (fun x k h0 hk hx w=>J7 x k h0 hk hx w)
 have HM:=MI hm
 have HH:=MI h
 have U:=MI A3
 clear h hm A3
 go_enter Tryz.func50,Tryz.ntmps50
 go_wp2_with (go_at_call 44;refine(HD.out _).mono ?_;rintro e w' ⟨rfl,rfl⟩)
 go_loopw [12,5] (fun v12 v5 wr=>∃i:Nat,i≤n∧v12= .int .i64 (i:Int)∧v5= .int .i64 (plA size ms i:Int)∧PlS wr b n (plL size ms i)∧ag (fun k=>k=b) w wr) (fun v12 _ _=>n - aC v12)
 case atStart=>exact⟨0,aa,rfl,congrArg (Value.int .i64) (by unfold plA;rw[U.out];omega),by rw[LU];exact HH.out,ag.refl _ _⟩
 case round=>
  clear HH
  obtain⟨i,hi,rfl,rfl,hS,hK⟩:=hrel
  by_cases J:i<n
  ·have D7:(i:Int)<(n:Int):=aa
   have o:=HA.out i (by rw[U.out];omega)
   have C6:=HA.out (i+1) (by rw[U.out];omega)
   have hX:=HM.out i J
   have C7:=NT hX.1 hX.2
   have C8:=Nat.mul_le_mul hs C7
   have A4:=plL_set size ms i (by rw[U.out];exact J)
   have A5:=plL_at size ms i
   have B4:plM size ms i={ms.getD i m0 with sums:=plA size ms i,first:=upZ (plA size ms i+4*frm (ms.getD i m0)) 16}:=rfl
   have B5:plA size ms (i+1)=upZ (plA size ms i+4*frm (ms.getD i m0)) 16+size*frm (ms.getD i m0):=rfl
   have D8:=(nH (plA size ms i+4*frm (ms.getD i m0)) 16 aq).2
   rw[U.out] at o C6
   generalize ms.getD i m0=Xm at*
   have A0:Hid (∀w1 v,v=Value.int .i64 (plA size ms i:Int)→w1=wr.setCell ⟨b,i*9+7,none⟩ v→PlS w1 b n ((plL size ms i).set i {Xm with sums:=plA size ms i})):=fun w1 v h1 h2=>by
    subst h2
    exact hS.put J aq (by rw[A5,h1];rfl)
   have B6:((plL size ms i).set i {Xm with sums:=plA size ms i}).getD i m0={Xm with sums:=plA size ms i}:=by simp[List.getD,hS.1,J]
   have A1:((plL size ms i).set i {Xm with sums:=plA size ms i}).set i (plM size ms i)=plL size ms (i+1):=by rw[←A4];simp
   have I:=hS.range J
   rw[A5] at I
   obtain⟨a0,a1,a2,a3,a4,a5,a6,a7,a8⟩:=dR I
   have z7:=hS.frozen (i*9+7)
   have j:=fun(s f:Nat) w=>EJ {Xm with sums:=s,first:=f} hX.1 hX.2 w
   have C9:Hid (aO Xm.len*Xm.ch=frm Xm):=rfl
   have B7:=MI hK
   obtain⟨nm,len,rate,ch,loop,ls,le,sums,first⟩:=Xm
   unfold aF at j
   simp only at*
   have A6:=MI j
   rw[show(aO len*ch:Nat)=frm ⟨nm,len,rate,ch,loop,ls,le,sums,first⟩ from rfl] at A6
   generalize frm ⟨nm,len,rate,ch,loop,ls,le,sums,first⟩=F at*
   generalize plA size ms i=A at*
   have A7:=MI A1
   have A8:=MI B6
   have B8:=MI B4
   have B9:=MI B5
   have HS:=MI hS
   have D0:Hid ((plL size ms i).length=n):=hS.1
   have D1:Hid (∀w,Calls Tryz.prog 83 #[.int .i64 ((A:Int)+4*(F:Int)),.int .i64 16] w (fun e w'=>e= .returned (.int .i64 ((upZ (A+4*F) 16:Nat):Int))∧w=w')):=fun w=>by
    have h1:=HU.out (A+4*F) 16 aq aq aa w
    rw[show((A+4*F:Nat):Int)=(A:Int)+4*(F:Int) by omega] at h1
    exact h1
   generalize upZ (A+4*F) 16=Fi at*
   clear B5 HU HD A4 A5 I hS j A1 B6 B4 C9 hX hK
   go_upto_region 6 with fail
   have A9:=A0.out _ _ rfl rfl
   have C0:ag (fun k=>k=b) w (wr.setCell ⟨b,i*9+7,none⟩ (.int .i64 (A:Int))):=B7.out.setCell (p:=⟨b,i*9+7,none⟩) (.inr rfl) _
   clear a0 a1 a2 a3 a4 a5 a6 a7 a8 z7 A0 HS B7
   generalize wr.setCell ⟨b,i*9+7,none⟩ (.int .i64 (A:Int))=W1 at*
   have I:=A9.range J
   rw[A8.out] at I
   obtain⟨a0,a1,a2,a3,a4,a5,a6,a7,a8⟩:=dR I
   have A0:=MI A9
   have D2:=MI C0
   clear I A9 C0
   go_upto_region 8 with(first
    | (go_at_call 82;refine(A6.out A first _).mono ?_;rintro e w2 ⟨rfl,B0⟩;have A2:=A0.out.aj B0;have R:=A2.range J;rw[A8.out] at R;obtain⟨d0,d1,d2,d3,d4,d5,d6,d7,d8⟩:=dR R;have z8:=A2.frozen (i*9+8))
    | (go_at_call 83;refine(D1.out _).mono ?_;rintro e w' ⟨rfl,rfl⟩))
   have B1:PlS (w2.setCell ⟨b,i*9+8,none⟩ (.int .i64 (Fi:Int))) b n (plL size ms (i+1)):=by
    have h1:=A2.put J (m':=⟨nm,len,rate,ch,loop,ls,le,A,Fi⟩) (c:=8) aq (v:=.int .i64 (Fi:Int)) (by rw[A8.out];rfl)
    rw[←B8.out,A7.out] at h1
    exact h1
   have C1:ag (fun k=>k=b) w (w2.setCell ⟨b,i*9+8,none⟩ (.int .i64 (Fi:Int))):=((D2.out.andThen (ag.au B0 Me) (S':=fun _=>False) (fun _ _ e=>e.elim))).setCell (p:=⟨b,i*9+8,none⟩) (.inr rfl) _
   have B2:(plL size ms (i+1)).getD i m0=⟨nm,len,rate,ch,loop,ls,le,A,Fi⟩:=by
    have h1:(plL size ms (i+1)).getD i m0=plM size ms i:=by
     rw[←A7.out]
     simp[List.getD,D0.out,J]
    rw[h1,B8.out]
   clear A2 R d0 d1 d2 d3 d4 d5 d6 d7 d8 z8 B0 a0 a1 a2 a3 a4 a5 a6 a7 a8
   generalize w2.setCell ⟨b,i*9+8,none⟩ (.int .i64 (Fi:Int))=W3 at*
   have I:=B1.drew.range J
   rw[B2] at I
   obtain⟨a0,a1,a2,a3,a4,a5,a6,a7,a8⟩:=dR I
   obtain⟨Pr,B3⟩: ∃Pr,Pr=size*F:=⟨_,rfl⟩
   have C2:(size:Int)*(F:Int)=(Pr:Int):=by rw[B3];exact(Int.natCast_mul _ _).symm
   rw[←B3] at C8 B9
   have hw:IntKind.i64.wrap ((size:Int)*(F:Int))=(Pr:Int):=by rw[C2];exact IntWalk.i64_in _ aa
   have D9:IntKind.i64.wrap ((Fi:Int)+(Pr:Int))=(Fi:Int)+(Pr:Int):=IntWalk.i64_in _ aa
   have D3:=MI B1
   have D4:=MI C1
   have D5:=MI B2
   clear I C2 B3 B1 C1 B2
   go_region_law (go_simp;go_at_call 82;refine(A6.out A Fi _).mono ?_;rintro e w4 ⟨rfl,C3⟩;have C4:=D3.out.drew.aj C3;have R:=C4.range J;rw[D5.out] at R;obtain⟨d0,d1,d2,d3,d4,d5,d6,d7,d8⟩:=dR R)
   all_goals go_wp2_with fail
   all_goals refine⟨⟨i+1,aa,aD,congrArg (Value.int .i64) (by rw[B9.out];omega),C4,D4.out.drew.andThen (ag.au C3 Me) (S':=fun _=>False) (fun _ _ e=>e.elim)⟩,?_⟩
   all_goals (simp[aC];omega)
  ·obtain rfl:i=n:=aa
   have I:¬(i:Int)<(i:Int):=aa
   have o:=HA.out i (by rw[U.out];omega)
   have C5:=MI (fun w=>HU.out (plA size ms i) 64 aq aq (by rw[U.out] at o;omega) w)
   have H5:=MI hS
   have H6:=MI hK
   clear hS hK o HU HD
   obtain⟨A,hA⟩: ∃A,A=plA size ms i:=⟨_,rfl⟩
   rw[←hA] at C5⊢
   have D6:=MI hA
   clear hA
   go_wp2_with (go_at_call 83;refine(C5.out _).mono ?_;rintro e w' ⟨rfl,rfl⟩)
   go_ret
   exact⟨by rw[D6.out];rfl,H5.out,H6.out⟩
theorem xW(b off len cap lo:Nat)(h1:lo≤len)(h2:lo<cap)(h3:len≤cap)(hc:cap≤60000)(w:World):(Instr.sliceAt 63 (.slice (some ⟨b,off,none⟩) len cap) (some (.int .i64 (lo:Int))) none none).run Tryz.prog w= .ok (.slice (some ⟨b,off+lo,none⟩) (len - lo) (cap - lo)) w:=by
 have he:Tryz.prog.elem 63=5:=af
 have hu:Tryz.prog.underlying 63=some (.slice (Tryz.prog.elem 63)):=by rw[he];exact Tryz.underlying63
 rw[run_sliceAt_slice (P:=Tryz.prog) (w:=w) 63 (.slice (some ⟨b,off,none⟩) len cap) (some (.int .i64 (lo:Int))) none none hu,run_slice_l w 63 (some ⟨b,off,none⟩) len cap hu .i64 lo aa aa,he]
 have hs:(sizeOf 5).run Tryz.prog w= .ok 1 w:=af
 rw[hs]
 simp[Result.andThen,sliced,show ¬cap=lo by omega,add0]
theorem Ij(b off len cap hi:Nat)(h1:hi≤cap)(hc:cap≤60000)(w:World):(Instr.sliceAt 63 (.slice (some ⟨b,off,none⟩) len cap) none (some (.int .i64 (hi:Int))) none).run Tryz.prog w= .ok (.slice (some ⟨b,off,none⟩) hi cap) w:=by
 have he:Tryz.prog.elem 63=5:=af
 have hu:Tryz.prog.underlying 63=some (.slice (Tryz.prog.elem 63)):=by rw[he];exact Tryz.underlying63
 rw[run_sliceAt_slice (P:=Tryz.prog) (w:=w) 63 (.slice (some ⟨b,off,none⟩) len cap) none (some (.int .i64 (hi:Int))) none hu,run_slice_h w 63 (some ⟨b,off,none⟩) len cap hu .i64 hi aa aa,he]
 have hs:(sizeOf 5).run Tryz.prog w= .ok 1 w:=af
 rw[hs]
 simp[Result.andThen,sliced,add0]
theorem mG{P:Program}{ops:Array Oper}{S:World→Prop}{o:Oper}{a:Act}(hw:Region.wanted o (yielded ops a.tmps)=true)(T:TypeId)(x h:Operand)(ho:o.op= .slice T x (some h) none none){u k v:Value}(hx:a.eval x=u)(hh:a.eval h=k)(hr: ∀w,(Instr.sliceAt T u (some k) none none).run P w= .ok v w):YieldsIf P ops S o v a:=
 .inl ⟨hw,fun w _=>by
  unfold execOp
  simp only[ho,hx,hh,Option.map_none,Option.map_some,Sem.run_bind,Sem.run_pure,hr,Result.andThen_ok]⟩
def hd0(zs:List Int)(n size:Nat):List Int:=(kH (kH (aT zs 0 [67,65,76,49]) 4 4 zs.length 4) 8 2 n 2).set 10 ((size:Int)%256)
def hdS(zs:List Int)(ms:List Mt)(size:Nat):Nat→List Int
 | 0=>hd0 zs ms.length size
 | i+1=>CG (hdS zs ms size i) (16+64*i) (ms.getD i m0)
def nT(zs:List Int)(ms:List Mt)(size:Nat):List Int:=
 let z:=hdS zs ms size ms.length
 kH z (16+64*ms.length) 4 (gm (z.take (16+64*ms.length))).toNat 4
theorem hd0_len(zs:List Int)(n size:Nat)(h:4≤zs.length):(hd0 zs n size).length=zs.length:=by
 unfold hd0
 rw[List.length_set,kG,kG,gu _ _ _ (by simpa using h)]
theorem GI(zs:List Int)(ms:List Mt)(size:Nat)(h:20+64*ms.length≤zs.length)(hm: ∀i,i<ms.length→MtB (ms.getD i m0)): ∀i,i≤ms.length→(hdS zs ms size i).length=zs.length:=by
 intro i
 induction i with
 | zero=>intro _;exact hd0_len _ _ _ aa
 | succ i ih=>
  intro hi
  have h1:=ih aa
  have h2:=(hm i aa).nm
  rw[hdS,Oe _ _ _ aa,h1]
theorem Je(zs:List Int)(ms:List Mt)(size:Nat)(h:20+64*ms.length≤zs.length)(hm: ∀i,i<ms.length→MtB (ms.getD i m0)):(nT zs ms size).length=zs.length:=by
 unfold nT
 rw[kG,GI zs ms size h hm _ Me]
def W8(l:List Int):Prop:=∀z ∈ l,(Lit.int .u8 z).wf=true
theorem JD(v size i:Nat):(Lit.int .u8 (byteAt v size i)).wf=true:=by
 unfold byteAt
 have:(((v/2^(8*(size - 1 - i))%256:Nat):Int))=IntKind.u8.wrap ((v/2^(8*(size - 1 - i))%256:Nat):Int):=by rw[IntKind.wrap_u8];omega
 rw[this]
 exact wf_wrap _ _
theorem qG{zs:List Int}(h:W8 zs)(o size v:Nat): ∀k,W8 (kH zs o size v k):=by
 intro k
 induction k with
 | zero=>exact h
 | succ k ih=>exact wf_set ih _ (JD _ _ _)
theorem Dv{xs vs:List Int}(h:W8 xs)(o:Nat)(hv:W8 vs):W8 (aT xs o vs):=fun z hz=>by
 unfold aT at hz
 rcases List.mem_append.1 hz with h1 | h1
 ·exact h z (List.mem_of_mem_take h1)
 ·rcases List.mem_append.1 h1 with h2 | h2
  ·exact hv z h2
  ·exact h z (List.mem_of_mem_drop h2)
theorem J8(c:Nat)(h:c<256):(Lit.int .u8 (c:Int)).wf=true:=by
 have:(c:Int)=IntKind.u8.wrap (c:Int):=by rw[IntKind.wrap_u8];omega
 rw[this]
 exact wf_wrap _ _
theorem nmB_w8(t:ByteArray):W8 (nmB t):=fun z hz=>by
 unfold nmB at hz
 obtain⟨x,_,rfl⟩:=List.mem_map.1 hz
 exact J8 _ x.toNat_lt
theorem entN_w8{zs:List Int}(h:W8 zs)(off:Nat)(m:Mt): ∀i,W8 (sH zs off m i):=by
 intro i
 induction i with
 | zero=>exact Dv h _ (nmB_w8 _)
 | succ i ih=>exact qG ih _ _ _ _
theorem entZ_w8{zs:List Int}(h:W8 zs)(off:Nat)(m:Mt)(hc:m.ch≤2):W8 (CG zs off m):=by
 have h1:W8 ((sH zs off m 6).set (off+56) ((m.ch:Int)%256)):=wf_set (entN_w8 h off m 6) _ (by
  rw[show(m.ch:Int)%256=((m.ch:Nat):Int) by omega];exact J8 _ aa)
 unfold CG
 split
 ·exact wf_set h1 _ (by rfl)
 ·exact h1
theorem NK{zs:List Int}(h:W8 zs)(ms:List Mt)(size:Nat)(hs:size≤96)(hm: ∀i,i<ms.length→MtB (ms.getD i m0)): ∀i,i≤ms.length→W8 (hdS zs ms size i):=by
 intro i
 induction i with
 | zero=>
  intro _
  unfold hdS hd0
  exact wf_set (qG (qG (Dv h _ (by intro z hz;simp at hz;rcases hz with rfl | rfl | rfl | rfl<;>rfl)) _ _ _ _) _ _ _ _) _ (by
   rw[show(size:Int)%256=((size:Nat):Int) by omega];exact J8 _ aa)
 | succ i ih=>intro hi;exact entZ_w8 (ih aa) _ _ (hm i aa).ch
theorem NJ{zs:List Int}(h:W8 zs)(ms:List Mt)(size:Nat)(hs:size≤96)(hm: ∀i,i<ms.length→MtB (ms.getD i m0)):W8 (nT zs ms size):=qG (NK h ms size hs hm _ Me) _ _ _ _
end Go.Proofs.YtnicjahcgnhogaaGreatDoor
