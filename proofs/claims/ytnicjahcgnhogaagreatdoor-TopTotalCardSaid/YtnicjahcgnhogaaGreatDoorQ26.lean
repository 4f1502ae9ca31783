/- Part 27 of the walk: contracts of the program's functions, each for every input. No condition. -/
import Derived.Test.YtnicjahcgnhogaaGreatDoorQ25
import Derived.Test.YtnicjahcgnhogaaGreatDoorQ21
import Derived.Test.YtnicjahcgnhogaaGreatDoorQ22
set_option linter.unusedVariables false
set_option linter.unusedSimpArgs false
set_option maxRecDepth 100000
set_option maxHeartbeats 8000000
namespace Go.Proofs.YtnicjahcgnhogaaGreatDoor
open Go Go.RowKit Go.Calli
attribute [local irreducible] wpStill wpAnyH wpAnyS wpList Code.wp
theorem Di:(Tryz.prog.info? 76).map (fun i=>(i.zero,i.size,i.bytes))=some (some (.agg #[.string ⟨#[]⟩,(),.bool false,(),(),.slice none 0 0]),6,72):=by kernel_rfl
def LU(n:Nat)(rows:List Value)(w:World)(e:Ending)(w':World):Prop:=∃g cap,e= .returned (.slice (some ⟨g,0,none⟩) n cap)∧w'.ownsRow w.heap.size 76 6 (.slice (some ⟨g,0,none⟩) n cap) n rows∧Below w.heap.size w w'
theorem AC(b cap n:Nat)(hn0:0<n)(hn:n≤1000)(rows:List Value)(hl:rows.length=n*6)(h1: ∀v ∈ rows,v.oneCell'=true)(w:World)(h: ∀j u,rows[j]? =some u→w.cell? ((⟨b,0,none⟩:Addr).add j)=some u):Calls Tryz.prog 89 #[.slice (some ⟨b,0,none⟩) n cap] w (LU n rows w):=by
 have H:=MI h
 have heq: ∀W,(binOp .eql 22 (.slice (some ⟨b,0,none⟩) n cap) (.slice none 0 0)).run Tryz.prog W= .ok (.bool false) W:=fun W=>Lib.run_eql_slice_nil W 22 76 _ _ _ _ _ Tryz.underlying22
 clear h
 go_enter Tryz.func89,Tryz.ntmps89
 go_upto_region 3 with fail
 have hba:=ae w (.cells #[] 76)
 have how:(w.alloc (.cells #[] 76)).ownsRow w.heap.size 76 6 (.slice (some ⟨w.heap.size,0,none⟩) 0 0) 0 []:=⟨rfl,.inr ⟨w.heap.size,0,#[],rfl,Me,L9 _ _,Me,by unfold maxLen;omega,rfl,rfl⟩⟩
 have hcell: ∀j u,rows[j]? =some u→(w.alloc (.cells #[] 76)).cell? ((⟨b,0,none⟩:Addr).add j)=some u:=fun j u hu=>(hba.cell (World.block_lt_of_cell? w _ (H.out j u hu))).trans (H.out j u hu)
 have hsz:=hba.size
 go_wp2_with (at_builtin;refine bY rfl (.tmp 5) (.tmp 6) 22 76 6 rfl Tryz.underlying22 Di rfl (by decide) w.heap.size _ 0 [] rfl how ⟨b,0,none⟩ n cap rows hl rfl hcell h1 (by omega) (by unfold maxLen;omega) hsz ?_;intro v7 w2 ho2 hk2;rw[List.nil_append,Nat.zero_add] at ho2;obtain⟨g2,c2,rfl⟩:=iF ho2 hn0)
 go_ret
 exact⟨g2,c2,rfl,ho2,hba.trans (hk2.bg hsz (fun k hk e=>by have e2:some w.heap.size=some k:=e;injection e2 with e3;omega))⟩
def rO(s:Sr):Prop:=ku s.nl=true∧(1≤s.rate∧s.rate≤192000)∧((1≤s.cs.length∧s.cs.length≤2)∧1≤jr s∧jr s≤1048576)∧oO s.loop s.ls s.le (jr s)=true∧(∀k,k<s.cs.length→(s.cs.getD k []).length=jr s)∧(∀k,k<s.cs.length→∀j,j<jr s→-32768≤(s.cs.getD k []).getD j 0∧(s.cs.getD k []).getD j 0<32768)
def ChkP(s:Sr)(w:World)(e:Ending)(w':World):Prop:=∃err:Int,e= .returned (.int .i64 err)∧Below w.heap.size w w'∧(err=0↔rO s)
theorem chk_no{s:Sr}{w w':World}{err:Int}(hb:Below w.heap.size w w')(h0:err≠0)(hn:¬rO s):ChkP s w (.returned (.int .i64 err)) w':=⟨err,rfl,hb,fun h=>absurd h h0,fun h=>absurd h hn⟩
theorem AO(s:Sr)(w:World)(h:lY w s):Calls Tryz.prog 87 #[.agg (srA s)] w (ChkP s w):=by
 have hba:=ae w (.cells (srA s) 76)
 have hz0:=L9 w (.cells (srA s) 76)
 have hO:=h.ah hba
 have HLn:=MI (uC s _ hO)
 have HB:=MI hba
 have hNm:=MI (fun W=>uH s.nl h.nb h.nl W)
 have hLp:=MI (fun W=>vW s.loop s.ls s.le (jr s) W)
 have hsz:(Tryz.prog.info? 76).map (·.size)=some (srA s).size:=by kernel_rfl
 have HNo:=MI (fun(hn:¬rO s)(err:Int)(h0:err≠0) W (hb:Below w.heap.size w W)=>chk_no hb h0 hn)
 have HOk:=MI (show rO s↔_ from Iff.rfl)
 have HO:=MI hO
 have hn:=h.n
 clear h hba hO
 go_enter Tryz.func87,Tryz.ntmps87
 go_upto_region 2 with(first | ((with_reducible refine MC 76 1 ?_);refine wpList_load_row rfl 76 (.tmp 1) rfl w.heap.size rfl 76 (srA s) (0,0) _ hz0 Tryz.underlying76 rfl hsz ?_) | (go_at_call 92;refine HLn.out.mono ?_;rintro e w1 ⟨rfl,hb1⟩))
 change Code.wp _ _ _ _ w1
 have hr1:=rwB hz0 hb1
 have hO1:=MI (HO.out.ah hb1)
 have hB1:=MI (HB.out.trans (hb1.mono HB.out.size))
 obtain⟨a0,a1,a2,a3,a4,a5⟩:=dM hr1
 clear hb1 hr1 HB HO HLn hz0
 have hlz:Hid (jr s=jr s):=rfl
 cases c1:ku s.nl with
 | false=>
  rw[c1] at hNm
  go_wp2_with (first | (go_at_call 119;refine(hNm.out _).mono ?_;rintro e w2 ⟨rfl,rfl⟩) | (go_at_call 120;refine(hLp.out _).mono ?_;rintro e w2 ⟨rfl,rfl⟩))
  go_ret
  exact HNo.out (fun h=>by have h1:=h.1;rw[c1] at h1;cases h1) 10 (by decide) _ hB1.out
 | true=>
 rw[c1] at hNm
 go_upto_region 4 with(first | (go_at_call 119;refine(hNm.out _).mono ?_;rintro e w2 ⟨rfl,rfl⟩) | (go_at_call 120;refine(hLp.out _).mono ?_;rintro e w2 ⟨rfl,rfl⟩))
 by_cases c2:s.rate<1
 ·go_wp2_with (first | (go_at_call 119;refine(hNm.out _).mono ?_;rintro e w2 ⟨rfl,rfl⟩) | (go_at_call 120;refine(hLp.out _).mono ?_;rintro e w2 ⟨rfl,rfl⟩))
  go_ret
  exact HNo.out (fun h=>by have:=h.2.1.1;omega) 14 (by decide) _ hB1.out
 by_cases c3:192000<s.rate
 ·go_wp2_with (first | (go_at_call 119;refine(hNm.out _).mono ?_;rintro e w2 ⟨rfl,rfl⟩) | (go_at_call 120;refine(hLp.out _).mono ?_;rintro e w2 ⟨rfl,rfl⟩))
  go_ret
  exact HNo.out (fun h=>by have:=h.2.1.2;omega) 14 (by decide) _ hB1.out
 go_upto_region 6 with fail
 by_cases c4:(s.cs.length:Int)<1
 ·go_wp2_with (first | (go_at_call 119;refine(hNm.out _).mono ?_;rintro e w2 ⟨rfl,rfl⟩) | (go_at_call 120;refine(hLp.out _).mono ?_;rintro e w2 ⟨rfl,rfl⟩))
  go_ret
  exact HNo.out (fun h=>by have:=h.2.2.1.1.1;omega) 12 (by decide) _ hB1.out
 by_cases c5:2<(s.cs.length:Int)
 ·go_wp2_with (first | (go_at_call 119;refine(hNm.out _).mono ?_;rintro e w2 ⟨rfl,rfl⟩) | (go_at_call 120;refine(hLp.out _).mono ?_;rintro e w2 ⟨rfl,rfl⟩))
  go_ret
  exact HNo.out (fun h=>by have:=h.2.2.1.1.2;omega) 12 (by decide) _ hB1.out
 by_cases c6:(jr s:Int)<1
 ·go_wp2_with (first | (go_at_call 119;refine(hNm.out _).mono ?_;rintro e w2 ⟨rfl,rfl⟩) | (go_at_call 120;refine(hLp.out _).mono ?_;rintro e w2 ⟨rfl,rfl⟩))
  go_ret
  exact HNo.out (fun h=>by have:=h.2.2.1.2.1;omega) 12 (by decide) _ hB1.out
 by_cases c7:1048576<(jr s:Int)
 ·go_wp2_with (first | (go_at_call 119;refine(hNm.out _).mono ?_;rintro e w2 ⟨rfl,rfl⟩) | (go_at_call 120;refine(hLp.out _).mono ?_;rintro e w2 ⟨rfl,rfl⟩))
  go_ret
  exact HNo.out (fun h=>by have:=h.2.2.1.2.2;omega) 12 (by decide) _ hB1.out
 go_upto_region 8 with fail
 cases c8:oO s.loop s.ls s.le (jr s) with
 | false=>
  rw[c8] at hLp
  go_wp2_with (first | (go_at_call 119;refine(hNm.out _).mono ?_;rintro e w2 ⟨rfl,rfl⟩) | (go_at_call 120;refine(hLp.out _).mono ?_;rintro e w2 ⟨rfl,rfl⟩))
  go_ret
  exact HNo.out (fun h=>by have:=h.2.2.2.1;rw[c8] at this;cases this) 13 (by decide) _ hB1.out
 | true=>
 rw[c8] at hLp
 go_upto_region 11 with(first | (go_at_call 119;refine(hNm.out _).mono ?_;rintro e w2 ⟨rfl,rfl⟩) | (go_at_call 120;refine(hLp.out _).mono ?_;rintro e w2 ⟨rfl,rfl⟩))
 go_loop [58] (fun v58=>∃i:Nat,i≤s.cs.length∧v58= .int .i64 (i:Int)∧Hid (∀k,k<i→(s.cs.getD k []).length=jr s)) (fun v58=>s.cs.length - aG v58)
 case atStart=>exact⟨0,by omega,rfl,fun k hk=>by omega⟩
 case round=>
  obtain⟨i,hi,rfl,hok⟩:=hrel
  by_cases hin:i<s.cs.length
  ·have hin2:(i:Int)<(s.cs.length:Int):=by omega
   obtain⟨a,ao,cap,hd,hc,hI⟩:=hO1.out.c i hin
   rw[hd] at a5
   have hlm:=hI.lim
   unfold maxLen at hlm
   clear hI
   by_cases c9:(s.cs.getD i []).length=jr s
   ·have c9b:Hid ((s.cs.getD i []).length=jr s):=c9
    rw[c9] at hc
    go_wp2_with fail
    exact⟨⟨i+1,by omega,by go_num,fun k hk=>by
     rcases Nat.lt_or_ge k i with h5 | h5
     ·exact hok k h5
     ·obtain rfl:k=i:=by omega
      exact c9b⟩,by simp[aG];omega⟩
   ·have c9n:=HNo.out (fun h=>c9 (h.2.2.2.2.1 i hin)) 12 (by decide) _ hB1.out
    generalize (s.cs.getD i []).length=q at*
    have c9i:¬((q:Int)=(jr s:Int)):=by omega
    have c9k:((q:Int)==(jr s:Int))=false:=beq_eq_false_iff_ne.2 c9i
    go_wp2_with fail
    go_ret
    exact c9n
  ·obtain rfl:i=s.cs.length:=by omega
   go_upto_region 17 with fail
   go_loop [70] (fun v70=>∃j:Nat,j≤s.cs.length∧v70= .int .i64 (j:Int)∧Hid (∀k,k<j→∀x,x<jr s→-32768≤(s.cs.getD k []).getD x 0∧(s.cs.getD k []).getD x 0<32768)) (fun v70=>s.cs.length - aG v70)
   case atStart=>exact⟨0,by omega,rfl,fun k hk=>by omega⟩
   case round=>
    obtain⟨j,hj,rfl,hok2⟩:=hrel
    by_cases hjn:j<s.cs.length
    ·have hjn2:(j:Int)<(s.cs.length:Int):=by omega
     obtain⟨a,ao,cap,hd,hc,hI⟩:=hO1.out.c j hjn
     rw[hok j hjn] at hc hI
     have HI:=MI hI
     rw[hd] at a5
     clear hI
     go_upto_region 20 with fail
     go_loop [76] (fun v76=>∃x:Nat,x≤jr s∧v76= .int .i64 (x:Int)∧Hid (∀y,y<x→-32768≤(s.cs.getD j []).getD y 0∧(s.cs.getD j []).getD y 0<32768)) (fun v76=>jr s - aG v76)
     case atStart=>exact⟨0,by omega,rfl,fun k hk=>by omega⟩
     case round=>
      obtain⟨x,hx,rfl,hok3⟩:=hrel
      by_cases hxn:x<jr s
      ·have hxn2:(x:Int)<(jr s:Int):=by omega
       obtain⟨b,c,rfl,hcv,hcell,-⟩:=HI.out.int hxn
       by_cases h1:c< -32768
       ·have hno:=HNo.out (fun h=>by have:=(h.2.2.2.2.2 j hjn x hxn).1;rw[hcv.out] at this;omega) 5 (by decide) _ hB1.out
        go_wp2_with fail
        go_ret
        exact hno
       ·by_cases h2:32768≤c
        ·have hno:=HNo.out (fun h=>by have:=(h.2.2.2.2.2 j hjn x hxn).2;rw[hcv.out] at this;omega) 5 (by decide) _ hB1.out
         go_wp2_with fail
         go_ret
         exact hno
        ·go_wp2_with fail
         exact⟨⟨x+1,by omega,by go_num,fun y hy=>by
          rcases Nat.lt_or_ge y x with h5 | h5
          ·exact hok3 y h5
          ·obtain rfl:y=x:=by omega
           rw[hcv.out]
           omega⟩,by simp[aG];omega⟩
      ·obtain rfl:x=jr s:=by omega
       have hok4:Hid (∀k,k<j+1→∀x,x<jr s→-32768≤(s.cs.getD k []).getD x 0∧(s.cs.getD k []).getD x 0<32768):=fun k hk=>by
        rcases Nat.lt_or_ge k j with h5 | h5
        ·exact hok2 k h5
        ·obtain rfl:k=j:=by omega
         exact hok3
       go_wp2_with fail
       exact⟨⟨_,_,_,.int .i64 ((j+1:Nat):Int),⟨j+1,by omega,rfl,hok4⟩,rfl,rfl,rfl,by go_num⟩,by simp[aG];omega⟩
    ·obtain rfl:j=s.cs.length:=by omega
     go_wp2_with fail
     go_ret
     exact⟨0,rfl,hB1.out,fun _=>⟨c1,⟨by omega,by omega⟩,⟨⟨by omega,by omega⟩,by omega,by omega⟩,c8,hok,hok2⟩,fun _=>rfl⟩
def Z76:Array Value:=#[.string ⟨#[]⟩,(),.bool false,(),(),.slice none 0 0]
theorem D5(s:Sr): ∀v ∈ srV s,v.oneCell'=true:=fun v hv=>by
 unfold srV at hv
 simp only[List.mem_cons,List.not_mem_nil,or_false] at hv
 rcases hv with rfl | rfl | rfl | rfl | rfl | rfl<;>rfl
theorem info9s:(Tryz.prog.info? 9).map (fun i=>(i.zero,i.size,i.bytes))=some (some (.string ⟨#[]⟩),1,16):=by kernel_rfl
theorem BK(b cap:Nat)(s:Sr)(w:World)(h: ∀j u,(srV s)[j]? =some u→w.cell? ((⟨b,0,none⟩:Addr).add j)=some u):Calls Tryz.prog 56 #[.slice (some ⟨b,0,none⟩) 1 cap] w (LU 1 (srV s) w):=by
 have hc:=MI (AC b cap 1 (by decide) (by decide) (srV s) rfl (D5 s) w h)
 clear h
 go_enter Tryz.func56,Tryz.ntmps56
 go_wp2_with (first | (go_at_call 89;refine hc.out.mono ?_;rintro e w2 ⟨g,c,rfl,ho,hb⟩) | (go_at_call 90;refine(zh _ _ _ _).mono ?_;rintro e w3 ⟨rfl,rfl⟩))
 go_ret
 exact⟨g,c,rfl,ho,hb⟩
theorem uZ(b cap:Nat)(s:Sr)(w:World)(hS:lY w s)(h:w.rangeAt b 0 (srV s)):Calls Tryz.prog 55 #[.slice (some ⟨b,0,none⟩) 1 cap] w (ChkP s w):=by
 have HS:=MI hS
 have H:=MI h
 have hsz:(Tryz.prog.info? 76).map (·.size)=some (srV s).length:=by kernel_rfl
 have hsz2:(Tryz.prog.info? 76).map (·.size)=some (srA s).size:=by kernel_rfl
 have hone:(srA s).all (·.oneCell')=true:=by kernel_rfl
 have hCk:=MI (fun W h=>AO s W h)
 clear hS h
 go_enter Tryz.func55,Tryz.ntmps55
 go_upto_region 5 with fail
 go_loopw [3,13] (fun v3 v13 wr=>(v13= .int .i64 0∧v3= .slice none 0 0∧w=wr)∨(∃g c,v13= .int .i64 1∧v3= .slice (some ⟨g,0,none⟩) 1 c∧Below w.heap.size w wr∧rO s)) (fun _ v13 _=>1 - aG v13)
 case atStart=>exact .inl ⟨rfl,rfl,rfl⟩
 case round=>
  rcases hrel with⟨rfl,rfl,rfl⟩ | ⟨g,c,rfl,rfl,hB,hok⟩
  ·have hr:=H.out
   go_upto_region 7 with(first
    | ((with_reducible refine MC 76 15 ?_);refine wpList_load_mid rfl 76 (.tmp 15) rfl b 0 rfl (srV s) _ hr Tryz.underlying76 rfl hsz ?_;rw[show(srV s).toArray=srA s from rfl])
    | ((with_reducible refine MF 76 5 16 ?_);refine wpList_store_row rfl 76 (.tmp 5) (.tmp 16) rfl _ (srA s) rfl rfl 76 (Z76) (L9 _ _) hsz2 rfl hone ?_))
   have hbx:Below w.heap.size w ((w.alloc (.cells Z76 76)).setRow w.heap.size (srA s)):=below_setRow (ae w (.cells Z76 76)) Me _
   have hxb:=Md (srA s) (L9 w (.cells Z76 76))
   have hSX:=HS.out.ah hbx
   change Code.wp _ _ _ _ ((w.alloc (.cells Z76 76)).setRow w.heap.size (srA s))
   generalize (w.alloc (.cells Z76 76)).setRow w.heap.size (srA s)=X at*
   have hP:=MI (hCk.out X hSX)
   have HBX:=MI hbx
   clear hSX hr hbx
   go_upto_region 8 with(first
    | ((with_reducible refine MC 76 5 ?_);refine wpList_load_row rfl 76 (.tmp 5) rfl w.heap.size rfl 76 (srA s) (0,0) _ hxb Tryz.underlying76 rfl hsz2 ?_)
    | (go_at_call 87;refine hP.out.mono ?_;rintro e w2 ⟨err,rfl,hb2,hiff⟩))
   have hr2:=rwB hxb hb2
   obtain⟨a0,a1,a2,a3,a4,a5⟩:=dM hr2
   have HB2:=MI (HBX.out.trans (hb2.mono HBX.out.size))
   clear hb2 hr2 hxb
   by_cases he:err=0
   case neg=>
    have heb:(err !=0)=true:=by simpa using he
    go_wp2_with fail
    go_ret
    exact⟨err,rfl,HB2.out,hiff⟩
   subst he
   have hok:=hiff.1 rfl
   have hbs:=ae w2 (.cells #[.string (strOfNums s.nl)] 9)
   have hB3:=HB2.out.trans (hbs.mono HB2.out.size)
   have hz3:=L9 w2 (.cells #[.string (strOfNums s.nl)] 9)
   have hnil:(w2.alloc (.cells #[.string (strOfNums s.nl)] 9)).ownsRow w.heap.size 9 1 (.slice none 0 0) 0 []:=World.ownsRow_nil _ _ _ _
   have hcell: ∀j u,[Value.string (strOfNums s.nl)][j]? =some u→(w2.alloc (.cells #[.string (strOfNums s.nl)] 9)).cell? ((⟨w2.heap.size,0,none⟩:Addr).add j)=some u:=fun j u hu=>by
    rw[add0,Nat.zero_add,LZ hz3]
    rw[←hu]
    simp
   have hsz3:=hB3.size
   have hws: ∀u ∈ [Value.string (strOfNums s.nl)],u.oneCell'=true:=fun u hu=>by
    rw[List.mem_singleton] at hu
    subst hu
    rfl
   clear hbs
   go_wp2_with (at_builtin;refine bY rfl (.tmp 22) (.tmp 25) 182 9 1 rfl Tryz.underlying182 info9s rfl (by decide) w.heap.size _ 0 [] rfl hnil ⟨w2.heap.size,0,none⟩ 1 1 [.string (strOfNums s.nl)] rfl rfl hcell hws (by omega) (by unfold maxLen;omega) hsz3 ?_;intro v26 w5 ho5 hk5;rw[List.nil_append,Nat.zero_add] at ho5;obtain⟨g5,c5,rfl⟩:=iF ho5 (by decide))
   exact⟨.inr ⟨g5,c5,by go_num,rfl,hB3.trans (hk5.bg hsz3 (fun k hk e=>by cases e)),hok⟩,by simp[aG]⟩
  ·have HB:=MI hB
   have HOK:=MI hok
   clear hB hok
   go_upto_region 14 with(go_at_call 88;refine(BJ _ _ _).mono ?_;rintro e w3 ⟨rfl,rfl⟩)
   go_loop [7] (fun v7=>v7= .int .i64 1) (fun _=>0)
   case atStart=>rfl
   case round=>
    subst hrel
    go_wp2_with fail
    go_ret
    exact⟨0,rfl,HB.out,fun _=>HOK.out,fun _=>rfl⟩
def sD(s:Sr)(g c:Nat):Sr:={s with d:=some ⟨g,0,none⟩,dc:=c}
def FewP(s:Sr)(w:World)(e:Ending)(w':World):Prop:=∃g c,e= .returned (.agg (srA (sD s g c)))∧Below w.heap.size w w'∧lY w' (sD s g c)∧w.heap.size≤g
theorem info33s:(Tryz.prog.info? 33).map (fun i=>(i.zero,i.size,i.bytes))=some (some (.slice none 0 0),1,24):=by kernel_rfl
theorem GN(s:Sr)(hnl:s.nl.length≤100)(l:List Int)(hcs:s.cs=[l])(hl:l.length≤150)(w:World)(h:lY w s):Calls Tryz.prog 60 #[.agg (srA s)] w (FewP s w):=by
 obtain⟨nl,rate,loop,ls,le,d,dc,cs⟩:=s
 obtain rfl:cs=[l]:=hcs
 obtain⟨a,ao,cap,hd,hc,hI⟩:=h.c 0 (by show 0<1;omega)
 obtain rfl:d=some a:=hd
 have hc:w.cell? a=some (.slice ao l.length cap):=by rw[←oq a];exact hc
 have hI:Ints .i64 w ao l.length l:=hI
 have hn1:¬(100:Int)<((strOfNums nl).size:Int):=by rw[strOfNums_size];have h5:nl.length≤100:=hnl;omega
 have hn2:¬(150:Int)<(l.length:Int):=by omega
 have hba:=ae w (.cells (srA ⟨nl,rate,loop,ls,le,some a,dc,[l]⟩) 76)
 have hz0:=L9 w (.cells (srA ⟨nl,rate,loop,ls,le,some a,dc,[l]⟩) 76)
 have hb1:=ae (w.alloc (.cells (srA ⟨nl,rate,loop,ls,le,some a,dc,[l]⟩) 76)) (.cells Z76 76)
 have hz1:=L9 (w.alloc (.cells (srA ⟨nl,rate,loop,ls,le,some a,dc,[l]⟩) 76)) (.cells Z76 76)
 have hz0:=rwB hz0 hb1
 have hB:=hba.trans (hb1.mono hba.size)
 rw[World.size_alloc] at hz1
 have hc2:=(hB.cell (World.block_lt_of_cell? w _ hc)).trans hc
 have HI:=MI hI
 have HB:=MI hB
 have hnb:=h.nb
 have hnl2:=h.nl
 have hs76:(Tryz.prog.info? 76).map (·.size)=some 6:=by kernel_rfl
 clear hba hb1 hB hI h hc hnl
 go_enter Tryz.func60,Tryz.ntmps60
 go_upto_region 1 with fail
 change Code.wp _ _ _ _ ((w.alloc (.cells (srA ⟨nl,rate,loop,ls,le,some a,dc,[l]⟩) 76)).alloc (.cells Z76 76))
 generalize (w.alloc (.cells (srA ⟨nl,rate,loop,ls,le,some a,dc,[l]⟩) 76)).alloc (.cells Z76 76)=W at*
 have hWs:=HB.out.size
 obtain⟨a0,a1,a2,a3,a4,a5⟩:=dM hz0
 go_upto_region 5 with fail
 have HZ0:=MI hz0
 have HZ1:=MI hz1
 have HC:=MI hc2
 clear a0 a1 a2 a3 a4 a5 hz0 hz1 hc2
 go_loopw [3,4] (fun v3 v4 wr=>Below W.heap.size W wr∧((v4= .int .i64 0∧v3= .slice none 0 0)∨(∃g c,v4= .int .i64 1∧v3= .slice (some ⟨g,0,none⟩) 1 c∧wr.ownsRow W.heap.size 33 1 v3 1 [.slice ao l.length cap]))) (fun _ v4 _=>1 - aG v4)
 case atStart=>exact⟨Below.refl _ _,.inl ⟨rfl,rfl⟩⟩
 case round=>
  obtain⟨hb,⟨rfl,rfl⟩ | ⟨g,c,rfl,rfl,hO⟩⟩:=hrel
  ·obtain⟨a0,a1,a2,a3,a4,a5⟩:=dM (rwB HZ0.out hb)
   have hcc:=(hb.cell (World.block_lt_of_cell? W _ HC.out)).trans HC.out
   have hbs:=ae wr (.cells #[.slice ao l.length cap] 33)
   have hB3:=hb.trans (hbs.mono hb.size)
   have hz3:=L9 wr (.cells #[.slice ao l.length cap] 33)
   have hnil:(wr.alloc (.cells #[.slice ao l.length cap] 33)).ownsRow W.heap.size 33 1 (.slice none 0 0) 0 []:=World.ownsRow_nil _ _ _ _
   have hcell: ∀j u,[Value.slice ao l.length cap][j]? =some u→(wr.alloc (.cells #[.slice ao l.length cap] 33)).cell? ((⟨wr.heap.size,0,none⟩:Addr).add j)=some u:=fun j u hu=>by
    rw[add0,Nat.zero_add,LZ hz3]
    rw[←hu]
    simp
   have hsz3:=hB3.size
   have hws: ∀u ∈ [Value.slice ao l.length cap],u.oneCell'=true:=fun u hu=>by
    rw[List.mem_singleton] at hu
    subst hu
    rfl
   clear hbs hb
   go_wp2_with (at_builtin;refine bY rfl (.tmp 35) (.tmp 37) 74 33 1 rfl Tryz.underlying74 info33s rfl (by decide) W.heap.size _ 0 [] rfl hnil ⟨wr.heap.size,0,none⟩ 1 1 [.slice ao l.length cap] rfl rfl hcell hws (by omega) (by unfold maxLen;omega) hsz3 ?_;intro v26 w5 ho5 hk5;rw[List.nil_append,Nat.zero_add] at ho5;obtain⟨g5,c5,rfl⟩:=iF ho5 (by decide))
   exact⟨⟨hB3.trans (hk5.bg hsz3 (fun k hk e=>by cases e)),.inr ⟨g5,c5,by go_num,rfl,ho5⟩⟩,by simp[aG]⟩
  ·obtain⟨a0,a1,a2,a3,a4,a5⟩:=dM (rwB HZ0.out hb)
   have hr0:=rwB HZ0.out hb
   have hr1:=rwB HZ1.out hb
   have hneb:w.heap.size+1≠w.heap.size:=by omega
   have hr0s:=jM [.string (strOfNums nl),.int .i64 rate,.bool loop,.int .i64 ls,.int .i64 le] [] (.slice (some a) 1 dc) (.slice (some ⟨g,0,none⟩) 1 c) hr0
   have hr0s:(wr.setCell ⟨w.heap.size,5,none⟩ (.slice (some ⟨g,0,none⟩) 1 c)).heap[w.heap.size]? =some (.cells (srA (sD ⟨nl,rate,loop,ls,le,some a,dc,[l]⟩ g c)) 76 (0,0)):=hr0s
   have hks:=aC wr w.heap.size 5 (.slice (some ⟨g,0,none⟩) 1 c)
   have hr1s:=hks.heap hr1 (fun e=>hneb e)
   have hBS:Below w.heap.size w (wr.setCell ⟨w.heap.size,5,none⟩ (.slice (some ⟨g,0,none⟩) 1 c)):=(HB.out.trans (hb.mono hWs)).trans (hks.bg (HB.out.trans (hb.mono hWs)).size (fun k hk e=>by have e2:k=w.heap.size:=e;omega))
   have hge:W.heap.size≤g:=mr hO rfl
   have hgw:w.heap.size+1<W.heap.size:=L8 HZ1.out
   have hcg:wr.cell? ⟨g,0,none⟩=some (.slice ao l.length cap):=hO.cells (g:=g) rfl 0 _ rfl
   have hcgs:(wr.setCell ⟨w.heap.size,5,none⟩ (.slice (some ⟨g,0,none⟩) 1 c)).cell? ⟨g,0,none⟩=some (.slice ao l.length cap):=hks.cell hcg (fun e=>by have e2:g=w.heap.size:=e;omega)
   have hsr:(Tryz.prog.info? 76).map (·.size)=some (srA (sD ⟨nl,rate,loop,ls,le,some a,dc,[l]⟩ g c)).size:=by kernel_rfl
   have hone:(srA (sD ⟨nl,rate,loop,ls,le,some a,dc,[l]⟩ g c)).all (·.oneCell')=true:=by kernel_rfl
   have HIX:=MI (HI.out.ah hBS)
   have HBS:=MI hBS
   have hfz:=aj hr0 5
   have hnbS:Byt nl:=hnb
   clear hO hks hBS hb hr0 hr1 hcg
   go_upto_region 12 with fail
   generalize wr.setCell ⟨w.heap.size,5,none⟩ (.slice (some ⟨g,0,none⟩) 1 c)=X at*
   have hxb:=Md (srA (sD ⟨nl,rate,loop,ls,le,some a,dc,[l]⟩ g c)) hr1s
   have hBF:=below_setRow HBS.out (show w.heap.size≤w.heap.size+1 by omega) (srA (sD ⟨nl,rate,loop,ls,le,some a,dc,[l]⟩ g c))
   have hcgf:(X.setRow (w.heap.size+1) (srA (sD ⟨nl,rate,loop,ls,le,some a,dc,[l]⟩ g c))).cell? ⟨g,0,none⟩=some (.slice ao l.length cap):=(cell_setRow_other _ _ _ _ (show g≠w.heap.size+1 by omega)).trans hcgs
   have HBF:=MI hBF
   clear hBF
   go_wp2_with (first | ((with_reducible refine MC 76 1 ?_);refine wpList_load_row rfl 76 (.tmp 1) rfl w.heap.size rfl 76 (srA (sD ⟨nl,rate,loop,ls,le,some a,dc,[l]⟩ g c)) (0,0) _ hr0s Tryz.underlying76 rfl hsr ?_) | ((with_reducible refine MF 76 2 41 ?_);refine wpList_store_row rfl 76 (.tmp 2) (.tmp 41) rfl _ (srA (sD ⟨nl,rate,loop,ls,le,some a,dc,[l]⟩ g c)) rfl rfl 76 (Z76) hr1s hsr rfl hone ?_))
   exact bodyPost_ret (results_cell_row rfl _ _ (w.heap.size+1) 76 _ (0,0) _ rfl hxb Tryz.underlying76 rfl hsr) rfl ⟨g,c,rfl,HBF.out,⟨hnbS,hnl2,by show 1≤1000000;omega,fun k hk=>by
    have hk1:k<1:=hk
    obtain rfl:k=0:=by omega
    exact⟨_,ao,cap,rfl,hcgf,HI.out.ah HBF.out⟩⟩,by omega⟩
theorem fill76(s:Sr):Instr.fill (fun i=>some (i*6,6)) ((Array.range (1*6)).map ((Value.agg #[.string ⟨#[]⟩,(),.bool false,(),(),.slice none 0 0]).cells[· %(Value.agg #[.string ⟨#[]⟩,(),.bool false,(),(),.slice none 0 0]).cells.size]!)) [(0,Value.agg (srA s))]=some (srA s):=by
 kernel_rfl
theorem DK{w:World}{b:Nat}{s:Sr}(h:w.heap[b]? =some (.cells (srA s) 76 (0,0))): ∀j u,(srV s)[j]? =some u→w.cell? ((⟨b,0,none⟩:Addr).add j)=some u:=fun j u hu=>by
 rw[add0,Nat.zero_add,LZ h,show srA s=(srV s).toArray from rfl,List.getElem?_toArray]
 exact hu
def Few20P(s:Sr)(w:World)(e:Ending)(w':World):Prop:=∃b cap g c,e= .returned (.slice (some ⟨b,0,none⟩) 1 cap)∧w'.ownsRow w.heap.size 76 6 (.slice (some ⟨b,0,none⟩) 1 cap) 1 (srV (sD s g c))∧Below w.heap.size w w'∧lY w' (sD s g c)∧w.heap.size≤g
theorem GR(b0 c0:Nat)(s:Sr)(hnl:s.nl.length≤100)(l:List Int)(hcs:s.cs=[l])(hl:l.length≤150)(w:World)(hS:lY w s)(h:w.rangeAt b0 0 (srV s)):Calls Tryz.prog 20 #[.slice (some ⟨b0,0,none⟩) 1 c0] w (Few20P s w):=by
 have hF:=MI (GN s hnl l hcs hl w hS)
 have H:=MI h
 have hsz:(Tryz.prog.info? 76).map (·.size)=some (srV s).length:=by kernel_rfl
 obtain⟨ie,hie,hiz,hiS0,-⟩:=info_parts Di
 clear hS h
 go_enter Tryz.func20,Tryz.ntmps20
 go_upto_region 3 with fail
 go_loopw [3,4] (fun v3 v4 wr=>(v4= .int .i64 0∧v3= .slice none 0 0∧w=wr)∨(∃b cap g c,v4= .int .i64 1∧v3= .slice (some ⟨b,0,none⟩) 1 cap∧wr.ownsRow w.heap.size 76 6 (.slice (some ⟨b,0,none⟩) 1 cap) 1 (srV (sD s g c))∧Below w.heap.size w wr∧lY wr (sD s g c)∧w.heap.size≤g)) (fun _ v4 _=>1 - aG v4)
 case atStart=>exact .inl ⟨rfl,rfl,rfl⟩
 case round=>
  rcases hrel with⟨rfl,rfl,rfl⟩ | ⟨b,cap,g,c,rfl,rfl,hO,hB,hS,hg⟩
  ·have hr:=H.out
   have hiS:¬1*ie.size>2^24:=by rw[hiS0];decide
   have hiP:¬1*ie.size=0:=by rw[hiS0];decide
   go_wp2_with (first
    | ((with_reducible refine MC 76 18 ?_);refine wpList_load_mid rfl 76 (.tmp 18) rfl b0 0 rfl (srV s) _ hr Tryz.underlying76 rfl hsz ?_;rw[show(srV s).toArray=srA s from rfl])
    | (go_at_call 60;refine hF.out.mono ?_;rintro e w2 ⟨g,c,rfl,hb2,hs2,hg2⟩;have hfill:=fill76 (sD s g c);rw[←hiS0] at hfill;have hbs:=ae w2 (.cells (srA (sD s g c)) 76);have hz3:=L9 w2 (.cells (srA (sD s g c)) 76);have hnil:(w2.alloc (.cells (srA (sD s g c)) 76)).ownsRow w.heap.size 76 6 (.slice none 0 0) 0 []:=World.ownsRow_nil _ _ _ _;have hB3:=hb2.trans (hbs.mono hb2.size);have hS3:=hs2.ah hbs;have hsz3:=hB3.size;have hcell:=DK hz3;clear hbs hb2 hs2;generalize hsd:sD s g c=s2 at*)
    | ((with_reducible show wpList _ _ _ (Oper.mk _ (Op.buildSlice 22 _ _) _ _ _ _::_) _ _);refine wpList_buildSlice rfl 22 76 1 _ rfl (srA s2) ie (.agg #[.string ⟨#[]⟩,(),.bool false,(),(),.slice none 0 0]) Tryz.underlying22 hie hiz hiS hiP (Eq.trans (congrArg (Instr.fill _ _) (show _=[(0,Value.agg (srA s2))] by kernel_rfl)) hfill) ?_)
    | (at_builtin;refine bY rfl (.tmp 15) (.tmp 21) 22 76 6 rfl Tryz.underlying22 Di rfl (by decide) w.heap.size _ 0 [] rfl hnil ⟨w2.heap.size,0,none⟩ 1 1 (srV s2) rfl rfl hcell (D5 s2) (by omega) (by unfold maxLen;omega) hsz3 ?_;intro v26 w5 ho5 hk5;rw[List.nil_append,Nat.zero_add] at ho5;obtain⟨g5,c5,rfl⟩:=iF ho5 (by decide)))
   have hb5:Below (w2.alloc (.cells (srA s2) 76)).heap.size (w2.alloc (.cells (srA s2) 76)) w5:=hk5.bg Me (fun k hk e=>by cases e)
   exact⟨.inr ⟨g5,c5,g,c,by go_num,rfl,by rw[hsd];exact ho5,hB3.trans (hb5.mono hsz3),by rw[hsd];exact hS3.ah hb5,hg2⟩,by simp[aG]⟩
  ·have HB:=MI hB
   have HO:=MI hO
   have HS:=MI hS
   clear hB hO hS
   go_wp2_with fail
   go_ret
   exact⟨b,cap,g,c,rfl,HO.out,HB.out,HS.out,hg⟩
def fF(bs:List Int):Mt:=⟨strOfNums (oK (bs.take 32)),aZ bs 32 4,aZ bs 36 4,(bs.getD 56 0).toNat,decide (bs.getD 57 0=1),aZ bs 40 4,aZ bs 44 4,aZ bs 48 4,aZ bs 52 4⟩
def yj(bs:List Int)(k:Nat):Bool:=(List.range k).all (fun j=>decide (bs.getD (58+j) 0=0))
def okM(bs:List Int):Bool:=yj bs 6&&(decide (bs.getD 57 0≤1)&&mg (fF bs))
def vL(bs:List Int)(k:Nat):List Int:=(List.range 6).map (fun j=>if j<k then((aZ bs (32+4*j) 4:Nat):Int) else 0)
theorem xQ(bs:List Int)(k:Nat):(vL bs k).length=6:=by simp[vL]
theorem vL_set(bs:List Int)(k:Nat)(h:k<6):(vL bs k).set k ((aZ bs (32+4*k) 4:Nat):Int)=vL bs (k+1):=by
 apply List.ext_getElem (by rw[List.length_set,xQ,xQ])
 intro j h1 h2
 rw[xQ] at h2
 rw[List.getElem_set]
 simp only[vL,List.getElem_map,List.getElem_range]
 by_cases hj:k=j
 ·subst hj;simp
 ·rw[if_neg hj]
  by_cases h3:j<k
  ·rw[if_pos h3,if_pos (by omega)]
  ·rw[if_neg h3,if_neg (by omega)]
def EO:Array Value:=#[.string ⟨#[]⟩,(),(),(),.bool false,(),(),(),()]
theorem byte_at{w:World}{ib o n:Nat}{bs:List Int}(h:Ints .u8 w (some ⟨ib,o,none⟩) n bs){i:Nat}(hi:i<n): ∃c:Nat,Hid (bs.getD i 0=(c:Int))∧w.cell? ⟨ib,o+i,none⟩=some (.int .u8 c)∧c<256:=by
 obtain⟨a,c,ha,h1,h2,h3⟩:=h.byte hi
 cases ha
 rw[add0] at h2
 exact⟨c,h1,h2,h3⟩
theorem Gm(bs:List Int)(k:Nat):yj bs (k+1)=(yj bs k&&decide (bs.getD (58+k) 0=0)):=by
 unfold yj
 rw[List.range_succ,List.all_append]
 simp
theorem Cj(bs:List Int)(k:Nat)(hk:k<6)(h:bs.getD (58+k) 0≠0):yj bs 6=false:=by
 unfold yj
 rw[←Bool.not_eq_true,List.all_eq_true]
 intro h2
 exact h (of_decide_eq_true (h2 k (List.mem_range.2 hk)))
theorem lQ{w:World}{b:Nat}{m:Mt}{T:Nat}(h:w.heap[b]? =some (.cells (aB m) T (0,0))):w.rangeAt b 0 (aP m):=fun j v hv=>by
 rw[Nat.zero_add]
 refine(LZ h).trans ?_
 show(aP m).toArray[j]? =some v
 simpa using hv
theorem wQ{w:World}{b T:Nat}{cs:Array Value}(h:w.heap[b]? =some (.cells cs T (0,0))):w.frozen? ⟨b,0,none⟩=false∧w.frozen? ⟨b,1,none⟩=false∧w.frozen? ⟨b,2,none⟩=false∧w.frozen? ⟨b,3,none⟩=false∧w.frozen? ⟨b,4,none⟩=false∧w.frozen? ⟨b,5,none⟩=false∧w.frozen? ⟨b,6,none⟩=false∧w.frozen? ⟨b,7,none⟩=false∧w.frozen? ⟨b,8,none⟩=false:=
 ⟨L6 h,L6 h,L6 h,L6 h,L6 h,L6 h,L6 h,L6 h,L6 h⟩
theorem mF(m:Mt):(Tryz.prog.info? 54).map (·.size)=some (aB m).size:=by kernel_rfl
theorem heap_drew{w:World}{b:Nat}{o:Obj}(h:w.heap[b]? =some o):w.drew.heap[b]? =some o:=h
theorem set9(w:World)(b:Nat)(m:Mt):((((((((w.setCell ⟨b,0,none⟩ (.string m.nm)).setCell ⟨b,1,none⟩ (.int .i64 m.len)).setCell ⟨b,2,none⟩ (.int .i64 m.rate)).setCell ⟨b,3,none⟩ (.int .i64 m.ch)).setCell ⟨b,4,none⟩ (.bool m.loop)).setCell ⟨b,5,none⟩ (.int .i64 m.ls)).setCell ⟨b,6,none⟩ (.int .i64 m.le)).setCell ⟨b,7,none⟩ (.int .i64 m.sums)).setCell ⟨b,8,none⟩ (.int .i64 m.first)=w.setCells b 0 (aP m):=by simp only[aP,World.setCells]
def LC(bs:List Int)(w:World)(e:Ending)(w':World):Prop:=∃m,e= .returned (.tuple #[.agg (aB m),.bool (okM bs)])∧m=fF bs∧Below w.heap.size w w'
theorem Hg(ib o:Nat)(n cap:Nat)(bs:List Int)(h64:64≤n)(hn:n≤60000)(hcap:n≤cap)(w:World)(h:Ints .u8 w (some ⟨ib,o,none⟩) n bs):Calls Tryz.prog 48 #[.slice (some ⟨ib,o,none⟩) n cap] w (LC bs w):=by
 have hb:=ae w (.cells EO 54)
 have hz:=L9 w (.cells EO 54)
 have hI:=h.ah hb
 have hbyt:Byt bs:=fun z hz=>by have:=bounds_u8 (h.wf z hz);omega
 have hcv:=xA (P:=Tryz.prog) (hI.take (show 32≤n by omega)) 63 5 9 cap rfl rfl rfl
 have hlen:=h.hlen
 have HTr:=MI (Iy (bs.take 32) (hbyt.take 32) (by rw[List.length_take];omega) (by rw[List.length_take];omega) (w.alloc (.cells EO 54)))
 have HI:=MI hI
 have HB:=MI hb
 have HH:=MI h
 have HZ:=MI hz
 have HBy:=MI hbyt
 clear h hb hz hI hbyt
 unfold EO at*
 obtain⟨nm,hnm⟩: ∃nm,nm=strOfNums (oK (bs.take 32)):=⟨_,rfl⟩
 rw[←hnm] at HTr
 have HNm:=MI hnm
 clear hnm
 go_enter Tryz.func48,Tryz.ntmps48
 go_upto_region 2 with(go_at_call 80;refine HTr.out.mono ?_;rintro e w' ⟨rfl,rfl⟩)
 generalize w.alloc (.cells #[.string ⟨#[]⟩,(),(),(),.bool false,(),(),(),()] 54)=W1 at*
 have hsz1:w.heap.size<W1.heap.size:=L8 HZ.out
 have hv0:(W1.alloc (.cells #[(),(),(),(),(),()] 163)).heap[W1.heap.size]? =some (.cells (iA (vL bs 0)) 163 (0,0)):=L9 W1 _
 have hb2:=ae W1 (.cells #[(),(),(),(),(),()] 163)
 have HB2:=MI (bW HB.out hb2)
 have HZ2:=MI (bT HZ.out hb2 hsz1)
 have HV0:=MI hv0
 clear hb2 hv0 hcv HTr
 go_wp2_with fail
 generalize W1.alloc (.cells #[(),(),(),(),(),()] 163)=W2 at*
 generalize W1.heap.size=vb at*
 go_loopw [14] (fun v14 wr=>∃k:Nat,k≤6∧v14= .int .i64 (k:Int)∧wr.heap[vb]? =some (.cells (iA (vL bs k)) 163 (0,0))∧Hid (Below w.heap.size w wr)∧Hid (wr.heap[w.heap.size]? =some (.cells #[.string ⟨#[]⟩,(),(),(),.bool false,(),(),(),()] 54 (0,0)))) (fun v14 _=>6 - aG v14)
 case atStart=>exact⟨0,by omega,rfl,HV0.out,HB2,HZ2⟩
 case round=>
  clear HV0 HB2 HZ2
  obtain⟨k,hk,rfl,hv,hB,hZ⟩:=hrel
  by_cases hlt:k<6
  ·have hc:=aH hv (k:=k) (by rw[xQ];exact hlt)
   have hf:=frozen_of_row _ _ k _ _ hv
   have hrd:Hid (∀wx,Below w.heap.size w wx→Calls Tryz.prog 45 #[.slice (some ⟨ib,o,none⟩) n cap,.int .i64 (32+4*(k:Int)),.int .i64 4] wx (fun e w'=>e= .returned (.int .i64 ((aZ bs (32+4*k) 4:Nat):Int))∧wx=w')):=fun wx hbx=>by
    have h1:=ru (some ⟨ib,o,none⟩) n cap bs (32+4*k) 4 (by decide) (by omega) hn wx (HH.out.ah hbx)
    rw[show((32+4*k:Nat):Int)=32+4*(k:Int) by omega] at h1
    exact h1
   have hset:=vL_set bs k hlt
   have HV:Hid ((wr.setCell ⟨vb,k,none⟩ (.int .i64 ((aZ bs (32+4*k) 4:Nat):Int))).heap[vb]? =some (.cells (iA (vL bs (k+1))) 163 (0,0))):=by
    have h1:=bJ hv k ((aZ bs (32+4*k) 4:Nat):Int)
    rw[hset] at h1
    exact h1
   have HB3:Hid (∀v,Below w.heap.size w (wr.setCell ⟨vb,k,none⟩ v)):=fun v=>hB.out.setCell (p:=⟨vb,k,none⟩) (show w.heap.size≤vb by omega) v
   have HZ3:Hid (∀v,(wr.setCell ⟨vb,k,none⟩ v).heap[w.heap.size]? =some (.cells #[.string ⟨#[]⟩,(),(),(),.bool false,(),(),(),()] 54 (0,0))):=fun v=>(aC wr vb k v).heap hZ.out (by omega)
   generalize ((aZ bs (32+4*k) 4:Nat):Int)=x at*
   generalize (vL bs k).getD k 0=x0 at*
   have hlt6:(k:Int)<6:=by omega
   clear hset hv
   go_wp2_with (go_at_call 45;refine(hrd.out _ hB.out).mono ?_;rintro e w' ⟨rfl,rfl⟩)
   exact⟨⟨k+1,by omega,by go_num,HV.out,HB3.out _,HZ3.out _⟩,by simp[aG];omega⟩
  ·obtain rfl:k=6:=by omega
   have e6:vL bs 6=[((aZ bs 32 4:Nat):Int),((aZ bs 36 4:Nat):Int),((aZ bs 40 4:Nat):Int),((aZ bs 44 4:Nat):Int),((aZ bs 48 4:Nat):Int),((aZ bs 52 4:Nat):Int)]:=by simp[vL,List.range,List.range.loop]
   rw[e6] at hv
   clear e6
   have HM:Hid (fF bs=⟨nm,aZ bs 32 4,aZ bs 36 4,(bs.getD 56 0).toNat,decide (bs.getD 57 0=1),aZ bs 40 4,aZ bs 44 4,aZ bs 48 4,aZ bs 52 4⟩):=by rw[HNm.out];rfl
   have HO:Hid (okM bs=(yj bs 6&&(decide (bs.getD 57 0≤1)&&mg (fF bs)))):=rfl
   generalize aZ bs 32 4=r0 at*
   generalize aZ bs 36 4=r1 at*
   generalize aZ bs 40 4=r2 at*
   generalize aZ bs 44 4=r3 at*
   generalize aZ bs 48 4=r4 at*
   generalize aZ bs 52 4=r5 at*
   have hIr:=HH.out.ah hB.out
   obtain⟨c56,h56,d56,hx56⟩:=byte_at hIr (i:=56) (by omega)
   obtain⟨c57,h57,d57,hx57⟩:=byte_at hIr (i:=57) (by omega)
   have HM2:Hid (fF bs=⟨nm,r0,r1,c56,decide ((c57:Int)=1),r2,r3,r4,r5⟩):=by rw[HM.out,h56.out,h57.out];rfl
   have v0:=aH hv (k:=0) (show 0<6 by decide)
   have v1:=aH hv (k:=1) (show 1<6 by decide)
   have v2:=aH hv (k:=2) (show 2<6 by decide)
   have v3:=aH hv (k:=3) (show 3<6 by decide)
   have v4:=aH hv (k:=4) (show 4<6 by decide)
   have v5:=aH hv (k:=5) (show 5<6 by decide)
   simp only[List.getD_cons_zero,List.getD_cons_succ] at v0 v1 v2 v3 v4 v5
   obtain⟨lp,hlp⟩: ∃lp,lp=decide ((c57:Int)=1):=⟨_,rfl⟩
   rw[←hlp] at HM2
   have hq1:((c57:Int)==1)=lp:=by rw[hlp];rfl
   have hq2:decide ((c57:Int)=1)=lp:=hlp.symm
   have hq3:decide (c57=1)=lp:=by rw[hlp];simp;omega
   obtain⟨m,hm⟩: ∃m,m=fF bs:=⟨_,rfl⟩
   rw[←hm] at HM2 HO
   have HMm:=MI hm
   have hma:aB m=#[.string nm,.int .i64 r0,.int .i64 r1,.int .i64 c56,.bool lp,.int .i64 r2,.int .i64 r3,.int .i64 r4,.int .i64 r5]:=by rw[HM2.out];rfl
   have HMA:=MI hma
   have hbn:=L8 hZ.out
   have i56:(56:Int)<(n:Int):=by omega
   have i57:(57:Int)<(n:Int):=by omega
   have hw56:IntKind.i64.wrap (c56:Int)=(c56:Int):=IntWalk.i64_in _ (by omega)
   clear hv hIr HM HI HZ HB hlp hm hma hk hlt
   go_upto_region 8 with fail
   go_cut [7] (fun v7 wx=>∃mb,v7= .pointer (some ⟨mb,0,none⟩)∧w.heap.size<mb∧wx.heap[mb]? =some (.cells (aB m) 54 (0,0))∧wx.heap[w.heap.size]? =some (.cells #[.string ⟨#[]⟩,(),(),(),.bool false,(),(),(),()] 54 (0,0))∧Below w.heap.size w wx)
   case first=>
    have hst:=run_storeAt_new (P:=Tryz.prog) wr.drew 54 #[.string ⟨#[]⟩,(),(),(),.bool false,(),(),(),()] #[.string nm,.int .i64 r0,.int .i64 r1,.int .i64 c56,.bool lp,.int .i64 r2,.int .i64 r3,.int .i64 r4,.int .i64 r5] (by kernel_rfl) rfl (by simp[Value.oneCell'])
    go_region_held3 (fun w'=>(w'.cell? ⟨vb,0,none⟩=some (.int .i64 r0)∧w'.cell? ⟨vb,1,none⟩=some (.int .i64 r1)∧w'.cell? ⟨vb,2,none⟩=some (.int .i64 r2)∧w'.cell? ⟨vb,3,none⟩=some (.int .i64 r3)∧w'.cell? ⟨vb,4,none⟩=some (.int .i64 r4)∧w'.cell? ⟨vb,5,none⟩=some (.int .i64 r5))∧w'.cell? ⟨ib,o+56,none⟩=some (.int .u8 c56)∧w'.cell? ⟨ib,o+57,none⟩=some (.int .u8 c57)) (first | exact⟨⟨bM v0,bM v1,bM v2,bM v3,bM v4,bM v5⟩,bM d56,bM d57⟩ | go_keep) (fail)
    all_goals go_wp2_with fail
    all_goals go_meet
    all_goals exact⟨wr.heap.size,rfl,hbn,by rw[HMA.out];exact L9 wr _,(heap_alloc_old wr _ hbn).trans hZ.out,(iR hB.out _).drew⟩
   case rest=>
    obtain⟨mb,rfl,hmb,hrow,hzz,hBw⟩:=hcut
    obtain⟨W7,rfl⟩: ∃w',w'=wc:=⟨_,rfl⟩
    clear v0 v1 v2 v3 v4 v5 d56 d57 hq1 hq2 hq3 hw56 hZ hB hbn HMA HM2
    have hI7:=HH.out.ah hBw
    have HI7:=MI hI7
    have hnine:=lQ hrow
    have HRow:=MI hrow
    have HZz:=MI hzz
    have HBw:=MI hBw
    have e58:(58:Int)≤64:=by decide
    have c64:(64:Int)≤(cap:Int):=by omega
    clear hI7 hrow hzz hBw
    go_wp2_with fail
    go_loopw [50] (fun v50 wx=>∃k:Nat,k≤6∧v50= .int .i64 (k:Int)∧Hid (yj bs k=true)∧W7=wx) (fun v50 _=>6 - aG v50)
    case atStart=>exact⟨0,by omega,rfl,rfl,rfl⟩
    case round=>
     obtain⟨k,hk,rfl,hP,rfl⟩:=hrel
     by_cases hlt:k<6
     ·obtain⟨c,hcv,hc,hcx⟩:=byte_at HI7.out (i:=58+k) (by omega)
      rw[show o+(58+k)=o+58+k by omega] at hc
      have hlt6:(k:Int)<6:=by omega
      by_cases h0:c=0
      ·subst h0
       have hP2:=MI (show yj bs (k+1)=true by rw[Gm,hP.out,hcv.out];rfl)
       clear hnine
       go_wp2_with fail
       exact⟨⟨k+1,by omega,by go_num,hP2.out,trivial⟩,by simp[aG];omega⟩
      ·have hF:=MI (show okM bs=false by rw[HO.out,Cj bs k hlt (by rw[hcv.out];omega)];rfl)
       have hne:((c:Int)==0)=false:=by simp;omega
       clear hnine
       go_wp2_with (first
        | (with_reducible refine MC 54 7 ?_;refine wpList_load_row rfl 54 (.tmp 7) rfl mb rfl 54 (aB m) (0,0) _ HRow.out Tryz.underlying54 rfl (mF m) ?_)
        | (with_reducible refine MF 54 2 56 ?_;refine wpList_store_row rfl 54 (.tmp 2) (.tmp 56) rfl w.heap.size (aB m) rfl rfl 54 _ HZz.out (mF m) rfl (jc m) ?_))
       exact bodyPost_ret (results_cell_tmp (fn:=Tryz.f48) (p:=2) (q:=3) (ty:=54) rfl _ _ _ _ _ _ _ rfl (setRow_heap _ _ _ _ _ _ HZz.out) Tryz.underlying54 rfl (mF m)) rfl ⟨m,by rw[hF.out];rfl,HMm.out,below_setRow HBw.out Me _⟩
     ·obtain rfl:k=6:=by omega
      obtain⟨c,hcv,hc,hcx⟩:=byte_at HI7.out (i:=57) (by omega)
      obtain⟨a0,a1,a2,a3,a4,a5,a6,a7,a8⟩:=dL hnine
      obtain⟨b0,b1,b2,b3,b4,b5,b6,b7,b8⟩:=dL (lQ (m:=m0) HZz.out)
      obtain⟨z0,z1,z2,z3,z4,z5,z6,z7,z8⟩:=wQ HZz.out
      have HEnd:Hid (∀wx v,Below w.heap.size w wx→v=okM bs→LC bs w (.returned (.tuple #[.agg (aB m),.bool v])) (wx.setCells w.heap.size 0 (aP m))):=fun wx v hb hv=>⟨m,by rw[hv],HMm.out,kR _ hb Me 0⟩
      have HRw:Hid (∀(wx:World)(cs:Array Value),wx.heap[w.heap.size]? =some (.cells cs 54 (0,0))→cs.size=9→(wx.setCells w.heap.size 0 (aP m)).heap[w.heap.size]? =some (.cells (aB m) 54 (0,0))):=fun wx cs h1 h2=>by
       have h3:=iE (aP m) wx w.heap.size 0 cs 54 h1
       rw[spl_all cs (aP m) (by rw[h2];rfl)] at h3
       exact h3
      have HRd:Hid (∀(wx:World)(cs:Array Value),wx.heap[w.heap.size]? =some (.cells cs 54 (0,0))→cs.size=9→(wx.setCells w.heap.size 0 (aP m)).drew.heap[w.heap.size]? =some (.cells (aB m) 54 (0,0))):=fun wx cs h1 h2=>heap_drew (HRw.out wx cs h1 h2)
      have HEd:Hid (∀(wx:World) v,Below w.heap.size w wx→v=okM bs→LC bs w (.returned (.tuple #[.agg (aB m),.bool v])) (wx.setCells w.heap.size 0 (aP m)).drew):=fun wx v hb hv=>⟨m,by rw[hv],HMm.out,(kR _ hb Me 0).drew⟩
      have i57':(57:Int)<(n:Int):=by omega
      have hnl:¬(6:Int)<6:=by decide
      clear hnine
      by_cases h1:c≤1
      ·have hF:=MI (show okM bs=mg m by rw[HO.out,hP.out,hcv.out,decide_eq_true (by omega)];rfl)
       have h1':(c:Int)≤1:=by omega
       have hnms:m.nm.size≤1000000:=by
        rw[HMm.out]
        show(strOfNums (oK (bs.take 32))).size≤_
        rw[strOfNums_size]
        have h5:(oK (bs.take 32)).length≤32:=by
         unfold oK
         rw[List.length_take,List.length_take]
         omega
        omega
       have HR:=MI (vM m hnms W7.drew)
       have hma:aB m=#[.string m.nm,.int .i64 m.len,.int .i64 m.rate,.int .i64 m.ch,.bool m.loop,.int .i64 m.ls,.int .i64 m.le,.int .i64 m.sums,.int .i64 m.first]:=rfl
       rw[hma] at HR
       obtain⟨R,hR⟩: ∃R,R=mg m:=⟨_,rfl⟩
       rw[←hR] at HR hF
       clear hma hnms hR
       go_upto_region 15 with fail
       go_region_law (go_simp;go_at_call 81;refine HR.out.mono ?_;rintro e w4 ⟨rfl,hb4⟩;have hrow4:=bT (w:=W7.drew) HRow.out hb4 (L8 HRow.out);have hzz4:=bT (w:=W7.drew) HZz.out hb4 (L8 HZz.out);obtain⟨p0,p1,p2,p3,p4,p5,p6,p7,p8⟩:=dL (lQ hrow4);obtain⟨q0,q1,q2,q3,q4,q5,q6,q7,q8⟩:=dL (lQ (m:=m0) hzz4);obtain⟨y0,y1,y2,y3,y4,y5,y6,y7,y8⟩:=wQ hzz4;have hbI:=(HI7.out.ah (MB.drew)).ah hb4;obtain⟨c2,hcv2,hc2,hcx2⟩:=byte_at hbI (i:=57) (by omega))
       all_goals dsimp only[Act.put]
       all_goals go_wp2_with fail
       all_goals simp only[set9]
       all_goals exact bodyPost_ret (results_cell_tmp (fn:=Tryz.f48) (p:=2) (q:=3) (ty:=54) rfl _ _ w.heap.size 54 (aB m) (0,0) _ rfl (HRw.out w4 _ hzz4 rfl) Tryz.underlying54 rfl (mF m)) rfl (HEnd.out w4 R (bW HBw.out.drew hb4) hF.out.symm)
      ·have hF:=MI (show okM bs=false by rw[HO.out,hP.out,hcv.out,decide_eq_false (by omega)];rfl)
       have h1':¬(c:Int)≤1:=by omega
       go_upto_region 15 with fail
       go_region_law (fail)
       all_goals dsimp only[Act.put]
       all_goals go_wp2_with fail
       all_goals simp only[set9]
       all_goals exact bodyPost_ret (results_cell_tmp (fn:=Tryz.f48) (p:=2) (q:=3) (ty:=54) rfl _ _ w.heap.size 54 (aB m) (0,0) _ rfl (HRd.out W7 _ HZz.out rfl) Tryz.underlying54 rfl (mF m)) rfl (HEd.out W7 false HBw.out hF.out.symm)
end Go.Proofs.YtnicjahcgnhogaaGreatDoor
