/- A part of the walk that stands by itself: contracts of functions, each for every input. No condition. -/
import Derived.Test.YtnicjahcgnhogaaGreatDoorU00
set_option linter.unusedVariables false
set_option linter.unusedSimpArgs false
set_option maxRecDepth 100000
set_option maxHeartbeats 8000000
namespace Go.Envp
structure Sh where
 a:Int
 d:Int
 s:Int
 r:Int
def Sh.Ok(x:Sh):Prop:=0≤x.a∧x.a≤1048576∧0≤x.d∧x.d≤1048576∧0≤x.r∧x.r≤1048576∧0≤x.s∧x.s≤256
def low(x:Sh):Int:=x.s*65536
def slp(over n:Int):Int:=if n<1 then over else max ((over+n - 1)/n) 1
def z0(x:Sh)(t L:Int):Int×Int:=if t=0∧x.a=0 then(1,16777216) else(t,L)
def z1(x:Sh)(t L:Int):Int×Int:=if t=1∧x.d=0 then(2,low x) else(t,L)
def z3(x:Sh)(t L:Int):Int×Int:=if t=3∧x.r=0 then(4,0) else(t,L)
def zz(x:Sh)(t L:Int):Int×Int:=
 let p:=z0 x t L
 let q:=z1 x p.1 p.2
 z3 x q.1 q.2
def val(L:Int):Int:=(L+32768)/65536
def mv(x:Sh)(t L:Int):Int×Int:=
 if t=0 then(if 16777216≤L+slp 16777216 x.a then(1,16777216) else(0,L+slp 16777216 x.a))
 else if t=1 then(if L - slp (16777216 - low x) x.d≤low x then(2,low x) else(1,L - slp (16777216 - low x) x.d))
 else if t=3 then(if L - slp 16777216 x.r≤0 then(4,0) else(3,L - slp 16777216 x.r))
 else(t,L)
def nx(x:Sh)(p:Int×Int):Int×Int:=let q:=zz x p.1 p.2;mv x q.1 q.2
def vl(x:Sh)(p:Int×Int):Int:=val (zz x p.1 p.2).2
def rel(p:Int×Int):Int×Int:=if p.1=4 then p else(3,p.2)
def St(p:Int×Int):Prop:=0≤p.1∧p.1≤4∧0≤p.2∧p.2≤16777216
theorem uw(over n:Int)(h:0≤over):0≤slp over n:=by
 unfold slp;split
 ·exact h
 ·omega
theorem slp_le(over n:Int)(h:0≤over)(h2:over≤16777216):slp over n≤16777216∨over=0:=by
 unfold slp;split
 ·exact .inl h2
 ·rename_i hn
  by_cases h0:over=0
  ·exact .inr h0
  ·refine .inl ?_
   have:(over+n - 1)/n≤over:=by
    apply Int.le_of_lt_add_one
    rw[Int.ediv_lt_iff_lt_mul (by omega)]
    have h1:(over+1)*n=over*n+n:=by rw[Int.add_mul];omega
    have h2:over*1≤over*n:=Int.mul_le_mul_of_nonneg_left (by omega) h
    omega
   omega
theorem DR(over n:Int)(h:0≤over)(h2:over≤16777216):0≤slp over n∧slp over n≤16777216:=by
 refine⟨uw over n h,?_⟩
 rcases slp_le over n h h2 with h | rfl
 ·exact h
 ·unfold slp;split
  ·omega
  ·have:((0:Int)+n - 1)/n=0:=Int.ediv_eq_zero_of_lt (by omega) (by omega)
   rw[this];decide
theorem oC{x:Sh}(h:x.Ok):0≤low x∧low x≤16777216:=by
 unfold Sh.Ok at h;unfold low;omega
theorem zz_st{x:Sh}(h:x.Ok){t L:Int}(hs:St (t,L)):St (zz x t L):=by
 have hl:=oC h
 unfold St zz z0 z1 z3 at*
 simp only at hs⊢
 repeat' split
 all_goals (simp only at*;omega)
theorem mv_st{x:Sh}(h:x.Ok){t L:Int}(hs:St (t,L)):St (mv x t L):=by
 have hl:=oC h
 have h1:=uw 16777216 x.a (by omega)
 have h2:=uw (16777216 - low x) x.d (by omega)
 have h3:=uw 16777216 x.r (by omega)
 unfold St mv at*
 simp only at hs⊢
 repeat' split
 all_goals (simp only at*;omega)
theorem nx_st{x:Sh}(h:x.Ok){p:Int×Int}(hs:St p):St (nx x p):=mv_st h (zz_st h hs)
theorem rel_st{p:Int×Int}(hs:St p):St (rel p):=by
 unfold rel St at*;split
 ·exact hs
 ·exact⟨by simp,by simp,hs.2.2.1,hs.2.2.2⟩
def go(x:Sh)(p:Int×Int):Nat→Int×Int
 | 0=>p
 | k+1=>nx x (go x p k)
def vals(x:Sh)(p:Int×Int)(n:Nat):List Int:=(List.range n).map fun i=>vl x (go x p i)
end Go.Envp
namespace Go.Proofs.YtnicjahcgnhogaaGreatDoor.Nv
open Go Go.RowKit Go.Calli Go.Envp
theorem flip{P:Program}{F:FuncId}{args:Array Value}{w:World}{v:Value}(h:Calls P F args w fun e w'=>e= .returned v∧w=w'):Calls P F args w fun e w'=>e= .returned v∧w'=w:=h.mono fun _ _ ⟨a,b⟩=>⟨a,b.symm⟩
theorem wu(n:Int):bits .and .i64 n 1=n%2:=by
 have I:(BitVec.ofInt 64 1).toNat=2^1 - 1:=aq
 have key:(BitVec.ofInt 64 n&&&BitVec.ofInt 64 1).toNat=(n%((2^64:Nat):Int)).toNat%2^1:=by
  rw[BitVec.toNat_and,BitVec.toNat_ofInt,I,Nat.and_two_pow_sub_one_eq_mod]
 show IntKind.i64.wrap ((BitVec.ofInt 64 n&&&BitVec.ofInt 64 1).toNat:Nat)=n%2
 rw[key,IntKind.wrap_i64]
 omega
def JQ(v:Value)(w:World)(e:Ending)(w':World):Prop:=e= .returned v∧∃nq,w'=w.drewN nq
theorem jO(L:Int)(h0:0≤L)(h1:L≤16777216)(w:World):Calls Tryz.prog 138 #[.int .i64 L,.int .i64 16] w (JQ (.int .i64 (val L)) w):=by
 have e1:bits BinOp.and IntKind.i64 (L/32768) 1=L/32768%2:=wu _
 have e2:IntKind.i64.wrap (L/65536+L/32768%2)=L/65536+L/32768%2:=IntWalk.i64_in _ aa
 go_enter Tryz.func138,Tryz.ntmps138
 go_wp2_with fail
 go_quiet (fail)
 go_wp2_with fail
 go_ret
 exact⟨bg (by unfold val;omega),_,rfl⟩
theorem rP(over n:Int)(h0:0≤over)(h1:over≤16777216)(h2:n≤1048576)(w:World):Calls Tryz.prog 181 #[.int .i64 over,.int .i64 n] w fun e w'=>e= .returned (.int .i64 (slp over n))∧w=w':=by
 by_cases hn:n<1
 ·go_enter Tryz.func181,Tryz.ntmps181
  go_wp2_with fail
  go_ret
  exact⟨bg (by unfold slp;rw[if_pos hn]),rfl⟩
 ·have I:1≤n:=aa
  clear hn
  go_enter Tryz.func181,Tryz.ntmps181
  go_wp2_with fail
  all_goals
   go_ret
   exact⟨bg (by unfold slp;rw[if_neg aa];omega),rfl⟩
def Sx(T:Nat)(w:World)(b:Nat)(x:Sh)(p:Int×Int):Prop:=w.heap[b]? =some (.cells #[.int .i64 x.a,.int .i64 x.d,.int .i64 x.s,.int .i64 x.r,.int .i64 p.1,.int .i64 p.2] T (0,0))
theorem ig{T:Nat}{w:World}{b:Nat}{x:Sh}{p:Int×Int}(h:Sx T w b x p):
  w.cell? ⟨b,0,none⟩=some (.int .i64 x.a)∧w.cell? ⟨b,1,none⟩=some (.int .i64 x.d)∧w.cell? ⟨b,2,none⟩=some (.int .i64 x.s)∧w.cell? ⟨b,3,none⟩=some (.int .i64 x.r)∧w.cell? ⟨b,4,none⟩=some (.int .i64 p.1)∧w.cell? ⟨b,5,none⟩=some (.int .i64 p.2)∧w.frozen? ⟨b,4,none⟩=false∧w.frozen? ⟨b,5,none⟩=false:=
 ⟨LY h rfl,LY h rfl,LY h rfl,LY h rfl,LY h rfl,LY h rfl,L6 h,L6 h⟩
theorem Sx.stage{T:Nat}{w:World}{b:Nat}{x:Sh}{t L:Int}(h:Sx T w b x (t,L))(t':Int):Sx T (w.setCell ⟨b,4,none⟩ (.int .i64 t')) b x (t',L):=Mc h
theorem Sx.level{T:Nat}{w:World}{b:Nat}{x:Sh}{t L:Int}(h:Sx T w b x (t,L))(L':Int):Sx T (w.setCell ⟨b,5,none⟩ (.int .i64 L')) b x (t,L'):=Mc h
theorem Sx.cast{T:Nat}{w:World}{b:Nat}{x:Sh}{t L L':Int}(h:Sx T w b x (t,L))(e:L=L'):Sx T w b x (t,L'):=e▸h
theorem Sx.drewN{T:Nat}{w:World}{b:Nat}{x:Sh}{p:Int×Int}(h:Sx T w b x p)(n:Nat):Sx T (w.drewN n) b x p:=h
def nR(T:Nat)(b:Nat)(x:Sh)(p:Int×Int)(w:World)(e:Ending)(w':World):Prop:=e= .returned (.tuple #[])∧Sx T w' b x p∧ag (fun k=>k=b) w w'
theorem move_0(b:Nat)(x:Sh)(L:Int)(hx:x.Ok)(h0:0≤L)(h1:L≤16777216)(w:World)(h:Sx 145 w b x (0,L)):Calls Tryz.prog 139 #[.pointer (some ⟨b,0,none⟩)] w (nR 145 b x (mv x 0 L) w):=by
 obtain⟨c0,c1,c2,c3,c4,c5,f4,f5⟩:=ig h
 have J:=oC hx
 have R:=DR (16777216) x.a aa aa
 have hS:=fun w=>rP (16777216) x.a aa aa (by unfold Sh.Ok at hx;omega) w
 have HM:=MI (show mv x 0 L=if 16777216≤L+slp 16777216 x.a then(1,16777216) else(0,L+slp 16777216 x.a) from rfl)
 have HO:=MI hx
 unfold Sh.Ok at hx
 have HX:=MI h
 clear h
 by_cases I:16777216≤L+slp 16777216 x.a
 ·rw[if_pos I] at HM
  go_enter Tryz.func139,Tryz.ntmps139
  go_wp2_with fail
  go_still_tail 15,af
  still_call (flip (hS _))
  repeat still_step
  refine wpStill_nil ?_
  change wpList _ _ _ _ _ w.drew
  go_wp2_with fail
  all_goals go_end0
  all_goals exact⟨rfl,by rw[HM.out];exact((HX.out.level _).stage _).cast aa,(((ag.refl (fun k=>k=b) w).setCell (p:=⟨b,5,none⟩) (.inr rfl) _).setCell (p:=⟨b,4,none⟩) (.inr rfl) _).drew⟩
 ·rw[if_neg I] at HM
  have U:(L+slp 16777216 x.a==16777216)=false:=by simp;omega
  go_enter Tryz.func139,Tryz.ntmps139
  go_wp2_with fail
  go_still_tail 15,af
  still_call (flip (hS _))
  repeat still_step
  refine wpStill_nil ?_
  change wpList _ _ _ _ _ w.drew
  go_wp2_with fail
  all_goals go_end0
  all_goals exact⟨rfl,by rw[HM.out];exact(HX.out.level _).cast aa,(((ag.refl (fun k=>k=b) w).setCell (p:=⟨b,5,none⟩) (.inr rfl) _)).drew⟩
theorem move_1(b:Nat)(x:Sh)(L:Int)(hx:x.Ok)(h0:0≤L)(h1:L≤16777216)(w:World)(h:Sx 145 w b x (1,L)):Calls Tryz.prog 139 #[.pointer (some ⟨b,0,none⟩)] w (nR 145 b x (mv x 1 L) w):=by
 obtain⟨c0,c1,c2,c3,c4,c5,f4,f5⟩:=ig h
 have R:=oC hx
 have U:=DR (16777216 - low x) x.d aa aa
 have hS:=fun w=>rP (16777216 - low x) x.d aa aa (by unfold Sh.Ok at hx;omega) w
 have HM:=MI (show mv x 1 L=if L - slp (16777216 - low x) x.d≤low x then(2,low x) else(1,L - slp (16777216 - low x) x.d) from rfl)
 have HO:=MI hx
 unfold Sh.Ok at hx
 have HX:=MI h
 clear h
 have I:low x=x.s*65536:=rfl
 rw[I] at hS U HM R
 clear I
 have e1:IntKind.i64.wrap (16777216 - x.s*65536)=16777216 - x.s*65536:=IntWalk.i64_in _ aa
 by_cases J:L - slp (16777216 - x.s*65536) x.d≤x.s*65536
 ·rw[if_pos J] at HM
  go_enter Tryz.func139,Tryz.ntmps139
  go_wp2_with fail
  go_still_tail 18,af
  still_call (flip (hS _))
  repeat still_step
  refine wpStill_nil ?_
  change wpList _ _ _ _ _ w.drew
  go_wp2_with fail
  all_goals go_end0
  all_goals exact⟨rfl,by rw[HM.out];exact((HX.out.level _).stage _).cast aa,(((ag.refl (fun k=>k=b) w).setCell (p:=⟨b,5,none⟩) (.inr rfl) _).setCell (p:=⟨b,4,none⟩) (.inr rfl) _).drew⟩
 ·rw[if_neg J] at HM
  have j:(L - slp (16777216 - x.s*65536) x.d==x.s*65536)=false:=by simp;omega
  go_enter Tryz.func139,Tryz.ntmps139
  go_wp2_with fail
  go_still_tail 18,af
  still_call (flip (hS _))
  repeat still_step
  refine wpStill_nil ?_
  change wpList _ _ _ _ _ w.drew
  go_wp2_with fail
  all_goals go_end0
  all_goals exact⟨rfl,by rw[HM.out];exact(HX.out.level _).cast aa,(((ag.refl (fun k=>k=b) w).setCell (p:=⟨b,5,none⟩) (.inr rfl) _)).drew⟩
theorem move_3(b:Nat)(x:Sh)(L:Int)(hx:x.Ok)(h0:0≤L)(h1:L≤16777216)(w:World)(h:Sx 145 w b x (3,L)):Calls Tryz.prog 139 #[.pointer (some ⟨b,0,none⟩)] w (nR 145 b x (mv x 3 L) w):=by
 obtain⟨c0,c1,c2,c3,c4,c5,f4,f5⟩:=ig h
 have J:=oC hx
 have R:=DR (16777216) x.r aa aa
 have hS:=fun w=>rP (16777216) x.r aa aa (by unfold Sh.Ok at hx;omega) w
 have HM:=MI (show mv x 3 L=if L - slp 16777216 x.r≤0 then(4,0) else(3,L - slp 16777216 x.r) from rfl)
 have HO:=MI hx
 unfold Sh.Ok at hx
 have HX:=MI h
 clear h
 by_cases I:L - slp 16777216 x.r≤0
 ·rw[if_pos I] at HM
  go_enter Tryz.func139,Tryz.ntmps139
  go_wp2_with fail
  go_still_tail 15,af
  still_call (flip (hS _))
  repeat still_step
  refine wpStill_nil ?_
  change wpList _ _ _ _ _ w.drew
  go_wp2_with fail
  all_goals go_end0
  all_goals exact⟨rfl,by rw[HM.out];exact((HX.out.level _).stage _).cast aa,(((ag.refl (fun k=>k=b) w).setCell (p:=⟨b,5,none⟩) (.inr rfl) _).setCell (p:=⟨b,4,none⟩) (.inr rfl) _).drew⟩
 ·rw[if_neg I] at HM
  have U:(L - slp 16777216 x.r==0)=false:=by simp;omega
  go_enter Tryz.func139,Tryz.ntmps139
  go_wp2_with fail
  go_still_tail 15,af
  still_call (flip (hS _))
  repeat still_step
  refine wpStill_nil ?_
  change wpList _ _ _ _ _ w.drew
  go_wp2_with fail
  all_goals go_end0
  all_goals exact⟨rfl,by rw[HM.out];exact(HX.out.level _).cast aa,(((ag.refl (fun k=>k=b) w).setCell (p:=⟨b,5,none⟩) (.inr rfl) _)).drew⟩
theorem I8(b:Nat)(x:Sh)(t L:Int)(ht:t=2∨t=4)(hx:x.Ok)(w:World)(h:Sx 145 w b x (t,L)):Calls Tryz.prog 139 #[.pointer (some ⟨b,0,none⟩)] w (nR 145 b x (mv x t L) w):=by
 obtain⟨c0,c1,c2,c3,c4,c5,f4,f5⟩:=ig h
 have J:=oC hx
 have HM:=MI (show mv x t L=(t,L) by rcases ht with rfl | rfl<;>simp[mv])
 have HX:=MI h
 have I:low x=x.s*65536:=rfl
 rw[I] at J
 clear I h
 unfold Sh.Ok at hx
 rcases ht with rfl | rfl
 all_goals
  go_enter Tryz.func139,Tryz.ntmps139
  go_wp2_with fail
  go_end0
  exact⟨rfl,by rw[HM.out];exact HX.out,ag.refl _ _⟩
theorem move_any(b:Nat)(x:Sh)(t L:Int)(hx:x.Ok)(hs:St (t,L))(w:World)(h:Sx 145 w b x (t,L)):Calls Tryz.prog 139 #[.pointer (some ⟨b,0,none⟩)] w (nR 145 b x (mv x t L) w):=by
 obtain⟨h1,h2,h3,h4⟩:=hs
 simp only at h1 h2 h3 h4
 by_cases e0:t=0
 ·subst e0;exact move_0 b x L hx h3 h4 w h
 ·by_cases e1:t=1
  ·subst e1;exact move_1 b x L hx h3 h4 w h
  ·by_cases e3:t=3
   ·subst e3;exact move_3 b x L hx h3 h4 w h
   ·exact I8 b x t L aa hx w h
def G8(T:Nat)(b:Nat)(x:Sh)(p:Int×Int)(w:World)(e:Ending)(w':World):Prop:=e= .returned (.int .i64 (vl x p))∧Sx T w' b x (nx x p)∧ag (fun k=>k=b) w w'
def tst(t k n:Int):Bool:=decide (t=k∧n=0)
theorem rH{t k n:Int}(h:¬(t=k∧n=0)):tst t k n=false:=decide_eq_false h
theorem zq{t k n:Int}(h:t=k∧n=0):tst t k n=true:=decide_eq_true h
theorem z0_eq(x:Sh)(t L:Int):z0 x t L=if tst t 0 x.a=true then(1,16777216) else(t,L):=by unfold z0 tst;simp
theorem z1_eq(x:Sh)(t L:Int):z1 x t L=if tst t 1 x.d=true then(2,low x) else(t,L):=by unfold z1 tst;simp
theorem z3_eq(x:Sh)(t L:Int):z3 x t L=if tst t 3 x.r=true then(4,0) else(t,L):=by unfold z3 tst;simp
theorem z0_st{x:Sh}{t L:Int}(hs:St (t,L)):St (z0 x t L):=by unfold z0;split<;>simp_all [St]
theorem z1_st{x:Sh}(h:x.Ok){t L:Int}(hs:St (t,L)):St (z1 x t L):=by have:=oC h;unfold z1;split<;>simp_all [St]
theorem z3_st{x:Sh}{t L:Int}(hs:St (t,L)):St (z3 x t L):=by unfold z3;split<;>simp_all [St]
theorem next_any(b:Nat)(x:Sh)(t L:Int)(hx:x.Ok)(hs:St (t,L))(w:World)(h:Sx 145 w b x (t,L)):Calls Tryz.prog 107 #[.pointer (some ⟨b,0,none⟩)] w (G8 145 b x (t,L) w):=by
 have A7:=oC hx
 have U:low x=x.s*65536:=rfl
 rw[U] at A7
 clear U
 have A8:=hx
 unfold Sh.Ok at A8
 have HO:=MI hx
 clear hx
 obtain⟨c0,c1,c2,c3,c4,c5,f4,f5⟩:=ig h
 have HX:=MI h
 clear h
 go_enter Tryz.func107,Tryz.ntmps107
 go_upto_region 3 with fail
 go_cut [18] (fun v wx=>v= .bool (tst t 0 x.a)∧w=wx)
 case first=>
  by_cases h1:t=0
  ·have I:(t==0)=true:=by simpa using h1
   by_cases h2:x.a=0
   ·have J:(x.a==0)=true:=by simpa using h2
    have e:=MI (zq ⟨h1,h2⟩)
    clear h1 h2
    go_wp2_with fail
    go_meet
    exact⟨by rw[e.out],rfl⟩
   ·have J:(x.a==0)=false:=by simpa using h2
    have e:=MI (rH (fun h=>h2 h.2):tst t 0 x.a=false)
    clear h1 h2
    go_wp2_with fail
    go_meet
    exact⟨by rw[e.out],rfl⟩
  ·have I:(t==0)=false:=by simpa using h1
   have e:=MI (rH (fun h=>h1 h.1):tst t 0 x.a=false)
   clear h1
   go_wp2_with fail
   go_meet
   exact⟨by rw[e.out],rfl⟩
 case rest=>
 obtain⟨rfl,rfl⟩:=hcut
 go_upto_if 18 with fail
 go_cut [] (fun wx=>∃t' L',Hid (z0 x t L=(t',L'))∧Sx 145 wx b x (t',L')∧ag (fun k=>k=b) w wx)
 case first=>
  have hz:=z0_eq x t L
  cases hd:tst t 0 x.a with
  | true=>
   rw[hd,if_pos rfl] at hz
   have HZ:=MI hz
   clear hz
   go_wp2_with fail
   go_meet
   exact⟨_,_,HZ.out,(HX.out.level _).stage _,((ag.refl (fun k=>k=b) w).setCell (p:=⟨b,5,none⟩) (.inr rfl) _).setCell (p:=⟨b,4,none⟩) (.inr rfl) _⟩
  | false=>
   rw[hd,if_neg aq] at hz
   have HZ:=MI hz
   clear hz
   go_wp2_with fail
   go_meet
   exact⟨_,_,HZ.out,HX.out,ag.refl _ _⟩
 case rest=>
 clear c0 c1 c2 c3 c4 c5 f4 f5 HX
 obtain⟨w1,rfl⟩: ∃w',w'=wc:=⟨_,rfl⟩
 obtain⟨t1,L1,j,hX,A4⟩:=hcut
 obtain⟨c0,c1,c2,c3,c4,c5,f4,f5⟩:=ig hX
 have HX:=MI hX
 clear hX
 have o:=z0_st (x:=x) hs
 rw[j.out] at o
 go_upto_region 5 with fail
 go_cut [37] (fun v wx=>v= .bool (tst t1 1 x.d)∧w1=wx)
 case first=>
  by_cases h1:t1=1
  ·have I:(t1==1)=true:=by simpa using h1
   by_cases h2:x.d=0
   ·have J:(x.d==0)=true:=by simpa using h2
    have e:=MI (zq ⟨h1,h2⟩)
    clear h1 h2
    go_wp2_with fail
    go_meet
    exact⟨by rw[e.out],rfl⟩
   ·have J:(x.d==0)=false:=by simpa using h2
    have e:=MI (rH (fun h=>h2 h.2):tst t1 1 x.d=false)
    clear h1 h2
    go_wp2_with fail
    go_meet
    exact⟨by rw[e.out],rfl⟩
  ·have I:(t1==1)=false:=by simpa using h1
   have e:=MI (rH (fun h=>h1 h.1):tst t1 1 x.d=false)
   clear h1
   go_wp2_with fail
   go_meet
   exact⟨by rw[e.out],rfl⟩
 case rest=>
 obtain⟨rfl,rfl⟩:=hcut
 go_upto_if 37 with fail
 go_cut [] (fun wx=>∃t' L',Hid (z1 x t1 L1=(t',L'))∧Sx 145 wx b x (t',L')∧ag (fun k=>k=b) w1 wx)
 case first=>
  have hz:=z1_eq x t1 L1
  cases hd:tst t1 1 x.d with
  | true=>
   rw[hd,if_pos rfl] at hz
   have HZ:=MI hz
   clear hz
   go_wp2_with fail
   go_meet
   exact⟨_,_,HZ.out,(HX.out.level _).stage _,((ag.refl (fun k=>k=b) w1).setCell (p:=⟨b,5,none⟩) (.inr rfl) _).setCell (p:=⟨b,4,none⟩) (.inr rfl) _⟩
  | false=>
   rw[hd,if_neg aq] at hz
   have HZ:=MI hz
   clear hz
   go_wp2_with fail
   go_meet
   exact⟨_,_,HZ.out,HX.out,ag.refl _ _⟩
 case rest=>
 clear c0 c1 c2 c3 c4 c5 f4 f5 HX
 obtain⟨w2,rfl⟩: ∃w',w'=wc:=⟨_,rfl⟩
 obtain⟨t2,L2,A0,hX,A5⟩:=hcut
 obtain⟨c0,c1,c2,c3,c4,c5,f4,f5⟩:=ig hX
 have HX:=MI hX
 clear hX
 have A1:=z1_st HO.out o
 rw[A0.out] at A1
 go_upto_region 7 with fail
 go_cut [62] (fun v wx=>v= .bool (tst t2 3 x.r)∧w2=wx)
 case first=>
  by_cases h1:t2=3
  ·have I:(t2==3)=true:=by simpa using h1
   by_cases h2:x.r=0
   ·have J:(x.r==0)=true:=by simpa using h2
    have e:=MI (zq ⟨h1,h2⟩)
    clear h1 h2
    go_wp2_with fail
    go_meet
    exact⟨by rw[e.out],rfl⟩
   ·have J:(x.r==0)=false:=by simpa using h2
    have e:=MI (rH (fun h=>h2 h.2):tst t2 3 x.r=false)
    clear h1 h2
    go_wp2_with fail
    go_meet
    exact⟨by rw[e.out],rfl⟩
  ·have I:(t2==3)=false:=by simpa using h1
   have e:=MI (rH (fun h=>h1 h.1):tst t2 3 x.r=false)
   clear h1
   go_wp2_with fail
   go_meet
   exact⟨by rw[e.out],rfl⟩
 case rest=>
 obtain⟨rfl,rfl⟩:=hcut
 go_upto_if 62 with fail
 go_cut [] (fun wx=>∃t' L',Hid (z3 x t2 L2=(t',L'))∧Sx 145 wx b x (t',L')∧ag (fun k=>k=b) w2 wx)
 case first=>
  have hz:=z3_eq x t2 L2
  cases hd:tst t2 3 x.r with
  | true=>
   rw[hd,if_pos rfl] at hz
   have HZ:=MI hz
   clear hz
   go_wp2_with fail
   go_meet
   exact⟨_,_,HZ.out,(HX.out.level _).stage _,((ag.refl (fun k=>k=b) w2).setCell (p:=⟨b,5,none⟩) (.inr rfl) _).setCell (p:=⟨b,4,none⟩) (.inr rfl) _⟩
  | false=>
   rw[hd,if_neg aq] at hz
   have HZ:=MI hz
   clear hz
   go_wp2_with fail
   go_meet
   exact⟨_,_,HZ.out,HX.out,ag.refl _ _⟩
 case rest=>
 clear c0 c1 c2 c3 c4 c5 f4 f5 HX
 obtain⟨w3,rfl⟩: ∃w',w'=wc:=⟨_,rfl⟩
 obtain⟨t3,L3,A2,hX,A6⟩:=hcut
 obtain⟨c0,c1,c2,c3,c4,c5,f4,f5⟩:=ig hX
 have HX:=MI hX
 clear hX
 have R:=z3_st (x:=x) A1
 rw[A2.out] at R
 have A3:zz x t L=(t3,L3):=by
  show z3 x (z1 x (z0 x t L).1 (z0 x t L).2).1 (z1 x (z0 x t L).1 (z0 x t L).2).2=_
  rw[j.out];show z3 x (z1 x t1 L1).1 (z1 x t1 L1).2=_
  rw[A0.out];exact A2.out
 have hv:vl x (t,L)=val L3:=by show val (zz x t L).2=_;rw[A3]
 have hn:nx x (t,L)=mv x t3 L3:=by show mv x (zz x t L).1 (zz x t L).2=_;rw[A3]
 have HV:=MI hv
 have HN:=MI hn
 have hb:=R.2.2
 simp only at hb
 have hk:=(A4.trans A5).trans A6
 have HS:=MI R
 have B1: -1000000≤val L3∧val L3≤1000000:=by unfold val;omega
 clear A3 hv hn o A1 R A4 A5 A6 j A0 A2 c0 c1 c2 c3 f4 f5 c4
 go_wp2_with (first | (go_at_call 138;refine(jO L3 hb.1 hb.2 _).mono ?_;rintro e w4 ⟨rfl,nq,rfl⟩) | (go_at_call 139;refine(move_any b x t3 L3 HO.out HS.out _ (HX.out.drewN nq)).mono ?_;rintro e w5 ⟨rfl,A9,B0⟩))
 go_ret
 exact⟨bg HV.out.symm,by rw[HN.out];exact A9,(hk.drewN nq).trans B0⟩
theorem rel_any(b:Nat)(x:Sh)(t L:Int)(w:World)(h:Sx 145 w b x (t,L)):Calls Tryz.prog 100 #[.pointer (some ⟨b,0,none⟩)] w (nR 145 b x (rel (t,L)) w):=by
 obtain⟨c0,c1,c2,c3,c4,c5,f4,f5⟩:=ig h
 have HX:=MI h
 clear h
 by_cases h4:t=4
 ·subst h4
  go_enter Tryz.func100,Tryz.ntmps100
  go_wp2_with fail
  go_end0
  exact⟨rfl,HX.out,ag.refl _ _⟩
 ·have I:(t==4)=false:=by simpa using h4
  have hr:=MI (show rel (t,L)=(3,L) by unfold rel;rw[if_neg h4])
  clear h4
  go_enter Tryz.func100,Tryz.ntmps100
  go_wp2_with fail
  go_end0
  exact⟨rfl,by rw[hr.out];exact HX.out.stage _,(ag.refl (fun k=>k=b) w).setCell (p:=⟨b,4,none⟩) (.inr rfl) _⟩
theorem H9(b:Nat)(x:Sh)(t L:Int)(w:World)(h:Sx 145 w b x (t,L)):Calls Tryz.prog 112 #[.pointer (some ⟨b,0,none⟩)] w fun e w'=>e= .returned (.int .i64 t)∧w=w':=by
 obtain⟨c0,c1,c2,c3,c4,c5,f4,f5⟩:=ig h
 clear h
 go_enter Tryz.func112,Tryz.ntmps112
 go_wp2_with fail
 go_ret
 exact⟨rfl,rfl⟩
def okB(x:Sh):Bool:=decide (0≤x.a∧x.a≤1048576∧0≤x.d∧x.d≤1048576∧0≤x.r∧x.r≤1048576∧0≤x.s∧x.s≤256)
theorem okB_iff(x:Sh):okB x=true↔x.Ok:=decide_eq_true_iff
def O7(x:Sh)(w:World)(e:Ending)(w':World):Prop:=e= .returned (.bool (okB x))∧Below w.heap.size w w'
def Seen(x:Sh)(k:Nat):Prop:=(1≤k→0≤x.a∧x.a≤1048576)∧(2≤k→0≤x.d∧x.d≤1048576)∧(3≤k→0≤x.r∧x.r≤1048576)
theorem xY(x:Sh)(w:World):Calls Tryz.prog 71 #[.agg #[.int .i64 x.a,.int .i64 x.d,.int .i64 x.s,.int .i64 x.r]] w (O7 x w):=by
 have i0: ∀w,(Instr.index 203 (.agg #[.int .i64 x.a,.int .i64 x.d,.int .i64 x.r]) (.int .i64 0)).run Tryz.prog w= .ok (.int .i64 x.a) w:=fun _=>by kernel_rfl
 have i1: ∀w,(Instr.index 203 (.agg #[.int .i64 x.a,.int .i64 x.d,.int .i64 x.r]) (.int .i64 1)).run Tryz.prog w= .ok (.int .i64 x.d) w:=fun _=>by kernel_rfl
 have i2: ∀w,(Instr.index 203 (.agg #[.int .i64 x.a,.int .i64 x.d,.int .i64 x.r]) (.int .i64 2)).run Tryz.prog w= .ok (.int .i64 x.r) w:=fun _=>by kernel_rfl
 go_enter Tryz.func71,Tryz.ntmps71
 go_wp2_with fail
 go_loop [12] (fun i=>∃k:Nat,k≤3∧i= .int .i64 k∧Hid (Seen x k)) (fun i=>3 - (intOf i).toNat)
 case atStart=>exact⟨0,aa,rfl,aa,aa,aa⟩
 case round=>
  obtain⟨k,hk,rfl,hs⟩:=hrel
  by_cases o:k=0
  ·subst o
   by_cases hr:0≤x.a∧x.a≤1048576
   ·have J:Hid (Seen x (0+1)):=⟨fun _=>hr,fun h=>aa,fun h=>aa⟩
    obtain⟨R,U⟩:=hr
    go_wp2_with fail
    go_round
    case rel=>exact⟨0+1,aa,aD,J⟩
    case measure=>simp[intOf]
   ·have I:=MI (show okB x=false from decide_eq_false fun h=>hr aa)
    by_cases hn:x.a<0
    ·clear hr
     go_wp2_with fail
     go_ret
     exact⟨aP I.out.symm,ae _ _⟩
    ·have j:1048576<x.a:=aa
     clear hr
     go_wp2_with fail
     go_ret
     exact⟨aP I.out.symm,ae _ _⟩
  by_cases A0:k=1
  ·subst A0
   by_cases hr:0≤x.d∧x.d≤1048576
   ·have J:Hid (Seen x (1+1)):=⟨fun h=>hs.out.1 aa,fun _=>hr,fun h=>aa⟩
    obtain⟨R,U⟩:=hr
    go_wp2_with fail
    go_round
    case rel=>exact⟨1+1,aa,aD,J⟩
    case measure=>simp[intOf]
   ·have I:=MI (show okB x=false from decide_eq_false fun h=>hr aa)
    by_cases hn:x.d<0
    ·clear hr
     go_wp2_with fail
     go_ret
     exact⟨aP I.out.symm,ae _ _⟩
    ·have j:1048576<x.d:=aa
     clear hr
     go_wp2_with fail
     go_ret
     exact⟨aP I.out.symm,ae _ _⟩
  by_cases A1:k=2
  ·subst A1
   by_cases hr:0≤x.r∧x.r≤1048576
   ·have J:Hid (Seen x (2+1)):=⟨fun h=>hs.out.1 aa,fun h=>hs.out.2.1 aa,fun _=>hr⟩
    obtain⟨R,U⟩:=hr
    go_wp2_with fail
    go_round
    case rel=>exact⟨2+1,aa,aD,J⟩
    case measure=>simp[intOf]
   ·have I:=MI (show okB x=false from decide_eq_false fun h=>hr aa)
    by_cases hn:x.r<0
    ·clear hr
     go_wp2_with fail
     go_ret
     exact⟨aP I.out.symm,ae _ _⟩
    ·have j:1048576<x.r:=aa
     clear hr
     go_wp2_with fail
     go_ret
     exact⟨aP I.out.symm,ae _ _⟩
  have A2:k=3:=aa
  subst A2
  have h1:=hs.out.1 aa
  have h2:=hs.out.2.1 aa
  have h3:=hs.out.2.2 aa
  have HE:=MI (show okB x=decide (0≤x.s∧x.s≤256) by unfold okB;rw[decide_eq_decide];omega)
  clear h1 h2 h3 hs
  go_wp2_with fail
  all_goals go_ret
  all_goals exact⟨aP (by rw[HE.out,Bool.eq_iff_iff];simp<;>omega),ae _ _⟩
theorem yc(w:World):Calls Tryz.prog 14 #[] w fun e w'=>e= .returned (.agg #[(),(),.int .i64 256,()])∧Below w.heap.size w w':=by
 go_enter Tryz.func14,Tryz.ntmps14
 go_wp2_with fail
 refine bodyPost_ret (v:=.agg #[(),(),.int .i64 256,()]) (by simp[results,Tryz.results14,go_sem]) rfl ⟨rfl,?_⟩
 exact ae _ _
def rD(x:Sh)(w:World)(e:Ending)(w':World):Prop:=∃b,e= .returned (.tuple #[.pointer (some ⟨b,0,none⟩),()])∧w.heap.size≤b∧Sx 145 w' b x (0,0)∧Below w.heap.size w w'
theorem new_yes(x:Sh)(h:x.Ok)(w:World):Calls Tryz.prog 33 #[.agg #[.int .i64 x.a,.int .i64 x.d,.int .i64 x.s,.int .i64 x.r]] w (rD x w):=by
 have HB:=MI ((okB_iff x).2 h)
 have R:=L9 w (.cells #[.int .i64 x.a,.int .i64 x.d,.int .i64 x.s,.int .i64 x.r] 46)
 clear h
 go_enter Tryz.func33,Tryz.ntmps33
 go_wp2_with (go_at_call 71;refine(xY x _).mono ?_;rintro e w1 ⟨rfl,J⟩;rw[HB.out];have I:=(J.block _ (L8 R)).trans R;have d0:w1.cell? ⟨w.heap.size,0,none⟩=some (.int .i64 x.a):=LY I rfl;have d1:w1.cell? ⟨w.heap.size,1,none⟩=some (.int .i64 x.d):=LY I rfl;have d2:w1.cell? ⟨w.heap.size,2,none⟩=some (.int .i64 x.s):=LY I rfl;have d3:w1.cell? ⟨w.heap.size,3,none⟩=some (.int .i64 x.r):=LY I rfl)
 go_ret2
 exact⟨_,rfl,by have:=J.size;simp at this;omega,L9 _ _,ji (bD (ae _ _) J) _⟩
def x0:Sh:=⟨0,0,256,0⟩
end Go.Proofs.YtnicjahcgnhogaaGreatDoor.Nv
