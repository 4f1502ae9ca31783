/- A part of the walk that stands by itself: contracts of functions, each for every input. No condition. -/
import Derived.WalkKit
import Derived.Test.YtnicjahcgnhogaaGreatDoorRows
import Derived.Test.YtnicjahcgnhogaaGreatDoorQ00
import Derived.Laws.Bits128
import Derived.StillTailTactics
import Derived.Deep.RegionHeld3
import Derived.Deep.RegionWith
import Derived.OwnWalk
set_option linter.unusedVariables false
set_option linter.unusedSimpArgs false
set_option maxRecDepth 100000
set_option maxHeartbeats 8000000
namespace Go.Envp
structure Sh where
 a:Int
 d:Int
 s:Int
 r:Int
def Sh.Ok(x:Sh):Prop:=0≤x.a∧x.a≤1048576∧0≤x.d∧x.d≤1048576∧0≤x.r∧x.r≤1048576∧0≤x.s∧x.s≤256
def low(x:Sh):Int:=x.s*65536
def slp(over n:Int):Int:=if n<1 then over else max ((over+n - 1)/n) 1
def z0(x:Sh)(t L:Int):Int×Int:=if t=0∧x.a=0 then(1,16777216) else(t,L)
def z1(x:Sh)(t L:Int):Int×Int:=if t=1∧x.d=0 then(2,low x) else(t,L)
def z3(x:Sh)(t L:Int):Int×Int:=if t=3∧x.r=0 then(4,0) else(t,L)
def zz(x:Sh)(t L:Int):Int×Int:=
 let p:=z0 x t L
 let q:=z1 x p.1 p.2
 z3 x q.1 q.2
def val(L:Int):Int:=(L+32768)/65536
def mv(x:Sh)(t L:Int):Int×Int:=
 if t=0 then(if 16777216≤L+slp 16777216 x.a then(1,16777216) else(0,L+slp 16777216 x.a))
 else if t=1 then(if L - slp (16777216 - low x) x.d≤low x then(2,low x) else(1,L - slp (16777216 - low x) x.d))
 else if t=3 then(if L - slp 16777216 x.r≤0 then(4,0) else(3,L - slp 16777216 x.r))
 else(t,L)
def nx(x:Sh)(p:Int×Int):Int×Int:=let q:=zz x p.1 p.2;mv x q.1 q.2
def vl(x:Sh)(p:Int×Int):Int:=val (zz x p.1 p.2).2
def rel(p:Int×Int):Int×Int:=if p.1=4 then p else(3,p.2)
def St(p:Int×Int):Prop:=0≤p.1∧p.1≤4∧0≤p.2∧p.2≤16777216
theorem sF(over n:Int)(h:0≤over):0≤slp over n:=by
 unfold slp;split
 ·exact h
 ·omega
theorem slp_le(over n:Int)(h:0≤over)(h2:over≤16777216):slp over n≤16777216∨over=0:=by
 unfold slp;split
 ·exact .inl h2
 ·rename_i hn
  by_cases h0:over=0
  ·exact .inr h0
  ·refine .inl ?_
   have:(over+n - 1)/n≤over:=by
    apply Int.le_of_lt_add_one
    rw[Int.ediv_lt_iff_lt_mul (by omega)]
    have h1:(over+1)*n=over*n+n:=by rw[Int.add_mul];omega
    have h2:over*1≤over*n:=Int.mul_le_mul_of_nonneg_left (by omega) h
    omega
   omega
theorem BL(over n:Int)(h:0≤over)(h2:over≤16777216):0≤slp over n∧slp over n≤16777216:=by
 refine⟨sF over n h,?_⟩
 rcases slp_le over n h h2 with h | rfl
 ·exact h
 ·unfold slp;split
  ·omega
  ·have:((0:Int)+n - 1)/n=0:=Int.ediv_eq_zero_of_lt (by omega) (by omega)
   rw[this];decide
theorem nH{x:Sh}(h:x.Ok):0≤low x∧low x≤16777216:=by
 unfold Sh.Ok at h;unfold low;omega
theorem zz_st{x:Sh}(h:x.Ok){t L:Int}(hs:St (t,L)):St (zz x t L):=by
 have hl:=nH h
 unfold St zz z0 z1 z3 at*
 simp only at hs⊢
 repeat' split
 all_goals (simp only at*;omega)
theorem mv_st{x:Sh}(h:x.Ok){t L:Int}(hs:St (t,L)):St (mv x t L):=by
 have hl:=nH h
 have h1:=sF 16777216 x.a (by omega)
 have h2:=sF (16777216 - low x) x.d (by omega)
 have h3:=sF 16777216 x.r (by omega)
 unfold St mv at*
 simp only at hs⊢
 repeat' split
 all_goals (simp only at*;omega)
theorem nx_st{x:Sh}(h:x.Ok){p:Int×Int}(hs:St p):St (nx x p):=mv_st h (zz_st h hs)
theorem rel_st{p:Int×Int}(hs:St p):St (rel p):=by
 unfold rel St at*;split
 ·exact hs
 ·exact⟨by simp,by simp,hs.2.2.1,hs.2.2.2⟩
def go(x:Sh)(p:Int×Int):Nat→Int×Int
 | 0=>p
 | k+1=>nx x (go x p k)
def vals(x:Sh)(p:Int×Int)(n:Nat):List Int:=(List.range n).map fun i=>vl x (go x p i)
end Go.Envp
namespace Go.Proofs.YtnicjahcgnhogaaGreatDoor.Nv
open Go Go.RowKit Go.Calli Go.Envp
theorem flip{P:Program}{F:FuncId}{args:Array Value}{w:World}{v:Value}(h:Calls P F args w fun e w'=>e= .returned v∧w=w'):Calls P F args w fun e w'=>e= .returned v∧w'=w:=h.mono fun _ _ ⟨a,b⟩=>⟨a,b.symm⟩
theorem uK(n:Int):bits .and .i64 n 1=n%2:=by
 have h127:(BitVec.ofInt 64 1).toNat=2^1 - 1:=by decide
 have key:(BitVec.ofInt 64 n&&&BitVec.ofInt 64 1).toNat=(n%((2^64:Nat):Int)).toNat%2^1:=by
  rw[BitVec.toNat_and,BitVec.toNat_ofInt,h127,Nat.and_two_pow_sub_one_eq_mod]
 show IntKind.i64.wrap ((BitVec.ofInt 64 n&&&BitVec.ofInt 64 1).toNat:Nat)=n%2
 rw[key,IntKind.wrap_i64]
 omega
def Hy(v:Value)(w:World)(e:Ending)(w':World):Prop:=e= .returned v∧∃nq,w'=w.drewN nq
theorem jA(L:Int)(h0:0≤L)(h1:L≤16777216)(w:World):Calls Tryz.prog 138 #[.int .i64 L,.int .i64 16] w (Hy (.int .i64 (val L)) w):=by
 have e1:bits BinOp.and IntKind.i64 (L/32768) 1=L/32768%2:=uK _
 have e2:IntKind.i64.wrap (L/65536+L/32768%2)=L/65536+L/32768%2:=IntWalk.i64_in _ (by omega)
 go_enter Tryz.func138,Tryz.ntmps138
 go_wp2_with fail
 go_quiet (fail)
 go_wp2_with fail
 go_ret
 exact⟨aX (by unfold val;omega),_,rfl⟩
theorem qK(over n:Int)(h0:0≤over)(h1:over≤16777216)(h2:n≤1048576)(w:World):Calls Tryz.prog 181 #[.int .i64 over,.int .i64 n] w fun e w'=>e= .returned (.int .i64 (slp over n))∧w=w':=by
 by_cases hn:n<1
 ·go_enter Tryz.func181,Tryz.ntmps181
  go_wp2_with fail
  go_ret
  exact⟨aX (by unfold slp;rw[if_pos hn]),rfl⟩
 ·have hn':1≤n:=by omega
  clear hn
  go_enter Tryz.func181,Tryz.ntmps181
  go_wp2_with fail
  all_goals
   go_ret
   exact⟨aX (by unfold slp;rw[if_neg (by omega)];omega),rfl⟩
def Sx(T:Nat)(w:World)(b:Nat)(x:Sh)(p:Int×Int):Prop:=w.heap[b]? =some (.cells #[.int .i64 x.a,.int .i64 x.d,.int .i64 x.s,.int .i64 x.r,.int .i64 p.1,.int .i64 p.2] T (0,0))
theorem gJ{T:Nat}{w:World}{b:Nat}{x:Sh}{p:Int×Int}(h:Sx T w b x p):
  w.cell? ⟨b,0,none⟩=some (.int .i64 x.a)∧w.cell? ⟨b,1,none⟩=some (.int .i64 x.d)∧w.cell? ⟨b,2,none⟩=some (.int .i64 x.s)∧w.cell? ⟨b,3,none⟩=some (.int .i64 x.r)∧w.cell? ⟨b,4,none⟩=some (.int .i64 p.1)∧w.cell? ⟨b,5,none⟩=some (.int .i64 p.2)∧w.frozen? ⟨b,4,none⟩=false∧w.frozen? ⟨b,5,none⟩=false:=
 ⟨LY h rfl,LY h rfl,LY h rfl,LY h rfl,LY h rfl,LY h rfl,L6 h,L6 h⟩
theorem Sx.stage{T:Nat}{w:World}{b:Nat}{x:Sh}{t L:Int}(h:Sx T w b x (t,L))(t':Int):Sx T (w.setCell ⟨b,4,none⟩ (.int .i64 t')) b x (t',L):=Mc h
theorem Sx.level{T:Nat}{w:World}{b:Nat}{x:Sh}{t L:Int}(h:Sx T w b x (t,L))(L':Int):Sx T (w.setCell ⟨b,5,none⟩ (.int .i64 L')) b x (t,L'):=Mc h
theorem Sx.cast{T:Nat}{w:World}{b:Nat}{x:Sh}{t L L':Int}(h:Sx T w b x (t,L))(e:L=L'):Sx T w b x (t,L'):=e▸h
theorem Sx.drewN{T:Nat}{w:World}{b:Nat}{x:Sh}{p:Int×Int}(h:Sx T w b x p)(n:Nat):Sx T (w.drewN n) b x p:=h
def mO(T:Nat)(b:Nat)(x:Sh)(p:Int×Int)(w:World)(e:Ending)(w':World):Prop:=e= .returned (.tuple #[])∧Sx T w' b x p∧af (fun k=>k=b) w w'
theorem move_0(b:Nat)(x:Sh)(L:Int)(hx:x.Ok)(h0:0≤L)(h1:L≤16777216)(w:World)(h:Sx 145 w b x (0,L)):Calls Tryz.prog 139 #[.pointer (some ⟨b,0,none⟩)] w (mO 145 b x (mv x 0 L) w):=by
 obtain⟨c0,c1,c2,c3,c4,c5,f4,f5⟩:=gJ h
 have hlo:=nH hx
 have hsl:=BL (16777216) x.a (by omega) (by omega)
 have hS:=fun w=>qK (16777216) x.a (by omega) (by omega) (by unfold Sh.Ok at hx;omega) w
 have HM:=MI (show mv x 0 L=if 16777216≤L+slp 16777216 x.a then(1,16777216) else(0,L+slp 16777216 x.a) from rfl)
 have HO:=MI hx
 unfold Sh.Ok at hx
 have HX:=MI h
 clear h
 by_cases hge:16777216≤L+slp 16777216 x.a
 ·rw[if_pos hge] at HM
  go_enter Tryz.func139,Tryz.ntmps139
  go_wp2_with fail
  go_still_tail 15,(by kernel_rfl)
  still_call (flip (hS _))
  repeat still_step
  refine wpStill_nil ?_
  change wpList _ _ _ _ _ w.drew
  go_wp2_with fail
  all_goals go_end0
  all_goals exact⟨rfl,by rw[HM.out];exact((HX.out.level _).stage _).cast (by omega),(((af.refl (fun k=>k=b) w).setCell (p:=⟨b,5,none⟩) (.inr rfl) _).setCell (p:=⟨b,4,none⟩) (.inr rfl) _).drew⟩
 ·rw[if_neg hge] at HM
  have hne:(L+slp 16777216 x.a==16777216)=false:=by simp;omega
  go_enter Tryz.func139,Tryz.ntmps139
  go_wp2_with fail
  go_still_tail 15,(by kernel_rfl)
  still_call (flip (hS _))
  repeat still_step
  refine wpStill_nil ?_
  change wpList _ _ _ _ _ w.drew
  go_wp2_with fail
  all_goals go_end0
  all_goals exact⟨rfl,by rw[HM.out];exact(HX.out.level _).cast (by omega),(((af.refl (fun k=>k=b) w).setCell (p:=⟨b,5,none⟩) (.inr rfl) _)).drew⟩
theorem move_1(b:Nat)(x:Sh)(L:Int)(hx:x.Ok)(h0:0≤L)(h1:L≤16777216)(w:World)(h:Sx 145 w b x (1,L)):Calls Tryz.prog 139 #[.pointer (some ⟨b,0,none⟩)] w (mO 145 b x (mv x 1 L) w):=by
 obtain⟨c0,c1,c2,c3,c4,c5,f4,f5⟩:=gJ h
 have hlo:=nH hx
 have hsl:=BL (16777216 - low x) x.d (by omega) (by omega)
 have hS:=fun w=>qK (16777216 - low x) x.d (by omega) (by omega) (by unfold Sh.Ok at hx;omega) w
 have HM:=MI (show mv x 1 L=if L - slp (16777216 - low x) x.d≤low x then(2,low x) else(1,L - slp (16777216 - low x) x.d) from rfl)
 have HO:=MI hx
 unfold Sh.Ok at hx
 have HX:=MI h
 clear h
 have hlow:low x=x.s*65536:=rfl
 rw[hlow] at hS hsl HM hlo
 clear hlow
 have e1:IntKind.i64.wrap (16777216 - x.s*65536)=16777216 - x.s*65536:=IntWalk.i64_in _ (by omega)
 by_cases hge:L - slp (16777216 - x.s*65536) x.d≤x.s*65536
 ·rw[if_pos hge] at HM
  go_enter Tryz.func139,Tryz.ntmps139
  go_wp2_with fail
  go_still_tail 18,(by kernel_rfl)
  still_call (flip (hS _))
  repeat still_step
  refine wpStill_nil ?_
  change wpList _ _ _ _ _ w.drew
  go_wp2_with fail
  all_goals go_end0
  all_goals exact⟨rfl,by rw[HM.out];exact((HX.out.level _).stage _).cast (by omega),(((af.refl (fun k=>k=b) w).setCell (p:=⟨b,5,none⟩) (.inr rfl) _).setCell (p:=⟨b,4,none⟩) (.inr rfl) _).drew⟩
 ·rw[if_neg hge] at HM
  have hne:(L - slp (16777216 - x.s*65536) x.d==x.s*65536)=false:=by simp;omega
  go_enter Tryz.func139,Tryz.ntmps139
  go_wp2_with fail
  go_still_tail 18,(by kernel_rfl)
  still_call (flip (hS _))
  repeat still_step
  refine wpStill_nil ?_
  change wpList _ _ _ _ _ w.drew
  go_wp2_with fail
  all_goals go_end0
  all_goals exact⟨rfl,by rw[HM.out];exact(HX.out.level _).cast (by omega),(((af.refl (fun k=>k=b) w).setCell (p:=⟨b,5,none⟩) (.inr rfl) _)).drew⟩
theorem move_3(b:Nat)(x:Sh)(L:Int)(hx:x.Ok)(h0:0≤L)(h1:L≤16777216)(w:World)(h:Sx 145 w b x (3,L)):Calls Tryz.prog 139 #[.pointer (some ⟨b,0,none⟩)] w (mO 145 b x (mv x 3 L) w):=by
 obtain⟨c0,c1,c2,c3,c4,c5,f4,f5⟩:=gJ h
 have hlo:=nH hx
 have hsl:=BL (16777216) x.r (by omega) (by omega)
 have hS:=fun w=>qK (16777216) x.r (by omega) (by omega) (by unfold Sh.Ok at hx;omega) w
 have HM:=MI (show mv x 3 L=if L - slp 16777216 x.r≤0 then(4,0) else(3,L - slp 16777216 x.r) from rfl)
 have HO:=MI hx
 unfold Sh.Ok at hx
 have HX:=MI h
 clear h
 by_cases hge:L - slp 16777216 x.r≤0
 ·rw[if_pos hge] at HM
  go_enter Tryz.func139,Tryz.ntmps139
  go_wp2_with fail
  go_still_tail 15,(by kernel_rfl)
  still_call (flip (hS _))
  repeat still_step
  refine wpStill_nil ?_
  change wpList _ _ _ _ _ w.drew
  go_wp2_with fail
  all_goals go_end0
  all_goals exact⟨rfl,by rw[HM.out];exact((HX.out.level _).stage _).cast (by omega),(((af.refl (fun k=>k=b) w).setCell (p:=⟨b,5,none⟩) (.inr rfl) _).setCell (p:=⟨b,4,none⟩) (.inr rfl) _).drew⟩
 ·rw[if_neg hge] at HM
  have hne:(L - slp 16777216 x.r==0)=false:=by simp;omega
  go_enter Tryz.func139,Tryz.ntmps139
  go_wp2_with fail
  go_still_tail 15,(by kernel_rfl)
  still_call (flip (hS _))
  repeat still_step
  refine wpStill_nil ?_
  change wpList _ _ _ _ _ w.drew
  go_wp2_with fail
  all_goals go_end0
  all_goals exact⟨rfl,by rw[HM.out];exact(HX.out.level _).cast (by omega),(((af.refl (fun k=>k=b) w).setCell (p:=⟨b,5,none⟩) (.inr rfl) _)).drew⟩
theorem Gt(b:Nat)(x:Sh)(t L:Int)(ht:t=2∨t=4)(hx:x.Ok)(w:World)(h:Sx 145 w b x (t,L)):Calls Tryz.prog 139 #[.pointer (some ⟨b,0,none⟩)] w (mO 145 b x (mv x t L) w):=by
 obtain⟨c0,c1,c2,c3,c4,c5,f4,f5⟩:=gJ h
 have hlo:=nH hx
 have HM:=MI (show mv x t L=(t,L) by rcases ht with rfl | rfl<;>simp[mv])
 have HX:=MI h
 have hlow:low x=x.s*65536:=rfl
 rw[hlow] at hlo
 clear hlow h
 unfold Sh.Ok at hx
 rcases ht with rfl | rfl
 all_goals
  go_enter Tryz.func139,Tryz.ntmps139
  go_wp2_with fail
  go_end0
  exact⟨rfl,by rw[HM.out];exact HX.out,af.refl _ _⟩
theorem move_any(b:Nat)(x:Sh)(t L:Int)(hx:x.Ok)(hs:St (t,L))(w:World)(h:Sx 145 w b x (t,L)):Calls Tryz.prog 139 #[.pointer (some ⟨b,0,none⟩)] w (mO 145 b x (mv x t L) w):=by
 obtain⟨h1,h2,h3,h4⟩:=hs
 simp only at h1 h2 h3 h4
 by_cases e0:t=0
 ·subst e0;exact move_0 b x L hx h3 h4 w h
 ·by_cases e1:t=1
  ·subst e1;exact move_1 b x L hx h3 h4 w h
  ·by_cases e3:t=3
   ·subst e3;exact move_3 b x L hx h3 h4 w h
   ·exact Gt b x t L (by omega) hx w h
def ER(T:Nat)(b:Nat)(x:Sh)(p:Int×Int)(w:World)(e:Ending)(w':World):Prop:=e= .returned (.int .i64 (vl x p))∧Sx T w' b x (nx x p)∧af (fun k=>k=b) w w'
def tst(t k n:Int):Bool:=decide (t=k∧n=0)
theorem qH{t k n:Int}(h:¬(t=k∧n=0)):tst t k n=false:=decide_eq_false h
theorem xR{t k n:Int}(h:t=k∧n=0):tst t k n=true:=decide_eq_true h
theorem z0_eq(x:Sh)(t L:Int):z0 x t L=if tst t 0 x.a=true then(1,16777216) else(t,L):=by unfold z0 tst;simp
theorem z1_eq(x:Sh)(t L:Int):z1 x t L=if tst t 1 x.d=true then(2,low x) else(t,L):=by unfold z1 tst;simp
theorem z3_eq(x:Sh)(t L:Int):z3 x t L=if tst t 3 x.r=true then(4,0) else(t,L):=by unfold z3 tst;simp
theorem z0_st{x:Sh}{t L:Int}(hs:St (t,L)):St (z0 x t L):=by unfold z0;split<;>simp_all [St]
theorem z1_st{x:Sh}(h:x.Ok){t L:Int}(hs:St (t,L)):St (z1 x t L):=by have:=nH h;unfold z1;split<;>simp_all [St]
theorem z3_st{x:Sh}{t L:Int}(hs:St (t,L)):St (z3 x t L):=by unfold z3;split<;>simp_all [St]
theorem next_any(b:Nat)(x:Sh)(t L:Int)(hx:x.Ok)(hs:St (t,L))(w:World)(h:Sx 145 w b x (t,L)):Calls Tryz.prog 107 #[.pointer (some ⟨b,0,none⟩)] w (ER 145 b x (t,L) w):=by
 have hlo:=nH hx
 have hlow:low x=x.s*65536:=rfl
 rw[hlow] at hlo
 clear hlow
 have hxx:=hx
 unfold Sh.Ok at hxx
 have HO:=MI hx
 clear hx
 obtain⟨c0,c1,c2,c3,c4,c5,f4,f5⟩:=gJ h
 have HX:=MI h
 clear h
 go_enter Tryz.func107,Tryz.ntmps107
 go_upto_region 3 with fail
 go_cut [18] (fun v wx=>v= .bool (tst t 0 x.a)∧w=wx)
 case first=>
  by_cases h1:t=0
  ·have hb1:(t==0)=true:=by simpa using h1
   by_cases h2:x.a=0
   ·have hb2:(x.a==0)=true:=by simpa using h2
    have e:=MI (xR ⟨h1,h2⟩)
    clear h1 h2
    go_wp2_with fail
    go_meet
    exact⟨by rw[e.out],rfl⟩
   ·have hb2:(x.a==0)=false:=by simpa using h2
    have e:=MI (qH (fun h=>h2 h.2):tst t 0 x.a=false)
    clear h1 h2
    go_wp2_with fail
    go_meet
    exact⟨by rw[e.out],rfl⟩
  ·have hb1:(t==0)=false:=by simpa using h1
   have e:=MI (qH (fun h=>h1 h.1):tst t 0 x.a=false)
   clear h1
   go_wp2_with fail
   go_meet
   exact⟨by rw[e.out],rfl⟩
 case rest=>
 obtain⟨rfl,rfl⟩:=hcut
 go_upto_if 18 with fail
 go_cut [] (fun wx=>∃t' L',Hid (z0 x t L=(t',L'))∧Sx 145 wx b x (t',L')∧af (fun k=>k=b) w wx)
 case first=>
  have hz:=z0_eq x t L
  cases hd:tst t 0 x.a with
  | true=>
   rw[hd,if_pos rfl] at hz
   have HZ:=MI hz
   clear hz
   go_wp2_with fail
   go_meet
   exact⟨_,_,HZ.out,(HX.out.level _).stage _,((af.refl (fun k=>k=b) w).setCell (p:=⟨b,5,none⟩) (.inr rfl) _).setCell (p:=⟨b,4,none⟩) (.inr rfl) _⟩
  | false=>
   rw[hd,if_neg (by decide)] at hz
   have HZ:=MI hz
   clear hz
   go_wp2_with fail
   go_meet
   exact⟨_,_,HZ.out,HX.out,af.refl _ _⟩
 case rest=>
 clear c0 c1 c2 c3 c4 c5 f4 f5 HX
 obtain⟨w1,rfl⟩: ∃w',w'=wc:=⟨_,rfl⟩
 obtain⟨t1,L1,hz1,hX,hk1⟩:=hcut
 obtain⟨c0,c1,c2,c3,c4,c5,f4,f5⟩:=gJ hX
 have HX:=MI hX
 clear hX
 have hs1:=z0_st (x:=x) hs
 rw[hz1.out] at hs1
 go_upto_region 5 with fail
 go_cut [37] (fun v wx=>v= .bool (tst t1 1 x.d)∧w1=wx)
 case first=>
  by_cases h1:t1=1
  ·have hb1:(t1==1)=true:=by simpa using h1
   by_cases h2:x.d=0
   ·have hb2:(x.d==0)=true:=by simpa using h2
    have e:=MI (xR ⟨h1,h2⟩)
    clear h1 h2
    go_wp2_with fail
    go_meet
    exact⟨by rw[e.out],rfl⟩
   ·have hb2:(x.d==0)=false:=by simpa using h2
    have e:=MI (qH (fun h=>h2 h.2):tst t1 1 x.d=false)
    clear h1 h2
    go_wp2_with fail
    go_meet
    exact⟨by rw[e.out],rfl⟩
  ·have hb1:(t1==1)=false:=by simpa using h1
   have e:=MI (qH (fun h=>h1 h.1):tst t1 1 x.d=false)
   clear h1
   go_wp2_with fail
   go_meet
   exact⟨by rw[e.out],rfl⟩
 case rest=>
 obtain⟨rfl,rfl⟩:=hcut
 go_upto_if 37 with fail
 go_cut [] (fun wx=>∃t' L',Hid (z1 x t1 L1=(t',L'))∧Sx 145 wx b x (t',L')∧af (fun k=>k=b) w1 wx)
 case first=>
  have hz:=z1_eq x t1 L1
  cases hd:tst t1 1 x.d with
  | true=>
   rw[hd,if_pos rfl] at hz
   have HZ:=MI hz
   clear hz
   go_wp2_with fail
   go_meet
   exact⟨_,_,HZ.out,(HX.out.level _).stage _,((af.refl (fun k=>k=b) w1).setCell (p:=⟨b,5,none⟩) (.inr rfl) _).setCell (p:=⟨b,4,none⟩) (.inr rfl) _⟩
  | false=>
   rw[hd,if_neg (by decide)] at hz
   have HZ:=MI hz
   clear hz
   go_wp2_with fail
   go_meet
   exact⟨_,_,HZ.out,HX.out,af.refl _ _⟩
 case rest=>
 clear c0 c1 c2 c3 c4 c5 f4 f5 HX
 obtain⟨w2,rfl⟩: ∃w',w'=wc:=⟨_,rfl⟩
 obtain⟨t2,L2,hz2,hX,hk2⟩:=hcut
 obtain⟨c0,c1,c2,c3,c4,c5,f4,f5⟩:=gJ hX
 have HX:=MI hX
 clear hX
 have hs2:=z1_st HO.out hs1
 rw[hz2.out] at hs2
 go_upto_region 7 with fail
 go_cut [62] (fun v wx=>v= .bool (tst t2 3 x.r)∧w2=wx)
 case first=>
  by_cases h1:t2=3
  ·have hb1:(t2==3)=true:=by simpa using h1
   by_cases h2:x.r=0
   ·have hb2:(x.r==0)=true:=by simpa using h2
    have e:=MI (xR ⟨h1,h2⟩)
    clear h1 h2
    go_wp2_with fail
    go_meet
    exact⟨by rw[e.out],rfl⟩
   ·have hb2:(x.r==0)=false:=by simpa using h2
    have e:=MI (qH (fun h=>h2 h.2):tst t2 3 x.r=false)
    clear h1 h2
    go_wp2_with fail
    go_meet
    exact⟨by rw[e.out],rfl⟩
  ·have hb1:(t2==3)=false:=by simpa using h1
   have e:=MI (qH (fun h=>h1 h.1):tst t2 3 x.r=false)
   clear h1
   go_wp2_with fail
   go_meet
   exact⟨by rw[e.out],rfl⟩
 case rest=>
 obtain⟨rfl,rfl⟩:=hcut
 go_upto_if 62 with fail
 go_cut [] (fun wx=>∃t' L',Hid (z3 x t2 L2=(t',L'))∧Sx 145 wx b x (t',L')∧af (fun k=>k=b) w2 wx)
 case first=>
  have hz:=z3_eq x t2 L2
  cases hd:tst t2 3 x.r with
  | true=>
   rw[hd,if_pos rfl] at hz
   have HZ:=MI hz
   clear hz
   go_wp2_with fail
   go_meet
   exact⟨_,_,HZ.out,(HX.out.level _).stage _,((af.refl (fun k=>k=b) w2).setCell (p:=⟨b,5,none⟩) (.inr rfl) _).setCell (p:=⟨b,4,none⟩) (.inr rfl) _⟩
  | false=>
   rw[hd,if_neg (by decide)] at hz
   have HZ:=MI hz
   clear hz
   go_wp2_with fail
   go_meet
   exact⟨_,_,HZ.out,HX.out,af.refl _ _⟩
 case rest=>
 clear c0 c1 c2 c3 c4 c5 f4 f5 HX
 obtain⟨w3,rfl⟩: ∃w',w'=wc:=⟨_,rfl⟩
 obtain⟨t3,L3,hz3,hX,hk3⟩:=hcut
 obtain⟨c0,c1,c2,c3,c4,c5,f4,f5⟩:=gJ hX
 have HX:=MI hX
 clear hX
 have hs3:=z3_st (x:=x) hs2
 rw[hz3.out] at hs3
 have hzz:zz x t L=(t3,L3):=by
  show z3 x (z1 x (z0 x t L).1 (z0 x t L).2).1 (z1 x (z0 x t L).1 (z0 x t L).2).2=_
  rw[hz1.out];show z3 x (z1 x t1 L1).1 (z1 x t1 L1).2=_
  rw[hz2.out];exact hz3.out
 have hv:vl x (t,L)=val L3:=by show val (zz x t L).2=_;rw[hzz]
 have hn:nx x (t,L)=mv x t3 L3:=by show mv x (zz x t L).1 (zz x t L).2=_;rw[hzz]
 have HV:=MI hv
 have HN:=MI hn
 have hb:=hs3.2.2
 simp only at hb
 have hk:=(hk1.trans hk2).trans hk3
 have HS:=MI hs3
 have hvb: -1000000≤val L3∧val L3≤1000000:=by unfold val;omega
 clear hzz hv hn hs1 hs2 hs3 hk1 hk2 hk3 hz1 hz2 hz3 c0 c1 c2 c3 f4 f5 c4
 go_wp2_with (first | (go_at_call 138;refine(jA L3 hb.1 hb.2 _).mono ?_;rintro e w4 ⟨rfl,nq,rfl⟩) | (go_at_call 139;refine(move_any b x t3 L3 HO.out HS.out _ (HX.out.drewN nq)).mono ?_;rintro e w5 ⟨rfl,hX5,hk5⟩))
 go_ret
 exact⟨aX HV.out.symm,by rw[HN.out];exact hX5,(hk.drewN nq).trans hk5⟩
theorem rel_any(b:Nat)(x:Sh)(t L:Int)(w:World)(h:Sx 145 w b x (t,L)):Calls Tryz.prog 100 #[.pointer (some ⟨b,0,none⟩)] w (mO 145 b x (rel (t,L)) w):=by
 obtain⟨c0,c1,c2,c3,c4,c5,f4,f5⟩:=gJ h
 have HX:=MI h
 clear h
 by_cases h4:t=4
 ·subst h4
  go_enter Tryz.func100,Tryz.ntmps100
  go_wp2_with fail
  go_end0
  exact⟨rfl,HX.out,af.refl _ _⟩
 ·have hb4:(t==4)=false:=by simpa using h4
  have hr:=MI (show rel (t,L)=(3,L) by unfold rel;rw[if_neg h4])
  clear h4
  go_enter Tryz.func100,Tryz.ntmps100
  go_wp2_with fail
  go_end0
  exact⟨rfl,by rw[hr.out];exact HX.out.stage _,(af.refl (fun k=>k=b) w).setCell (p:=⟨b,4,none⟩) (.inr rfl) _⟩
theorem Fh(b:Nat)(x:Sh)(t L:Int)(w:World)(h:Sx 145 w b x (t,L)):Calls Tryz.prog 112 #[.pointer (some ⟨b,0,none⟩)] w fun e w'=>e= .returned (.int .i64 t)∧w=w':=by
 obtain⟨c0,c1,c2,c3,c4,c5,f4,f5⟩:=gJ h
 clear h
 go_enter Tryz.func112,Tryz.ntmps112
 go_wp2_with fail
 go_ret
 exact⟨rfl,rfl⟩
def okB(x:Sh):Bool:=decide (0≤x.a∧x.a≤1048576∧0≤x.d∧x.d≤1048576∧0≤x.r∧x.r≤1048576∧0≤x.s∧x.s≤256)
theorem okB_iff(x:Sh):okB x=true↔x.Ok:=decide_eq_true_iff
def LG(x:Sh)(w:World)(e:Ending)(w':World):Prop:=e= .returned (.bool (okB x))∧Below w.heap.size w w'
def Seen(x:Sh)(k:Nat):Prop:=(1≤k→0≤x.a∧x.a≤1048576)∧(2≤k→0≤x.d∧x.d≤1048576)∧(3≤k→0≤x.r∧x.r≤1048576)
theorem wI(x:Sh)(w:World):Calls Tryz.prog 71 #[.agg #[.int .i64 x.a,.int .i64 x.d,.int .i64 x.s,.int .i64 x.r]] w (LG x w):=by
 have i0: ∀w,(Instr.index 203 (.agg #[.int .i64 x.a,.int .i64 x.d,.int .i64 x.r]) (.int .i64 0)).run Tryz.prog w= .ok (.int .i64 x.a) w:=fun _=>by kernel_rfl
 have i1: ∀w,(Instr.index 203 (.agg #[.int .i64 x.a,.int .i64 x.d,.int .i64 x.r]) (.int .i64 1)).run Tryz.prog w= .ok (.int .i64 x.d) w:=fun _=>by kernel_rfl
 have i2: ∀w,(Instr.index 203 (.agg #[.int .i64 x.a,.int .i64 x.d,.int .i64 x.r]) (.int .i64 2)).run Tryz.prog w= .ok (.int .i64 x.r) w:=fun _=>by kernel_rfl
 go_enter Tryz.func71,Tryz.ntmps71
 go_wp2_with fail
 go_loop [12] (fun i=>∃k:Nat,k≤3∧i= .int .i64 k∧Hid (Seen x k)) (fun i=>3 - (intOf i).toNat)
 case atStart=>exact⟨0,by omega,rfl,by omega,by omega,by omega⟩
 case round=>
  obtain⟨k,hk,rfl,hs⟩:=hrel
  by_cases hk0:k=0
  ·subst hk0
   by_cases hr:0≤x.a∧x.a≤1048576
   ·have hs':Hid (Seen x (0+1)):=⟨fun _=>hr,fun h=>by omega,fun h=>by omega⟩
    obtain⟨hr1,hr2⟩:=hr
    go_wp2_with fail
    go_round
    case rel=>exact⟨0+1,by omega,by go_num,hs'⟩
    case measure=>simp[intOf]
   ·have hno:=MI (show okB x=false from decide_eq_false fun h=>hr (by omega))
    by_cases hn:x.a<0
    ·clear hr
     go_wp2_with fail
     go_ret
     exact⟨aN hno.out.symm,ae _ _⟩
    ·have hn2:1048576<x.a:=by omega
     clear hr
     go_wp2_with fail
     go_ret
     exact⟨aN hno.out.symm,ae _ _⟩
  by_cases hk1:k=1
  ·subst hk1
   by_cases hr:0≤x.d∧x.d≤1048576
   ·have hs':Hid (Seen x (1+1)):=⟨fun h=>hs.out.1 (by omega),fun _=>hr,fun h=>by omega⟩
    obtain⟨hr1,hr2⟩:=hr
    go_wp2_with fail
    go_round
    case rel=>exact⟨1+1,by omega,by go_num,hs'⟩
    case measure=>simp[intOf]
   ·have hno:=MI (show okB x=false from decide_eq_false fun h=>hr (by omega))
    by_cases hn:x.d<0
    ·clear hr
     go_wp2_with fail
     go_ret
     exact⟨aN hno.out.symm,ae _ _⟩
    ·have hn2:1048576<x.d:=by omega
     clear hr
     go_wp2_with fail
     go_ret
     exact⟨aN hno.out.symm,ae _ _⟩
  by_cases hk2:k=2
  ·subst hk2
   by_cases hr:0≤x.r∧x.r≤1048576
   ·have hs':Hid (Seen x (2+1)):=⟨fun h=>hs.out.1 (by omega),fun h=>hs.out.2.1 (by omega),fun _=>hr⟩
    obtain⟨hr1,hr2⟩:=hr
    go_wp2_with fail
    go_round
    case rel=>exact⟨2+1,by omega,by go_num,hs'⟩
    case measure=>simp[intOf]
   ·have hno:=MI (show okB x=false from decide_eq_false fun h=>hr (by omega))
    by_cases hn:x.r<0
    ·clear hr
     go_wp2_with fail
     go_ret
     exact⟨aN hno.out.symm,ae _ _⟩
    ·have hn2:1048576<x.r:=by omega
     clear hr
     go_wp2_with fail
     go_ret
     exact⟨aN hno.out.symm,ae _ _⟩
  have hk3:k=3:=by omega
  subst hk3
  have h1:=hs.out.1 (by omega)
  have h2:=hs.out.2.1 (by omega)
  have h3:=hs.out.2.2 (by omega)
  have HE:=MI (show okB x=decide (0≤x.s∧x.s≤256) by unfold okB;rw[decide_eq_decide];omega)
  clear h1 h2 h3 hs
  go_wp2_with fail
  all_goals go_ret
  all_goals exact⟨aN (by rw[HE.out,Bool.eq_iff_iff];simp<;>omega),ae _ _⟩
theorem F6(w:World):Calls Tryz.prog 14 #[] w fun e w'=>e= .returned (.agg #[(),(),.int .i64 256,()])∧Below w.heap.size w w':=by
 go_enter Tryz.func14,Tryz.ntmps14
 go_wp2_with fail
 refine bodyPost_ret (v:=.agg #[(),(),.int .i64 256,()]) (by simp[results,Tryz.results14,go_sem]) rfl ⟨rfl,?_⟩
 exact ae _ _
def qB(x:Sh)(w:World)(e:Ending)(w':World):Prop:=∃b,e= .returned (.tuple #[.pointer (some ⟨b,0,none⟩),()])∧w.heap.size≤b∧Sx 145 w' b x (0,0)∧Below w.heap.size w w'
theorem new_yes(x:Sh)(h:x.Ok)(w:World):Calls Tryz.prog 33 #[.agg #[.int .i64 x.a,.int .i64 x.d,.int .i64 x.s,.int .i64 x.r]] w (qB x w):=by
 have HB:=MI ((okB_iff x).2 h)
 have hal:=L9 w (.cells #[.int .i64 x.a,.int .i64 x.d,.int .i64 x.s,.int .i64 x.r] 46)
 clear h
 go_enter Tryz.func33,Tryz.ntmps33
 go_wp2_with (go_at_call 71;refine(wI x _).mono ?_;rintro e w1 ⟨rfl,hb1⟩;rw[HB.out];have hz1:=(hb1.block _ (L8 hal)).trans hal;have d0:w1.cell? ⟨w.heap.size,0,none⟩=some (.int .i64 x.a):=LY hz1 rfl;have d1:w1.cell? ⟨w.heap.size,1,none⟩=some (.int .i64 x.d):=LY hz1 rfl;have d2:w1.cell? ⟨w.heap.size,2,none⟩=some (.int .i64 x.s):=LY hz1 rfl;have d3:w1.cell? ⟨w.heap.size,3,none⟩=some (.int .i64 x.r):=LY hz1 rfl)
 go_ret2
 exact⟨_,rfl,by have:=hb1.size;simp at this;omega,L9 _ _,iR (bW (ae _ _) hb1) _⟩
def x0:Sh:=⟨0,0,256,0⟩
end Go.Proofs.YtnicjahcgnhogaaGreatDoor.Nv
