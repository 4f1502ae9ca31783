/- Part 18 of the walk: contracts of the program's functions, each for every input. No condition. -/
import Derived.Test.YtnicjahcgnhogaaGreatDoorQ16
import Derived.Lib.SliceRun
import Derived.Lib.Bytealg
import Derived.Laws.Externs
set_option linter.unusedVariables false
set_option linter.unusedSimpArgs false
set_option maxRecDepth 100000
set_option maxHeartbeats 8000000
namespace Go.Proofs.YtnicjahcgnhogaaGreatDoor
open Go Go.RowKit Go.Calli
attribute [local irreducible] wpStill wpAnyH wpAnyS wpList Code.wp
theorem set_self(l:List Po)(i:Nat):l.set i (l.getD i none)=l:=by
 apply List.ext_getElem?
 intro j
 rw[List.getElem?_set]
 by_cases h:i=j
 ·subst h
  by_cases hl:i<l.length
  ·simp[hl]
  ·simp[hl]
 ·rw[if_neg h]
theorem Bv(X:Fx)(Y:Yx)(B:Bk)(K:Nat)(σ:Own)(y:Ye)(w:World)(hy:YIs X Y B K σ w y):Calls Tryz.prog 52 #[.pointer (some ⟨Y.yb,0,none⟩)] w (fun e w'=>e= .returned (.int .i64 (Y.n:Int))∧w=w'):=by
 have HN:=MI (iM X Y B K σ y w hy)
 obtain⟨c0,c1,c2⟩:=hy.cells
 clear hy c0 c2
 go_enter Tryz.func52,Tryz.ntmps52
 go_wp2_with (go_at_call 27;refine HN.out.mono ?_;rintro e w' ⟨rfl,rfl⟩)
 go_ret
 exact⟨rfl,rfl⟩
def jl(Y:Yx)(y:Ye)(id:Int):Int×Int:=
 if id<0∨(Y.n:Int)≤id then(0,15) else
 match y.ps.getD id.toNat none with
 | none=>(0,7)
 | some q=>(q.2.v.at_,0)
def PlcP(r:Int×Int)(w:World)(e:Ending)(w':World):Prop:=e= .returned (.tuple #[.int .i64 r.1,.int .i64 r.2])∧w=w'
theorem F8(X:Fx)(Y:Yx)(B:Bk)(K:Nat)(σ:Own)(y:Ye)(id:Int)(w:World)(hy:YIs X Y B K σ w y):Calls Tryz.prog 53 #[.pointer (some ⟨Y.yb,0,none⟩),.int .i64 id] w (PlcP (jl Y y id) w):=by
 by_cases h1:id<0
 ·have HP:=MI (lK X Y B K σ y id h1 w hy)
  have HE:=MI (show jl Y y id=(0,15) by unfold jl;rw[if_pos (.inl h1)])
  clear hy h1
  go_enter Tryz.func53,Tryz.ntmps53
  go_wp2_with (go_at_call 84;refine HP.out.mono ?_;rintro e w' ⟨rfl,rfl⟩)
  go_ret2
  exact⟨by rw[HE.out];rfl,rfl⟩
 by_cases h2:(Y.n:Int)≤id
 ·have HP:=MI (lL X Y B K σ y id h2 w hy)
  have HE:=MI (show jl Y y id=(0,15) by unfold jl;rw[if_pos (.inr h2)])
  clear hy h1 h2
  go_enter Tryz.func53,Tryz.ntmps53
  go_wp2_with (go_at_call 84;refine HP.out.mono ?_;rintro e w' ⟨rfl,rfl⟩)
  go_ret2
  exact⟨by rw[HE.out];rfl,rfl⟩
 obtain⟨i,rfl⟩: ∃i:Nat,id=(i:Int):=⟨id.toNat,by omega⟩
 have hi:i<Y.n:=by omega
 have hn:¬((i:Int)<0∨(Y.n:Int)≤i):=by omega
 cases hq:y.ps.getD i none with
 | none=>
  have HP:=MI (lJ X Y B K σ y i hi hq w hy)
  have HE:=MI (show jl Y y (i:Int)=(0,7) by unfold jl;rw[if_neg hn,Int.toNat_natCast,hq])
  clear hy h1 h2 hn hq
  go_enter Tryz.func53,Tryz.ntmps53
  go_wp2_with (go_at_call 84;refine HP.out.mono ?_;rintro e w' ⟨rfl,rfl⟩)
  go_ret2
  exact⟨by rw[HE.out];rfl,rfl⟩
 | some q=>
  obtain⟨P,p⟩:=q
  have HP:=MI (lI X Y B K σ y i hi P p hq w hy)
  have HE:=MI (show jl Y y (i:Int)=(p.v.at_,0) by unfold jl;rw[if_neg hn,Int.toNat_natCast,hq])
  obtain⟨hT,hp⟩:=hy.pt i P p hq
  obtain⟨c0,c1,-⟩:=bf hp.row
  obtain⟨pb,cap,hrow,-⟩:=hp.vo.row
  have HC:=MI (Bo P.V.vb (some ⟨pb,0,none⟩) cap p.v hp.vo.ok w hrow)
  clear hy h1 h2 hn hq hp hrow
  go_enter Tryz.func53,Tryz.ntmps53
  go_wp2_with (first | (go_at_call 84;refine HP.out.mono ?_;rintro e w' ⟨rfl,rfl⟩) | (go_at_call 85;refine HC.out.mono ?_;rintro e w' ⟨rfl,rfl⟩))
  go_ret2
  exact⟨by rw[HE.out];rfl,rfl⟩
def kZ(l r:Int)(p:Pt):Int×Pt:=if l<0∨r<0∨256<l∨256<r then(5,p) else(0,{p with l:=l,r:=r})
theorem iO.vol{X:Fx}{P:Px}{B:Bk}{K:Nat}{σ:Own}{w:World}{p:Pt}(h:iO X P B K σ w p)(l r:Int):iO X P B K σ ((w.setCell ⟨P.pb,2,none⟩ (.int .i64 l)).setCell ⟨P.pb,3,none⟩ (.int .i64 r)) {p with l:=l,r:=r}:=by
 have hk:=(aC w P.pb 2 (.int .i64 l)).trans (aC (w.setCell ⟨P.pb,2,none⟩ (.int .i64 l)) P.pb 3 (.int .i64 r))
 exact⟨Mc (Mc h.row),h.vo.keep hk (fun k e hl=>by have:=h.o1;rw[e];omega),hk.heap h.ev (fun e=>h.ne e.symm),h.sok,h.st,h.o1,h.o2⟩
theorem Bq(X:Fx)(Y:Yx)(B:Bk)(K:Nat)(σ:Own)(f:Fe)(y:Ye)(id:Int)(l r:Int)(w:World)(h:aK X σ w B K f)(hy:YIs X Y B K σ w y):Calls Tryz.prog 65 #[.pointer (some ⟨Y.yb,0,none⟩),.int .i64 id,.int .i64 l,.int .i64 r] w (o9 X Y B K σ f (cZ Y y id (kZ l r)) w):=by
 by_cases h1:id<0
 ·have HP:=MI (lK X Y B K σ y id h1 w hy)
  have HE:=MI (fun v hv=>eQ (r:=cZ Y y id (kZ l r)) h hy (c:=15) (by unfold cZ;rw[if_pos (.inl h1)]) (v:=v) hv)
  clear h hy h1
  go_enter Tryz.func65,Tryz.ntmps65
  go_wp2_with (go_at_call 84;refine HP.out.mono ?_;rintro e w' ⟨rfl,rfl⟩)
  go_ret
  exact HE.out _ rfl
 by_cases h2:(Y.n:Int)≤id
 ·have HP:=MI (lL X Y B K σ y id h2 w hy)
  have HE:=MI (fun v hv=>eQ (r:=cZ Y y id (kZ l r)) h hy (c:=15) (by unfold cZ;rw[if_pos (.inr h2)]) (v:=v) hv)
  clear h hy h1 h2
  go_enter Tryz.func65,Tryz.ntmps65
  go_wp2_with (go_at_call 84;refine HP.out.mono ?_;rintro e w' ⟨rfl,rfl⟩)
  go_ret
  exact HE.out _ rfl
 obtain⟨i,rfl⟩: ∃i:Nat,id=(i:Int):=⟨id.toNat,by omega⟩
 have hi:i<Y.n:=by omega
 have hn:¬((i:Int)<0∨(Y.n:Int)≤i):=by omega
 cases hq:y.ps.getD i none with
 | none=>
  have HP:=MI (lJ X Y B K σ y i hi hq w hy)
  have HE:=MI (fun v hv=>eQ (r:=cZ Y y (i:Int) (kZ l r)) h hy (c:=7) (by unfold cZ;rw[if_neg hn,Int.toNat_natCast,hq]) (v:=v) hv)
  clear h hy h1 h2 hn hq
  go_enter Tryz.func65,Tryz.ntmps65
  go_wp2_with (go_at_call 84;refine HP.out.mono ?_;rintro e w' ⟨rfl,rfl⟩)
  go_ret
  exact HE.out _ rfl
 | some q=>
  obtain⟨P,p⟩:=q
  have HP:=MI (lI X Y B K σ y i hi P p hq w hy)
  obtain⟨hT,hp⟩:=hy.pt i P p hq
  have hn0:((0:Int)==0)=true:=rfl
  by_cases hb:l<0∨r<0∨256<l∨256<r
  ·have HR:=MI (show cZ Y y (i:Int) (kZ l r)=(5,y) by
    unfold cZ kZ
    rw[if_neg hn,Int.toNat_natCast,hq]
    simp only[if_pos hb]
    rw[←hq,set_self])
   have HE:=MI (fun v hv=>eQ (r:=cZ Y y (i:Int) (kZ l r)) h hy (c:=5) HR.out (v:=v) hv)
   clear h hy h1 h2 hn hq hp HR
   by_cases a1:l<0
   ·have a2:l<257:=by omega
    clear hb
    by_cases a3:r<0
    ·have a4:r<257:=by omega
     go_enter Tryz.func65,Tryz.ntmps65
     go_wp2_with (go_at_call 84;refine HP.out.mono ?_;rintro e w' ⟨rfl,rfl⟩)
     all_goals go_ret
     all_goals exact HE.out _ rfl
    by_cases a4:256<r
    ·have a5:l<r:=by omega
     go_enter Tryz.func65,Tryz.ntmps65
     go_wp2_with (go_at_call 84;refine HP.out.mono ?_;rintro e w' ⟨rfl,rfl⟩)
     all_goals go_ret
     all_goals exact HE.out _ rfl
    go_enter Tryz.func65,Tryz.ntmps65
    go_wp2_with (go_at_call 84;refine HP.out.mono ?_;rintro e w' ⟨rfl,rfl⟩)
    all_goals go_ret
    all_goals exact HE.out _ rfl
   by_cases a3:r<0
   ·clear hb
    have a4:r<l:=by omega
    go_enter Tryz.func65,Tryz.ntmps65
    go_wp2_with (go_at_call 84;refine HP.out.mono ?_;rintro e w' ⟨rfl,rfl⟩)
    all_goals go_ret
    all_goals exact HE.out _ rfl
   by_cases a4:256<l
   ·clear hb
    go_enter Tryz.func65,Tryz.ntmps65
    go_wp2_with (go_at_call 84;refine HP.out.mono ?_;rintro e w' ⟨rfl,rfl⟩)
    all_goals go_ret
    all_goals exact HE.out _ rfl
   have a5:256<r:=by omega
   clear hb
   have a6:l<r:=by omega
   go_enter Tryz.func65,Tryz.ntmps65
   go_wp2_with (go_at_call 84;refine HP.out.mono ?_;rintro e w' ⟨rfl,rfl⟩)
   all_goals go_ret
   all_goals exact HE.out _ rfl
  ·have HR:=MI (show cZ Y y (i:Int) (kZ l r)=(0,{y with ps:=y.ps.set i (some (P,{p with l:=l,r:=r}))}) by
    unfold cZ kZ
    rw[if_neg hn,Int.toNat_natCast,hq]
    simp only[if_neg hb])
   have g2:=frozen_of_row _ _ 2 _ _ hp.row
   have g3:=frozen_of_row _ _ 3 _ _ hp.row
   obtain⟨c0,c1,c2,c3,-⟩:=bf hp.row
   have ho:=hp.o1
   have ht:=hp.vo.t
   have hk:=(aC w P.pb 2 (.int .i64 l)).trans (aC (w.setCell ⟨P.pb,2,none⟩ (.int .i64 l)) P.pb 3 (.int .i64 r))
   have HE:Hid (∀v,v= .int .i64 0→o9 X Y B K σ f (cZ Y y (i:Int) (kZ l r)) w (.returned v) ((w.setCell ⟨P.pb,2,none⟩ (.int .i64 l)).setCell ⟨P.pb,3,none⟩ (.int .i64 r))):=fun v hv=>by
    rw[HR.out]
    exact⟨by rw[hv],h.kept (hk.mono fun k _ e=>by rw[e,ho];omega),hy.did Me hq (hk.mono fun k _ e=>by unfold FP;rw[e,ho];exact .inr rfl) (Ext.refl _ _) (hp.vol l r),hk.mono fun k _ e=>by unfold FO;rw[e,ho];omega⟩
   clear h hy h1 h2 hn hq hp HR hk
   have b1:0≤l:=by omega
   have b2:0≤r:=by omega
   have b3:l≤256:=by omega
   have b4:r≤256:=by omega
   clear hb
   go_enter Tryz.func65,Tryz.ntmps65
   go_wp2_with (go_at_call 84;refine HP.out.mono ?_;rintro e w' ⟨rfl,rfl⟩)
   all_goals go_ret
   all_goals exact HE.out _ rfl
def IX(y:Ye)(b:Nat):Int:=match y.ps.getD b none with
 | none=>0
 | some q=>q.2.since
def nz(y:Ye):Nat→Nat→Nat→Nat
 | 0,_,b=>b
 | k+1,i,b=>match y.ps.getD i none with
  | none=>i
  | some q=>nz y k (i+1) (if q.2.since<IX y b then i else b)
def gI(Y:Yx)(y:Ye):Nat:=nz y Y.n 0 0
theorem zt(y:Ye)(n:Nat): ∀k i b,i+k=n→b<n→nz y k i b<n:=by
 intro k
 induction k with
 | zero=>intro i b _ hb;exact hb
 | succ k ih=>
  intro i b he hb
  unfold nz
  cases y.ps.getD i none with
  | none=>show i<n;omega
  | some q=>
   refine ih _ _ (by omega) ?_
   split<;>omega
theorem Jd(X:Fx)(Y:Yx)(B:Bk)(K:Nat)(σ:Own)(y:Ye)(w:World)(hy:YIs X Y B K σ w y):Calls Tryz.prog 35 #[.pointer (some ⟨Y.yb,0,none⟩)] w (Qt (.int .i64 (gI Y y:Int)) w):=by
 obtain⟨c0,c1,c2⟩:=hy.cells
 have HY:=MI hy
 have hn1:=hy.n1
 have hn2:=hy.n2
 have HRdef:=MI (show nz y (Y.n - 0) 0 0=gI Y y from rfl)
 unfold Qt
 generalize gI Y y=R at*
 clear hy c0 c2
 go_enter Tryz.func35,Tryz.ntmps35
 go_wp2_with fail
 go_loopw [3,11] (fun v3 v11 wr=>∃i b m:Nat,i≤Y.n∧b<Y.n∧v3= .int .i64 (b:Int)∧v11= .int .i64 (i:Int)∧b≤i∧Hid (nz y (Y.n - i) i b=R)∧Hid (∀j,j<i→y.ps.getD j none≠none)∧(b=i→i=0)∧wr=w.drewN m) (fun _ v11 _=>Y.n - aG v11)
 case atStart=>exact⟨0,0,0,by omega,by omega,rfl,rfl,Me,HRdef,fun j h=>by omega,fun _=>rfl,rfl⟩
 case round=>
  obtain⟨i,b,m,hi,hb,rfl,rfl,hbi,hR,hnn,hb0,rfl⟩:=hrel
  have d1:(w.drewN m).cell? ⟨Y.yb,1,none⟩=some (.slice (some ⟨Y.sb,0,none⟩) Y.n Y.n):=c1
  by_cases hlt:i<Y.n
  ·have hci:=HY.out.cell hlt
   cases hq:y.ps.getD i none with
   | none=>
    rw[hq] at hci
    have di:(w.drewN m).cell? ⟨Y.sb,i,none⟩=some (.pointer none):=hci
    have hR2:=MI (show R=i by
     rw[←hR.out,show Y.n - i=(Y.n - i - 1)+1 by omega]
     unfold nz
     rw[hq])
    have hlt2:(i:Int)<(Y.n:Int):=by omega
    clear hR hnn hq hci
    go_wp2_with fail
    go_ret
    exact⟨by rw[hR2.out];rfl,_,rfl⟩
   | some q=>
    obtain⟨P,p⟩:=q
    rw[hq] at hci
    have di:(w.drewN m).cell? ⟨Y.sb,i,none⟩=some (.pointer (some ⟨P.pb,0,none⟩)):=hci
    obtain⟨hT,hp⟩:=HY.out.pt i P p hq
    obtain⟨-,-,-,-,e4⟩:=bf hp.row
    have f4:(w.drewN m).cell? ⟨P.pb,4,none⟩=some (.int .i64 p.since):=e4
    obtain⟨Q,q2,hqb⟩: ∃Q q2,y.ps.getD b none=some (Q,q2):=by
     cases hc:y.ps.getD b none with
     | some z=>exact⟨z.1,z.2,rfl⟩
     | none=>
      rcases Nat.lt_or_ge b i with h | h
      ·exact absurd hc (hnn.out b h)
      ·obtain rfl:b=i:=by omega
       rw[hc] at hq;cases hq
    have hcb:=HY.out.cell hb
    rw[hqb] at hcb
    have db:(w.drewN m).cell? ⟨Y.sb,b,none⟩=some (.pointer (some ⟨Q.pb,0,none⟩)):=hcb
    obtain⟨-,-,-,-,e5⟩:=bf (HY.out.pt b Q q2 hqb).2.row
    have f5:(w.drewN m).cell? ⟨Q.pb,4,none⟩=some (.int .i64 q2.since):=e5
    have hR2:=MI (show nz y (Y.n - (i+1)) (i+1) (if p.since<q2.since then i else b)=R by
     rw[←hR.out,show Y.n - i=(Y.n - (i+1))+1 by omega]
     conv=>rhs;unfold nz
     rw[hq]
     simp only[IX,hqb])
    have hnn2:=MI (show ∀j,j<i+1→y.ps.getD j none≠none from fun j hj=>by
     rcases Nat.lt_or_ge j i with h | h
     ·exact hnn.out j h
     ·obtain rfl:j=i:=by omega
      rw[hq];exact fun h=>by cases h)
    have hlt2:(i:Int)<(Y.n:Int):=by omega
    have hlb:(b:Int)<(Y.n:Int):=by omega
    have dw:w.cell? ⟨Y.sb,b,none⟩=some (.pointer (some ⟨Q.pb,0,none⟩)):=hcb
    have dv:w.cell? ⟨Y.sb,i,none⟩=some (.pointer (some ⟨P.pb,0,none⟩)):=hci
    clear hR hnn hci hcb hp hT
    by_cases hs:p.since<q2.since
    ·rw[if_pos hs] at hR2
     clear hq hqb
     generalize p.since=s1 at*
     generalize q2.since=s2 at*
     go_upto_region 7 with fail
     go_quiet (fail)
     go_wp2_with fail
     refine⟨⟨i+1,i,_,by omega,by omega,rfl,by go_num,by omega,hR2,hnn2,fun h=>by omega,rfl⟩,by simp[aG];omega⟩
    ·rw[if_neg hs] at hR2
     clear hq hqb
     generalize p.since=s1 at*
     generalize q2.since=s2 at*
     go_upto_region 7 with fail
     go_quiet (fail)
     go_wp2_with fail
     refine⟨⟨i+1,b,_,by omega,by omega,rfl,by go_num,by omega,hR2,hnn2,fun h=>by omega,rfl⟩,by simp[aG];omega⟩
  ·obtain rfl:i=Y.n:=by omega
   have hR2:=MI (show R=b by rw[←hR.out,Nat.sub_self];rfl)
   have hnl:¬(Y.n:Int)<Y.n:=by omega
   clear hR hnn
   go_wp2_with fail
   go_ret
   exact⟨by rw[hR2.out];rfl,_,rfl⟩
def aA(σ:Own)(a b t:Nat):Own:=fun k=>if a≤k∧k<b then t else σ k
theorem bZ(σ:Own)(a b t:Nat):Ext σ (aA σ a b t) a:=fun k hk=>if_neg (by omega)
theorem aT(σ:Own){a b k:Nat}(t:Nat)(h0:a≤k)(h1:k<b):aA σ a b t k=t:=if_pos ⟨h0,h1⟩
theorem dP(σ:Own){a b k:Nat}(t:Nat)(h:k<a):aA σ a b t k=σ k:=if_neg (by omega)
theorem aK.aA{X:Fx}{σ:Own}{w w':World}{B:Bk}{K:Nat}{f:Fe}(h:aK X σ w B K f)(hk:af (fun k=>3≤σ k) w w')(t:Nat):aK X (aA σ w.heap.size w'.heap.size t) w' B K f:=
 h.own hk (bZ σ _ _ t) (fun k hn=>by
  have hs:=hk.size
  rcases Nat.lt_or_ge k w.heap.size with hl | hl
  ·omega
  ·rcases Nat.lt_or_ge k w'.heap.size with h2 | h2
   ·exact h2
   ·exfalso
    have e:Proofs.YtnicjahcgnhogaaGreatDoor.aA σ w.heap.size w'.heap.size t k=σ k:=if_neg (by omega)
    rw[e] at hn
    have:=h.rU k hn
    omega)
theorem YIs.keep{X:Fx}{Y:Yx}{B:Bk}{K:Nat}{σ:Own}{w w':World}{y:Ye}(h:YIs X Y B K σ w y){S:Nat→Prop}(hk:af S w w')(hS: ∀k,S k→k<w.heap.size→σ k<4):YIs X Y B K σ w' y:=by
 refine⟨hk.heap h.row (fun e=>?_),hk.heap h.sl (fun e=>?_),h.len,h.n1,h.n2,h.o1,h.o2,fun i P p hq=>?_,h.c0,h.c1⟩
 ·have:=hS _ e (L8 h.row);have:=h.o1;omega
 ·have:=hS _ e (L8 h.sl);have:=h.o2;omega
 ·obtain⟨h1,h2⟩:=h.pt i P p hq
  exact⟨h1,h2.keep hk (fun k e hl=>by have:=hS k e hl;omega)⟩
theorem YIs.ah{X:Fx}{Y:Yx}{B:Bk}{K:Nat}{σ:Own}{w w':World}{y:Ye}(h:YIs X Y B K σ w y)(hb:Below w.heap.size w w'):YIs X Y B K σ w' y:=h.keep (S:=fun _=>False) (af.au hb Me) (fun _ e=>e.elim)
theorem YIs.ext{X:Fx}{Y:Yx}{B:Bk}{K:Nat}{σ σ':Own}{w:World}{y:Ye}(h:YIs X Y B K σ w y)(he:Ext σ σ' w.heap.size):YIs X Y B K σ' w y:=
 ⟨h.row,h.sl,h.len,h.n1,h.n2,(he _ (L8 h.row)).trans h.o1,(he _ (L8 h.sl)).trans h.o2,fun i P p hq=>⟨(h.pt i P p hq).1,(h.pt i P p hq).2.ext he⟩,h.c0,h.c1⟩
theorem YIs.up{X:Fx}{Y:Yx}{B:Bk}{K L:Nat}{σ:Own}{w:World}{y:Ye}(h:YIs X Y B K σ w y)(hl:K≤L):YIs X Y B L σ w y:=
 ⟨h.row,h.sl,h.len,h.n1,h.n2,h.o1,h.o2,fun i P p hq=>⟨(h.pt i P p hq).1,(h.pt i P p hq).2.up hl⟩,h.c0,h.c1⟩
theorem rq(X:Fx)(σ:Own)(B:Bk)(K:Nat)(f:Fe)(w:World)(h:aK X σ w B K f):Calls Tryz.prog 37 #[.pointer (some ⟨X.A.cb,0,none⟩)] w (fun e w'=>e= .returned (.pointer (some ⟨X.A.b,0,none⟩))∧w=w'):=by
 have hr:=h.ca.row
 have c4:w.cell? ⟨X.A.cb,4,none⟩=some (.pointer (some ⟨X.A.b,0,none⟩)):=LY hr rfl
 have HN0:=Cch.oh (X.ad σ) X.n f.c w h.ca
 have HN1:Calls Tryz.prog 73 #[.pointer (some ⟨X.A.cb,0,none⟩)] w (Cch.Same (.bool false) w):=HN0
 have HN:=MI HN1
 unfold Cch.Same at HN
 clear h hr HN0 HN1
 go_enter Tryz.func37,Tryz.ntmps37
 go_wp2_with (go_at_call 73;refine HN.out.mono ?_;rintro e w' ⟨rfl,rfl⟩)
 go_ret
 exact⟨rfl,rfl⟩
theorem o7(X:Fx)(σ:Own)(B:Bk)(K:Nat)(f:Fe)(w:World)(h:aK X σ w B K f):Calls Tryz.prog 38 #[.pointer (some ⟨X.A.b,0,none⟩)] w (fun e w'=>e= .returned (.int .i64 f.c.d.r)∧w=w'):=by
 obtain⟨m,-,hd⟩:=h.ca.dsk
 refine(Cch.FQ X.A.b X.A.mb X.A.ib X.A.kap m f.c.d w hd).mono ?_
 rintro e w' ⟨h1,h2⟩
 exact⟨h1,h2⟩
theorem info98:(Tryz.prog.info? 98).map (fun i=>(i.zero,i.size,i.bytes))=some (some (.pointer none),1,8):=by kernel_rfl
def tJ(n:Nat):Array Value:=madeCells (Value.pointer none).cells (n*1)
theorem I8(n:Nat):tJ n=((List.replicate n (none:Po)).map oG).toArray:=by
 have h:(tJ n).toList=(List.replicate n (Value.pointer none)):=by
  apply List.ext_getElem
  ·simp[tJ,madeCells]
  ·intro i h1 h2
   simp[tJ,madeCells,Value.cells,Nat.mod_one]
 rw[List.map_replicate]
 show tJ n=(List.replicate n (Value.pointer none)).toArray
 rw[←h]
theorem CZ(n:Nat)(hn:n≤16)(w:World):(Instr.makeSlice 83 (.int .i64 (n:Int)) (.int .i64 (n:Int))).run Tryz.prog w= .ok (.slice (some ⟨w.heap.size,0,none⟩) n n) (w.alloc (.cells (tJ n) 98)):=by
 obtain⟨i,hi,hz,hsz,hby⟩:=info_parts info98
 have hb2:(i.bytes:Int)*(n:Int)≤281474976710656:=by
  have h:((i.bytes*n:Nat):Int)≤281474976710656:=by rw[hby];omega
  rwa [Int.natCast_mul] at h
 have hr:=run_make (P:=Tryz.prog) w 83 98 i _ Tryz.underlying83 hi hz .i64 .i64 n n (by omega) (Int.le_refl _) hb2 (by omega)
 simp only[Int.toNat_natCast] at hr
 rw[hr,hsz]
 rfl
def yl(n:Nat):Ye:=⟨List.replicate n none,0⟩
def PNewP(X:Fx)(B:Bk)(K:Nat)(σ:Own)(f:Fe)(n:Nat)(w:World)(e:Ending)(w':World):Prop:=∃Y σ',Y.n=n∧e= .returned (.tuple #[.pointer (some ⟨Y.yb,0,none⟩),()])∧aK X σ' w' B K f∧YIs X Y B K σ' w' (yl n)∧Below w.heap.size w w'∧Ext σ σ' w.heap.size
theorem Jm(X:Fx)(σ:Own)(B:Bk)(K:Nat)(f:Fe)(n:Int)(hn:n<1∨16<n)(w:World)(h:aK X σ w B K f):Calls Tryz.prog 43 #[.pointer (some ⟨X.fb,0,none⟩),.int .i64 n] w (fun e w'=>e= .returned (.tuple #[.pointer none,.int .i64 1])∧w=w'):=by
 have HB:=MI (jf X σ B K f w h)
 clear h
 by_cases h1:n<1
 ·clear hn
  go_enter Tryz.func43,Tryz.ntmps43
  go_wp2_with (go_at_call 32;refine HB.out.mono ?_;rintro e w' ⟨rfl,rfl⟩)
  go_ret2
  exact⟨rfl,rfl⟩
 ·have h2:16<n:=by omega
  clear hn
  go_enter Tryz.func43,Tryz.ntmps43
  go_wp2_with (go_at_call 32;refine HB.out.mono ?_;rintro e w' ⟨rfl,rfl⟩)
  go_ret2
  exact⟨rfl,rfl⟩
theorem FZ(X:Fx)(σ:Own)(B:Bk)(K:Nat)(f:Fe)(n:Nat)(h1:1≤n)(h2:n≤16)(w:World)(h:aK X σ w B K f):Calls Tryz.prog 43 #[.pointer (some ⟨X.fb,0,none⟩),.int .i64 n] w (PNewP X B K σ f n w):=by
 have HB:=MI (jf X σ B K f w h)
 have hmk:=CZ n h2
 have HH:=MI h
 obtain⟨Z,hZ⟩: ∃Z,Z=tJ n:=⟨_,rfl⟩
 rw[←hZ] at hmk
 have HZ:=MI hZ
 have t1:¬(n:Int)<1:=by omega
 have t2:¬(16:Int)<n:=by omega
 clear hZ h
 go_enter Tryz.func43,Tryz.ntmps43
 go_wp2_with (go_at_call 32;refine HB.out.mono ?_;rintro e w' ⟨rfl,rfl⟩)
 go_ret2
 obtain⟨d1,d2⟩:=MapKept.heap_alloc (w.alloc (.cells Z 98)) (.cells #[.pointer (some ⟨X.fb,0,none⟩),.slice (some ⟨w.heap.size,0,none⟩) n n,()] 85)
 have a1:=(MapKept.heap_alloc w (.cells Z 98)).1
 have e1:=(d2 w.heap.size (by rw[World.size_alloc];omega)).trans a1
 rw[World.size_alloc] at d1
 rw[HZ.out,I8] at e1 d1⊢
 have hb1:=ae w (.cells ((List.replicate n (none:Po)).map oG).toArray 98)
 have hb2:=ae (w.alloc (.cells ((List.replicate n (none:Po)).map oG).toArray 98)) (.cells #[.pointer (some ⟨X.fb,0,none⟩),.slice (some ⟨w.heap.size,0,none⟩) n n,()] 85)
 have hs:(w.alloc (.cells ((List.replicate n (none:Po)).map oG).toArray 98)).heap.size=w.heap.size+1:=World.size_alloc _ _
 have F1:=HH.out.fD hb1 (b:=w.heap.size) 5 Me (by omega)
 have F2:=F1.fD hb2 (b:=w.heap.size+1) 4 (by omega) (by rw[World.size_alloc];omega)
 refine⟨⟨w.heap.size+1,w.heap.size,n⟩,_,rfl,rfl,F2,⟨d1,e1,by simp[yl],h1,by show n≤64;omega,dG _ _ _,?_,fun i P p hq=>?_,Int.le_refl _,by show(0:Int)≤_;omega⟩,iR (ae _ _) _,?_⟩
 ·show fD (fD σ w.heap.size 5) (w.heap.size+1) 4 w.heap.size=5
  rw[jF _ _ (by omega),dG]
 ·exfalso
  simp only[yl,List.getD] at hq
  rcases Nat.lt_or_ge i n with hl | hl
  ·simp[hl] at hq
  ·simp[Nat.not_lt.2 hl] at hq
 ·exact(eH σ 5 Me).trans (eH _ 4 (by omega)) Me
def vo0(m:Mt):Vo:=⟨m,0,4294967296,false⟩
def Gq(σ:Own)(a b c0 c1 T:Nat):Own:=fun k=>if a≤k∧k<b then(if k=c0 then T+1 else if k=c1 then T+2 else T) else σ k
theorem VnR.DY{X:Fx}{σ:Own}{B:Bk}{K:Nat}{f:Fe}{i:Nat}{w w':World}(h:aK X σ w B K f)(hi:i<B.dir.length){vb:Nat}{cs:List Nat}{cv:Value}(hvb:w.heap.size≤vb)(hr:VnR X i (B.dir.getD i m0) vb w (B.dir.getD i m0).ch cs cv w')(T:Nat)(hT:10≤T):
  ∃σ',Ext σ σ' w.heap.size∧aK X σ' w' B K f∧fJ X ⟨vb,i,cs,T⟩ B K σ' w' (vo0 (B.dir.getD i m0)) (List.replicate (B.dir.getD i m0).ch u0):=by
 have hm:=h.bk.ok.m i hi
 generalize hM:B.dir.getD i m0=m at*
 have hc0:=hm.c0
 have hc1:=hm.c1
 have hsz:=hr.low.size
 have hvl:=L8 hr.row
 have hcl: ∀k,k<m.ch→cs.getD k 0<w'.heap.size:=fun k hk=>L8 (hr.cur k hk)
 have hne: ∀k,k<m.ch→cs.getD k 0≠vb:=fun k hk e=>aF (hr.cur k hk) hr.row (by decide) e
 refine⟨Gq σ w.heap.size w'.heap.size (cs.getD 0 0) (cs.getD 1 0) T,fun k hk=>if_neg (by omega),?_,?_⟩
 ·refine h.own (af.au hr.low Me) (fun k hk=>if_neg (by omega)) (fun k hn=>?_)
  rcases Nat.lt_or_ge k w'.heap.size with h2 | h2
  ·exact h2
  ·exfalso
   have e:Gq σ w.heap.size w'.heap.size (cs.getD 0 0) (cs.getD 1 0) T k=σ k:=if_neg (by omega)
   rw[e] at hn
   have:=h.rU k hn
   omega
 ·have hown:=hr.own
  obtain⟨pb,cap,hcv,hpb,hpl,hcell⟩: ∃pb cap,cv= .slice (some ⟨pb,0,none⟩) m.ch cap∧w.heap.size≤pb∧(∃cur,w'.heap[pb]? =some (.cells cur 149 (0,0)))∧∀k,k<m.ch→w'.cell? ⟨pb,k,none⟩=some (Cf (cs.getD k 0)):=by
   rcases hown.2 with⟨h1,h2⟩ | ⟨g',cap,cur,h1,hbg,hg,hnc,hcm,hcs,htake⟩
   ·exfalso;omega
   ·refine⟨g',cap,h1,hbg,⟨cur,hg⟩,fun k hk=>(LZ hg).trans ?_⟩
    have e:cur.toList[k]? =(cs.map Cf)[k]? :=by
     rw[←htake,List.getElem?_take]
     simp[hk]
    have hkl:k<cs.length:=by rw[hr.len];exact hk
    rw[←Array.getElem?_toList,e]
    simp[List.getD,hkl]
  obtain⟨cur,hpc⟩:=hpl
  have hpl:=L8 hpc
  have hnp: ∀k,k<m.ch→cs.getD k 0≠pb:=fun k hk e=>aF (hr.cur k hk) hpc (by decide) e
  have hT0: ∀b,w.heap.size≤b→b<w'.heap.size→(∀k,k<m.ch→cs.getD k 0≠b)→Gq σ w.heap.size w'.heap.size (cs.getD 0 0) (cs.getD 1 0) T b=T:=fun b h0 h1 h2=>by
   have e0:b≠cs.getD 0 0:=fun e=>h2 0 (by omega) e.symm
   unfold Gq
   rw[if_pos ⟨h0,h1⟩,if_neg e0]
   by_cases hch:1<m.ch
   ·rw[if_neg (fun e=>h2 1 hch e.symm)]
   ·have e1:cs.getD 1 0=0:=by
     have hl:=hr.len
     simp[List.getD,show ¬1<cs.length by omega]
    have hp:=L8 h.row
    rw[if_neg (by rw[e1];omega)]
  subst hcv
  refine⟨hi,hM.symm,⟨hm,by show(0:Int)≤0;decide,by show(0:Int)≤4611686052787126272;decide,fun _=>by show(0:Int)<4611686018427387904;decide,by show(0:Int)≤4294967296;decide,by show(4294967296:Int)≤34359738368;decide⟩,by simp[vo0],hT,⟨pb,cap,hr.row,hT0 pb hpb hpl hnp,hpl,hcell⟩,hT0 vb hvb hvl hne,fun k hk=>?_,fun k hk=>?_⟩
  ·have hk':k<m.ch:=hk
   have eu:(List.replicate m.ch u0).getD k u0=u0:=by simp[List.getD,hk']
   have eo:Gq σ w.heap.size w'.heap.size (cs.getD 0 0) (cs.getD 1 0) T (cs.getD k 0)=T+1+k:=by
    unfold Gq
    rw[if_pos ⟨hr.lo k hk',hcl k hk'⟩]
    have:k=0∨k=1:=by omega
    rcases this with rfl | rfl
    ·rw[if_pos rfl]
    ·have:=hr.inc 0 1 (by omega) hk'
     rw[if_neg (by omega),if_pos rfl]
   rw[eu]
   exact⟨.slice none 0 0,.slice none 0 0,hr.cur k hk',rfl,eo,(by show 10≤T+1+k;omega),World.ownsRow_nil _ _ _ _,World.ownsRow_nil _ _ _ _,fun b hb=>(by cases hb),(by show 0≤4;omega),fun j e=>(by cases e),fun j e=>(by cases e)⟩
  ·have hk':k<m.ch:=hk
   have eu:(List.replicate m.ch u0).getD k u0=u0:=by simp[List.getD,hk']
   rw[eu]
   exact⟨by show(0:Int)≤0;omega,by show(0:Int)≤(K:Int);omega,Nat.zero_le _,fun z hz=>by cases hz⟩
def rZ(a b:ByteArray):Int:=Lib.compareBytes a.data.toList b.data.toList
theorem G9(a b:ByteArray)(w:World):Calls Tryz.prog 69 #[.string a,.string b] w (fun e w'=>e= .returned (.int .i64 (rZ a b))∧w'=w):=by
 unfold rZ
 go_enter Tryz.func69,Tryz.ntmps69
 go_wp2
 rw[run_callFunc_extern Tryz.func105 (by kernel_rfl) (by kernel_rfl) (by kernel_rfl) (e:=Extern.BytealgCompare.compare) (by kernel_rfl),Lib.run_compareString]
 simp only[Result.andThen]
 rw[Oper.upon_value]
 go_wp2
 go_ret
 exact⟨rfl,rfl⟩
theorem Ha(a b:ByteArray)(w:World):Calls Tryz.prog 31 #[.string a,.string b] w (fun e w'=>e= .returned (.int .i64 (rZ a b))∧w'=w):=by
 have H:=MI (G9 a b w)
 generalize rZ a b=c at*
 go_enter Tryz.func31,Tryz.ntmps31
 go_wp2_with (go_at_call 69;refine H.out.mono ?_;rintro e w' ⟨rfl,rfl⟩)
 go_ret
 exact⟨rfl,rfl⟩
theorem He(m:Mt)(b:ByteArray)(w:World):Calls Tryz.prog 30 #[.agg (aB m),.string b] w (fun e w'=>e= .returned (.int .i64 (rZ m.nm b))∧Below w.heap.size w w'):=by
 have H:=MI (fun w=>Ha m.nm b w)
 generalize rZ m.nm b=c at*
 have hz:=L9 w (.cells (aB m) 54)
 have c0:(w.alloc (.cells (aB m) 54)).cell? ⟨w.heap.size,0,none⟩=some (.string m.nm):=LY hz rfl
 have HB:=MI (ae w (.cells (aB m) 54))
 clear hz
 unfold aB at*
 go_enter Tryz.func30,Tryz.ntmps30
 go_wp2_with (go_at_call 31;refine(H.out _).mono ?_;rintro e w' ⟨rfl,rfl⟩)
 go_ret
 exact⟨rfl,HB.out⟩
def bsL(d:List Mt)(t:ByteArray):Nat→Nat→Nat→Nat
 | 0,lo,_=>lo
 | k+1,lo,hi=>if lo<hi then(if rZ (d.getD ((lo+hi)/2) m0).nm t<0 then bsL d t k ((lo+hi)/2+1) hi else bsL d t k lo ((lo+hi)/2)) else lo
def gm(d:List Mt)(t:ByteArray):Nat:=bsL d t (d.length+1) 0 d.length
def fM(d:List Mt)(t:ByteArray):Bool:=decide (gm d t<d.length∧rZ (d.getD (gm d t) m0).nm t=0)
theorem kT{P:Program}{ops:Array Oper}{rest:List Oper}{op:Oper}{a:Act}{w:World}{Q:Exit→Act→World→Prop}(hw:Region.wanted op (yielded ops a.tmps)=true)(ty:TypeId)(x:Operand)(ho:op.op= .load ty x)
  (b o:Nat) (hx:a.eval x= .pointer (some ⟨b,o,none⟩)) (cs:List Value) (d:TypeDesc) (hc:w.rangeAt b o cs)
  (hu:P.underlying ty=some d) (hd:d.isRow=true) (hi:(P.info? ty).map (·.size)=some cs.length)
  (h:wpList P ops Q rest (a.put op.dst (.agg cs.toArray)) w):wpList P ops Q (op::rest) a w:=
 wpList_step fun K hK=>by
  rw[if_pos hw]
  exact wp_load_mid ty x ho b o hx cs d hc hu hd hi (hK _ _ h)
def BsP(d:List Mt)(t:ByteArray)(w:World)(e:Ending)(w':World):Prop:=e= .returned (.tuple #[.int .i64 (gm d t:Int),.bool (fM d t)])∧Below w.heap.size w w'
theorem bs_any(D:Bd)(B:Bk)(t:ByteArray)(w:World)(h:jX D w B):Calls Tryz.prog 29 #[.slice D.dv B.dir.length D.Dw,.string t,.func (.func 30) #[] #[]] w (BsP B.dir t w):=by
 have HB:=MI h
 have h64:=h.ok.d1
 have HF:=MI (show bsL B.dir t (B.dir.length+1) 0 B.dir.length=gm B.dir t from rfl)
 have HC:=MI (fun m w=>He m t w)
 obtain⟨dv,hdv0⟩: ∃dv,dv=D.dv:=⟨_,rfl⟩
 rw[←hdv0]
 have HD:=MI hdv0
 clear h hdv0
 go_enter Tryz.func29,Tryz.ntmps29
 go_wp2_with fail
 go_loopw [9,10] (fun v9 v10 wr=>∃lo hi k:Nat,v9= .int .i64 (lo:Int)∧v10= .int .i64 (hi:Int)∧lo≤B.dir.length∧hi≤B.dir.length∧hi - lo<k∧Hid (bsL B.dir t k lo hi=gm B.dir t)∧Hid (Below w.heap.size w wr)) (fun v9 v10 _=>aG v10 - aG v9)
 case atStart=>exact⟨0,B.dir.length,B.dir.length+1,rfl,rfl,by omega,by omega,by omega,HF,Below.refl _ _⟩
 case round=>
  obtain⟨lo,hi,k,rfl,rfl,hlo,hhi,hk,hR,hBw⟩:=hrel
  have hBk:=HB.out.ah hBw.out
  by_cases hlt:lo<hi
  ·obtain⟨k',rfl⟩: ∃k',k=k'+1:=⟨k - 1,by omega⟩
   obtain⟨db,hdv,hr⟩:=hBk.at_ (show(lo+hi)/2<B.dir.length by omega)
   have hl2:(lo:Int)<(hi:Int):=by omega
   obtain⟨mid,hmid⟩: ∃mid,mid=(lo+hi)/2:=⟨_,rfl⟩
   have e:=MI (show((lo:Int)+(hi:Int))/2=(mid:Int) by omega)
   have hb1:mid<B.dir.length:=by omega
   have hb2:lo≤mid:=by omega
   have hb3:mid<hi:=by omega
   have HMid:=MI hmid
   have hR2:Hid ((if rZ (B.dir.getD mid m0).nm t<0 then bsL B.dir t k' (mid+1) hi else bsL B.dir t k' lo mid)=gm B.dir t):=by
    have h1:=hR.out
    unfold bsL at h1
    rw[if_pos hlt,←hmid] at h1
    exact h1
   rw[←hmid] at hr
   have HCm:=MI (HC.out (B.dir.getD mid m0) wr)
   have hsz:(Tryz.prog.info? 54).map (·.size)=some (aP (B.dir.getD mid m0)).length:=by kernel_rfl
   generalize B.dir.getD mid m0=m at*
   generalize hcz:rZ m.nm t=c at*
   have hEnd:(mid:Int)<(B.dir.length:Int):=by omega
   clear hmid
   go_upto_region 5 with fail
   rw[e.out]
   have hdv1:dv=some ⟨db,0,none⟩:=HD.out.trans hdv
   subst hdv1
   clear hR hcz hBk HC hdv
   by_cases hc:c<0
   ·rw[if_pos hc] at hR2
    go_wp2_with (first
     | (with_reducible refine MC 54 27 ?_;refine wpList_load_mid rfl 54 (.tmp 27) rfl db (mid*9) rfl (aP m) _ hr Tryz.underlying54 rfl hsz ?_;rw[show(aP m).toArray=aB m from rfl])
     | (go_at_call 30;refine HCm.out.mono ?_;rintro e w2 ⟨rfl,hb⟩))
    exact⟨⟨mid+1,hi,k',by go_num,rfl,by omega,hhi,by omega,hR2,bW hBw.out hb⟩,by simp[aG];omega⟩
   ·rw[if_neg hc] at hR2
    go_wp2_with (first
     | (with_reducible refine MC 54 27 ?_;refine wpList_load_mid rfl 54 (.tmp 27) rfl db (mid*9) rfl (aP m) _ hr Tryz.underlying54 rfl hsz ?_;rw[show(aP m).toArray=aB m from rfl])
     | (go_at_call 30;refine HCm.out.mono ?_;rintro e w2 ⟨rfl,hb⟩))
    exact⟨⟨lo,mid,k',rfl,rfl,hlo,by omega,by omega,hR2,bW hBw.out hb⟩,by simp[aG];omega⟩
  ·obtain⟨k',rfl⟩: ∃k',k=k'+1:=⟨k - 1,by omega⟩
   have hRl:gm B.dir t=lo:=by
    have h1:=hR.out
    unfold bsL at h1
    rw[if_neg hlt] at h1
    exact h1.symm
   have hl2:¬(lo:Int)<(hi:Int):=by omega
   by_cases hn:lo<B.dir.length
   ·obtain⟨db,hdv,hr⟩:=hBk.at_ hn
    have HCm:=MI (HC.out (B.dir.getD lo m0) wr)
    have hsz:(Tryz.prog.info? 54).map (·.size)=some (aP (B.dir.getD lo m0)).length:=by kernel_rfl
    have HFd:=MI (show fM B.dir t=decide (rZ (B.dir.getD lo m0).nm t=0) by unfold fM;rw[hRl];simp[hn])
    have HRl:=MI hRl
    generalize B.dir.getD lo m0=m at*
    generalize rZ m.nm t=c at*
    have hn2:(lo:Int)<(B.dir.length:Int):=by omega
    have hdv1:dv=some ⟨db,0,none⟩:=HD.out.trans hdv
    subst hdv1
    have hld:(Instr.loadAt 54 (.pointer (some ⟨db,lo*9,none⟩))).run Tryz.prog wr= .ok (.agg (aB m)) wr:=run_loadAt_mid wr db (lo*9) 54 (aP m) _ hr Tryz.underlying54 rfl hsz
    clear hR hRl hBk HC hdv HF
    unfold BsP
    by_cases hc:c=0
    ·subst hc
     go_wp2_with (first
      | (with_reducible refine MC 54 43 ?_;refine kT (by kernel_rfl) 54 (.tmp 43) rfl db (lo*9) rfl (aP m) _ hr Tryz.underlying54 rfl hsz ?_;rw[show(aP m).toArray=aB m from rfl])
      | (go_at_call 30;refine HCm.out.mono ?_;rintro e w2 ⟨rfl,hb⟩))
     all_goals go_ret2
     all_goals exact⟨by rw[HRl.out,HFd.out];rfl,bW hBw.out hb⟩
    ·have hc2:(c==0)=false:=by simpa using hc
     have hc3:Hid (decide (c=0)=false):=decide_eq_false hc
     go_wp2_with (first
      | (with_reducible refine MC 54 43 ?_;refine kT (by kernel_rfl) 54 (.tmp 43) rfl db (lo*9) rfl (aP m) _ hr Tryz.underlying54 rfl hsz ?_;rw[show(aP m).toArray=aB m from rfl])
      | (go_at_call 30;refine HCm.out.mono ?_;rintro e w2 ⟨rfl,hb⟩))
     all_goals go_ret2
     all_goals exact⟨by rw[HRl.out,HFd.out,hc3.out];rfl,bW hBw.out hb⟩
   ·have HFd:=MI (show fM B.dir t=false by unfold fM;rw[hRl];simp[hn])
    have HRl:=MI hRl
    have hn2:¬(lo:Int)<(B.dir.length:Int):=by omega
    clear hR hRl hBk HC HF
    unfold BsP
    go_wp2_with fail
    all_goals go_ret2
    all_goals exact⟨by rw[HRl.out,HFd.out];rfl,hBw.out⟩
end Go.Proofs.YtnicjahcgnhogaaGreatDoor
