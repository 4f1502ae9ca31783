/- Part 37 of the walk: contracts of the program's functions, each for every input. No condition. -/
import Derived.Test.YtnicjahcgnhogaaGreatDoorU35
set_option linter.unusedVariables false
set_option linter.unusedSimpArgs false
set_option maxRecDepth 100000
set_option maxHeartbeats 8000000
namespace Go.Proofs.YtnicjahcgnhogaaGreatDoor
open Go Go.RowKit Go.Calli
attribute [local irreducible] wpStill wpAnyH wpAnyS wpList Code.wp
def BA:Bk:=⟨IMG,55,[mA]⟩
theorem bA:fK IMG=BA:=af
def FRA:List Int:=[64,0,28,6,1,128,99,74,243,124,210,112,130,131,37,0,21,128,63,0,0,0,0,0,0,0,0,0,0,0,0,0,0,0,0,0,0,0,0,0,0,0,0,0,0,0,0,0,0,0,0,0,0,0,0]
def cA0:Cch.Ca:=Cch.tZ IMG 1 0
def RA:Cch.PR:=Cch.fO 55 cA0 96 55 []
theorem RA_e:RA.e=0:=af
theorem RA_b:RA.b=FRA:=af
theorem frA_e:(frX 55 FRA).e=0:=af
theorem frA_r:fQ (frX 55 FRA).z (frX 55 FRA).t=true:=af
theorem sumA:gm FRA=(bH IMG 84 4:Nat):=by
 unfold FRA
 rw[cfAll]
 kernel_rfl
def PA:List Int:=dV (frX 55 FRA).z (frX 55 FRA).t
theorem oneA:jl (pK [jI (jl (ng (oH (PA.take 16)) none (PA.drop 16) 0)) 256 256])=50:=af
def PL:List Int:=pR (List.replicate 20 0) (wrap64 (0+1))
theorem oneL:jl (pK [jI (jl (ng (oH (PL.take 16)) none (PL.drop 16) 0)) 256 256])=0:=af
theorem take_ok{u1:Ku}{b:Kb}{R:Cch.PR}(h:pV BA cA0 mA 0 0 u0 u1 b R):R=RA∧b.wv=oH (PA.take 16)∧b.g=PA.drop 16∧u1.lost=[]:=by
 obtain⟨err,z,ts,hR,-,-,h0,-,-,-,h1,-⟩:=h
 have I:R=RA:=by rw[←hR];rfl
 subst I
 have h2:=h0 RA_e (by rw[RA_b,sumA];rfl)
 have hl:RA.b.length=55:=by rw[RA_b];rfl
 rw[hl,RA_b] at h2
 obtain⟨rfl,rfl,rfl⟩:=h2 frA_e frA_r
 obtain⟨-,-,h3,h4,h5⟩:=h1 rfl
 exact⟨rfl,h4,h5,h3⟩
theorem take_no{c:Cch.Ca}(hc:(Cch.fO 55 c 96 55 []).e≠0){u1:Ku}{b:Kb}{R:Cch.PR}(h:pV BA c mA 0 0 u0 u1 b R):b.wv=oH (PL.take 16)∧b.g=PL.drop 16∧u1.lost.length=1:=by
 obtain⟨err,z,ts,hR,-,he,-,-,-,-,-,h1⟩:=h
 have I:R=Cch.fO 55 c 96 55 []:=by rw[←hR];rfl
 obtain⟨-,-,h3,h4,h5⟩:=h1 (he (by rw[I];exact hc))
 exact⟨h4,h5,by rw[h3];rfl⟩
theorem blk0{B:Bk}{f f':Fe}{m:Mt}{u u':Ku}(h:lI B f f' m 0 0 u u')(hk:u.kept=[]): ∃u1 b R,pV B f.c m 0 0 u u1 b R∧u'={u1 with kept:=[b]}∧f'.c=R.c:=by
 rcases h with⟨i,hi,-⟩ | ⟨-,u1,b,R,h1,-,h2,h3,-⟩
 ·rw[hk] at hi
  exact absurd hi (Nat.not_lt_zero _)
 ·exact⟨u1,b,R,h1,by rw[h2,hk];rfl,h3⟩
theorem blk1{B:Bk}{f f':Fe}{m:Mt}{u u':Ku}(h:lI B f f' m 0 0 u u'){b:Kb}(hb:b.n=0)(hk:u.kept=[b]):u'=u∧f'=f:=by
 rcases h with⟨i,hi,-,-,h2,h3⟩ | ⟨h,-⟩
 ·have I:i=0:=by rw[hk] at hi;simpa using hi
  subst I
  refine⟨?_,h3⟩
  rw[h2]
  obtain⟨p,k,kept,lost,fr⟩:=u
  simp only at hk
  subst hk
  rfl
 ·have h0:=h 0 (by rw[hk];exact Nat.one_pos)
  rw[hk] at h0
  exact absurd hb h0
theorem at0{f f':Fe}{u u':Ku}{r:Int}(h:AtR BA f f' mA 0 0 u u' r)(hk:u.kept=[]): ∃u1 b R,pV BA f.c mA 0 0 u u1 b R∧u'={u1 with kept:=[b]}∧f'.c=R.c∧r=jl (ng b.wv none b.g 0):=by
 obtain⟨u2,f2,h1,h2,-,-,hr⟩:=h
 have e:dC 0 (aO mA.len)=(0,0):=af
 rw[e] at h1 h2 hr
 obtain⟨u1,b,R,ht,rfl,hc⟩:=blk0 h1 hk
 have I:b.n=0:=by
  obtain⟨err,z,ts,-,-,-,-,-,-,hn,-,-⟩:=ht
  exact hn
 obtain⟨h3,h4⟩:=blk1 h2 I rfl
 refine⟨u1,b,R,ht,h3,by rw[h4];exact hc,?_⟩
 rw[hr,if_pos rfl,if_pos rfl]
 rfl
theorem wrap_in{y:Int}(h1: -9223372036854775808≤y)(h2:y≤9223372036854775807):wrap64 y=y:=by
 unfold wrap64
 omega
theorem blend0{y:Int}(h1: -32768≤y)(h2:y≤32767)(x:List Int)(hx:x.getD 1 0=y):sU [0,65536,0,0] x=y:=by
 have e:mr [0,65536,0,0] x 4=65536*y:=by
  show wrap64 (wrap64 (wrap64 (wrap64 (0+wrap64 (0*x.getD 0 0))+wrap64 (65536*x.getD 1 0))+wrap64 (0*x.getD 2 0))+wrap64 (0*x.getD 3 0))=_
  rw[hx,Int.zero_mul,Int.zero_mul,Int.zero_mul]
  rw[wrap_in (y:=65536*y) aa aa,wrap_in (y:=0) aa aa]
  simp only[Int.zero_add,Int.add_zero]
  rw[wrap_in (y:=0) aa aa]
  simp only[Int.zero_add,Int.add_zero]
  rw[wrap_in (y:=65536*y) aa aa,wrap_in (y:=65536*y) aa aa,wrap_in (y:=65536*y) aa aa]
 unfold sU
 rw[e]
 unfold rnd
 rw[if_neg aq]
 have e2:65536*y/2^16+65536*y/2^(16 - 1)%2=y:=by
  show 65536*y/65536+65536*y/32768%2=y
  omega
 rw[e2,wrap_in aa aa]
 unfold jl mi
 split
 ·omega
 ·split<;>omega
theorem val0{f f':Fe}{u u':Ku}{r:Int}(h:JO BA f f' mA 0 0 u u' r)(hk:u.kept=[]): ∃u1 b R,pV BA f.c mA 0 0 u u1 b R∧u'={u1 with kept:=[b]}∧f'.c=R.c∧r=jl (ng b.wv none b.g 0):=by
 obtain⟨l,t,x,ha,-,-,⟨-,ht⟩,hr,h0⟩:=h
 have hp:jQ 0=0:=af
 have hu:gV mA (0/4294967296)=0:=af
 obtain⟨y,hl,hx⟩:=(h0 hp).1 (by rw[hu];exact Int.le_refl 0)
 rw[hl,hu] at ha
 obtain⟨f1,u1,hA,rfl,rfl⟩:=ha
 obtain⟨u1,b,R,h1,h2,h3,h4⟩:=at0 hA hk
 refine⟨u1,b,R,h1,h2,h3,?_⟩
 rw[hr,ht (by rw[hp];rfl),blend0 (y:=y) (by rw[h4];exact(FY _).1) (by rw[h4];exact(FY _).2) x hx,h4]
theorem part0{f f':Fe}{id:Nat}{P:Px}{c:Int}{p':Pt}{a b:Int}{lo:List Ls}(h:yX BA f f' id P (mQ mA sh0 c) p' a b lo): ∃u1 k R,pV BA f.c mA 0 0 u0 u1 k R∧f'.c=R.c∧a=jI (jl (ng k.wv none k.g 0)) 256 256∧lo.length=u1.lost.length:=by
 obtain⟨l,r,v',us',hN,ha,-,I,-⟩:=h
 rcases hN with⟨hd,-⟩ | ⟨-,hv,f1,a1,hV,⟨-,-,rfl,J⟩ | ⟨hc,-⟩⟩
 ·cases hd
 ·obtain⟨u1,k,R,h1,h2,h3,h4⟩:=val0 hV rfl
  refine⟨u1,k,R,h1,h3,?_,?_⟩
  ·rw[ha,h4]
   rfl
  ·rw[I,hv,J,h2]
   show(([]:List Ls)++u1.lost.map _).length=_
   simp
 ·cases hc
theorem ren1{f f':Fe}{P:Px}{c cnt:Int}{y':Ye}{r':Rp}{O:List (Int×Int)}(h:uq BA 1 f ⟨[some (P,mQ mA sh0 c)],cnt⟩ 1 f' y' r' O): ∃u1 k R m,pV BA f.c mA 0 0 u0 u1 k R∧f'.c=R.c∧O=[(jl (pK [jI (jl (ng k.wv none k.g 0)) 256 256]),m)]∧r'.lost.length=u1.lost.length:=by
 obtain⟨f1,y1,r1,O1,l,m,⟨rfl,rfl,rfl,rfl⟩,⟨L,M,hO,hl,-⟩,rfl⟩:=h
 obtain⟨f2,y2,r2,L2,M2,⟨rfl,rfl,rfl,rfl,rfl⟩,⟨hn,-⟩ | ⟨Q,q,p',a,b,lo,hq,hp,-,rfl,rfl,-⟩⟩:=hO
 ·cases hn
 ·cases hq
  obtain⟨u1,k,R,h1,h2,rfl,h4⟩:=part0 hp
  refine⟨u1,k,R,m,h1,h2,?_,?_⟩
  ·rw[hl];rfl
  ·show(([]:List Ls)++lo).length=_
   simpa using h4
theorem KN{Y:Yx}{v n m p x:Int}{nm:ByteArray}{s s':Rs}{t:Tl}{O:List (Int×Int)}{r:Rp}(hn:fG [mA] nm=true)(hf:eH [mA] nm=0)(hY:Y.n=1)(hl:s.y.ps.length=1)(I:s.sh=sh0)(h:dS BA Y ⟨1,v,nm,n,m,p,x⟩ s s' t O r):O=[]∧∃P c cnt,s'=⟨s.f,⟨[some (P,mQ mA sh0 c)],cnt⟩,sh0⟩:=by
 unfold dS at h
 dsimp only at h
 rw[if_neg aq] at h
 obtain⟨rfl,h⟩:=h
 rw[if_pos (show(1:Int)=1 from rfl)] at h
 refine⟨rfl,?_⟩
 rcases h with⟨h1,-⟩ | ⟨-,P,-,rfl,-⟩
 ·have h2:fG [mA] nm=false:=h1
  rw[hn] at h2
  cases h2
 ·have J:eH BA.dir nm=0:=hf
  have R:gy Y s.y=0:=by
   unfold gy
   rw[hY]
   unfold oq
   split
   ·rfl
   ·unfold oq
    split<;>rfl
  obtain⟨sf,⟨ps,cnt⟩,sh⟩:=s
  simp only at hl I
  subst I
  obtain⟨q,rfl⟩:=List.length_eq_one_iff.1 hl
  refine⟨P,cnt+1,cnt+1,?_⟩
  simp only[J,R]
  rfl
theorem F5{Y:Yx}{v m p x:Int}{nm:ByteArray}{f:Fe}{P:Px}{c cnt:Int}{s':Rs}{t:Tl}{O:List (Int×Int)}{r:Rp}(hY:Y.n=1)(h:dS BA Y ⟨6,v,nm,1,m,p,x⟩ ⟨f,⟨[some (P,mQ mA sh0 c)],cnt⟩,sh0⟩ s' t O r):(∃u1 k R m,pV BA f.c mA 0 0 u0 u1 k R∧s'.f.c=R.c∧O=[(jl (pK [jI (jl (ng k.wv none k.g 0)) 256 256]),m)]∧r.lost.length=u1.lost.length)∧s'.sh=sh0∧∃lo lc,t.lv= .slice lo r.lost.length lc:=by
 unfold dS at h
 dsimp only at h
 rw[if_pos (show(6:Int)=6 from rfl)] at h
 rcases h with⟨h,-⟩ | ⟨-,-,h,-,I,-,-,-,J,-⟩
 ·omega
 ·rw[hY] at h
  exact⟨ren1 h,I,J⟩
def cN:Nat→Cch.Ca
 | 0=>RA.c
 | i+1=>Cch.evC {cN i with d:=Dskp.flS (cN i).d i (-1),mx:=(cN i).mx+1} i
theorem cN3:(Cch.fO 55 (cN 3) 96 55 []).e=8:=af
theorem fail1{Y:Yx}{v n m p x:Int}{nm:ByteArray}{s s':Rs}{t:Tl}{O:List (Int×Int)}{r:Rp}(h:dS BA Y ⟨8,v,nm,n,m,p,x⟩ s s' t O r):s'.f.c={s.f.c with d:=Dskp.flS s.f.c.d n m,mx:=s.f.c.mx+1}∧s'.y=s.y∧s'.sh=s.sh:=by
 unfold dS at h
 dsimp only at h
 rw[if_neg aq,if_neg aq,if_neg aq,if_neg aq,if_neg aq,if_neg aq,if_neg aq,if_neg aq] at h
 obtain⟨-,rfl,-⟩:=h
 exact⟨rfl,rfl,rfl⟩
theorem evict1{Y:Yx}{v n m p x:Int}{nm:ByteArray}{s s':Rs}{t:Tl}{O:List (Int×Int)}{r:Rp}(h:dS BA Y ⟨7,v,nm,n,m,p,x⟩ s s' t O r):s'.f.c=Cch.evC s.f.c n∧s'.y=s.y∧s'.sh=s.sh:=by
 unfold dS at h
 dsimp only at h
 rw[if_neg aq,if_neg aq,if_neg aq,if_neg aq,if_neg aq,if_neg aq,if_neg aq,if_neg aq] at h
 obtain⟨-,rfl,-⟩:=h
 exact⟨rfl,rfl,rfl⟩
theorem stop1{Y:Yx}{v n m p x:Int}{nm:ByteArray}{s s':Rs}{t:Tl}{O:List (Int×Int)}{r:Rp}(h:dS BA Y ⟨2,v,nm,n,m,p,x⟩ s s' t O r):s'.f=s.f∧s'.sh=s.sh:=by
 unfold dS at h
 dsimp only at h
 rw[if_neg aq,if_neg aq,if_pos (show(2:Int)=2 from rfl)] at h
 obtain⟨-,rfl,-⟩:=h
 exact⟨rfl,rfl⟩
theorem first2{Y:Yx}(hY:Y.n=1){nm:ByteArray}(hn:fG [mA] nm=true)(hf:eH [mA] nm=0){v1 n1 m1 p1 x1 v2 m2 p2 x2:Int}{nm2:ByteArray}{s s':Rs}(hc:s.f.c=cA0)(hl:s.y.ps.length=1)(I:s.sh=sh0){O:List (Int×Int)}(h:yV BA Y [⟨1,v1,nm,n1,m1,p1,x1⟩,⟨6,v2,nm2,1,m2,p2,x2⟩] s 2 s' O):s'.f.c=cN 0∧s'.sh=sh0∧∃m,O=[(50,m)]:=by
 obtain⟨s1,O1,t2,O2,r2,⟨s0,O0,t1,O1',r1,⟨rfl,rfl⟩,h1,rfl⟩,h2,rfl⟩:=h
 obtain⟨rfl,P,c,cnt,rfl⟩:=KN hn hf hY hl I h1
 obtain⟨⟨u1,k,R,m,ht,h3,rfl,-⟩,h4,-⟩:=F5 hY h2
 rw[hc] at ht
 obtain⟨rfl,h5,h6,-⟩:=take_ok ht
 refine⟨h3,h4,m,?_⟩
 rw[h5,h6,oneA]
 rfl
theorem second1{Y:Yx}(hY:Y.n=1){nm:ByteArray}(hn:fG [mA] nm=true)(hf:eH [mA] nm=0){v1 n1 m1 p1 x1 v2 m2 p2 x2:Int}{nm2:ByteArray}{s s1 s2:Rs}(hc:s.f.c=cN 3)(hl:s.y.ps.length=1)(I:s.sh=sh0){t1 t2:Tl}{O1 O2:List (Int×Int)}{r1 r2:Rp}(h1:dS BA Y ⟨1,v1,nm,n1,m1,p1,x1⟩ s s1 t1 O1 r1)(h2:dS BA Y ⟨6,v2,nm2,1,m2,p2,x2⟩ s1 s2 t2 O2 r2):(∃lo lc,t2.lv= .slice lo 1 lc)∧∃m,O2=[(0,m)]:=by
 obtain⟨rfl,P,c,cnt,rfl⟩:=KN hn hf hY hl I h1
 obtain⟨⟨u1,k,R,m,ht,h3,rfl,h7⟩,-,lo,lc,h8⟩:=F5 hY h2
 rw[hc] at ht
 obtain⟨h5,h6,h9⟩:=take_no (by rw[cN3];decide) ht
 refine⟨⟨lo,lc,by rw[h8,h7,h9]⟩,m,?_⟩
 rw[h5,h6,oneL]
theorem nmA1:fG [mA] (strOfNums [97])=true:=af
theorem nmA2:eH [mA] (strOfNums [97])=0:=af
def G7(w:World)(e:Ending)(w':World):Prop:=e= .returned (.bool true)∧Below w.heap.size w w'
def wZ(X:Fx)(Y:Yx)(B:Bk)(σ:Own)(w w1:World)(rb:Nat)(s:Rs)(a:Ac)(j K:Nat)(e:Ending)(w2:World):Prop:=∃(s':Rs)(O:List (Int×Int))(r:Rp)(e0 n0:Int)(o1:Option Addr)(c1:Nat)(o2:Option Addr)(n2 c2:Nat)(o3:Option Addr)(n3 c3:Nat)(fr rd:Int)(σ2:Own),e= .returned (.agg #[.int .i64 e0,.int .i64 n0,.slice o1 O.length c1,.slice o2 n2 c2,.slice o3 n3 c3,.int .i64 fr,.int .i64 rd])∧dS B Y a s s' ⟨e0,n0,.slice o1 O.length c1,.slice o2 n2 c2,.slice o3 n3 c3,fr,rd⟩ O r∧TL X Y B σ2 w w2 rb s' (j+1) K∧bP stV 2 (0,0) w2 o1 O.length O∧Ext σ σ2 w1.heap.size∧ag (FD σ w1 rb) w1 w2
theorem rM{X:Fx}{Y:Yx}{B:Bk}{σ:Own}{w w1:World}{rb:Nat}{s:Rs}{j K:Nat}(h:TL X Y B σ w w1 rb s j K)(hK:K≤400000)(J:Y.n≤16)(a:Ac)(ha:a.Wf)(hj:j≤60):Calls Tryz.prog 8 #[.pointer (some ⟨rb,0,none⟩),.agg #[.int .i64 a.k,.int .i64 a.v,.string a.nm,.int .i64 a.n,.int .i64 a.m,.int .i64 a.p,.int .i64 a.x]] w1 (wZ X Y B σ w w1 rb s a j (K+1+256*dM a)):=by
 have U:=h.ct
 have h0:=F7 X Y B K hK J σ rb s a ha aa j w1.heap.size aa w1 h.fe h.fb h.ys h.rk
 refine Calls.mono (show Calls Tryz.prog 8 #[.pointer (some ⟨rb,0,none⟩),.agg #[.int .i64 a.k,.int .i64 a.v,.string a.nm,.int .i64 a.n,.int .i64 a.m,.int .i64 a.p,.int .i64 a.x]] w1 _ from h0) ?_
 rintro e w2 ⟨s',t,O,r,σ2,rfl,hA,hx,hF,R,hY,hR,⟨oo,oc,I,hO,-⟩,hk⟩
 obtain⟨p1,p2,p3,p4⟩:=yT hA
 obtain⟨e0,n0,o1,n1,c1,o2,n2,c2,o3,n3,c3,fr,rd,rfl⟩:=Ah hA
 simp only at I
 cases I
 have hle:K+1+16*Y.n*dM a≤K+1+256*dM a:=by
  have:16*Y.n*dM a≤256*dM a:=Nat.mul_le_mul_right _ aa
  omega
 have hl:=h.low.size
 have o:=h.rk.own
 refine⟨s',O,r,e0,n0,oo,oc,o2,n2,c2,o3,n3,c3,fr,rd,σ2,rfl,hA,⟨hF.up hle,R.up hle,hY.up hle,hR,by have:=h.ct;omega,fun k hk=>(hx k aa).trans (h.old k hk),?_⟩,hO,hx,hk⟩
 refine((ag.au (S:=fun _=>False) h.low Me).andThen hk (fun i hi e=>?_)).aW Me (fun _ _ e=>e)
 have h1:=h.old i hi
 rcases e with e | e | ⟨e,-⟩
 ·unfold FR at e;omega
 ·subst e;omega
 ·omega
theorem wU(w:World)(o:Obj):(w.alloc o).heap.size=w.heap.size+1:=Array.size_push _
theorem MQ:strOfNums [97]=(⟨#[97]⟩:ByteArray):=af
def MadeA(w:World)(e:Ending)(w':World):Prop:=∃X Y σ rb,e= .returned (.pointer (some ⟨rb,0,none⟩))∧Y.n=1∧TL X Y BA σ w w' rb ⟨⟨cA0,0,0⟩,xy 1,sh0⟩ 0 0
theorem madeW(w:World):Calls Tryz.prog 5 #[.int .i64 55,.slice (some ⟨w.heap.size+1+1,0,none⟩) 1 1,.agg #[.int .i64 1,.int .i64 1,()]] (((w.alloc (.cells #[.int .i64 50,.int .i64 60] 3)).alloc (.cells #[.slice (some ⟨w.heap.size,0,none⟩) 2 2] 33)).alloc (.cells #[.string ⟨#[97]⟩,.int .i64 1,.bool false,(),(),.slice (some ⟨w.heap.size+1,0,none⟩) 1 1] 76)) (MadeA w):=by
 have h1:=L9 w (.cells #[.int .i64 50,.int .i64 60] 3)
 have b1:=ae w (.cells #[.int .i64 50,.int .i64 60] 3)
 have s1:(w.alloc (.cells #[.int .i64 50,.int .i64 60] 3)).heap.size=w.heap.size+1:=wU _ _
 generalize w.alloc (.cells #[.int .i64 50,.int .i64 60] 3)=W1 at*
 have h2:=L9 W1 (.cells #[.slice (some ⟨w.heap.size,0,none⟩) 2 2] 33)
 have b2:=ae W1 (.cells #[.slice (some ⟨w.heap.size,0,none⟩) 2 2] 33)
 have s2:(W1.alloc (.cells #[.slice (some ⟨w.heap.size,0,none⟩) 2 2] 33)).heap.size=w.heap.size+1+1:=by rw[←s1];exact wU _ _
 generalize W1.alloc (.cells #[.slice (some ⟨w.heap.size,0,none⟩) 2 2] 33)=W2 at*
 have h3:=L9 W2 (.cells #[.string ⟨#[97]⟩,.int .i64 1,.bool false,(),(),.slice (some ⟨w.heap.size+1,0,none⟩) 1 1] 76)
 have b3:=ae W2 (.cells #[.string ⟨#[97]⟩,.int .i64 1,.bool false,(),(),.slice (some ⟨w.heap.size+1,0,none⟩) 1 1] 76)
 generalize W2.alloc (.cells #[.string ⟨#[97]⟩,.int .i64 1,.bool false,(),(),.slice (some ⟨w.heap.size+1,0,none⟩) 1 1] 76)=W3 at*
 rw[s1] at h2
 rw[s2] at h3
 have R:=cZ (cZ h1 b2 (L8 h1)) b3 aa
 have U:=cZ h2 b3 aa
 have hB:Below w.heap.size w W3:=bD (bD b1 b2) b3
 have hm:=madeA (w.heap.size+1+1) 1 (some ⟨w.heap.size+1,0,none⟩) 1 W3 (srokA U R) (ik [] (srV (sA (some ⟨w.heap.size+1,0,none⟩) 1)) [] (by rw[h3];unfold srV sA;rw[MQ];rfl))
 refine hm.mono ?_
 rintro e w' ⟨hb,hx⟩
 obtain⟨X,Y,σ,rb,rfl,hY,hX,hF,I,j,hold⟩:=hx errA
 have J:Y.n=1:=aa
 have o:X.n=1:=aa
 have hs:=hB.size
 rw[o,bA] at hF
 rw[J,bA] at I
 exact⟨X,Y,σ,rb,rfl,J,hF,⟨Int.le_refl _,Int.le_refl _,Int.le_refl _,Int.le_refl _⟩,I,mP j,Int.le_refl _,fun k hk=>hold k aa,bD hB hb⟩
def LS(σ:Own)(w:World)(g:Nat):Prop:=σ g=3∧∃cs,w.heap[g]? =some (.cells cs 81 (0,0))∧w.cell? ⟨g,0,none⟩=some (.int .i64 50)
theorem LS.lt{σ:Own}{w:World}{g:Nat}(h:LS σ w g):g<w.heap.size:=by
 obtain⟨-,cs,h1,-⟩:=h
 exact L8 h1
theorem LS.aj{σ:Own}{w w':World}{g:Nat}(h:LS σ w g)(hb:Below w.heap.size w w'):LS σ w' g:=by
 have hl:=h.lt
 obtain⟨h1,cs,h2,h3⟩:=h
 exact⟨h1,cs,cZ h2 hb hl,(hb.cell (p:=⟨g,0,none⟩) hl).trans h3⟩
theorem LS.step{X:Fx}{Y:Yx}{σ σ':Own}{w w':World}{g rb:Nat}{sh:Envp.Sh}{m:Nat×Nat}(h:LS σ w g)(hk:ag (FD σ w rb) w w')(he:Ext σ σ' w.heap.size)(hr:eU X Y σ w rb sh m):LS σ' w' g:=by
 have hl:=h.lt
 have hn:¬FD σ w rb g:=fun e=>by
  obtain⟨h1,cs,h2,h3⟩:=h
  rcases e with e | e | ⟨-,cs2,e⟩
  ·unfold FR at e;omega
  ·subst e
   obtain⟨tv,xs,I,-,-⟩:=hr.row
   rw[h2] at I
   simp at I
  ·rw[h2] at e
   simp at e
 obtain⟨h1,cs,h2,h3⟩:=h
 exact⟨(he _ hl).trans h1,cs,hk.heap h2 hn,hk.cell h3 hn⟩
theorem ls_of{σ:Own}{w:World}{v:Value}{m:Int}(h:w.ownsRow 0 81 2 v 1 ([(50,m)].flatMap stV))(hb: ∀b,v.ownBlock=some b→σ b=3): ∃g cap,v= .slice (some ⟨g,0,none⟩) 1 cap∧LS σ w g:=by
 rcases h.2 with⟨-,h0⟩ | ⟨g,cap,cur,hv,-,hg,J,-,R,I⟩
 ·omega
 ·refine⟨g,cap,hv,hb g (by rw[hv];rfl),cur,hg,?_⟩
  rw[LZ hg]
  have e:cur.toList[0]? =([(50,m)].flatMap stV)[0]? :=by rw[←I,List.getElem?_take,if_pos aq]
  rw[←Array.getElem?_toList,e]
  rfl
theorem Ko{W:World}{g:Nat}{nm:ByteArray}(h:W.heap[g]? =some (.cells #[.int .i64 1,(),.string ⟨#[97]⟩,(),(),(),(),.int .i64 6,(),.string nm,.int .i64 1,(),(),()] 40 (0,0))):bP acV 7 ac0 W (some ⟨g,0,none⟩) 2 [⟨1,0,⟨#[97]⟩,0,0,0,0⟩,⟨6,0,nm,1,0,0,0⟩]:=by
 refine⟨rfl,show 2≤2^63 - 1 by decide,fun i hi=>⟨_,rfl,fun j u hu=>?_⟩⟩
 have h2:i=0∨i=1:=aa
 have hj:j<7:=by
  rcases h2 with rfl | rfl
  ·exact(List.getElem?_eq_some_iff.1 hu).1
  ·exact(List.getElem?_eq_some_iff.1 hu).1
 have h7:j=0∨j=1∨j=2∨j=3∨j=4∨j=5∨j=6:=aa
 rcases h2 with rfl | rfl<;>rcases h7 with rfl | rfl | rfl | rfl | rfl | rfl | rfl<;>(rw[←hu];exact LY h rfl)
def OT(nm:ByteArray):List Ac:=[⟨1,0,⟨#[97]⟩,0,0,0,0⟩,⟨6,0,nm,1,0,0,0⟩]
def RunA(X:Fx)(Y:Yx)(w:World)(rb:Nat)(e:Ending)(w':World):Prop:=∃(s:Rs)(g cap:Nat)(σ:Own),e= .returned (.slice (some ⟨g,0,none⟩) 1 cap)∧TL X Y BA σ w w' rb s 2 258∧s.f.c=cN 0∧s.sh=sh0∧LS σ w' g
theorem runA{X:Fx}{Y:Yx}{σ:Own}{w w2:World}{rb:Nat}(nm:ByteArray)(hY:Y.n=1)(h:TL X Y BA σ w w2 rb ⟨⟨cA0,0,0⟩,xy 1,sh0⟩ 0 0):Calls Tryz.prog 21 #[.pointer (some ⟨rb,0,none⟩),.slice (some ⟨w2.heap.size,0,none⟩) 2 2] (w2.alloc (.cells #[.int .i64 1,(),.string ⟨#[97]⟩,(),(),(),(),.int .i64 6,(),.string nm,.int .i64 1,(),(),()] 40)) (RunA X Y w rb):=by
 have hb:=ae w2 (.cells #[.int .i64 1,(),.string ⟨#[97]⟩,(),(),(),(),.int .i64 6,(),.string nm,.int .i64 1,(),(),()] 40)
 have hn:=L9 w2 (.cells #[.int .i64 1,(),.string ⟨#[97]⟩,(),(),(),(),.int .i64 6,(),.string nm,.int .i64 1,(),(),()] 40)
 generalize w2.alloc (.cells #[.int .i64 1,(),.string ⟨#[97]⟩,(),(),(),(),.int .i64 6,(),.string nm,.int .i64 1,(),(),()] 40)=W at*
 have hs:iY (OT nm) 2=1:=rfl
 refine(run_any X Y BA aa (some ⟨w2.heap.size,0,none⟩) 2 2 (OT nm) w W _ rb _ 0 0 (h.fresh hb) (Ko hn) (fun a ha=>?_) (fun a ha=>?_) aa aa).mono ?_
 ·have h2:a=⟨1,0,⟨#[97]⟩,0,0,0,0⟩∨a=⟨6,0,nm,1,0,0,0⟩:=by simpa[OT] using ha
  rcases h2 with rfl | rfl
  ·exact⟨show(Lit.int .i64 0).wf=true by decide,show(Lit.int .i64 0).wf=true by decide⟩
  ·exact⟨show(Lit.int .i64 1).wf=true by decide,show(Lit.int .i64 0).wf=true by decide⟩
 ·obtain rfl:a=⟨w2.heap.size,0,none⟩:=(Option.some.inj ha).symm
  exact⟨L8 hn,aX σ 3 Me (L8 hn),_,hn⟩
 ·rintro e w3 ⟨s',O,v,σ2,rfl,R,I,U,J,j⟩
  obtain⟨h1,h2,m,rfl⟩:=first2 hY (nm:=⟨#[97]⟩) (by rw[←MQ];exact nmA1) (by rw[←MQ];exact nmA2) (s:=⟨⟨cA0,0,0⟩,xy 1,sh0⟩) rfl rfl rfl R
  obtain⟨g,cap,rfl,hL⟩:=ls_of U (fun b hb=>(J b hb).1)
  rw[hs] at I
  exact⟨s',g,cap,σ2,rfl,I,h1,h2,hL⟩
theorem JI(w:World):Calls Tryz.prog 7 #[] w (G7 w):=by
 unfold G7
 have HM:=MI (madeW w)
 unfold MadeA at HM
 have HW:=MI (Below.refl w.heap.size w)
 go_enter Tryz.func7,Tryz.ntmps7
 go_upto_region 1 with fail
 go_upto_region 4 with(go_at_call 5;refine HM.out.mono ?_;rintro e w2 ⟨X,Y,σ,rb,rfl,B1,B7⟩)
 have HR:=MI (runA ⟨#[]⟩ B1 B7)
 unfold RunA at HR
 clear B7 HM
 go_upto_region 5 with(go_at_call 21;refine HR.out.mono ?_;rintro e w3 ⟨s3,g,cap,σ3,rfl,B8,B9,C0,C1⟩)
 have HY:=MI B1
 have C2:=MI B8
 have C3:=MI B9
 have C4:=MI C0
 have C5:=MI C1
 clear HR B8 B9 C0 C1 B1
 go_wp2_with fail
 go_loopw [3] (fun v3 wr=>∃(i:Nat)(τ:Own)(s:Rs),i≤3∧v3= .int .i64 (i:Int)∧TL X Y BA τ w wr rb s (2+2*i) (258+2*i)∧Hid (s.f.c=cN i)∧s.sh=sh0∧LS τ wr g) (fun v3 _=>3 - aC v3)
 case atStart=>exact⟨0,σ3,s3,aa,rfl,C2.out,C3,C4.out,C5.out⟩
 case round=>
  clear C2 C3 C4 C5
  obtain⟨i,τ,s,hi,rfl,hT,hc,hs,hL⟩:=hrel
  have A2:=MI (IB X Y wr rb s.sh hT.rk.cells)
  have A3:Hid (Calls Tryz.prog 23 #[.pointer (some ⟨X.A.b,0,none⟩)] wr (fun e w'=>e= .returned (.int .i64 3)∧wr=w')):=by
   obtain⟨m,hm,hD⟩:=hT.fe.ca.dsk
   have hp:=Cch.rX X.A.b X.A.mb X.A.ib X.A.kap m s.f.c.d hT.fe.lim.ok wr hD
   have E0:s.f.c.d.pages=3:=by
    unfold Dskp.Dk.pages
    rw[hT.fe.img]
    show(IMG.length+63)/64=3
    rw[pA6]
   rw[E0] at hp
   exact hp
  have HT:=MI hT
  have HS:=MI hs
  have HL:=MI hL
  have I:=HY.out
  by_cases E4:i<3
  ·have D7:(i:Int)<3:=aa
   have R:=MI (rM hT aa aa ⟨8,0,⟨#[]⟩,i,-1,0,0⟩ ⟨show(Lit.int .i64 (i:Int)).wf=true from WalkArith.wf_i64 aa,show(Lit.int .i64 (-1)).wf=true by decide⟩ aa)
   unfold wZ at R
   clear hT hs hL I
   go_upto_region 9 with(first
    | (go_at_call 22;refine A2.out.mono ?_;rintro e w' ⟨rfl,rfl⟩)
    | (go_at_call 23;refine A3.out.mono ?_;rintro e w' ⟨rfl,rfl⟩)
    | (go_at_call 8;refine R.out.mono ?_;rintro e w4 ⟨s4,O4,r4,e4,n4,o41,c41,o42,n42,c42,o43,n43,c43,fr4,rd4,σ4,rfl,j,J,B2,o,A0⟩))
   obtain⟨q1,q2,q3⟩:=fail1 j
   have D8:=MI J
   have A4:=MI (HL.out.step A0 o HT.out.rk)
   have B3:Hid (s4.f.c={cN i with d:=Dskp.flS (cN i).d i (-1),mx:=(cN i).mx+1}):=by
    rw[hc.out] at q1
    exact q1
   have B4:Hid (s4.sh=sh0):=q3.trans HS.out
   have I:=HY.out
   have U:=MI (rM J (by show 258+2*i+1+256*0≤400000;omega) aa ⟨7,0,⟨#[]⟩,i,0,0,0⟩ ⟨show(Lit.int .i64 (i:Int)).wf=true from WalkArith.wf_i64 aa,show(Lit.int .i64 0).wf=true by decide⟩ aa)
   unfold wZ at U
   clear J R A2 A3 j B2 o A0 q1 q2 q3 I
   go_wp2_with (go_at_call 8;refine U.out.mono ?_;rintro e w5 ⟨s5,O5,r5,e5,n5,o51,c51,o52,n52,c52,o53,n53,c53,fr5,rd5,σ5,rfl,A5,A1,C6,A6,A7⟩)
   obtain⟨q1,q2,q3⟩:=evict1 A5
   have A8:=A4.out.step A7 A6 D8.out.rk
   have D9:TL X Y BA σ5 w w5 rb s5 (2+2*(i+1)) (258+2*(i+1)):=A1
   have E1:Hid (s5.f.c=cN (i+1)):=by
    rw[B3.out] at q1
    exact q1
   exact⟨⟨i+1,σ5,s5,aa,aD,D9,E1,q3.trans B4.out,A8⟩,by simp[aC];omega⟩
  ·obtain rfl:i=3:=aa
   have D7:¬((3:Nat):Int)<3:=aa
   have R:=MI (rM hT aa aa ⟨2,0,⟨#[]⟩,0,0,0,0⟩ ⟨show(Lit.int .i64 0).wf=true by decide,show(Lit.int .i64 0).wf=true by decide⟩ aa)
   unfold wZ at R
   clear hT hs hL I
   go_upto_region 11 with(first
    | (go_at_call 22;refine A2.out.mono ?_;rintro e w' ⟨rfl,rfl⟩)
    | (go_at_call 23;refine A3.out.mono ?_;rintro e w' ⟨rfl,rfl⟩)
    | (go_at_call 8;refine R.out.mono ?_;rintro e w4 ⟨s4,O4,r4,e4,n4,o41,c41,o42,n42,c42,o43,n43,c43,fr4,rd4,σ4,rfl,j,J,B2,o,A0⟩))
   obtain⟨q1,q3⟩:=stop1 j
   have A4:=MI (HL.out.step A0 o HT.out.rk)
   have B3:Hid (s4.f.c=cN 3):=by
    rw[←hc.out,←q1];rfl
   have B4:Hid (s4.sh=sh0):=q3.trans HS.out
   have E2:Hid (s4.y.ps.length=1):=J.ys.len.trans HY.out
   have I:=HY.out
   have C7:=MI J
   have U:=MI (rM J (by show 258+2*3+1+256*0≤400000;omega) aa ⟨1,0,⟨#[97]⟩,0,0,0,0⟩ ⟨show(Lit.int .i64 0).wf=true by decide,show(Lit.int .i64 0).wf=true by decide⟩ aa)
   unfold wZ at U
   clear J R A2 A3 j B2 o A0 q1 q3 I HT HL
   go_upto_region 12 with(go_at_call 8;refine U.out.mono ?_;rintro e w5 ⟨s5,O5,r5,e5,n5,o51,c51,o52,n52,c52,o53,n53,c53,fr5,rd5,σ5,rfl,A5,A1,C6,A6,A7⟩)
   have C8:=MI A5
   have A8:=MI (A4.out.step A7 A6 C7.out.rk)
   have C9:=MI A1
   have I:=HY.out
   have B5:=MI (rM A1 (by show 258+2*3+1+256*0+1+256*0≤400000;omega) aa ⟨6,0,⟨#[]⟩,1,0,0,0⟩ ⟨show(Lit.int .i64 1).wf=true by decide,show(Lit.int .i64 0).wf=true by decide⟩ aa)
   unfold wZ at B5
   clear A1 U A5 C6 A6 A7 I C7 A4
   go_upto_region 13 with(go_at_call 8;refine B5.out.mono ?_;rintro e w6 ⟨s6,O6,r6,e6,n6,o61,c61,o62,n62,c62,o63,n63,c63,fr6,rd6,σ6,rfl,D0,D1,D2,D3,D4⟩)
   obtain⟨⟨lo,lc,D5⟩,m,rfl⟩:=second1 HY.out (nm:=⟨#[97]⟩) (by rw[←MQ];exact nmA1) (by rw[←MQ];exact nmA2) B3.out E2.out B4.out C8.out D0
   simp only at D5
   cases D5
   have D6:=A8.out.step D4 D3 C9.out.rk
   obtain⟨a,ha,A9⟩:=D2.cell 0 Nat.one_pos
   subst ha
   have B0:=A9 0 (.int .i64 0) rfl
   simp only[Nat.zero_mul,jV] at B0
   have E3:=MI (bD D1.low (ae w6 (.cells #[.int .i64 e6,.int .i64 n6,.slice (some a) 1 c61,.slice o62 1 c62,.slice o63 n63 c63,.int .i64 fr6,.int .i64 rd6] 37)))
   have B6:=ae w6 (.cells #[.int .i64 e6,.int .i64 n6,.slice (some a) 1 c61,.slice o62 1 c62,.slice o63 n63 c63,.int .i64 fr6,.int .i64 rd6] 37)
   obtain⟨t0,t1,t2,t3,t4,t5,t6⟩:=aY (L9 w6 (.cells #[.int .i64 e6,.int .i64 n6,.slice (some a) 1 c61,.slice o62 1 c62,.slice o63 n63 c63,.int .i64 fr6,.int .i64 rd6] 37))
   have hg:=(D6.aj B6).2
   obtain⟨cs,-,hg⟩:=hg
   have E5:=(B6.cell (World.block_lt_of_cell? w6 _ B0)).trans B0
   clear B5 C8 A8 C9 D1 D2 D3 D4 D6 B6 A9 B0 D0
   generalize w6.alloc (.cells #[.int .i64 e6,.int .i64 n6,.slice (some a) 1 c61,.slice o62 1 c62,.slice o63 n63 c63,.int .i64 fr6,.int .i64 rd6] 37)=W6 at*
   go_wp2_with fail
   go_ret
   exact⟨rfl,E3.out⟩
end Go.Proofs.YtnicjahcgnhogaaGreatDoor
namespace Go.Proofs.YtnicjahcgnhogaaGreatDoor
open Go Go.RowKit Go.Calli
theorem MK(c:Cch.Ca)(p:Int)(h:c.d.Ok)(h0:0≤c.bC):(Cch.ed c p).c.d.Ok∧(Cch.ed c p).c.bC=c.bC∧(Cch.ed c p).c.d.r≤c.d.r+(c.bC+1):=by
 have h1:=Cch.AB p (c.bC.toNat+1) c.d 8 h
 unfold Cch.ed
 split
 ·exact⟨h,rfl,by show c.d.r≤_;omega⟩
 ·split
  ·exact⟨h1.1,rfl,by show(Cch.gq p (c.bC.toNat+1) c.d 8).d.r≤_;omega⟩
  ·exact⟨h1.1,rfl,by show(Cch.gq p (c.bC.toNat+1) c.d 8).d.r≤_;omega⟩
theorem KU: ∀(k:Nat)(c:Cch.Ca)(a n:Nat)(out:List Int)(q:Nat),c.d.Ok→0≤c.bC→(n=0∨(a%64+n+63)/64≤q)→(Cch.fO k c a n out).c.d.Ok∧(Cch.fO k c a n out).c.bC=c.bC∧(Cch.fO k c a n out).c.d.r≤c.d.r+(c.bC+1)*q:=by
 intro k
 induction k with
 | zero=>intro c a n out q h h0 hq;exact⟨h,rfl,by show c.d.r≤_;have:=Int.mul_nonneg (show 0≤c.bC+1 by omega) (show(0:Int)≤q by omega);omega⟩
 | succ k ih=>
  intro c a n out q h h0 hq
  unfold Cch.fO
  split
  ·exact⟨h,rfl,by show c.d.r≤_;have:=Int.mul_nonneg (show 0≤c.bC+1 by omega) (show(0:Int)≤q by omega);omega⟩
  ·rename_i hn
   have hp:=MK c ((a/64:Nat):Int) h h0
   obtain⟨q',rfl⟩: ∃q',q=q'+1:=⟨q - 1,aa⟩
   have e1:(c.bC+1)*((q'+1:Nat):Int)=(c.bC+1)*(q':Int)+(c.bC+1):=by rw[Int.natCast_add,Int.mul_add];simp
   have e2:=Int.mul_nonneg (show 0≤c.bC+1 by omega) (show(0:Int)≤q' by omega)
   split
   ·exact⟨hp.1,hp.2.1,by show(Cch.ed c _).c.d.r≤_;omega⟩
   ·have h2:=ih (Cch.ed c ((a/64:Nat):Int)).c (a+min (64 - a%64) n) (n - min (64 - a%64) n) (out++(((Cch.ed c ((a/64:Nat):Int)).b.drop (a%64)).take n)) q' hp.1 aa aa
    rw[hp.2.1] at h2
    exact⟨h2.1,h2.2.1,aa⟩
structure Mv(f f':Fe)(k:Nat):Prop where
 fr:f'.fr=f.fr+k
 rd:f'.c.d.r≤f.c.d.r+3*(f.c.bC+1)*k
 rt:f'.c.bC=f.c.bC
 ok:f'.c.d.Ok
def Gd(f:Fe):Prop:=f.c.d.Ok∧0≤f.c.bC
theorem Mv.gd{f f':Fe}{k:Nat}(h:Mv f f' k)(hg:Gd f):Gd f':=⟨h.ok,by rw[h.rt];exact hg.2⟩
theorem Mv.refl{f:Fe}(h:Gd f):Mv f f 0:=⟨aa,aa,rfl,h.1⟩
theorem Mv.trans{f f1 f2:Fe}{k1 k2:Nat}(h1:Mv f f1 k1)(h2:Mv f1 f2 k2):Mv f f2 (k1+k2):=by
 refine⟨by rw[h2.fr,h1.fr];omega,?_,h2.rt.trans h1.rt,h2.ok⟩
 have a:=h1.rd
 have b:=h2.rd
 rw[h1.rt] at b
 rw[Int.natCast_add,Int.mul_add]
 omega
theorem Dc{B:Bk}{f f':Fe}{m:Mt}{ch n:Nat}{u u':Ku}(h:lI B f f' m ch n u u')(hs:B.size≤96)(hg:Gd f): ∃k,k≤1∧Mv f f' k∧u'.lost.length≤u.lost.length+k:=by
 rcases h with⟨i,-,-,-,rfl,rfl⟩ | ⟨-,u1,b,R,hT,-,rfl,hc,hf⟩
 ·exact⟨0,aa,Mv.refl hg,Me⟩
 ·obtain⟨err,z,ts,hR,-,-,-,-,-,-,h0,h1⟩:=hT
  have I:=KU B.size f.c (m.first+m.num ch n*B.size) B.size [] 3 hg.1 hg.2 (.inr aa)
  rw[hR] at I
  refine⟨1,Me,⟨hf,?_,by rw[hc];exact I.2.1,by rw[hc];exact I.1⟩,?_⟩
  ·rw[hc]
   have:=I.2.2
   have e:(f.c.bC+1)*((3:Nat):Int)=3*(f.c.bC+1)*((1:Nat):Int):=aa
   omega
  ·show u1.lost.length≤_
   by_cases he:err=0
   ·rw[(h0 he).2.2.1];omega
   ·rw[(h1 he).2.2.1];simp
theorem at_mv{B:Bk}{f f':Fe}{m:Mt}{ch p:Nat}{u u':Ku}{r:Int}(h:AtR B f f' m ch p u u' r)(hs:B.size≤96)(hg:Gd f): ∃k,k≤2∧Mv f f' k∧u'.lost.length≤u.lost.length+k:=by
 obtain⟨u1,f1,h1,h2,-⟩:=h
 obtain⟨k1,a1,b1,c1⟩:=Dc h1 hs hg
 obtain⟨k2,a2,b2,c2⟩:=Dc h2 hs (b1.gd hg)
 exact⟨k1+k2,aa,b1.trans b2,aa⟩
theorem ats_mv{B:Bk}{m:Mt}{ch:Nat}(hs:B.size≤96): ∀(l:List (Nat×Int))(f:Fe)(u:Ku)(f':Fe)(u':Ku),Fv B m ch f u l f' u'→Gd f→∃k,k≤2*l.length∧Mv f f' k∧u'.lost.length≤u.lost.length+k:=by
 intro l
 induction l with
 | nil=>intro f u f' u' h hg;obtain⟨rfl,rfl⟩:=h;exact⟨0,aa,Mv.refl hg,aa⟩
 | cons a r ih=>
  intro f u f' u' h hg
  obtain⟨p,x⟩:=a
  obtain⟨f1,u1,h1,h2⟩:=h
  obtain⟨k1,a1,b1,c1⟩:=at_mv h1 hs hg
  obtain⟨k2,a2,b2,c2⟩:=ih f1 u1 f' u' h2 (b1.gd hg)
  exact⟨k1+k2,by simp only[List.length_cons];omega,b1.trans b2,aa⟩
theorem J5{B:Bk}{f f':Fe}{m:Mt}{ch:Nat}{at_:Int}{u u':Ku}{r:Int}(h:JO B f f' m ch at_ u u' r)(hs:B.size≤96)(hg:Gd f): ∃k,k≤8∧Mv f f' k∧u'.lost.length≤u.lost.length+k:=by
 obtain⟨l,t,x,h1,h2,-⟩:=h
 obtain⟨k,a,b,c⟩:=ats_mv hs l f u f' u' h1 hg
 exact⟨k,aa,b,c⟩
def yx(us:List Ku):Nat→Nat
 | 0=>0
 | k+1=>yx us k+(us.getD k u0).lost.length
theorem Ja(id:Int)(us:List Ku)(k:Nat):(iT id us k).length=yx us k:=by
 induction k with
 | zero=>rfl
 | succ k ih=>simp[iT,yx,oD,ih]
theorem jJ(us:List Ku)(i j:Nat)(a:Ku):(us.set i a).getD j u0=if i=j∧i<us.length then a else us.getD j u0:=by
 simp only[List.getD,List.getElem?_set]
 by_cases h:i=j
 ·subst h
  by_cases h2:i<us.length
  ·simp[h2]
  ·simp[h2,List.getElem?_eq_none (Nat.le_of_not_lt h2)]
 ·simp[h]
def Clr(us:List Ku)(ch:Nat):Prop:=∀j,j<ch→(us.getD j u0).lost=[]
theorem FI(v:Vo):(je v).m=v.m:=by
 unfold je
 split
 ·rfl
 ·split<;>rfl
theorem next_mv{B:Bk}{f f':Fe}{v v':Vo}{us us':List Ku}{l r:Int}(h:yZ B f f' v v' us us' l r)(hs:B.size≤96)(hg:Gd f)(hc:Clr us v.m.ch)(id:Int): ∃k,k≤16∧Mv f f' k∧(iT id us' v'.m.ch).length≤k∧v'.m=v.m:=by
 have hz: ∀j,j≤v.m.ch→yx us j=0:=fun j=>by
  induction j with
  | zero=>intro _;rfl
  | succ j ih=>intro hj;have e:=hc j aa;unfold yx;rw[ih aa,e];rfl
 rw[Ja]
 rcases h with⟨-,-,-,rfl,rfl,rfl⟩ | ⟨-,rfl,f1,a,hA,hB⟩
 ·exact⟨0,aa,Mv.refl hg,by rw[hz _ Me];omega,rfl⟩
 ·have hm:=FI v
  rw[hm]
  obtain⟨k1,a1,b1,c1⟩:=J5 hA hs hg
  rcases hB with⟨h1,-,rfl,rfl⟩ | ⟨h2,b,I,rfl⟩
  ·refine⟨k1,aa,b1,?_,rfl⟩
   have e0:=hc 0 aa
   rw[e0] at c1
   simp only[List.length_nil,Nat.zero_add] at c1
   rw[h1]
   simp only[yx,jJ]
   split
   ·omega
   ·rw[e0];simp
  ·obtain⟨k2,a2,b2,c2⟩:=J5 I hs (b1.gd hg)
   refine⟨k1+k2,aa,b1.trans b2,?_,rfl⟩
   have e0:=hc 0 aa
   have e1:=hc 1 aa
   rw[e0] at c1
   rw[e1] at c2
   simp only[List.length_nil,Nat.zero_add] at c1 c2
   have x0:(((us.set 0 a).set 1 b).getD 0 u0).lost.length≤k1:=by
    rw[jJ,if_neg aa,jJ]
    split
    ·exact c1
    ·rw[e0];simp
   have x1:(((us.set 0 a).set 1 b).getD 1 u0).lost.length≤k2:=by
    rw[jJ]
    split
    ·exact c2
    ·rw[jJ,if_neg aa,e1];simp
   rw[h2]
   show 0+(((us.set 0 a).set 1 b).getD 0 u0).lost.length+(((us.set 0 a).set 1 b).getD 1 u0).lost.length≤k1+k2
   omega
theorem Ox(us:List Ku)(k:Nat):Clr (kJ us k) k:=fun j hj=>by
 unfold kJ
 by_cases h:j<us.length
 ·rw[List.getD,List.getElem?_append_left (by simp;omega),List.getElem?_map,List.getElem?_take,if_pos hj,List.getElem?_eq_getElem h]
  rfl
 ·rw[List.getD,List.getElem?_eq_none (by simp;omega)]
  rfl
def Pok(p:Pt):Prop:=Clr p.us p.v.m.ch
def Yok(y:Ye):Prop:=∀(i:Nat)(P:Px)(p:Pt),y.ps.getD i none=some (P,p)→Pok p
theorem jT(ps:List Po)(i j:Nat)(q:Po):(ps.set i q).getD j none=if i=j∧i<ps.length then q else ps.getD j none:=by
 simp only[List.getD,List.getElem?_set]
 by_cases h:i=j
 ·subst h
  by_cases h2:i<ps.length
  ·simp[h2]
  ·simp[h2]
 ·simp[h]
theorem Yok.set{y:Ye}(h:Yok y)(i:Nat)(q:Po)(c:Int)(hq: ∀P p,q=some (P,p)→Pok p):Yok ⟨y.ps.set i q,c⟩:=fun j P p e=>by
 have e:(y.ps.set i q).getD j none=some (P,p):=e
 rw[jT] at e
 split at e
 ·exact hq P p e
 ·exact h j P p e
theorem part_mv{B:Bk}{f f':Fe}{id:Nat}{P:Px}{p p':Pt}{a b:Int}{lo:List Ls}(h:yX B f f' id P p p' a b lo)(hs:B.size≤96)(hg:Gd f)(hp:Pok p): ∃k,k≤16∧Mv f f' k∧lo.length≤k∧Pok p':=by
 obtain⟨l,r,v',us',hN,-,-,rfl,rfl⟩:=h
 obtain⟨k,h1,h2,h3,h4⟩:=next_mv hN hs hg hp id
 exact⟨k,h1,h2,h3,Ox _ _⟩
theorem ones_mv{B:Bk}{f:Fe}{y:Ye}{r:Rp}(hs:B.size≤96)(hg:Gd f)(hy:Yok y): ∀(n:Nat)(f':Fe)(y':Ye)(r':Rp)(L M:List Int),yY B f y r n f' y' r' L M→∃k,k≤16*n∧Mv f f' k∧Yok y'∧r'.lost.length≤r.lost.length+k:=by
 intro n
 induction n with
 | zero=>intro f' y' r' L M h;obtain⟨rfl,rfl,rfl,-⟩:=h;exact⟨0,aa,Mv.refl hg,hy,aa⟩
 | succ n ih=>
  intro f' y' r' L' M' h
  obtain⟨f1,y1,r1,L,M,h1,h2⟩:=h
  obtain⟨k,a,b,c,d⟩:=ih f1 y1 r1 L M h1
  rcases h2 with⟨-,rfl,rfl,rfl,-⟩ | ⟨P,p,p',x,z,lo,e1,hP,rfl,rfl,-⟩
  ·exact⟨k,aa,b,c,d⟩
  ·obtain⟨k2,a2,b2,c2,d2⟩:=part_mv hP hs (b.gd hg) (c n P p e1)
   refine⟨k+k2,aa,b.trans b2,c.set n _ _ (fun P2 p2 e=>?_),by simp only[List.length_append];omega⟩
   unfold vz at e
   split at e
   ·cases e
   ·cases e;exact d2
theorem ren_mv{B:Bk}{n:Nat}{f:Fe}{y:Ye}(hs:B.size≤96)(hg:Gd f)(hy:Yok y): ∀(k:Nat)(f':Fe)(y':Ye)(r':Rp)(O:List (Int×Int)),uq B n f y k f' y' r' O→∃q,q≤16*n*k∧Mv f f' q∧Yok y'∧r'.lost.length≤q:=by
 intro k
 induction k with
 | zero=>intro f' y' r' O h;obtain⟨rfl,rfl,rfl,-⟩:=h;exact⟨0,aa,Mv.refl hg,hy,ar⟩
 | succ k ih=>
  intro f' y' r' O' h
  obtain⟨f1,y1,r1,O,l,m,h1,⟨L,M,h2,-⟩,-⟩:=h
  obtain⟨q,a,b,c,d⟩:=ih f1 y1 r1 O h1
  obtain⟨q2,a2,b2,c2,d2⟩:=ones_mv hs (b.gd hg) c n f' y' r' L M h2
  exact⟨q+q2,by rw[Nat.mul_succ];omega,b.trans b2,c2,aa⟩
theorem JU(n:Nat)(c:Int):Yok ⟨List.replicate n none,c⟩:=fun i P p e=>by
 have e:(List.replicate n (none:Po)).getD i none=some (P,p):=e
 rw[List.getD,List.getElem?_replicate] at e
 split at e<;>cases e
theorem pok_new(m:Mt)(sh:Envp.Sh)(c:Int):Pok (mQ m sh c):=fun j hj=>by
 show((List.replicate m.ch u0).getD j u0).lost=[]
 rw[List.getD,List.getElem?_replicate]
 split<;>rfl
theorem ut{Y:Yx}{y:Ye}(h:Yok y)(id:Int)(g:Pt→Int×Pt)(hg: ∀p,Pok p→Pok (g p).2):Yok (dn Y y id g).2:=by
 unfold dn
 split
 ·exact h
 ·split
  ·exact h
  ·rename_i q hq
   exact h.set _ _ _ (fun P p e=>by
    cases e
    exact hg _ (h _ q.1 q.2 hq))
theorem JS{Y:Yx}{y:Ye}(h:Yok y)(id:Int):Yok (iP Y y id).2:=by
 unfold iP
 split
 ·exact h
 ·split
  ·exact h
  ·exact h.set _ _ _ (fun P p e=>by cases e)
theorem fltF_rt(f:Fe)(a:Ac):(lM f a).c.bC=f.c.bC:=by
 unfold lM
 split
 ·show(Cch.evC f.c a.n).bC=_
  unfold Cch.evC
  split<;>rfl
 split
 ·rfl
 split
 ·rfl
 split<;>rfl
structure Cost(n R:Nat)(O:List (Int×Int))(t:Tl):Prop where
 f0:0≤t.fr
 f1:t.fr≤16*n*O.length
 r:t.rd≤3*((R:Int)+1)*t.fr
 l: ∀lo k c,t.lv= .slice lo k c→(k:Int)≤t.fr
theorem cost_q(n R:Nat)(O:List (Int×Int))(x y:Int):Cost n R O (qT x y):=
 ⟨Int.le_refl _,by show(0:Int)≤_;rw[show(16*(n:Int)*(O.length:Int))=((16*n*O.length:Nat):Int) by rw[Int.natCast_mul,Int.natCast_mul];rfl];omega,by show(0:Int)≤_;rw[show(qT x y).fr=0 from rfl,Int.mul_zero];exact Int.le_refl _,fun lo k c e=>by
  have e:(Value.slice none 0 0)= .slice lo k c:=e
  cases e
  exact Int.le_refl _⟩
theorem OU{B:Bk}{Y:Yx}{a:Ac}{s s':Rs}{t:Tl}{O:List (Int×Int)}{r:Rp}{R:Nat}(h:dS B Y a s s' t O r)(hs:B.size≤96)(hg:Gd s.f)(hy:Yok s.y)(hR:s.f.c.bC=(R:Int)):Cost Y.n R O t∧s'.f.c.bC=(R:Int)∧Yok s'.y:=by
 have hq:=cost_q Y.n R O
 unfold dS at h
 split at h
 ·rcases h with⟨-,rfl,rfl,-⟩ | ⟨-,-,hT⟩
  ·exact⟨hq _ _,hR,hy⟩
  ·obtain⟨h1,h2,-,-,-,-,⟨lo,lc,I⟩,-,J,U⟩:=hT
   obtain⟨q,a1,b1,c1,d1⟩:=ren_mv hs hg hy a.n.toNat s'.f s'.y r O h1
   have e1:t.fr=(q:Int):=by rw[J,b1.fr];omega
   refine⟨⟨aa,?_,?_,fun lo2 k c e=>?_⟩,b1.rt.trans hR,c1⟩
   ·rw[e1,h2,show(16*(Y.n:Int)*(a.n.toNat:Int))=((16*Y.n*a.n.toNat:Nat):Int) by rw[Int.natCast_mul,Int.natCast_mul];rfl]
    omega
   ·have h5:=b1.rd
    rw[hR] at h5
    rw[e1,U]
    omega
   ·rw[I] at e
    cases e
    omega
 ·obtain⟨-,h⟩:=h
  split at h
  ·rcases h with⟨-,rfl,rfl⟩ | ⟨-,P,-,rfl,rfl⟩
   ·exact⟨hq _ _,hR,hy⟩
   ·exact⟨hq _ _,hR,hy.set _ _ _ (fun P2 p2 e=>by cases e;exact pok_new _ _ _)⟩
  split at h
  ·obtain⟨rfl,rfl⟩:=h
   exact⟨hq _ _,hR,JS hy _⟩
  split at h
  ·obtain⟨rfl,rfl⟩:=h
   exact⟨hq _ _,hR,ut hy _ _ (fun p hp=>by
    show Clr p.us (dL p.v a.n).2.m.ch
    rw[show(dL p.v a.n).2.m=p.v.m by unfold dL;split<;>rfl]
    exact hp)⟩
  split at h
  ·obtain⟨rfl,rfl⟩:=h
   exact⟨hq _ _,hR,ut hy _ _ (fun p hp=>by
    show Clr p.us (dK p.v a.p).2.m.ch
    rw[show(dK p.v a.p).2.m=p.v.m by unfold dK;split<;>rfl]
    exact hp)⟩
  split at h
  ·obtain⟨rfl,rfl⟩:=h
   exact⟨hq _ _,hR,ut hy _ _ (fun p hp=>by unfold lL;split<;>exact hp)⟩
  split at h
  ·obtain⟨rfl,rfl⟩:=h
   refine⟨hq _ _,?_,?_⟩
   ·split<;>exact hR
   ·split<;>exact hy
  split at h
  ·obtain⟨rfl,rfl⟩:=h
   exact⟨hq _ _,hR,ut hy _ _ (fun p hp=>hp)⟩
  ·obtain⟨rfl,rfl⟩:=h
   refine⟨?_,(fltF_rt _ _).trans hR,hy⟩
   unfold mg
   split
   ·exact hq _ _
   split
   ·exact hq _ _
   split
   ·exact hq _ _
   split<;>exact hq _ _
end Go.Proofs.YtnicjahcgnhogaaGreatDoor
