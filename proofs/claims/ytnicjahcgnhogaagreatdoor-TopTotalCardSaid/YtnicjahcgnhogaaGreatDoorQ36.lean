/- Part 37 of the walk: contracts of the program's functions, each for every input. No condition. -/
import Derived.Test.YtnicjahcgnhogaaGreatDoorQ35
import Derived.Test.YtnicjahcgnhogaaGreatDoorQ32
set_option linter.unusedVariables false
set_option linter.unusedSimpArgs false
set_option maxRecDepth 100000
set_option maxHeartbeats 8000000
namespace Go.Proofs.YtnicjahcgnhogaaGreatDoor
open Go Go.RowKit Go.Calli
attribute [local irreducible] wpStill wpAnyH wpAnyS wpList Code.wp
theorem field37(e n f r:Int)(o1 o2 o3:Option Addr)(n1 c1 n2 c2 n3 c3:Nat)(w:World):(Instr.field 37 (.agg #[.int .i64 e,.int .i64 n,.slice o1 n1 c1,.slice o2 n2 c2,.slice o3 n3 c3,.int .i64 f,.int .i64 r]) 2).run Tryz.prog w= .ok (.agg #[.slice o1 n1 c1,.slice o2 n2 c2,.slice o3 n3 c3,.int .i64 f,.int .i64 r]) w:=by kernel_rfl
theorem field35(f r:Int)(o1 o2 o3:Option Addr)(n1 c1 n2 c2 n3 c3:Nat)(w:World):(Instr.field 35 (.agg #[.slice o1 n1 c1,.slice o2 n2 c2,.slice o3 n3 c3,.int .i64 f,.int .i64 r]) 0).run Tryz.prog w= .ok (.slice o1 n1 c1) w:=by kernel_rfl
theorem TL.app{X:Fx}{Y:Yx}{B:Bk}{σ:Own}{w wr w1:World}{rb:Nat}{s:Rs}{j K:Nat}(h:TL X Y B σ w wr rb s j K){S:Nat→Prop}(hk:af S wr w1)(hS: ∀k,S k→σ k=3∧∃cs,wr.heap[k]? =some (.cells cs 81 (0,0))):TL X Y B (aA σ wr.heap.size w1.heap.size 3) w w1 rb s j K:=by
 have hx:=bZ σ wr.heap.size w1.heap.size 3
 have hl:=h.low.size
 obtain⟨tv,xs,h1,h2,h3⟩:=h.rk.row
 refine⟨h.fe.aA (hk.mono fun k _ e=>by rw[(hS k e).1];exact Nat.le_refl 3) 3,h.fb,(h.ys.ext hx).keep hk (fun k e hl=>by rw[dP σ 3 hl,(hS k e).1];decide),⟨⟨tv,xs,hk.heap h1 (fun e=>by
  obtain⟨-,cs,hcs⟩:=hS _ e
  rw[h1] at hcs
  simp at hcs),ay h2 hk (fun k e hs=>by
  obtain⟨cs,hcs⟩:=ag h2 e
  obtain⟨-,cs2,hcs2⟩:=hS _ hs
  rw[hcs] at hcs2
  simp at hcs2),fun b e=>by
  obtain⟨cs,hcs⟩:=ag h2 e
  have:=L8 hcs
  have:=hk.size
  exact⟨(hx _ (L8 hcs)).trans (h3 b e).1,by simp only;omega⟩⟩,(hx _ (L8 h1)).trans h.rk.own,h.rk.sok⟩,h.ct,fun k hk=>(hx k (by omega)).trans (h.old k hk),?_⟩
 refine((af.au (S:=fun _=>False) h.low Me).andThen hk (fun i hi e=>?_)).bg Me (fun _ _ e=>e)
 have h1:=h.old i hi
 have h2:=(hS i e).1
 omega
theorem Ko(O:List (Int×Int)):(O.flatMap stV).length=O.length*2:=by
 induction O with
 | nil=>rfl
 | cons a l ih=>rw[List.flatMap_cons,List.length_append,ih,xX,List.length_cons];omega
theorem J9(O:List (Int×Int)): ∀u ∈ O.flatMap stV,u.oneCell'=true:=fun u hu=>by
 obtain⟨x,-,hx⟩:=List.mem_flatMap.1 hu
 unfold stV at hx
 simp at hx
 rcases hx with rfl | rfl<;>rfl
def RunP(X:Fx)(Y:Yx)(B:Bk)(σ:Own)(w0 w:World)(rb:Nat)(s:Rs)(acts:List Ac)(k j0 K:Nat)(e:Ending)(w':World):Prop:=∃(s':Rs)(O:List (Int×Int))(v:Value)(σ2:Own),e= .returned v∧xM B Y acts s k s' O∧TL X Y B σ2 w0 w' rb s' (j0+k) (K+k+256*iQ acts k)∧w'.ownsRow 0 81 2 v O.length (O.flatMap stV)∧(∀b,v.ownBlock=some b→σ2 b=3∧w.heap.size≤b)∧Ext σ σ2 w.heap.size
theorem run_any(X:Fx)(Y:Yx)(B:Bk)(hn16:Y.n≤16)(bo:Option Addr)(k kc:Nat)(acts:List Ac)(w0 w:World)(σ:Own)(rb:Nat)(s:Rs)(j0 K:Nat)(h:TL X Y B σ w0 w rb s j0 K)(hA:bH acV 7 ac0 w bo k acts)(hW: ∀a ∈ acts,a.Wf)(hbo: ∀a,bo=some a→a.block<w.heap.size∧σ a.block=3∧∃cs,w.heap[a.block]? =some (.cells cs 40 (0,0)))(hj0:j0+k≤60)(hK:K+k+256*iQ acts k≤400000):Calls Tryz.prog 21 #[.pointer (some ⟨rb,0,none⟩),.slice bo k kc] w (RunP X Y B σ w0 w rb s acts k j0 K):=by
 have HT0:=MI h
 have HA0:=MI hA
 have HWf:=MI hW
 have HBo:=MI hbo
 have hrl:rb<w.heap.size:=by
  obtain⟨tv,xs,hr1,-,-⟩:=h.rk.row
  exact L8 hr1
 clear h hA hW hbo
 go_enter Tryz.func21,Tryz.ntmps21
 go_wp2_with fail
 go_loopw [5,10] (fun v5 v10 wr=>∃(j:Nat)(s':Rs)(O:List (Int×Int))(σ2:Own),j≤k∧v10= .int .i64 (j:Int)∧xM B Y acts s j s' O∧TL X Y B σ2 w0 wr rb s' (j0+j) (K+j+256*iQ acts j)∧wr.ownsRow 0 81 2 v5 O.length (O.flatMap stV)∧(∀b,v5.ownBlock=some b→σ2 b=3∧w.heap.size≤b)∧Ext σ σ2 w.heap.size∧w.heap.size≤wr.heap.size∧af (FD σ w rb) w wr) (fun _ v10 _=>k - aG v10)
 case atStart=>exact⟨0,s,[],σ,by omega,rfl,⟨rfl,rfl⟩,HT0.out,World.ownsRow_nil _ _ _ _,(fun b e=>by cases e),(fun _ _=>rfl),Me,af.refl _ _⟩
 case round=>
  obtain⟨j,s1,O1,σ1,hj,rfl,hRu,hT,hO,hob,hx,hws,hkp⟩:=hrel
  obtain⟨ao,ac,rfl⟩:=bV hO
  by_cases hjl:j<k
  ·have hlt:(j:Int)<(k:Int):=by omega
   have hwf:(acts.getD j ac0).Wf:=HWf.out _ (by
    have hl:=HA0.out.hlen
    rw[show acts.getD j ac0=acts[j]'(by omega) by simp[List.getD,show j<acts.length by omega]]
    exact List.getElem_mem _)
   have hnb: ∀a,bo=some a→¬FD σ w rb a.block:=fun a ha e=>by
    obtain⟨h1,h2,cs,h3⟩:=HBo.out a ha
    rcases e with e | e | ⟨-,cs2,e⟩
    ·unfold FR at e;omega
    ·obtain⟨tv,xs,hr1,-,-⟩:=HT0.out.rk.row
     rw[e,hr1] at h3
     simp at h3
    ·rw[h3] at e
     simp at e
   obtain⟨fa,hfa,c0,c1,c2,c3,c4,c5,c6⟩:=rec7 (HA0.out.kept hkp (fun a ha e=>hnb a ha e)) hjl
   subst hfa
   have hsj:=wB acts (show j+1≤k by omega)
   have hs1:iQ acts (j+1)=iQ acts j+df (acts.getD j ac0):=rfl
   have HS1:=MI hs1
   have HD:=MI (fun w4 (h4:TL X Y B σ1 w0 w4 rb s1 (j0+j) (K+j+256*iQ acts j))=>tl_do2 h4 (by omega) hn16 (acts.getD j ac0) hwf (by omega))
   unfold DoneR at HD
   have HU:Hid (∀s' O2 t r,dY B Y (acts.getD j ac0) s1 s' t O2 r→xM B Y acts s (j+1) s' (O1++O2)):=fun s' O2 t r h=>⟨s1,O1,t,O2,r,hRu,h,rfl⟩
   have HL:=MI (Ja _ _ _ hRu)
   clear hRu hwf hs1 hsj
   generalize acts.getD j ac0=x at*
   obtain⟨xk,xv,xnm,xn,xm,xp,xx⟩:=x
   simp only at c0 c1 c2 c3 c4 c5 c6 HD
   have hb5:=ae wr (.cells #[.int .i64 xk,.int .i64 xv,.string xnm,.int .i64 xn,.int .i64 xm,.int .i64 xp,.int .i64 xx] 40)
   have hT5:=MI (hT.ah hb5)
   have hO5:=MI (dF hO hb5)
   obtain⟨b0,b1,b2,b3,b4,b5,b6⟩:=aQ (L9 wr (.cells #[.int .i64 xk,.int .i64 xv,.string xnm,.int .i64 xn,.int .i64 xm,.int .i64 xp,.int .i64 xx] 40))
   have HB5:=MI hb5
   have HT:=MI hT
   have HOr:=MI (fun b hb=>by obtain⟨cs,hcs⟩:=ag hO (k:=b) hb;exact L8 hcs)
   clear hT hO hb5
   have hf37:=field37
   have hf35:=field35
   have hfd: ∀b,(Value.slice ao O1.length ac).ownBlock=some b→¬FD σ1 (wr.alloc (.cells #[.int .i64 xk,.int .i64 xv,.string xnm,.int .i64 xn,.int .i64 xm,.int .i64 xp,.int .i64 xx] 40)) rb b:=fun b hb e=>by
    obtain⟨cs,hcs⟩:=ag hO5.out hb
    have h3:=(hob b hb).1
    rcases e with e | e | ⟨-,cs2,e⟩
    ·unfold FR at e;omega
    ·obtain⟨tv,xs,hr1,-,-⟩:=hT5.out.rk.row
     subst e
     rw[hr1] at hcs
     simp at hcs
    ·rw[hcs] at e
     simp at e
   go_upto_region 6 with(first
    | (go_at_call 8;refine(HD.out _ hT5.out).mono ?_;rintro e w6 ⟨s',t,O2,r,e0,n0,o1,d1,o2,n2,d2,o3,n3,d3,fr,rd,σ2,rfl,hA,hT6,hO2,hx2,hk6⟩;have hO6:=ay hO5.out hk6 hfd;have hAl:=EM hA;have hLl:=HL.out;obtain⟨v',w7,hrun,hO8,hk8,hp8⟩:=kG (P:=Tryz.prog) w6 31 31 81 2 Tryz.underlying31 JU rfl (by decide) 0 _ O1.length _ hO6 o1 O2.length d1 (O2.flatMap stV) (Ko O2) (fun a ha=>by subst ha;exact hO2.flat xX (by decide)) (fun h=>by obtain⟨a,ha,-⟩:=hO2.cell 0 h;exact⟨a,ha⟩) (J9 O2) (by omega) (by unfold maxLen;omega) (Nat.zero_le _))
    | (at_builtin;refine qG rfl (.tmp 14) (.tmp 19) 31 31 rfl rfl rfl hrun ?_))
   have hs6:=hk6.size
   have hs7:=hk8.size
   have hs5:=HB5.out.size
   have hblk: ∀b,(Value.slice ao O1.length ac).ownBlock=some b→b<wr.heap.size:=fun b hb=>by
    exact HOr.out b hb
   have hσ2: ∀b,(Value.slice ao O1.length ac).ownBlock=some b→σ2 b=3:=fun b hb=>(hx2 b (by have:=hblk b hb;omega)).trans (hob b hb).1
   have hT7:=hT6.app hk8 (fun b hb=>⟨hσ2 b hb,ag hO6 hb⟩)
   have hKe:K+j+256*iQ acts j+1+256*df ⟨xk,xv,xnm,xn,xm,xp,xx⟩=K+(j+1)+256*iQ acts (j+1):=by rw[HS1.out];omega
   rw[hKe] at hT7
   have hO9:w7.ownsRow 0 81 2 v' (O1++O2).length ((O1++O2).flatMap stV):=by rw[List.length_append,List.flatMap_append];exact hO8
   have hob9: ∀b,v'.ownBlock=some b→aA σ2 w6.heap.size w7.heap.size 3 b=3∧w.heap.size≤b:=fun b hb=>by
    rcases hp8 b hb with h | h
    ·exact⟨by rw[dP σ2 3 (by have:=hblk b h;omega)];exact hσ2 b h,(hob b h).2⟩
    ·obtain⟨cs,hcs⟩:=ag hO9 hb
     exact⟨aT σ2 3 h (L8 hcs),by omega⟩
   have hx9:Ext σ (aA σ2 w6.heap.size w7.heap.size 3) w.heap.size:=fun i hi=>(dP σ2 3 (by omega)).trans ((hx2 i (by omega)).trans (hx i hi))
   have hkp9:af (FD σ w rb) w w7:=((hkp.andThen (af.au (S:=fun _=>False) HB5.out Me) (fun i hi e=>e.elim)).andThen hk6 (fun i hi e=>by
    by_cases hfd0:FD σ w rb i
    ·exact hfd0
    ·rcases e with e | e | ⟨e,cs,hcs⟩
     ·unfold FR at e
      rw[hx i hi] at e
      exact .inl e
     ·exact .inr (.inl e)
     ·rw[hx i hi] at e
      refine .inr (.inr ⟨e,cs,?_⟩)
      rw[←hkp.block i hi hfd0,←HB5.out.block i (by omega)]
      exact hcs)).andThen hk8 (fun i hi e=>by have:=(hob i e).2;omega)
   have hRu9:=HU.out s' O2 _ r hA
   clear hfd
   go_wp2_with fail
   exact⟨⟨j+1,s',O1++O2,_,by omega,by go_num,hRu9,hT7,hO9,hob9,hx9,by omega,hkp9⟩,by simp[aG];omega⟩
  ·obtain rfl:j=k:=by omega
   have hnl:¬(j:Int)<(j:Int):=by omega
   have HE:Hid (∀v,v= .slice ao O1.length ac→RunP X Y B σ w0 w rb s acts j j0 K (.returned v) wr):=fun v hv=>⟨s1,O1,v,σ1,rfl,hRu,hT,by rw[hv];exact hO,by rw[hv];exact hob,hx⟩
   clear hO hob hT hRu hkp hx
   go_wp2_with fail
   go_ret
   exact HE.out _ rfl
def BA:Bk:=⟨IMG,55,[mA]⟩
theorem bA:iK IMG=BA:=by kernel_rfl
def FRA:List Int:=[64,0,28,6,1,128,99,74,243,124,210,112,130,131,37,0,21,128,63,0,0,0,0,0,0,0,0,0,0,0,0,0,0,0,0,0,0,0,0,0,0,0,0,0,0,0,0,0,0,0,0,0,0,0,0]
def cA0:Cch.Ca:=Cch.uy IMG 1 0
def RA:Cch.PR:=Cch.fV 55 cA0 96 55 []
theorem RA_e:RA.e=0:=by kernel_rfl
theorem RA_b:RA.b=FRA:=by kernel_rfl
theorem frA_e:(frX 55 FRA).e=0:=by kernel_rfl
theorem frA_r:fC (frX 55 FRA).z (frX 55 FRA).t=true:=by kernel_rfl
theorem sumA:fH FRA=(aZ IMG 84 4:Nat):=by
 unfold FRA
 rw[cfAll]
 kernel_rfl
def PA:List Int:=dN (frX 55 FRA).z (frX 55 FRA).t
theorem oneA:iU (oH [jq (iU (lN (nI (PA.take 16)) none (PA.drop 16) 0)) 256 256])=50:=by kernel_rfl
def PL:List Int:=oN (List.replicate 20 0) (wrap64 (0+1))
theorem oneL:iU (oH [jq (iU (lN (nI (PL.take 16)) none (PL.drop 16) 0)) 256 256])=0:=by kernel_rfl
theorem take_ok{u1:Ku}{b:Kb}{R:Cch.PR}(h:oQ BA cA0 mA 0 0 u0 u1 b R):R=RA∧b.wv=nI (PA.take 16)∧b.g=PA.drop 16∧u1.lost=[]:=by
 obtain⟨err,z,ts,hR,-,-,h0,-,-,-,h1,-⟩:=h
 have hR2:R=RA:=by rw[←hR];rfl
 subst hR2
 have h2:=h0 RA_e (by rw[RA_b,sumA];rfl)
 have hl:RA.b.length=55:=by rw[RA_b];rfl
 rw[hl,RA_b] at h2
 obtain⟨rfl,rfl,rfl⟩:=h2 frA_e frA_r
 obtain⟨-,-,h3,h4,h5⟩:=h1 rfl
 exact⟨rfl,h4,h5,h3⟩
theorem take_no{c:Cch.Ca}(hc:(Cch.fV 55 c 96 55 []).e≠0){u1:Ku}{b:Kb}{R:Cch.PR}(h:oQ BA c mA 0 0 u0 u1 b R):b.wv=nI (PL.take 16)∧b.g=PL.drop 16∧u1.lost.length=1:=by
 obtain⟨err,z,ts,hR,-,he,-,-,-,-,-,h1⟩:=h
 have hR2:R=Cch.fV 55 c 96 55 []:=by rw[←hR];rfl
 obtain⟨-,-,h3,h4,h5⟩:=h1 (he (by rw[hR2];exact hc))
 exact⟨h4,h5,by rw[h3];rfl⟩
theorem blk0{B:Bk}{f f':Fe}{m:Mt}{u u':Ku}(h:mP B f f' m 0 0 u u')(hk:u.kept=[]): ∃u1 b R,oQ B f.c m 0 0 u u1 b R∧u'={u1 with kept:=[b]}∧f'.c=R.c:=by
 rcases h with⟨i,hi,-⟩ | ⟨-,u1,b,R,h1,-,h2,h3,-⟩
 ·rw[hk] at hi
  exact absurd hi (Nat.not_lt_zero _)
 ·exact⟨u1,b,R,h1,by rw[h2,hk];rfl,h3⟩
theorem blk1{B:Bk}{f f':Fe}{m:Mt}{u u':Ku}(h:mP B f f' m 0 0 u u'){b:Kb}(hb:b.n=0)(hk:u.kept=[b]):u'=u∧f'=f:=by
 rcases h with⟨i,hi,-,-,h2,h3⟩ | ⟨h,-⟩
 ·have hi0:i=0:=by rw[hk] at hi;simpa using hi
  subst hi0
  refine⟨?_,h3⟩
  rw[h2]
  obtain⟨p,k,kept,lost,fr⟩:=u
  simp only at hk
  subst hk
  rfl
 ·have h0:=h 0 (by rw[hk];exact Nat.one_pos)
  rw[hk] at h0
  exact absurd hb h0
theorem at0{f f':Fe}{u u':Ku}{r:Int}(h:AtR BA f f' mA 0 0 u u' r)(hk:u.kept=[]): ∃u1 b R,oQ BA f.c mA 0 0 u u1 b R∧u'={u1 with kept:=[b]}∧f'.c=R.c∧r=iU (lN b.wv none b.g 0):=by
 obtain⟨u2,f2,h1,h2,-,-,hr⟩:=h
 have e:jQ 0 (bu mA.len)=(0,0):=by kernel_rfl
 rw[e] at h1 h2 hr
 obtain⟨u1,b,R,ht,rfl,hc⟩:=blk0 h1 hk
 have hbn:b.n=0:=by
  obtain⟨err,z,ts,-,-,-,-,-,-,hn,-,-⟩:=ht
  exact hn
 obtain⟨h3,h4⟩:=blk1 h2 hbn rfl
 refine⟨u1,b,R,ht,h3,by rw[h4];exact hc,?_⟩
 rw[hr,if_pos rfl,if_pos rfl]
 rfl
theorem wrap_in{y:Int}(h1: -9223372036854775808≤y)(h2:y≤9223372036854775807):wrap64 y=y:=by
 unfold wrap64
 omega
theorem blend0{y:Int}(h1: -32768≤y)(h2:y≤32767)(x:List Int)(hx:x.getD 1 0=y):rD [0,65536,0,0] x=y:=by
 have e:lu [0,65536,0,0] x 4=65536*y:=by
  show wrap64 (wrap64 (wrap64 (wrap64 (0+wrap64 (0*x.getD 0 0))+wrap64 (65536*x.getD 1 0))+wrap64 (0*x.getD 2 0))+wrap64 (0*x.getD 3 0))=_
  rw[hx,Int.zero_mul,Int.zero_mul,Int.zero_mul]
  rw[wrap_in (y:=65536*y) (by omega) (by omega),wrap_in (y:=0) (by omega) (by omega)]
  simp only[Int.zero_add,Int.add_zero]
  rw[wrap_in (y:=0) (by omega) (by omega)]
  simp only[Int.zero_add,Int.add_zero]
  rw[wrap_in (y:=65536*y) (by omega) (by omega),wrap_in (y:=65536*y) (by omega) (by omega),wrap_in (y:=65536*y) (by omega) (by omega)]
 unfold rD
 rw[e]
 unfold rnd
 rw[if_neg (by decide)]
 have e2:65536*y/2^16+65536*y/2^(16 - 1)%2=y:=by
  show 65536*y/65536+65536*y/32768%2=y
  omega
 rw[e2,wrap_in (by omega) (by omega)]
 unfold iU lq
 split
 ·omega
 ·split<;>omega
theorem val0{f f':Fe}{u u':Ku}{r:Int}(h:ValR BA f f' mA 0 0 u u' r)(hk:u.kept=[]): ∃u1 b R,oQ BA f.c mA 0 0 u u1 b R∧u'={u1 with kept:=[b]}∧f'.c=R.c∧r=iU (lN b.wv none b.g 0):=by
 obtain⟨l,t,x,ha,-,-,⟨-,ht⟩,hr,h0⟩:=h
 have hp:kJ 0=0:=by kernel_rfl
 have hu:iy mA (0/4294967296)=0:=by kernel_rfl
 obtain⟨y,hl,hx⟩:=(h0 hp).1 (by rw[hu];exact Int.le_refl 0)
 rw[hl,hu] at ha
 obtain⟨f1,u1,hA,rfl,rfl⟩:=ha
 obtain⟨u1,b,R,h1,h2,h3,h4⟩:=at0 hA hk
 refine⟨u1,b,R,h1,h2,h3,?_⟩
 rw[hr,ht (by rw[hp];rfl),blend0 (y:=y) (by rw[h4];exact(Ea _).1) (by rw[h4];exact(Ea _).2) x hx,h4]
theorem part0{f f':Fe}{id:Nat}{P:Px}{c:Int}{p':Pt}{a b:Int}{lo:List Ls}(h:Lt BA f f' id P (pJ mA sh0 c) p' a b lo): ∃u1 k R,oQ BA f.c mA 0 0 u0 u1 k R∧f'.c=R.c∧a=jq (iU (lN k.wv none k.g 0)) 256 256∧lo.length=u1.lost.length:=by
 obtain⟨l,r,v',us',hN,ha,-,hlo,-⟩:=h
 rcases hN with⟨hd,-⟩ | ⟨-,hv,f1,a1,hV,⟨-,-,rfl,hus⟩ | ⟨hc,-⟩⟩
 ·cases hd
 ·obtain⟨u1,k,R,h1,h2,h3,h4⟩:=val0 hV rfl
  refine⟨u1,k,R,h1,h3,?_,?_⟩
  ·rw[ha,h4]
   rfl
  ·rw[hlo,hv,hus,h2]
   show(([]:List Ls)++u1.lost.map _).length=_
   simp
 ·cases hc
theorem ren1{f f':Fe}{P:Px}{c cnt:Int}{y':Ye}{r':Rp}{O:List (Int×Int)}(h:A8 BA 1 f ⟨[some (P,pJ mA sh0 c)],cnt⟩ 1 f' y' r' O): ∃u1 k R m,oQ BA f.c mA 0 0 u0 u1 k R∧f'.c=R.c∧O=[(iU (oH [jq (iU (lN k.wv none k.g 0)) 256 256]),m)]∧r'.lost.length=u1.lost.length:=by
 obtain⟨f1,y1,r1,O1,l,m,⟨rfl,rfl,rfl,rfl⟩,⟨L,M,hO,hl,-⟩,rfl⟩:=h
 obtain⟨f2,y2,r2,L2,M2,⟨rfl,rfl,rfl,rfl,rfl⟩,⟨hn,-⟩ | ⟨Q,q,p',a,b,lo,hq,hp,-,rfl,rfl,-⟩⟩:=hO
 ·cases hn
 ·cases hq
  obtain⟨u1,k,R,h1,h2,rfl,h4⟩:=part0 hp
  refine⟨u1,k,R,m,h1,h2,?_,?_⟩
  ·rw[hl];rfl
  ·show(([]:List Ls)++lo).length=_
   simpa using h4
theorem IM{Y:Yx}{v n m p x:Int}{nm:ByteArray}{s s':Rs}{t:Tl}{O:List (Int×Int)}{r:Rp}(hn:fM [mA] nm=true)(hf:gm [mA] nm=0)(hY:Y.n=1)(hl:s.y.ps.length=1)(hsh:s.sh=sh0)(h:dY BA Y ⟨1,v,nm,n,m,p,x⟩ s s' t O r):O=[]∧∃P c cnt,s'=⟨s.f,⟨[some (P,pJ mA sh0 c)],cnt⟩,sh0⟩:=by
 unfold dY at h
 dsimp only at h
 rw[if_neg (by decide)] at h
 obtain⟨rfl,h⟩:=h
 rw[if_pos (show(1:Int)=1 from rfl)] at h
 refine⟨rfl,?_⟩
 rcases h with⟨h1,-⟩ | ⟨-,P,-,rfl,-⟩
 ·have h2:fM [mA] nm=false:=h1
  rw[hn] at h2
  cases h2
 ·have hfi:gm BA.dir nm=0:=hf
  have hro:gI Y s.y=0:=by
   unfold gI
   rw[hY]
   unfold nz
   split
   ·rfl
   ·unfold nz
    split<;>rfl
  obtain⟨sf,⟨ps,cnt⟩,sh⟩:=s
  simp only at hl hsh
  subst hsh
  obtain⟨q,rfl⟩:=List.length_eq_one_iff.1 hl
  refine⟨P,cnt+1,cnt+1,?_⟩
  simp only[hfi,hro]
  rfl
theorem Ec{Y:Yx}{v m p x:Int}{nm:ByteArray}{f:Fe}{P:Px}{c cnt:Int}{s':Rs}{t:Tl}{O:List (Int×Int)}{r:Rp}(hY:Y.n=1)(h:dY BA Y ⟨6,v,nm,1,m,p,x⟩ ⟨f,⟨[some (P,pJ mA sh0 c)],cnt⟩,sh0⟩ s' t O r):(∃u1 k R m,oQ BA f.c mA 0 0 u0 u1 k R∧s'.f.c=R.c∧O=[(iU (oH [jq (iU (lN k.wv none k.g 0)) 256 256]),m)]∧r.lost.length=u1.lost.length)∧s'.sh=sh0∧∃lo lc,t.lv= .slice lo r.lost.length lc:=by
 unfold dY at h
 dsimp only at h
 rw[if_pos (show(6:Int)=6 from rfl)] at h
 rcases h with⟨h,-⟩ | ⟨-,-,h,-,hsh,-,-,-,hlv,-⟩
 ·omega
 ·rw[hY] at h
  exact⟨ren1 h,hsh,hlv⟩
def cN:Nat→Cch.Ca
 | 0=>RA.c
 | i+1=>Cch.evC {cN i with d:=Dskp.flS (cN i).d i (-1),mx:=(cN i).mx+1} i
theorem cN3:(Cch.fV 55 (cN 3) 96 55 []).e=8:=by kernel_rfl
theorem fail1{Y:Yx}{v n m p x:Int}{nm:ByteArray}{s s':Rs}{t:Tl}{O:List (Int×Int)}{r:Rp}(h:dY BA Y ⟨8,v,nm,n,m,p,x⟩ s s' t O r):s'.f.c={s.f.c with d:=Dskp.flS s.f.c.d n m,mx:=s.f.c.mx+1}∧s'.y=s.y∧s'.sh=s.sh:=by
 unfold dY at h
 dsimp only at h
 rw[if_neg (by decide),if_neg (by decide),if_neg (by decide),if_neg (by decide),if_neg (by decide),if_neg (by decide),if_neg (by decide),if_neg (by decide)] at h
 obtain⟨-,rfl,-⟩:=h
 exact⟨rfl,rfl,rfl⟩
theorem evict1{Y:Yx}{v n m p x:Int}{nm:ByteArray}{s s':Rs}{t:Tl}{O:List (Int×Int)}{r:Rp}(h:dY BA Y ⟨7,v,nm,n,m,p,x⟩ s s' t O r):s'.f.c=Cch.evC s.f.c n∧s'.y=s.y∧s'.sh=s.sh:=by
 unfold dY at h
 dsimp only at h
 rw[if_neg (by decide),if_neg (by decide),if_neg (by decide),if_neg (by decide),if_neg (by decide),if_neg (by decide),if_neg (by decide),if_neg (by decide)] at h
 obtain⟨-,rfl,-⟩:=h
 exact⟨rfl,rfl,rfl⟩
theorem stop1{Y:Yx}{v n m p x:Int}{nm:ByteArray}{s s':Rs}{t:Tl}{O:List (Int×Int)}{r:Rp}(h:dY BA Y ⟨2,v,nm,n,m,p,x⟩ s s' t O r):s'.f=s.f∧s'.sh=s.sh:=by
 unfold dY at h
 dsimp only at h
 rw[if_neg (by decide),if_neg (by decide),if_pos (show(2:Int)=2 from rfl)] at h
 obtain⟨-,rfl,-⟩:=h
 exact⟨rfl,rfl⟩
theorem first2{Y:Yx}(hY:Y.n=1){nm:ByteArray}(hn:fM [mA] nm=true)(hf:gm [mA] nm=0){v1 n1 m1 p1 x1 v2 m2 p2 x2:Int}{nm2:ByteArray}{s s':Rs}(hc:s.f.c=cA0)(hl:s.y.ps.length=1)(hsh:s.sh=sh0){O:List (Int×Int)}(h:xM BA Y [⟨1,v1,nm,n1,m1,p1,x1⟩,⟨6,v2,nm2,1,m2,p2,x2⟩] s 2 s' O):s'.f.c=cN 0∧s'.sh=sh0∧∃m,O=[(50,m)]:=by
 obtain⟨s1,O1,t2,O2,r2,⟨s0,O0,t1,O1',r1,⟨rfl,rfl⟩,h1,rfl⟩,h2,rfl⟩:=h
 obtain⟨rfl,P,c,cnt,rfl⟩:=IM hn hf hY hl hsh h1
 obtain⟨⟨u1,k,R,m,ht,h3,rfl,-⟩,h4,-⟩:=Ec hY h2
 rw[hc] at ht
 obtain⟨rfl,h5,h6,-⟩:=take_ok ht
 refine⟨h3,h4,m,?_⟩
 rw[h5,h6,oneA]
 rfl
theorem second1{Y:Yx}(hY:Y.n=1){nm:ByteArray}(hn:fM [mA] nm=true)(hf:gm [mA] nm=0){v1 n1 m1 p1 x1 v2 m2 p2 x2:Int}{nm2:ByteArray}{s s1 s2:Rs}(hc:s.f.c=cN 3)(hl:s.y.ps.length=1)(hsh:s.sh=sh0){t1 t2:Tl}{O1 O2:List (Int×Int)}{r1 r2:Rp}(h1:dY BA Y ⟨1,v1,nm,n1,m1,p1,x1⟩ s s1 t1 O1 r1)(h2:dY BA Y ⟨6,v2,nm2,1,m2,p2,x2⟩ s1 s2 t2 O2 r2):(∃lo lc,t2.lv= .slice lo 1 lc)∧∃m,O2=[(0,m)]:=by
 obtain⟨rfl,P,c,cnt,rfl⟩:=IM hn hf hY hl hsh h1
 obtain⟨⟨u1,k,R,m,ht,h3,rfl,h7⟩,-,lo,lc,h8⟩:=Ec hY h2
 rw[hc] at ht
 obtain⟨h5,h6,h9⟩:=take_no (by rw[cN3];decide) ht
 refine⟨⟨lo,lc,by rw[h8,h7,h9]⟩,m,?_⟩
 rw[h5,h6,oneL]
theorem nmA1:fM [mA] (strOfNums [97])=true:=by kernel_rfl
theorem nmA2:gm [mA] (strOfNums [97])=0:=by kernel_rfl
theorem uq{w:World}{B e n i:Nat}{v:Value}{xs:List Value}(h:w.ownsRow B e 1 v n xs)(hi:i<n): ∃g cap,v= .slice (some ⟨g,0,none⟩) n cap∧w.cell? ⟨g,i,none⟩=xs[i]? :=by
 rcases h.2 with⟨-,h0⟩ | ⟨g,cap,cur,hv,-,hg,hnc,-,hsz,htk⟩
 ·omega
 ·refine⟨g,cap,hv,?_⟩
  rw[LZ hg,←htk,Nat.mul_one,List.getElem?_take,if_pos hi]
  simp
theorem zA(Y:Yx)(y:Ye){n i:Nat}(hi:i<n):(vN Y y n)[i]? =some (.int .i64 (plV Y y i)):=by
 unfold vN
 rw[List.getElem?_map,List.getElem?_range hi]
 rfl
theorem wP{w:World}{B e n i g cap:Nat}{xs:List Value}(h:w.ownsRow B e 1 (.slice (some ⟨g,0,none⟩) n cap) n xs)(hi:i<n):w.cell? ⟨g,i,none⟩=xs[i]? :=by
 obtain⟨g2,cap2,hv,hc⟩:=uq h hi
 cases hv
 exact hc
def A7(w:World)(e:Ending)(w':World):Prop:=e= .returned (.bool true)∧Below w.heap.size w w'
theorem yV(HAw0: ∀w,Calls Tryz.prog 7 #[] w (A7 w))(ao:Option Addr)(n cap:Nat)(bs:List Int)(hcap:n≤cap)(V S R:Int)(bo:Option Addr)(k kc:Nat)(acts:List Ac)(w:World)(hI:Ints .u8 w ao n bs)(hA:bH acV 7 ac0 w bo k acts)(hW: ∀a ∈ acts,a.Wf):Calls Tryz.prog 4 #[.slice ao n cap,.agg #[.int .i64 V,.int .i64 S,.int .i64 R],.slice bo k kc] w (A7 w):=by
 have HAw:=MI HAw0
 unfold A7 at HAw
 obtain⟨N,hN⟩: ∃N,N=min n 5000:=⟨_,rfl⟩
 have hIN:=hI.take (show N≤n by omega)
 have hNn:N≤n:=by omega
 have hN5:N≤5000:=by omega
 have HP:=MI (fun W (hB:Below w.heap.size w W)=>wJ ao N cap (bs.take N) (by omega) (by omega) W (hIN.ah hB))
 have HS:=MI (fun W (hB:Below w.heap.size w W)=>JF bo k kc acts W (hA.ah hB))
 have HR:=MI (fun W (hB:Below w.heap.size w W)=>wH ao N cap (bs.take N) (by omega) (by omega) V S R W (hIN.ah hB))
 have hnil:ao=none→n=0:=fun e=>by subst e;exact hI.pO rfl
 have HAc:=MI hA
 have HWf:=MI hW
 have HN:=MI hN
 have hb1:=ae w (.cells #[.int .i64 V,.int .i64 S,.int .i64 R] 24)
 obtain⟨b0,b1,b2⟩:=dB (L9 w (.cells #[.int .i64 V,.int .i64 S,.int .i64 R] 24))
 have HB:=MI hb1
 generalize bs.take N=bN at*
 clear hI hA hW hIN hb1 HAw0
 go_enter Tryz.func4,Tryz.ntmps4
 go_upto_if 18 with fail
 generalize w.alloc (.cells #[.int .i64 V,.int .i64 S,.int .i64 R] 24)=W at*
 go_cut [0] (fun v0 wx=>v0= .slice ao N cap∧W=wx)
 case first=>
  by_cases h5:5000<n
  ·have e5:N=5000:=by omega
   have h5i:(5000:Int)<(n:Int):=by omega
   have h5j:(5000:Int)≤(cap:Int):=by omega
   subst e5
   clear hN
   clear HP HS HR HB
   cases ao with
   | none=>exact absurd (hnil rfl) (by omega)
   | some ad=>
    go_wp2_with fail
    go_meet
    exact⟨rfl,rfl⟩
  ·have e5:N=n:=by omega
   have h5i:¬(5000:Int)<(n:Int):=by omega
   subst e5
   clear hN
   go_wp2_with fail
   go_meet
   exact⟨rfl,rfl⟩
 case rest=>
  obtain⟨rfl,rfl⟩:=hcut
  clear hN hNn hnil
  by_cases he:kz bN V S R=0
  ·have hp0:dO bN=0:=by
    apply Classical.byContradiction
    intro h
    unfold kz at he
    rw[if_pos h] at he
    exact h he
   by_cases hs:1000<iQ acts (min k 60)
   ·have hR:Hid (Calls Tryz.prog 16 #[.slice ao N cap,.agg #[.int .i64 V,.int .i64 S,.int .i64 R]] W (fun e w'=>∃rb,e= .returned (.tuple #[.pointer (some ⟨rb,0,none⟩),()])∧Below w.heap.size w w')):=(HR.out W HB.out).mono fun e w' h=>by
     obtain⟨h1,h2 | ⟨-,X,Y,σ,rb,h2,-⟩⟩:=h
     ·exact absurd he h2.1
     ·exact⟨rb,h2,bW HB.out h1⟩
    have hP:Hid (∀W,Below w.heap.size w W→Calls Tryz.prog 17 #[.slice ao N cap] W (fun e w'=>∃b,e= .returned (.tuple #[.pointer (some ⟨b,0,none⟩),()])∧Below w.heap.size w w')):=fun W hb=>(HP.out W hb).mono fun e w' h=>by
     obtain⟨h1,h2 | ⟨-,D,h2,-⟩⟩:=h
     ·exact absurd hp0 h2.1
     ·exact⟨D.bb,h2,bW hb h1⟩
    have hs2:(1000:Int)<((iQ acts (min k 60):Nat):Int):=by omega
    clear he hp0 HP HR
    generalize iQ acts (min k 60)=sm at*
    go_wp2_with (first
     | (go_at_call 16;refine hR.out.mono ?_;rintro e w2 ⟨rb,rfl,hb2⟩)
     | (go_at_call 6;refine(HS.out _ hb2).mono ?_;rintro e w3 ⟨rfl,hb3⟩;have hb3':=bW hb2 hb3)
     | (go_at_call 17;refine(hP.out _ hb3').mono ?_;rintro e w4 ⟨b,rfl,hb4⟩)
     | (go_at_call 7;refine(HAw.out _).mono ?_;rintro e w5 ⟨rfl,hb5⟩))
    go_ret
    exact⟨rfl,bW hb4 hb5⟩
   ·obtain⟨M,hM⟩: ∃M,M=min k 60:=⟨_,rfl⟩
    have hV:1≤V∧V≤16:=by
     unfold kz at he
     rw[if_neg (by omega)] at he
     split at he
     ·cases he
     ·split at he
      ·cases he
      ·omega
    have hR:Hid (Calls Tryz.prog 16 #[.slice ao N cap,.agg #[.int .i64 V,.int .i64 S,.int .i64 R]] W (fun e w2=>∃X Y σ rb s,e= .returned (.tuple #[.pointer (some ⟨rb,0,none⟩),()])∧Y.n≤16∧TL X Y (iK bN) σ w w2 rb s 0 0)):=(HR.out W HB.out).mono fun e w' h=>by
     obtain⟨h1,h2 | ⟨-,X,Y,σ,rb,h2,hYn,-,hF,hYs,hRk,hold⟩⟩:=h
     ·exact absurd he h2.1
     ·have hbs:=HB.out.size
      exact⟨X,Y,σ,rb,⟨⟨Cch.uy bN X.n R,0,0⟩,yl Y.n,sh0⟩,h2,by omega,⟨hF,⟨Int.le_refl _,Int.le_refl _,Int.le_refl _,Int.le_refl _⟩,hYs,nC hRk,Int.le_refl _,fun k hk=>hold k (by omega),bW HB.out h1⟩⟩
    rw[←hM] at hs HS
    have HM:=MI hM
    have hsM:Hid (iQ acts M≤1000):=by show _≤_;omega
    have hs2:¬(1000:Int)<((iQ acts M:Nat):Int):=by omega
    have hM60:M≤60:=by omega
    clear he hp0 HP HR hM hV hs
    go_wp2_with (first
     | (go_at_call 16;refine hR.out.mono ?_;rintro e w2 ⟨X,Y,σ0,rb,s0,rfl,hY16,hT0⟩)
     | (go_at_call 6;refine(HS.out _ hT0.low).mono ?_;rintro e w3 ⟨rfl,hb3⟩))
    go_loopw [11] (fun v11 wr=>∃(j:Nat)(σ:Own)(s:Rs),j≤M∧v11= .int .i64 (j:Int)∧TL X Y (iK bN) σ w wr rb s j (j+256*iQ acts j)) (fun v11 _=>M - aG v11)
    case atStart=>exact⟨0,σ0,s0,by omega,rfl,hT0.ah hb3⟩
    case round=>
     clear hT0 hb3 hR HS
     obtain⟨j,σ,s,hj,rfl,hT⟩:=hrel
     by_cases hjl:j<M
     ·have g1:j<k:=by have:=HM.out;omega
      have g2:j<60:=by omega
      have hwf:(acts.getD j ac0).Wf:=HWf.out _ (by
       have hl:=HAc.out.hlen
       rw[show acts.getD j ac0=acts[j]'(by omega) by simp[List.getD,show j<acts.length by omega]]
       exact List.getElem_mem _)
      have hs1:iQ acts (j+1)=iQ acts j+df (acts.getD j ac0):=rfl
      have hsj:=wB acts (show j≤M by omega)
      have hsM2:=hsM.out
      obtain⟨fa,hfa,-⟩:=rec7 (HAc.out.ah hT.low) g1
      subst hfa
      have HC:Hid (∀W,Below w.heap.size w W→W.cell? (fa.add (j*7))=some (.int .i64 (acts.getD j ac0).k)∧W.cell? ⟨(fa.add (j*7)).block,(fa.add (j*7)).off+1,none⟩=some (.int .i64 (acts.getD j ac0).v)∧W.cell? ⟨(fa.add (j*7)).block,(fa.add (j*7)).off+2,none⟩=some (.string (acts.getD j ac0).nm)∧W.cell? ⟨(fa.add (j*7)).block,(fa.add (j*7)).off+3,none⟩=some (.int .i64 (acts.getD j ac0).n)∧W.cell? ⟨(fa.add (j*7)).block,(fa.add (j*7)).off+4,none⟩=some (.int .i64 (acts.getD j ac0).m)∧W.cell? ⟨(fa.add (j*7)).block,(fa.add (j*7)).off+5,none⟩=some (.int .i64 (acts.getD j ac0).p)∧W.cell? ⟨(fa.add (j*7)).block,(fa.add (j*7)).off+6,none⟩=some (.int .i64 (acts.getD j ac0).x)):=fun W hb=>by
       obtain⟨fb,hfb,h⟩:=rec7 (HAc.out.ah hb) g1
       cases hfb
       exact h
      have HD:=MI (fun σ1 w4 (h4:TL X Y (iK bN) σ1 w w4 rb s j (j+256*iQ acts j))=>tl_do h4 (by omega) hY16 (acts.getD j ac0) hwf (by omega))
      unfold DoneP at HD
      have HP1:=MI (places_any X Y (iK bN) _ σ rb s hY16 wr hT.ys hT.rk.cells)
      unfold PlsP at HP1
      have HT:=MI hT
      have HU:Hid (∀σ2 w5 s',TL X Y (iK bN) σ2 w w5 rb s' (j+1) (j+256*iQ acts j+1+256*df (acts.getD j ac0))→TL X Y (iK bN) σ2 w w5 rb s' (j+1) (j+1+256*iQ acts (j+1))):=fun σ2 w5 s' h=>by
       rw[hs1]
       rw[show j+256*iQ acts j+1+256*df (acts.getD j ac0)=j+1+256*(iQ acts j+df (acts.getD j ac0)) by omega] at h
       exact h
      clear hwf hs1 hsj hsM2 hT
      generalize acts.getD j ac0=x at*
      generalize iQ acts j=S0 at*
      generalize hS1:iQ acts (j+1)=S1 at*
      have HS1:=MI hS1
      clear hS1
      obtain⟨xk,xv,xnm,xn,xm,xp,xx⟩:=x
      simp only at HC HD
      go_upto_region 12 with(first
       | (go_at_call 18;refine HP1.out.mono ?_;rintro e w4 ⟨ao4,cp4,rfl,hO4,hb4⟩;have hT4:=MI (HT.out.fresh hb4);obtain⟨c0,c1,c2,c3,c4,c5,c6⟩:=HC.out _ hT4.out.low)
       | (go_at_call 8;refine(HD.out _ w4 hT4.out).mono ?_;rintro e w5 ⟨s',e0,n0,o1,n1,c1,o2,n2,c2,o3,n3,c3,fr,rd,σ2,rfl,hT5,p2,p3,p4,hk5⟩))
      have hb6:=ae w5 (.cells #[.int .i64 e0,.int .i64 n0,.slice o1 n1 c1,.slice o2 n2 c2,.slice o3 n3 c3,.int .i64 fr,.int .i64 rd] 37)
      have hrow6:=L9 w5 (.cells #[.int .i64 e0,.int .i64 n0,.slice o1 n1 c1,.slice o2 n2 c2,.slice o3 n3 c3,.int .i64 fr,.int .i64 rd] 37)
      have hT6:=MI ((HU.out _ _ _ hT5).ah hb6)
      have hO6:(w5.alloc (.cells #[.int .i64 e0,.int .i64 n0,.slice o1 n1 c1,.slice o2 n2 c2,.slice o3 n3 c3,.int .i64 fr,.int .i64 rd] 37)).ownsRow wr.heap.size 2 1 (.slice ao4 Y.n cp4) Y.n (vN Y s.y Y.n):=dF (ay hO4 hk5 (fun k hk e=>by
       obtain⟨cs,hcs⟩:=ag hO4 hk
       have h1:=mr hO4 hk
       have h2:=L8 hcs
       have h3:=aT σ (a:=wr.heap.size) (b:=w4.heap.size) 3 h1 h2
       rcases e with e | e | ⟨-,cs2,hcs2⟩
       ·unfold FR at e;omega
       ·obtain⟨tv,xs,hr1,-,-⟩:=HT.out.rk.row
        have:=L8 hr1
        omega
       ·rw[hcs] at hcs2
        simp at hcs2)) hb6
      have hn1:Hid (e0≠0→s'.y=s.y∧n1=0):=p4
      have hp2:¬e0<0:=by omega
      have hp3:¬17<e0:=by omega
      have hpos:=HT.out.ys.n1
      clear hb6 hT5 hk5 p2 p3 p4 hO4 hb4 hT4 HD HP1 HU HC c0 c4 c5 c6
      generalize w5.alloc (.cells #[.int .i64 e0,.int .i64 n0,.slice o1 n1 c1,.slice o2 n2 c2,.slice o3 n3 c3,.int .i64 fr,.int .i64 rd] 37)=W6 at*
      generalize w5.heap.size=B6 at*
      have HP2:=MI (places_any X Y (iK bN) _ σ2 rb s' hY16 W6 hT6.out.ys hT6.out.rk.cells)
      unfold PlsP at HP2
      have HO6:=MI hO6
      have HR6:=MI hrow6
      clear hO6 hrow6
      have hnn:((Y.n:Int) !=(Y.n:Int))=false:=by simp
      obtain⟨q0,q1,q2,q3,q4,q5,q6⟩:=aQ HR6.out
      clear q1 q3 q4 q5 q6
      by_cases h0:e0=0
      ·subst h0
       have hyn:(0:Int)<(Y.n:Int):=by omega
       go_wp2_with (first
        | (go_at_call 18;refine HP2.out.mono ?_;rintro e w7 ⟨ao7,cp7,rfl,hO7,hb7⟩))
       go_loopw [15] (fun v15 wx=>v15= .int .i64 0∧wx=w7) (fun _ _=>0)
       case atStart=>exact⟨rfl,rfl⟩
       case round=>
        obtain⟨rfl,rfl⟩:=hrel
        have hT7:=hT6.out.ah hb7
        obtain⟨d0,-,d2,-,-,-,-⟩:=aQ (bT HR6.out hb7 (L8 HR6.out))
        go_wp2_with fail
        exact⟨⟨j+1,σ2,s',by omega,by go_num,by rw[HS1.out];exact hT7⟩,by simp[aG];omega⟩
      ·obtain⟨hy2,hn10⟩:=hn1.out h0
       subst hn10
       have hne:(e0 !=0)=true:=by simp[h0]
       have HY2:=MI hy2
       obtain⟨g4,cq4,hv4,-⟩:=uq HO6.out (show 0<Y.n by omega)
       cases hv4
       clear hy2
       go_wp2_with (first
        | (go_at_call 18;refine HP2.out.mono ?_;rintro e w7 ⟨ao7,cp7,rfl,hO7,hb7⟩))
       obtain⟨g7,cq7,hv7,-⟩:=uq hO7 (show 0<Y.n by omega)
       cases hv7
       have HO7:=MI hO7
       clear hO7
       go_loopw [15] (fun v15 wx=>∃i m:Nat,i≤Y.n∧v15= .int .i64 (i:Int)∧wx=w7.drewN m) (fun v15 _=>Y.n - aG v15)
       case atStart=>exact⟨0,0,by omega,rfl,rfl⟩
       case round=>
        obtain⟨i,m,hi,rfl,rfl⟩:=hrel
        obtain⟨d0,-,d2,-,-,-,-⟩:=aQ (bT HR6.out (below_drewN hb7 m) (L8 HR6.out))
        by_cases hil:i<Y.n
        ·have hlt:(i:Int)<(Y.n:Int):=by omega
         have hx7: ∀m',(w7.drewN m').cell? ⟨g7,i,none⟩=some (.int .i64 (plV Y s.y i)):=fun m'=>by
          have h1:=wP (dF HO7.out (below_drewN MB m')) hil
          rw[HY2.out,zA Y s.y hil] at h1
          exact h1
         have hx4: ∀m',(w7.drewN m').cell? ⟨g4,i,none⟩=some (.int .i64 (plV Y s.y i)):=fun m'=>by
          have h1:=wP (dF HO6.out (below_drewN hb7 m')) hil
          rw[zA Y s.y hil] at h1
          exact h1
         generalize plV Y s.y i=z at*
         have x70:=hx7 0
         have x7m:=hx7 m
         have x7n:=hx7 (m+1)
         have x40:=hx4 0
         have x4m:=hx4 m
         have x4n:=hx4 (m+1)
         have y70:w7.cell? ⟨g7,i,none⟩=some (.int .i64 z):=x70
         have y40:w7.cell? ⟨g4,i,none⟩=some (.int .i64 z):=x40
         have hzz:(z !=z)=false:=by simp
         clear hx7 hx4 x70 x40
         go_upto_region 18 with fail
         go_quiet (fail)
         go_wp2_with fail
         exact⟨⟨i+1,_,by omega,by go_num,rfl⟩,by simp[aG];omega⟩
        ·obtain rfl:i=Y.n:=by omega
         have hnl:¬(Y.n:Int)<(Y.n:Int):=by omega
         have hT7:=hT6.out.ah (below_drewN hb7 m)
         go_wp2_with fail
         exact⟨⟨j+1,σ2,s',by omega,by go_num,by rw[HS1.out];exact hT7⟩,by simp[aG];omega⟩
     ·obtain rfl:j=M:=by omega
      have hdone:(¬j<k)∨(j<k∧¬j<60):=by
       have:=HM.out
       omega
      rcases hdone with g1 | ⟨g1,g2⟩
      ·go_wp2_with (go_at_call 7;refine(HAw.out _).mono ?_;rintro e w5 ⟨rfl,hb5⟩)
       go_ret
       exact⟨rfl,bW hT.low hb5⟩
      ·go_wp2_with (go_at_call 7;refine(HAw.out _).mono ?_;rintro e w5 ⟨rfl,hb5⟩)
       go_ret
       exact⟨rfl,bW hT.low hb5⟩
  ·have hR:Hid (Calls Tryz.prog 16 #[.slice ao N cap,.agg #[.int .i64 V,.int .i64 S,.int .i64 R]] W (fun e w'=>e= .returned (.tuple #[.pointer none,.int .i64 (kz bN V S R)])∧Below w.heap.size w w')):=(HR.out W HB.out).mono fun e w' h=>by
    obtain⟨h1,h2 | h2⟩:=h
    ·exact⟨h2.2,bW HB.out h1⟩
    ·exact absurd h2.1 he
   have he2:(kz bN V S R !=0)=true:=by simpa using he
   have he3:(kz bN V S R==0)=false:=by simpa using he
   by_cases hp0:dO bN=0
   ·have hP:Hid (∀W,Below w.heap.size w W→Calls Tryz.prog 17 #[.slice ao N cap] W (fun e w'=>∃b,e= .returned (.tuple #[.pointer (some ⟨b,0,none⟩),()])∧Below w.heap.size w w')):=fun W hb=>(HP.out W hb).mono fun e w' h=>by
     obtain⟨h1,h2 | ⟨-,D,h2,-⟩⟩:=h
     ·exact absurd hp0 h2.1
     ·exact⟨D.bb,h2,bW hb h1⟩
    clear hp0 HP HR HS
    generalize kz bN V S R=er at*
    go_wp2_with (first
     | (go_at_call 16;refine hR.out.mono ?_;rintro e w2 ⟨rfl,hb2⟩)
     | (go_at_call 17;refine(hP.out _ hb2).mono ?_;rintro e w4 ⟨b,rfl,hb4⟩)
     | (go_at_call 7;refine(HAw.out _).mono ?_;rintro e w5 ⟨rfl,hb5⟩))
    go_ret
    exact⟨rfl,bW hb4 hb5⟩
   ·have hEq:kz bN V S R=dO bN:=by unfold kz;rw[if_pos hp0]
    have hP:Hid (∀W,Below w.heap.size w W→Calls Tryz.prog 17 #[.slice ao N cap] W (fun e w'=>e= .returned (.tuple #[.pointer none,.int .i64 (kz bN V S R)])∧Below w.heap.size w w')):=fun W hb=>(HP.out W hb).mono fun e w' h=>by
     obtain⟨h1,h2 | h2⟩:=h
     ·exact⟨by rw[hEq];exact h2.2,bW hb h1⟩
     ·exact absurd h2.1 hp0
    clear hp0 HP HR HS hEq
    generalize kz bN V S R=er at*
    have he4:(er==er)=true:=by simp
    go_wp2_with (first
     | (go_at_call 16;refine hR.out.mono ?_;rintro e w2 ⟨rfl,hb2⟩)
     | (go_at_call 17;refine(hP.out _ hb2).mono ?_;rintro e w4 ⟨rfl,hb4⟩)
     | (go_at_call 7;refine(HAw.out _).mono ?_;rintro e w5 ⟨rfl,hb5⟩))
    go_ret
    exact⟨rfl,bW hb4 hb5⟩
end Go.Proofs.YtnicjahcgnhogaaGreatDoor
