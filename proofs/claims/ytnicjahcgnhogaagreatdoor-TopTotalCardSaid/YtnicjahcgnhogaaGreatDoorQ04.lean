/- Part 5 of the walk: contracts of the program's functions, each for every input. No condition. -/
import Derived.Test.YtnicjahcgnhogaaGreatDoorQ03
import Derived.Deep.AppendLies
set_option linter.unusedVariables false
set_option linter.unusedSimpArgs false
set_option maxRecDepth 100000
set_option maxHeartbeats 8000000
namespace Go.Proofs.YtnicjahcgnhogaaGreatDoor
open Go Go.RowKit Go.Calli
attribute [local irreducible] wpStill wpAnyH wpAnyS wpList Code.wp
theorem results_cell_tmp{P:Program}{fn:Func}{p q:Tmp}{ty:TypeId}(h:fn.results=#[.cell p ty,.tmp q])(tmps:Array Value)(w:World)(g:Nat)(t:TypeId)(cs:Array Value)(fr:Nat×Nat)(d:TypeDesc)
  (hp:tmps.getD p undef= .pointer (some ⟨g,0,none⟩)) (hg:w.heap[g]? =some (.cells cs t fr))
  (hu:P.underlying ty=some d) (hd:(match d with | .struct _ | .array _ _=>true | _=>false)=true) (hi:(P.info? ty).map (·.size)=some cs.size):
  (results fn tmps).run P w= .ok (.tuple #[.agg cs,tmps.getD q undef]) w:=by
 have hp':tmps[p]?.getD undef= .pointer (some ⟨g,0,none⟩):=by simpa using hp
 simp[results,h,hp',asAddr,run_loadVar_row w g t ty cs fr d hg hu hd hi]
structure Fzz(w0:World)(b2 rb fb:Nat)(bo:Option Addr)(n cap:Nat)(bs:List Int)(w:World)(r:Rd)(z:List Int)(tv:Value):Prop where
 rd:jW w rb bo n cap bs r
 fr:fA w fb z tv
 out:w.heap[b2]? =some (.cells (frC (zz [] [] [] []) (.slice none 0 0)) 196 (0,0))
 low:Below w0.heap.size w0 w
 h2:b2=w0.heap.size
 h2r:b2<rb
 hrf:rb<fb
 hbo: ∀a,bo=some a→a.block<w0.heap.size
theorem Fzz.read{w0 w:World}{b2 rb fb:Nat}{bo:Option Addr}{n cap:Nat}{bs:List Int}{r:Rd}{z:List Int}{tv:Value}(h:Fzz w0 b2 rb fb bo n cap bs w r z tv){w':World}{r':Rd}(hr:jW w' rb bo n cap bs r')(hk:af (fun k=>k=rb) w w'):Fzz w0 b2 rb fb bo n cap bs w' r' z tv:=
 ⟨hr,h.fr.kept hk (by have:=h.hrf;omega),hk.heap h.out (by have:=h.h2r;omega),h.low.trans (hk.bg h.low.size (fun k hk e=>by have:=h.h2r;have:=h.h2;omega)),h.h2,h.h2r,h.hrf,h.hbo⟩
theorem Fzz.write{w0 w:World}{b2 rb fb:Nat}{bo:Option Addr}{n cap:Nat}{bs:List Int}{r:Rd}{z:List Int}{tv:Value}(h:Fzz w0 b2 rb fb bo n cap bs w r z tv){w':World}{z':List Int}{tv':Value}(hf:fA w' fb z' tv')(hk:af (fun k=>k=fb) w w'):Fzz w0 b2 rb fb bo n cap bs w' r z' tv':=
 ⟨h.rd.other hk (by have:=h.hrf;omega) (fun a ha e=>by have:=h.hbo a ha;have:=h.h2r;have:=h.hrf;have:=h.h2;omega),hf,hk.heap h.out (by have:=h.h2r;have:=h.hrf;omega),h.low.trans (hk.bg h.low.size (fun k hk e=>by have:=h.h2r;have:=h.hrf;have:=h.h2;omega)),h.h2,h.h2r,h.hrf,h.hbo⟩
theorem Fzz.zk{w0 w:World}{b2 rb fb:Nat}{bo:Option Addr}{n cap:Nat}{bs:List Int}{r:Rd}{z:List Int}{tv:Value}(h:Fzz w0 b2 rb fb bo n cap bs w r z tv){k:Nat}(hk:k<4)(v:Int):Fzz w0 b2 rb fb bo n cap bs (w.setCell ⟨fb,k,none⟩ (.int .i64 v)) r (z.set k v) tv:=h.write (h.fr.zk hk v) (dV _ _ _ _)
theorem Fzz.zl{w0 w:World}{b2 rb fb:Nat}{bo:Option Addr}{n cap:Nat}{bs:List Int}{r:Rd}{z:List Int}{tv:Value}(h:Fzz w0 b2 rb fb bo n cap bs w r z tv){k:Nat}(hk:k<24)(v:Int):Fzz w0 b2 rb fb bo n cap bs (w.setCell ⟨fb,5+k,none⟩ (.int .i64 v)) r (z.set (4+k) v) tv:=h.write (h.fr.zl hk v) (dV _ _ _ _)
theorem Fzz.BO{w0 w:World}{b2 rb fb:Nat}{bo:Option Addr}{n cap:Nat}{bs:List Int}{r:Rd}{z:List Int}{tv:Value}(h:Fzz w0 b2 rb fb bo n cap bs w r z tv)(tv':Value):Fzz w0 b2 rb fb bo n cap bs (w.setCell ⟨fb,4,none⟩ tv') r z tv':=h.write (h.fr.BO tv') (dV _ _ _ _)
theorem Fzz.below{w0 w:World}{b2 rb fb:Nat}{bo:Option Addr}{n cap:Nat}{bs:List Int}{r:Rd}{z:List Int}{tv:Value}(h:Fzz w0 b2 rb fb bo n cap bs w r z tv){w':World}(hb:Below w.heap.size w w'):Fzz w0 b2 rb fb bo n cap bs w' r z tv:=by
 have hk:af (fun _=>False) w w':=af.au hb Me
 exact⟨h.rd.other hk id (fun _ _=>id),h.fr.ah hb,hk.heap h.out id,h.low.trans (hb.mono h.low.size),h.h2,h.h2r,h.hrf,h.hbo⟩
theorem own_ne{w:World}{B e size n b T:Nat}{v:Value}{xs:List Value}{cs:Array Value}{fr:Nat×Nat}(hown:w.ownsRow B e size v n xs)(h:w.heap[b]? =some (.cells cs T fr))(ht:e≠T)(k:Nat)(hk:v.ownBlock=some k):¬k=b:=by
 obtain⟨cs',hc⟩:=ag hown hk
 exact aF hc h ht
theorem bV{w:World}{B e size n:Nat}{v:Value}{xs:List Value}(h:w.ownsRow B e size v n xs): ∃ao cap,v= .slice ao n cap:=by
 rcases h.2 with⟨rfl,rfl⟩ | ⟨g,cap,cur,rfl,hb,hg,hn,hc,hs,ht⟩
 ·exact⟨none,0,rfl⟩
 ·exact⟨_,_,rfl⟩
theorem mr{w:World}{B e size n:Nat}{v:Value}{xs:List Value}(h:w.ownsRow B e size v n xs){k:Nat}(hk:v.ownBlock=some k):B≤k:=by
 rcases h.2 with⟨rfl,rfl⟩ | ⟨g,cap,cur,rfl,hb,hg,hn,hc,hs,ht⟩
 ·simp[Value.ownBlock] at hk
 ·simp[Value.ownBlock] at hk
  omega
theorem Fzz.grow{w0 w:World}{b2 rb fb:Nat}{bo:Option Addr}{n cap:Nat}{bs:List Int}{r:Rd}{z:List Int}{tv:Value}(h:Fzz w0 b2 rb fb bo n cap bs w r z tv){v:Value}{m:Nat}{xs:List Value}(hO:w.ownsRow b2 282 2 v m xs){w':World}(hk:af (fun k=>v.ownBlock=some k) w w'):Fzz w0 b2 rb fb bo n cap bs w' r z tv:=
 ⟨h.rd.other hk (fun e=>own_ne hO h.rd.row (by decide) _ e rfl) (fun a ha e=>by have:=mr hO e;have:=h.hbo a ha;have:=h.h2;omega),h.fr.kept hk (fun e=>own_ne hO h.fr.row (by decide) _ e rfl),hk.heap h.out (fun e=>own_ne hO h.out (by decide) _ e rfl),h.low.trans (hk.bg h.low.size (fun k hk e=>by have:=mr hO e;have:=h.h2;omega)),h.h2,h.h2r,h.hrf,h.hbo⟩
theorem zn(bs:List Int)(r:Rd)(j:Nat): ∀k,k<j→∃m:Nat,(aY bs r j).w.getD k 0=(m:Int):=by
 induction j with
 | zero=>intro k hk;omega
 | succ j ih=>
  intro k hk
  have hl:=(ny bs r j).2
  rw[aY]
  simp only[List.getD]
  by_cases hkj:k<j
  ·rw[List.getElem?_append_left (by omega)]
   simpa only[List.getD] using ih k hkj
  ·obtain rfl:k=j:=by omega
   rw[List.getElem?_append_right (by omega),hl]
   exact⟨(bF bs (bF bs (aY bs r k).r 5).2 5).1,by simp⟩
theorem EY(t:Int×Int):(ed t).length=2:=rfl
theorem aJ(w:World)(g:Nat)(cs:Array Value):af (fun k=>k=g) w (w.setRow g cs):=⟨rfl,rfl,rfl,by simp,fun k hk hn=>setRow_other _ _ _ _ hn⟩
theorem kw(z:List Int)(tv:Value)(h:z.length=28):(Tryz.prog.info? 196).map (·.size)=some (frC z tv).size:=by rw[bC z tv h];kernel_rfl
theorem dC(z:List Int)(ao:Option Addr)(n c:Nat):(frC z (.slice ao n c)).all (·.oneCell')=true:=by
 rw[Array.all_eq_true_iff_forall_mem]
 intro v hv
 have hv2:v ∈ (z.take 4).map (Value.int .i64)++Value.slice ao n c::(z.drop 4).map (Value.int .i64):=by simpa[frC] using hv
 rcases List.mem_append.1 hv2 with h | h
 ·obtain⟨x,-,rfl⟩:=List.mem_map.1 h;rfl
 ·rcases List.mem_cons.1 h with rfl | h
  ·rfl
  ·obtain⟨x,-,rfl⟩:=List.mem_map.1 h;rfl
def r0(bs:List Int):Rd:=if(bF bs ⟨0,0⟩ 2).1≠1 then uh (bF bs ⟨0,0⟩ 2).2 4 else(bF bs ⟨0,0⟩ 2).2
structure FX where
 z:List Int
 t:List (Int×Int)
 e:Int
def frX(n:Nat)(bs:List Int):FX:=
 let G:=bU bs (r0 bs) 4
 let C:=bF bs G.2 2
 let T:=eX bs C.2 C.1
 let S:=aY bs T.2 4
 let Q:=qF bs S.w S.r 16
 ⟨zz G.1 S.s S.w Q.1,T.1,(qO bs (8*n) Q.2).e⟩
def FrdP(n:Nat)(bs:List Int)(w:World)(e:Ending)(w':World):Prop:=Below w.heap.size w w'∧∃(z:List Int)(ao:Option Addr)(m c:Nat)(ts:List (Int×Int))(err:Int),e= .returned (.tuple #[.agg (frC z (.slice ao m c)),.int .i64 err])∧z.length=28∧bH ed 2 (0,0) w' ao m ts∧(∀a,ao=some a→w.heap.size≤a.block)∧((frX n bs).e=0→fC (frX n bs).z (frX n bs).t=true→z=(frX n bs).z∧ts=(frX n bs).t∧err=0)
theorem nD(bs:List Int)(r:Rd)(k:Nat):(bF bs r k).1<2^k:=by
 unfold bF
 have:=Nat.one_le_two_pow (n:=k)
 split
 ·exact this
 ·split
  ·exact this
  ·split
   ·exact this
   ·exact yE _ _ _
theorem GH(bo:Option Addr)(n cap:Nat)(bs:List Int)(hn:n≤1000)(w:World)(h:Ints .u8 w bo n bs)(hb: ∀a,bo=some a→a.block<w.heap.size):Calls Tryz.prog 265 #[.slice bo n cap] w (FrdP n bs w):=by
 have hba:=ae w (.cells #[(),(),(),(),.slice none 0 0,(),(),(),(),(),(),(),(),(),(),(),(),(),(),(),(),(),(),(),(),(),(),(),()] 196)
 have hz:=L9 w (.cells #[(),(),(),(),.slice none 0 0,(),(),(),(),(),(),(),(),(),(),(),(),(),(),(),(),(),(),(),(),(),(),(),()] 196)
 have HG:Hid (∀rb r k w,jW w rb bo n cap bs r→Calls Tryz.prog 270 #[.pointer (some ⟨rb,0,none⟩),.int .i64 ((k:Nat):Int)] w (RdP rb bo n cap bs (bF bs r k).2 (.int .u64 ((bF bs r k).1:Int)) w)):=fun rb r k w h=>get_any rb bo n cap bs r k w h
 have HSG:Hid (∀rb r k w,jW w rb bo n cap bs r→Calls Tryz.prog 272 #[.pointer (some ⟨rb,0,none⟩),.int .i64 ((k:Nat):Int)] w (RdP rb bo n cap bs (o5 bs r k).2 (.int .i64 (o5 bs r k).1) w)):=fun rb r k w h=>BN rb bo n cap bs r k w h
 have HFL:=MI (fun rb r E w h=>qg rb bo n cap bs r E w h)
 have HRD:=MI (fun w h hb=>uf bo n cap bs hn w h hb)
 have HI:=MI (h.ah hba)
 have HBO:=MI hb
 have HX:Hid (frX n bs=⟨zz (bU bs (r0 bs) 4).1 (aY bs (eX bs (bF bs (bU bs (r0 bs) 4).2 2).2 (bF bs (bU bs (r0 bs) 4).2 2).1).2 4).s (aY bs (eX bs (bF bs (bU bs (r0 bs) 4).2 2).2 (bF bs (bU bs (r0 bs) 4).2 2).1).2 4).w (qF bs (aY bs (eX bs (bF bs (bU bs (r0 bs) 4).2 2).2 (bF bs (bU bs (r0 bs) 4).2 2).1).2 4).w (aY bs (eX bs (bF bs (bU bs (r0 bs) 4).2 2).2 (bF bs (bU bs (r0 bs) 4).2 2).1).2 4).r 16).1,(eX bs (bF bs (bU bs (r0 bs) 4).2 2).2 (bF bs (bU bs (r0 bs) 4).2 2).1).1,(qO bs (8*n) (qF bs (aY bs (eX bs (bF bs (bU bs (r0 bs) 4).2 2).2 (bF bs (bU bs (r0 bs) 4).2 2).1).2 4).w (aY bs (eX bs (bF bs (bU bs (r0 bs) 4).2 2).2 (bF bs (bU bs (r0 bs) 4).2 2).1).2 4).r 16).2).e⟩):=rfl
 have hG2:=HG.out
 clear h hb
 go_enter Tryz.func265,Tryz.ntmps265
 go_upto_region 1 with fail
 generalize w.alloc (.cells #[(),(),(),(),.slice none 0 0,(),(),(),(),(),(),(),(),(),(),(),(),(),(),(),(),(),(),(),(),(),(),(),()] 196)=W at*
 go_upto_region 3 with(go_at_call 269;refine(HRD.out _ HI.out (fun a ha=>by have:=HBO.out a ha;have:=hba.size;omega)).mono ?_;rintro e w1 ⟨rb,rfl,hR,hrb,hb1⟩)
 have hz1:=(hb1.block _ (L8 hz)).trans hz
 have hfb:=L9 w1 (.cells #[(),(),(),(),.slice none 0 0,(),(),(),(),(),(),(),(),(),(),(),(),(),(),(),(),(),(),(),(),(),(),(),()] 196)
 have hb2:=ae w1 (.cells #[(),(),(),(),.slice none 0 0,(),(),(),(),(),(),(),(),(),(),(),(),(),(),(),(),(),(),(),(),(),(),(),()] 196)
 have hrl:=L8 hR.row
 have hlt:=L8 hz
 have hS:Fzz w w.heap.size rb w1.heap.size bo n cap bs (w1.alloc (.cells #[(),(),(),(),.slice none 0 0,(),(),(),(),(),(),(),(),(),(),(),(),(),(),(),(),(),(),(),(),(),(),(),()] 196)) ⟨0,0⟩ (zz [] [] [] []) (.slice none 0 0):=
  ⟨hR.other (S:=fun _=>False) (af.au hb2 Me) id (fun _ _=>id),⟨hfb,rfl⟩,(hb2.block _ (L8 hz1)).trans hz1,(hba.trans (hb1.mono hba.size)).trans (hb2.mono (hba.trans (hb1.mono hba.size)).size),rfl,by omega,hrl,HBO.out⟩
 clear hz hz1 hfb hb2 hrl hlt hR hba hb1 HI
 generalize w1.alloc (.cells #[(),(),(),(),.slice none 0 0,(),(),(),(),(),(),(),(),(),(),(),(),(),(),(),(),(),(),(),(),(),(),(),()] 196)=W1 at*
 generalize w1.heap.size=fb at*
 generalize hb2e:w.heap.size=b2 at*
 have HR0:Hid (r0 bs=if(bF bs ⟨0,0⟩ 2).1≠1 then uh (bF bs ⟨0,0⟩ 2).2 4 else(bF bs ⟨0,0⟩ 2).2):=rfl
 have hGa:=MI (HG.out rb ⟨0,0⟩ 2)
 generalize bF bs ⟨0,0⟩ 2=X0 at*
 obtain⟨x0,q0⟩:=X0
 simp only at HR0 hGa
 clear hG2
 go_upto_if 14 with(go_at_call 270;refine(hGa.out _ hS.rd).mono ?_;rintro e w2 ⟨rfl,hR2,hK2⟩)
 have hS2:=hS.read hR2 hK2
 clear hS hR2 hK2 hGa
 go_cut [] (fun wx=>Fzz w b2 rb fb bo n cap bs wx (r0 bs) (zz [] [] [] []) (.slice none 0 0))
 case first=>
  clear HX HG HSG HRD
  by_cases hx:x0=1
  ·subst hx
   have hr:=HR0.out
   rw[if_neg (by simp)] at hr
   have HR1:=MI hr
   clear hr HR0
   go_wp2_with fail
   go_meet
   rw[HR1.out]
   exact hS2
  ·have hr:=HR0.out
   rw[if_pos hx] at hr
   have HR1:=MI hr
   have hx1:¬(x0:Int)=1:=by omega
   clear hr HR0
   go_wp2_with (go_at_call 271;refine(HFL.out _ _ _ _ hS2.rd).mono ?_;rintro e w3 ⟨rfl,hR3,hK3⟩)
   go_meet
   rw[HR1.out]
   exact hS2.read hR3 hK3
 case rest=>
  have hS3:=MI hcut
  clear hcut hS2 HR0
  generalize r0 bs=R0 at*
  go_upto_region 6 with fail
  go_loopw [17] (fun v17 wr=>∃j:Nat,j≤4∧v17= .int .i64 (j:Int)∧Fzz w b2 rb fb bo n cap bs wr (bU bs R0 j).2 (zz (bU bs R0 j).1 [] [] []) (.slice none 0 0)) (fun v17 _=>4 - aG v17)
  case atStart=>exact⟨0,by omega,rfl,hS3.out⟩
  case round=>
   clear hS3
   obtain⟨j,hj,rfl,hS⟩:=hrel
   by_cases hj4:j<4
   ·have hst:bU bs R0 (j+1)=((bU bs R0 j).1++[((bF bs (bU bs R0 j).2 2).1:Int)],(bF bs (bU bs R0 j).2 2).2):=rfl
    have hln:=uO bs R0 j
    have hGa:=MI (HG.out rb (bU bs R0 j).2 2)
    have hxl:=nD bs (bU bs R0 j).2 2
    have hzg:=zz_g (g:=(bU bs R0 j).1) (s:=[]) (w:=[]) (q:=[]) (by rw[hln];exact hj4) ((bF bs (bU bs R0 j).2 2).1:Int)
    rw[hln] at hzg
    generalize bF bs (bU bs R0 j).2 2=X at*
    obtain⟨x,q⟩:=X
    simp only at hst hGa hxl hzg
    have HST:=MI hst
    have HZG:=MI hzg
    have hwx:IntKind.i64.wrap (x:Int)=(x:Int):=IntWalk.i64_in _ (by omega)
    clear hst hzg hxl hln
    generalize bU bs R0 j=Gj at*
    go_wp2_with (go_at_call 270;refine(hGa.out _ hS.rd).mono ?_;rintro e w2 ⟨rfl,hR2,hK2⟩;have hS2:=hS.read hR2 hK2;have cj:=hS2.fr.lo hj4;have fj:=aj hS2.fr.row j)
    refine⟨⟨j+1,by omega,by go_num,?_⟩,?_⟩
    ·rw[HST.out]
     have:=hS2.zk hj4 (x:Int)
     rw[HZG.out] at this
     exact this
    ·simp[aG];omega
   ·obtain rfl:j=4:=by omega
    have hGa:=MI (HG.out rb (bU bs R0 4).2 2)
    have hcl:=nD bs (bU bs R0 4).2 2
    have hGl:=uO bs R0 4
    generalize bF bs (bU bs R0 4).2 2=XC at*
    obtain⟨C,qC⟩:=XC
    simp only at HX hGa hcl
    have HGL:Hid ((bU bs R0 4).1.length=4):=hGl
    clear hGl
    generalize bU bs R0 4=G4 at*
    go_upto_region 11 with(go_at_call 270;refine(hGa.out _ hS.rd).mono ?_;rintro e w2 ⟨rfl,hR2,hK2⟩)
    have hS2:=MI (hS.read hR2 hK2)
    clear hS hR2 hK2 hGa
    go_loopw [29] (fun v29 wr=>∃j:Nat,j≤C∧v29= .int .u64 (j:Int)∧∃tv,Fzz w b2 rb fb bo n cap bs wr (eX bs qC j).2 (zz G4.1 [] [] []) tv∧wr.ownsRow b2 282 2 tv j ((eX bs qC j).1.flatMap ed)) (fun v29 _=>C - aG v29)
    case atStart=>exact⟨0,by omega,rfl,_,hS2.out,World.ownsRow_nil _ _ _ _⟩
    case round=>
     clear hS2
     obtain⟨j,hj,rfl,tv,hS,hO⟩:=hrel
     by_cases hjC:j<C
     ·have hst:eX bs qC (j+1)=((eX bs qC j).1++[(((bF bs (eX bs qC j).2 4).1:Int),(o5 bs (bF bs (eX bs qC j).2 4).2 24).1)],(o5 bs (bF bs (eX bs qC j).2 4).2 24).2):=rfl
      have hGa:=MI (HG.out rb (eX bs qC j).2 4)
      have hxl:=nD bs (eX bs qC j).2 4
      generalize bF bs (eX bs qC j).2 4=X at*
      obtain⟨x,q⟩:=X
      simp only at hst hGa hxl
      have hSa:=MI (HSG.out rb q 24)
      generalize o5 bs q 24=Y at*
      obtain⟨y,q2⟩:=Y
      simp only at hst hSa
      have HST:=MI hst
      have hwx:IntKind.i64.wrap (x:Int)=(x:Int):=IntWalk.i64_in _ (by omega)
      clear hst hxl
      generalize eX bs qC j=Tj at*
      have hSd:=hS.below ((Below.refl wr.heap.size wr).drew)
      have hOd:=dF hO ((Below.refl wr.heap.size wr).drew)
      have c4:=hSd.fr.mid
      clear hS hO
      go_upto_region 12 with fail
      go_region_law (first
       | (refine iD rfl (.tmp 32) (.tmp 39) 192 192 rfl rfl rfl hrun ?_)
       | (go_simp;go_at_call 270;refine(hGa.out _ hSd.rd).mono ?_;rintro e w2 ⟨rfl,hR2,hK2⟩;have hS2:=hSd.read hR2 hK2;have hO2:=ay hOd hK2 (own_ne hOd hSd.rd.row (by decide));have c4:=hS2.fr.mid)
       | (go_simp;go_at_call 272;refine(hSa.out _ hS2.rd).mono ?_;rintro e w3 ⟨rfl,hR3,hK3⟩;have hS3:=hS2.read hR3 hK3;have hO3:=ay hO2 hK3 (own_ne hO2 hS2.rd.row (by decide));have c4:=hS3.fr.mid;obtain⟨v',w4,hrun,hO4,hK4,-⟩:=fE (P:=Tryz.prog) w3 192 192 282 2 Tryz.underlying192 JQ rfl (by decide) b2 tv j _ hO3 (ed ((x:Int),y)) rfl (by intro u hu;simp only[ed,List.mem_cons,List.not_mem_nil,or_false] at hu;rcases hu with rfl | rfl<;>rfl) (by omega) (by unfold maxLen;omega) (by have:=hS3.low.size;have:=hS3.h2;omega);have c5:(w3.alloc (.cells #[.int .i64 (x:Int),.int .i64 y] 282)).cell? ⟨fb,4,none⟩=some tv:=((ae w3 _).cell (World.block_lt_of_cell? w3 _ c4)).trans c4;obtain⟨ao',cap',rfl⟩:=bV hO4;have hS4:=hS3.grow hO3 hK4;have c4:=hS4.fr.mid;have f4:=aj hS4.fr.row 4;simp only[ed] at hrun))
      all_goals go_wp2_with fail
      all_goals refine⟨⟨j+1,by omega,by go_num,_,by rw[HST.out];exact hS4.BO _,by rw[HST.out];simp only[List.flatMap_append,List.flatMap_cons,List.flatMap_nil,List.append_nil];exact ay hO4 (dV w4 fb 4 _) (own_ne hO4 hS4.fr.row (by decide))⟩,?_⟩
      all_goals (simp[aG];omega)
     ·obtain rfl:j=C:=by omega
      generalize eX bs qC j=T at*
      have HS:=MI hS
      have HO:=MI hO
      clear hS hO
      go_upto_region 15 with fail
      go_loopw [43] (fun v43 wr=>∃i:Nat,i≤4∧v43= .int .i64 (i:Int)∧Fzz w b2 rb fb bo n cap bs wr (aY bs T.2 i).r (zz G4.1 (aY bs T.2 i).s (aY bs T.2 i).w []) tv∧wr.ownsRow b2 282 2 tv j (T.1.flatMap ed)) (fun v43 _=>4 - aG v43)
      case atStart=>exact⟨0,by omega,rfl,HS.out,HO.out⟩
      case round=>
       clear HS HO
       obtain⟨i,hi,rfl,hS,hO⟩:=hrel
       by_cases hi4:i<4
       ·have hst:aY bs T.2 (i+1)=⟨(aY bs T.2 i).s++[((bF bs (aY bs T.2 i).r 5).1:Int)],(aY bs T.2 i).w++[((bF bs (bF bs (aY bs T.2 i).r 5).2 5).1:Int)],if 23<(bF bs (aY bs T.2 i).r 5).1∨24<(bF bs (bF bs (aY bs T.2 i).r 5).2 5).1 then uh (bF bs (bF bs (aY bs T.2 i).r 5).2 5).2 4 else(bF bs (bF bs (aY bs T.2 i).r 5).2 5).2⟩:=rfl
        obtain⟨hls,hlw⟩:=ny bs T.2 i
        have hGa:=MI (HG.out rb (aY bs T.2 i).r 5)
        have hxl:=nD bs (aY bs T.2 i).r 5
        generalize bF bs (aY bs T.2 i).r 5=X at*
        obtain⟨x,q⟩:=X
        simp only at hst hGa hxl
        have hGb:=MI (HG.out rb q 5)
        have hyl:=nD bs q 5
        generalize bF bs q 5=Y at*
        obtain⟨y,q2⟩:=Y
        simp only at hst hGb hyl
        generalize aY bs T.2 i=Si at*
        obtain⟨ls,lw,rS⟩:=Si
        simp only at hst hls hlw hGa hS
        have HST:=MI hst
        have hwx:IntKind.i64.wrap (x:Int)=(x:Int):=IntWalk.i64_in _ (by omega)
        have hwy:IntKind.i64.wrap (y:Int)=(y:Int):=IntWalk.i64_in _ (by omega)
        have hg4:=HGL.out
        have hzs:=zz_s (g:=G4.1) (s:=ls) (w:=lw) (q:=[]) (by omega) (by omega) (x:Int)
        have hzw:=zz_w (g:=G4.1) (s:=ls++[(x:Int)]) (w:=lw) (q:=[]) (by omega) (by simp;omega) (by omega) (y:Int)
        have hgs:=H7 (g:=G4.1) (s:=ls++[(x:Int)]) (w:=lw++[(y:Int)]) (q:=[]) (by omega) (by simp;omega) i (by simp;omega)
        have hgw:=yR (g:=G4.1) (s:=ls++[(x:Int)]) (w:=lw++[(y:Int)]) (q:=[]) (by omega) (by simp;omega) (by simp;omega) i (by simp;omega)
        rw[hls] at hzs
        rw[hlw] at hzw
        rw[show(ls++[(x:Int)]).getD i 0=(x:Int) by rw[←hls];simp] at hgs
        rw[show(lw++[(y:Int)]).getD i 0=(y:Int) by rw[←hlw];simp] at hgw
        have HZS:=MI hzs
        have HZW:=MI hzw
        have HGS:=MI hgs
        have HGW:=MI hgw
        clear hst hxl hyl hls hlw hzs hzw hgs hgw hg4
        go_upto_region 18 with(go_at_call 270;refine(hGa.out _ hS.rd).mono ?_;rintro e w2 ⟨rfl,hR2,hK2⟩;have hS2:=hS.read hR2 hK2;have hO2:=ay hO hK2 (own_ne hO hS.rd.row (by decide));have cj:=hS2.fr.hi (k:=i) (by omega);have fj:=aj hS2.fr.row (5+i))
        have hS3:=hS2.zl (k:=i) (by omega) (x:Int)
        rw[HZS.out] at hS3
        have hO3:=ay hO2 (dV w2 fb (5+i) (.int .i64 (x:Int))) (own_ne hO2 hS2.fr.row (by decide))
        clear hS hO hS2 hO2 cj fj hR2 hK2 hGa
        generalize w2.setCell ⟨fb,5+i,none⟩ (.int .i64 (x:Int))=W3 at*
        go_upto_region 19 with(go_at_call 270;refine(hGb.out _ hS3.rd).mono ?_;rintro e w4 ⟨rfl,hR4,hK4⟩;have hS4:=hS3.read hR4 hK4;have hO4:=ay hO3 hK4 (own_ne hO3 hS3.rd.row (by decide));have cj:=hS4.fr.hi (k:=4+i) (by omega);have fj:=aj hS4.fr.row (5+(4+i));rw[show 5+(4+i)=9+i by omega] at cj fj)
        have hS5:=hS4.zl (k:=4+i) (by omega) (y:Int)
        rw[show 5+(4+i)=9+i by omega,show 4+(4+i)=8+i by omega,HZW.out] at hS5
        have hO5:=ay hO4 (dV w4 fb (9+i) (.int .i64 (y:Int))) (own_ne hO4 hS4.fr.row (by decide))
        clear hS3 hO3 hS4 hO4 cj fj hR4 hK4 hGb
        generalize w4.setCell ⟨fb,9+i,none⟩ (.int .i64 (y:Int))=W5 at*
        have e1:=hS5.fr.hi (k:=i) (by omega)
        rw[HGS.out] at e1
        have e2:=hS5.fr.hi (k:=4+i) (by omega)
        rw[show 5+(4+i)=9+i by omega,show 4+(4+i)=8+i by omega,HGW.out] at e2
        by_cases hx23:23<x
        ·have hx23':(23:Int)<(x:Int):=by omega
         go_wp2_with (go_at_call 271;refine(HFL.out _ _ _ _ hS5.rd).mono ?_;rintro e w6 ⟨rfl,hR6,hK6⟩)
         refine⟨⟨i+1,by omega,by go_num,?_,ay hO5 hK6 (own_ne hO5 hS5.rd.row (by decide))⟩,?_⟩
         ·rw[HST.out]
          dsimp only
          rw[if_pos (Or.inl hx23)]
          exact hS5.read hR6 hK6
         ·simp[aG];omega
        ·have hx23':¬(23:Int)<(x:Int):=by omega
         by_cases hy24:24<y
         ·have hy24':(24:Int)<(y:Int):=by omega
          go_wp2_with (go_at_call 271;refine(HFL.out _ _ _ _ hS5.rd).mono ?_;rintro e w6 ⟨rfl,hR6,hK6⟩)
          refine⟨⟨i+1,by omega,by go_num,?_,ay hO5 hK6 (own_ne hO5 hS5.rd.row (by decide))⟩,?_⟩
          ·rw[HST.out]
           dsimp only
           rw[if_pos (Or.inr hy24)]
           exact hS5.read hR6 hK6
          ·simp[aG];omega
         ·have hy24':¬(24:Int)<(y:Int):=by omega
          go_wp2_with fail
          refine⟨⟨i+1,by omega,by go_num,?_,hO5⟩,?_⟩
          ·rw[HST.out]
           dsimp only
           rw[if_neg (by omega)]
           exact hS5
          ·simp[aG];omega
       ·obtain rfl:i=4:=by omega
        have hnat:=zn bs T.2 4
        obtain⟨hls,hlw⟩:=ny bs T.2 4
        generalize aY bs T.2 4=S4 at*
        obtain⟨ls,lw,rS⟩:=S4
        simp only at hnat hls hlw HX hS
        have HS:=MI hS
        have HO:=MI hO
        have HLS:=MI hls
        have HLW:=MI hlw
        have HNAT:=MI hnat
        clear hS hO hls hlw hnat
        rw[show((4:Nat):Int)=4 from rfl]
        go_upto_region 23 with fail
        go_loopw [73] (fun v73 wr=>∃i:Nat,i≤16∧v73= .int .i64 (i:Int)∧Fzz w b2 rb fb bo n cap bs wr (qF bs lw rS i).2 (zz G4.1 ls lw (qF bs lw rS i).1) tv∧wr.ownsRow b2 282 2 tv j (T.1.flatMap ed)) (fun v73 _=>16 - aG v73)
        case atStart=>exact⟨0,by omega,rfl,HS.out,HO.out⟩
        case round=>
         clear HS HO
         obtain⟨i,hi,rfl,hS,hO⟩:=hrel
         by_cases hi16:i<16
         ·have hst:qF bs lw rS (i+1)=((qF bs lw rS i).1++[(o5 bs (qF bs lw rS i).2 (lw.getD (i/4) 0).toNat).1],(o5 bs (qF bs lw rS i).2 (lw.getD (i/4) 0).toNat).2):=rfl
          have hlq:=Jk bs lw rS i
          obtain⟨wn,hwn⟩:=HNAT.out (i/4) (by omega)
          have e1:=hS.fr.hi (k:=4+i/4) (by omega)
          have hgw:=yR (g:=G4.1) (s:=ls) (w:=lw) (q:=(qF bs lw rS i).1) (by have:=HGL.out;omega) (by have:=HLS.out;omega) (by have:=HLW.out;omega) (i/4) (by have:=HLW.out;omega)
          rw[show 5+(4+i/4)=9+i/4 by omega,show 4+(4+i/4)=8+i/4 by omega,hgw,hwn] at e1
          rw[hwn,Int.toNat_natCast] at hst
          have hSa:=MI (HSG.out rb (qF bs lw rS i).2 wn)
          have hzq:=zz_q (g:=G4.1) (s:=ls) (w:=lw) (q:=(qF bs lw rS i).1) (by have:=HGL.out;omega) (by have:=HLS.out;omega) (by have:=HLW.out;omega) (by omega)
          rw[hlq] at hzq
          have HST:=MI hst
          have HZQ:=MI hzq
          have hbd:=MI (lX i hi16)
          have hjb:i/4<4:=by omega
          have hjb2:((i/4:Nat):Int)<4:=by omega
          clear hst hzq hlq hgw hwn
          generalize qF bs lw rS i=Qi at*
          generalize hjq:i/4=jb at*
          clear hjq
          generalize o5 bs Qi.2 wn=Y at*
          obtain⟨y,q2⟩:=Y
          simp only at HST hSa
          go_wp2_with (first | (go_at_call 173;refine(hbd.out _).mono ?_;rintro e w2 ⟨rfl,rfl⟩) | (go_at_call 272;refine(hSa.out _ hS.rd).mono ?_;rintro e w2 ⟨rfl,hR2,hK2⟩;have hS2:=hS.read hR2 hK2;have hO2:=ay hO hK2 (own_ne hO hS.rd.row (by decide));have cj:=hS2.fr.hi (k:=8+i) (by omega);have fj:=aj hS2.fr.row (5+(8+i));rw[show 5+(8+i)=13+i by omega] at cj fj))
          have hS3:=hS2.zl (k:=8+i) (by omega) y
          rw[show 5+(8+i)=13+i by omega,show 4+(8+i)=12+i by omega,HZQ.out] at hS3
          refine⟨⟨i+1,by omega,by go_num,?_,ay hO2 (dV _ fb (13+i) (.int .i64 y)) (own_ne hO2 hS2.fr.row (by decide))⟩,?_⟩
          ·rw[HST.out]
           exact hS3
          ·simp[aG];omega
         ·obtain rfl:i=16:=by omega
          have hlq:=Jk bs lw rS 16
          generalize qF bs lw rS 16=Q16 at*
          have hEN:=MI (end_any rb bo n cap bs Q16.2 wr hS.rd)
          generalize qO bs (8*n) Q16.2=RE at*
          obtain⟨pE,eE⟩:=RE
          simp only at HX hEN
          have hzl:(zz G4.1 ls lw Q16.1).length=28:=zz_len (by have:=HGL.out;omega) (by have:=HLS.out;omega) (by have:=HLW.out;omega) (by omega)
          generalize zz G4.1 ls lw Q16.1=Z at*
          go_upto_region 28 with(go_at_call 273;refine hEN.out.mono ?_;rintro e w2 ⟨rfl,hR2,hK2⟩)
          have hS2:=hS.read hR2 hK2
          have hO2:=ay hO hK2 (own_ne hO hS.rd.row (by decide))
          clear hS hO hR2 hK2 hEN
          obtain⟨ao,cc,rfl,hcc,hRc,hao⟩:=jO (0,0) EY (by decide) hO2
          have hzn:(zz [] [] [] []).length=28:=by kernel_rfl
          have hiz:=kw (zz [] [] [] []) (.slice none 0 0) hzn
          have hbu:Tryz.prog.built 196 []=some (frC (zz [] [] [] []) (.slice none 0 0)):=by kernel_rfl
          have hrow:=hS2.fr.row
          have hiZ:=kw Z (.slice ao j cc) hzl
          have hszZ:(frC (zz [] [] [] []) (.slice none 0 0)).size=(frC Z (.slice ao j cc)).size:=by rw[bC _ _ hzn,bC _ _ hzl]
          by_cases he:eE=0
          ·subst he
           have HFR:=MI (fun w' h=>uQ Z hzl ao j cc T.1 w' h)
           generalize hRT:fC Z T.1=RT at*
           have HRT:=MI hRT
           clear hRT
           cases RT
           ·go_upto_region 31 with(first | (with_reducible refine MC 196 5 ?_;refine wpList_load_row rfl 196 (.tmp 5) rfl _ rfl 196 (frC Z (.slice ao j cc)) (0,0) _ hrow Tryz.underlying196 rfl hiZ ?_) | (go_at_call 170;refine(HFR.out _ hRc).mono ?_;rintro e w3 ⟨rfl,hb3⟩))
            have hS3:=hS2.below hb3
            have hout:=hS3.out
            go_wp2_with (first | (refine aV rfl 196 #[] rfl [] ?hl (frC (zz [] [] [] []) (.slice none 0 0)) hbu ?_) | (with_reducible refine MF 196 2 96 ?_;refine wpList_store_row rfl 196 (.tmp 2) (.tmp 96) rfl _ (frC (zz [] [] [] []) (.slice none 0 0)) rfl rfl 196 (frC (zz [] [] [] []) (.slice none 0 0)) hout hiz rfl (dC _ _ _ _) ?_))
            exact bodyPost_ret (results_cell_tmp (fn:=Tryz.f265) (p:=2) (q:=3) (ty:=196) rfl _ _ _ _ _ _ _ rfl (setRow_heap _ _ _ _ _ _ hout) Tryz.underlying196 rfl hiz) rfl ⟨below_setRow hS3.low (by omega) _,zz [] [] [] [],none,0,0,[],4,rfl,hzn,bH.nil _ _ _ _ _,(fun a ha=>by cases ha),fun _ h=>by rw[HX.out] at h;simp only at h;rw[HRT.out] at h;cases h⟩
           ·go_upto_region 32 with(first | (with_reducible refine MC 196 5 ?_;refine wpList_load_row rfl 196 (.tmp 5) rfl _ rfl 196 (frC Z (.slice ao j cc)) (0,0) _ hrow Tryz.underlying196 rfl hiZ ?_) | (go_at_call 170;refine(HFR.out _ hRc).mono ?_;rintro e w3 ⟨rfl,hb3⟩))
            have hS3:=hS2.below hb3
            have hout:=hS3.out
            have hrow3:=hS3.fr.row
            have hO3:=dF hO2 hb3
            have hR3:=hRc.ah hb3
            go_wp2_with (first | (with_reducible refine MC 196 5 ?_;refine wpList_load_row rfl 196 (.tmp 5) rfl _ rfl 196 (frC Z (.slice ao j cc)) (0,0) _ hrow3 Tryz.underlying196 rfl hiZ ?_) | (with_reducible refine MF 196 2 97 ?_;refine wpList_store_row rfl 196 (.tmp 2) (.tmp 97) rfl _ (frC Z (.slice ao j cc)) rfl rfl 196 (frC (zz [] [] [] []) (.slice none 0 0)) hout hiZ hszZ (dC _ _ _ _) ?_))
            exact bodyPost_ret (results_cell_tmp (fn:=Tryz.f265) (p:=2) (q:=3) (ty:=196) rfl _ _ _ _ _ _ _ rfl (setRow_heap _ _ _ _ _ _ hout) Tryz.underlying196 rfl hiZ) rfl ⟨below_setRow hS3.low (by omega) _,Z,ao,j,cc,T.1,0,rfl,hzl,hR3.kept (aJ _ _ _) (fun a ha=>own_ne hO3 hout (by decide) a.block (hao a ha).2.2.2),(fun a ha=>Nat.le_trans (by omega) (hao a ha).1),fun _ _=>by rw[HX.out];exact⟨rfl,rfl,rfl⟩⟩
          ·have hout:=hS2.out
           go_wp2_with (first | (refine aV rfl 196 #[] rfl [] ?hl (frC (zz [] [] [] []) (.slice none 0 0)) hbu ?_) | (with_reducible refine MF 196 2 91 ?_;refine wpList_store_row rfl 196 (.tmp 2) (.tmp 91) rfl _ (frC (zz [] [] [] []) (.slice none 0 0)) rfl rfl 196 (frC (zz [] [] [] []) (.slice none 0 0)) hout hiz rfl (dC _ _ _ _) ?_))
           exact bodyPost_ret (results_cell_tmp (fn:=Tryz.f265) (p:=2) (q:=3) (ty:=196) rfl _ _ _ _ _ _ _ rfl (setRow_heap _ _ _ _ _ _ hout) Tryz.underlying196 rfl hiz) rfl ⟨below_setRow hS2.low (by omega) _,zz [] [] [] [],none,0,0,[],eE,rfl,hzn,bH.nil _ _ _ _ _,(fun a ha=>by cases ha),fun h=>by rw[HX.out] at h;exact absurd h he⟩
def qL(z:List Int):List Int:=(List.range 16).map (fun k=>z.getD (12+k) 0)
def sL(z:List Int):List Int:=(List.range 4).map (fun k=>z.getD (4+k) 0)
def gL(z:List Int):List Int:=(List.range 4).map (fun k=>z.getD k 0)
theorem yg(z:List Int):(qL z).length=16:=by simp[qL]
theorem I9(z:List Int):(sL z).length=4:=by simp[sL]
theorem uP(z:List Int):(gL z).length=4:=by simp[gL]
def AY(v:List Int)(t:Int×Int):List Int:=if 0≤t.1∧t.1<16 then v.set t.1.toNat (wrap64 (v.getD t.1.toNat 0+t.2)) else v
def rE(v:List Int)(ts:List (Int×Int)):List Int:=ts.foldl AY v
theorem Ll(v:List Int)(t:Int×Int):(AY v t).length=v.length:=by unfold AY;split<;>simp
theorem AZ(ts:List (Int×Int)): ∀v:List Int,(rE v ts).length=v.length:=by
 induction ts with
 | nil=>intro v;rfl
 | cons t r ih=>intro v;show(rE (AY v t) r).length=_;rw[ih,Ll]
theorem Hu(v:List Int)(ts:List (Int×Int))(j:Nat)(h:j<ts.length):rE v (ts.take (j+1))=AY (rE v (ts.take j)) (ts.getD j (0,0)):=by
 unfold rE
 rw[List.take_succ_eq_append_getElem h,List.foldl_append]
 simp[List.getD,h]
def jD(v:List Int):List Int:=(List.range 16).map (fun i=>lq (v.getD i 0) (-2147483648) 2147483648)
theorem iY(v:List Int):(jD v).length=16:=by simp[jD]
theorem DJ(v:List Int)(i:Nat)(h:i<16):(jD v).getD i 0=lq (v.getD i 0) (-2147483648) 2147483648:=by simp[jD,List.getD,h]
theorem yS(q s:List Int):(valuesL q s).length=16:=by unfold valuesL;split;exact iq _ _;rfl
def tH(z:List Int)(ts:List (Int×Int)):List Int:=jD (rE (valuesL (qL z) (sL z)) ts)
theorem fA.Jj{w:World}{b:Nat}{z:List Int}{tv:Value}(h:fA w b z tv):w.rangeAt b 13 ((qL z).map (Value.int .i64)):=by
 intro j v hv
 have hj:j<16:=by have:=(List.getElem?_eq_some_iff.1 hv).1;simpa[qL] using this
 rw[h.q hj]
 rw[←hv]
 simp[qL,hj]
theorem fA.rangeS{w:World}{b:Nat}{z:List Int}{tv:Value}(h:fA w b z tv):w.rangeAt b 5 ((sL z).map (Value.int .i64)):=by
 intro j v hv
 have hj:j<4:=by have:=(List.getElem?_eq_some_iff.1 hv).1;simpa[sL] using this
 rw[h.hi (by omega),←hv]
 simp[sL,hj]
theorem BZ{α:Type}{f:α→List Value}{size:Nat}{d:α}{w:World}{a:Addr}{n:Nat}{ms:List α}(h:bH f size d w (some a) n ms)(hn:0<n)(hf: ∀x,(f x)[0]? ≠none):a.block<w.heap.size:=by
 obtain⟨a',ha,hc⟩:=h.cell 0 hn
 cases ha
 cases he:(f (ms.getD 0 d))[0]? with
 | none=>exact absurd he (hf _)
 | some v=>
  have:=World.block_lt_of_cell? w _ (hc 0 v he)
  rwa [Addr.add_block,Addr.add_block] at this
theorem IU(z:List Int)(hz:z.length=28)(ao:Option Addr)(n cap:Nat)(ts:List (Int×Int))(w:World)(h:bH ed 2 (0,0) w ao n ts):Calls Tryz.prog 261 #[.agg (frC z (.slice ao n cap))] w (fun e w'=>e= .returned (.agg (iA (tH z ts)))∧Below w.heap.size w w'):=by
 have hb0:=ae w (.cells (frC z (.slice ao n cap)) 196)
 have hz0:fA (w.alloc (.cells (frC z (.slice ao n cap)) 196)) w.heap.size z (.slice ao n cap):=⟨L9 w _,hz⟩
 have hb1:=ae (w.alloc (.cells (frC z (.slice ao n cap)) 196)) (.cells #[(),(),(),(),(),(),(),(),(),(),(),(),(),(),(),()] 194)
 have hz1:=L9 (w.alloc (.cells (frC z (.slice ao n cap)) 196)) (.cells #[(),(),(),(),(),(),(),(),(),(),(),(),(),(),(),()] 194)
 have hz2:=hz0.ah hb1
 have hB:=hb0.trans (hb1.mono hb0.size)
 have hT:=(h.ah hb0).ah hb1
 rw[World.size_alloc] at hz1
 have hlm:=h.lim
 unfold maxLen at hlm
 have HN:=MI h.hlen
 have HAB:Hid (∀a,ao=some a→0<n→a.block<w.heap.size):=fun a ha h0=>by subst ha;exact BZ h h0 (fun x=>by simp[ed])
 have HV:=MI (fun w=>BC (qL z) (sL z) (yg z) (I9 z) w)
 have hi4:(Tryz.prog.info? 194).map (·.size)=some ((qL z).map (Value.int .i64)).length:=by rw[List.length_map,yg];kernel_rfl
 have hi5:(Tryz.prog.info? 191).map (·.size)=some ((sL z).map (Value.int .i64)).length:=by rw[List.length_map,I9];kernel_rfl
 have hVl:=yS (qL z) (sL z)
 have HS:Hid (tH z ts=jD (rE (valuesL (qL z) (sL z)) ts)):=rfl
 clear hb0 hb1 hz0 h hz
 go_enter Tryz.func261,Tryz.ntmps261
 go_upto_region 1 with fail
 generalize (w.alloc (.cells (frC z (.slice ao n cap)) 196)).alloc (.cells #[(),(),(),(),(),(),(),(),(),(),(),(),(),(),(),()] 194)=W at*
 have hQ:=hz2.Jj
 have hSr:=hz2.rangeS
 generalize valuesL (qL z) (sL z)=V at*
 have hiV:(Tryz.prog.info? 194).map (·.size)=some (iA V).size:=by rw[az,hVl];kernel_rfl
 have hszV:(#[(),(),(),(),(),(),(),(),(),(),(),(),(),(),(),()]:Array Value).size=(iA V).size:=by rw[az,hVl];rfl
 go_upto_region 2 with(first
  | (with_reducible refine MC 194 8 ?_;refine wpList_load_mid rfl 194 (.tmp 8) rfl _ 13 rfl _ _ hQ Tryz.underlying194 rfl hi4 ?_)
  | (with_reducible refine MC 191 10 ?_;refine wpList_load_mid rfl 191 (.tmp 10) rfl _ 5 rfl _ _ hSr Tryz.underlying191 rfl hi5 ?_)
  | (go_at_call 266;refine(HV.out _).mono ?_;rintro e w1 ⟨rfl,hb1⟩)
  | (with_reducible refine MF 194 3 12 ?_;refine wpList_store_row rfl 194 (.tmp 3) (.tmp 12) rfl _ (iA V) rfl rfl 194 #[(),(),(),(),(),(),(),(),(),(),(),(),(),(),(),()] (L9 _ _) hiV hszV (bP _) ?_))
 have hza:=L9 w1 (.cells #[(),(),(),(),(),(),(),(),(),(),(),(),(),(),(),()] 194)
 have hbb:=(ae w1 (.cells #[(),(),(),(),(),(),(),(),(),(),(),(),(),(),(),()] 194)).trans (below_setRow (B:=w1.heap.size) MB Me (iA V))
 have hv:((w1.alloc (.cells #[(),(),(),(),(),(),(),(),(),(),(),(),(),(),(),()] 194)).setRow w1.heap.size (iA V)).heap[w1.heap.size]? =some (.cells (iA V) 194 (0,0)):=setRow_heap _ _ _ _ _ _ hza
 have hbW:=hb1.trans (hbb.mono hb1.size)
 have hout:=(hbW.block _ (L8 hz1)).trans hz1
 have hT2:=hT.ah hbW
 have hB2:=hB.trans (hbW.mono hB.size)
 have c4:=(hz2.ah hbW).mid
 have hvb:w.heap.size+1<w1.heap.size:=by have:=L8 hz1;have:=hb1.size;omega
 clear hza hbb hbW hz1 hz2 hT hB hb1 hQ hSr hiV hszV hi4 hi5 HV
 simp only[Act.put]
 generalize (w1.alloc (.cells #[(),(),(),(),(),(),(),(),(),(),(),(),(),(),(),()] 194)).setRow w1.heap.size (iA V)=W2 at*
 generalize w1.heap.size=vb at*
 have HT:=MI hT2
 go_upto_region 3 with fail
 have HOUT:=MI hout
 have HV2:=MI hv
 have HB:=MI hB2
 have HVL:=MI hVl
 clear hT2 c4 hout hv hB2 hVl
 go_loopw [16] (fun v16 wr=>∃j:Nat,j≤n∧v16= .int .i64 (j:Int)∧wr.heap[vb]? =some (.cells (iA (rE V (ts.take j))) 194 (0,0))∧af (fun k=>k=vb) W2 wr) (fun v16 _=>n - aG v16)
 case atStart=>exact⟨0,by omega,rfl,HV2.out,af.refl _ _⟩
 case round=>
  clear HV2
  obtain⟨j,hj,rfl,hv,hk⟩:=hrel
  by_cases hjn:j<n
  ·have hR:bH ed 2 (0,0) wr ao n ts:=HT.out.kept hk (fun a ha e=>by have:=HAB.out a ha (by omega);omega)
   obtain⟨a,rfl,c0,c1⟩:=wz hR hjn
   have hst:=Hu V ts j (by rw[HN.out];exact hjn)
   have hal:=AZ (ts.take j) V
   generalize ts.getD j (0,0)=tj at*
   obtain⟨ix,x⟩:=tj
   simp only at c0 c1
   generalize rE V (ts.take j)=A at*
   rw[HVL.out] at hal
   have HST:=MI hst
   have HAL:=MI hal
   clear hst hR hal
   go_upto_region 5 with fail
   have hz3:=L9 wr (.cells #[.int .i64 ix,.int .i64 x] 282)
   have hk3:=hk.alloc (.cells #[.int .i64 ix,.int .i64 x] 282)
   have hv3:=((ae wr (.cells #[.int .i64 ix,.int .i64 x] 282)).block _ (L8 hv)).trans hv
   clear c0 c1 hk hv
   generalize wr.alloc (.cells #[.int .i64 ix,.int .i64 x] 282)=W3 at*
   generalize wr.heap.size=xb at*
   obtain⟨d0,d1⟩:=bD hz3
   clear hz3
   by_cases h0:ix<0
   ·have HS1:Hid (rE V (ts.take (j+1))=A):=by rw[HST.out];unfold Hid AY;rw[if_neg (by simp only;omega)]
    go_wp2_with fail
    refine⟨⟨j+1,by omega,by go_num,by rw[HS1.out];exact hv3,hk3⟩,?_⟩
    simp[aG];omega
   ·by_cases h16:16≤ix
    ·have HS1:Hid (rE V (ts.take (j+1))=A):=by rw[HST.out];unfold Hid AY;rw[if_neg (by simp only;omega)]
     go_wp2_with fail
     refine⟨⟨j+1,by omega,by go_num,by rw[HS1.out];exact hv3,hk3⟩,?_⟩
     simp[aG];omega
    ·obtain⟨k,rfl⟩: ∃k:Nat,ix=(k:Int):=⟨ix.toNat,by omega⟩
     have hk16:k<16:=by omega
     have HS1:Hid (rE V (ts.take (j+1))=A.set k (wrap64 (A.getD k 0+x))):=by
      rw[HST.out];unfold Hid AY;rw[if_pos (by simp only;omega),Int.toNat_natCast]
     have hck:=aH (k:=k) hv3 (by rw[HAL.out];exact hk16)
     have hfk:=aj hv3 k
     have hset:=MI (bJ hv3 k (wrap64 (A.getD k 0+x)))
     generalize A.getD k 0=ak at*
     have hki:(k:Int)<16:=by omega
     clear hv3 HST h0 h16
     go_upto_region 6 with fail
     go_still_tail 8,(by kernel_rfl)
     try refine wpStill_nil ?_
     change wpList _ _ _ _ _ W3.drew
     go_wp2_with fail
     refine⟨⟨j+1,by omega,by go_num,by rw[HS1.out];exact hset.out,hk3.drew.setCell (p:=⟨vb,k,none⟩) (.inr rfl) _⟩,?_⟩
     simp[aG];omega
  ·obtain rfl:j=n:=by omega
   rw[List.take_of_length_le (by rw[HN.out];exact Nat.le_refl _)] at hv
   have hal:=AZ ts V
   rw[HVL.out] at hal
   have hS1:=HS.out
   generalize rE V ts=A at*
   have HS1:=MI hS1
   have HAL:=MI hal
   have hout:=hk.heap HOUT.out (by omega)
   have hBr:=HB.out.trans (hk.bg HB.out.size (fun i hi e=>by omega))
   have hiA:(Tryz.prog.info? 194).map (·.size)=some (iA A).size:=by rw[az,hal];kernel_rfl
   clear hS1 hal HS HT HOUT HB hk
   have HV3:=MI hv
   have HOUT:=MI hout
   have HB:=MI hBr
   go_upto_region 9 with(with_reducible refine MC 194 3 ?_;refine wpList_load_row rfl 194 (.tmp 3) rfl _ rfl 194 (iA A) (0,0) _ hv Tryz.underlying194 rfl hiA ?_)
   clear hv hout hBr hiA
   have HIX:=MI (fun k (hk:k<16) w=>iG (P:=Tryz.prog) 194 2 16 Tryz.underlying194 Tryz.underlying2 (by kernel_rfl) A HAL.out k hk w)
   have HMX:=MI (fun i (hi:i<16)=>pU (jD A) A i (by rw[iY,HAL.out]) (by rw[iY];exact hi))
   have HML:=MI (fun i=>pV (jD A) A i (by rw[iY,HAL.out]))
   have HM0:Hid (jT (jD A) A 0=A):=qQ _ _
   have HM1:Hid (jT (jD A) A 16=jD A):=by have:=pW (jD A) A (by rw[iY,HAL.out]);rwa [iY] at this
   have HCG:=MI (fun i hi=>DJ A i hi)
   have HCL:=MI (iY A)
   have hCl:=MI (fun v w=>xB v (-2147483648) 2147483648 w)
   generalize jD A=CA at*
   go_loopw [38] (fun v38 wi=>∃i:Nat,i≤16∧v38= .int .i64 (i:Int)∧wi.heap[vb]? =some (.cells (iA (jT CA A i)) 194 (0,0))∧wi.heap[w.heap.size+1]? =some (.cells #[(),(),(),(),(),(),(),(),(),(),(),(),(),(),(),()] 194 (0,0))∧Below w.heap.size w wi) (fun v38 _=>16 - aG v38)
   case atStart=>exact⟨0,by omega,rfl,by rw[HM0.out];exact HV3.out,HOUT.out,HB.out⟩
   case round=>
    clear HV3 HOUT HB
    obtain⟨i,hi,rfl,hv,hout,hb⟩:=hrel
    by_cases hi16:i<16
    ·have hix:=HIX.out i hi16
     have hcg:=HCG.out i hi16
     have hcv:=aH (k:=i) hv (by rw[HML.out,HCL.out];exact hi16)
     have hfv:=aj hv i
     have hset:=bJ hv i (CA.getD i 0)
     rw[HMX.out i hi16,hcg] at hset
     have HSET:=MI hset
     have HO:=MI hout
     have HBb:=MI hb
     generalize A.getD i 0=ai at*
     clear hv hout hb hset hcg
     go_wp2_with (go_at_call 141;refine(hCl.out _ _).mono ?_;rintro e w5 ⟨rfl,n5,rfl⟩)
     refine⟨⟨i+1,by omega,by go_num,HSET.out,(heap_setCell_other _ _ _ _ (by show w.heap.size+1≠vb;omega)).trans HO.out,(below_drewN HBb.out n5).setCell (p:=⟨vb,i,none⟩) (by show w.heap.size≤vb;omega) _⟩,?_⟩
     simp[aG];omega
    ·obtain rfl:i=16:=by omega
     have hv':wr.heap[vb]? =some (.cells (iA CA) 194 (0,0)):=by rw[←HM1.out];exact hv
     have hiC:(Tryz.prog.info? 194).map (·.size)=some (iA CA).size:=by rw[az,HCL.out];kernel_rfl
     clear hv
     go_wp2_with (first | (with_reducible refine MC 194 3 ?_;refine wpList_load_row rfl 194 (.tmp 3) rfl _ rfl 194 (iA CA) (0,0) _ hv' Tryz.underlying194 rfl hiC ?_) | (with_reducible refine MF 194 2 47 ?_;refine wpList_store_row rfl 194 (.tmp 2) (.tmp 47) rfl _ (iA CA) rfl rfl 194 (#[(),(),(),(),(),(),(),(),(),(),(),(),(),(),(),()]) hout hiC (by rw[az CA,HCL.out];simp) (bP _) ?_))
     exact bodyPost_ret (results_cell_row (fn:=Tryz.f261) rfl _ _ _ _ _ _ _ rfl (setRow_heap _ _ _ _ _ _ hout) Tryz.underlying194 rfl hiC) rfl ⟨by rw[HS1.out],below_setRow hb (by omega) _⟩
end Go.Proofs.YtnicjahcgnhogaaGreatDoor
