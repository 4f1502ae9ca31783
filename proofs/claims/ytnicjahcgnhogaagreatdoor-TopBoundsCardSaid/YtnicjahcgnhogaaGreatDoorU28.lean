/- Part 29 of the walk: contracts of the program's functions, each for every input. No condition. -/
import Derived.Test.YtnicjahcgnhogaaGreatDoorU27
set_option linter.unusedVariables false
set_option linter.unusedSimpArgs false
set_option maxRecDepth 100000
set_option maxHeartbeats 8000000
namespace Go.Proofs.YtnicjahcgnhogaaGreatDoor
open Go Go.RowKit Go.Calli
attribute [local irreducible] wpStill wpAnyH wpAnyS wpList Code.wp
def imgZ(s:Sr)(l:List Int)(size:Nat):List Int:=nT (uf (List.replicate (upZ (plA size [dB s] 1) 64) 0) ((plL size [dB s] 1).getD 0 m0) l size) (plL size [dB s] 1) size
def MadeP(bs:List Int)(V S R:Int)(w:World)(e:Ending)(w':World):Prop:=Below w.heap.size w w'∧(nV bs V S R=0→∃X Y σ rb,e= .returned (.pointer (some ⟨rb,0,none⟩))∧(Y.n:Int)=V∧(X.n:Int)=S∧aN X σ w' (fK bs) 0 ⟨Cch.tZ bs X.n R,0,0⟩∧YIs X Y (fK bs) 0 σ w' (xy Y.n)∧eU X Y σ w' rb sh0 (0,0)∧∀k,k<w.heap.size→σ k=1)
def sA(d:Option Addr)(dc:Nat):Sr:=⟨[97],1,false,0,0,d,dc,[[50,60]]⟩
theorem upA(d:Option Addr)(dc:Nat):upZ (plA 55 [dB (sA d dc)] 1) 64=192:=af
theorem plLA(d:Option Addr)(dc:Nat):plL 55 [dB (sA d dc)] 1=[⟨strOfNums [97],2,1,1,false,0,0,84,96⟩]:=af
theorem exA:jW 2 [50,60] 55:=⟨af,aq,aq,af,by rw[show kE (jf (iU (kF [50,60])))=7 by kernel_rfl];decide⟩
theorem rtA:fQ (exF [50,60]).z []=true:=af
theorem lnA:(frW (exF [50,60]).z []).bs.length=19:=af
theorem cf0:([64,0,28]:List Int).foldl (fun x c=>aU 8 (x^^^c.toNat)) 4294967295=1680209762:=af
theorem cf1:([6,1,128]:List Int).foldl (fun x c=>aU 8 (x^^^c.toNat)) 1680209762=2877584068:=af
theorem cf2:([99,74,243]:List Int).foldl (fun x c=>aU 8 (x^^^c.toNat)) 2877584068=97063722:=af
theorem cf3:([124,210,112]:List Int).foldl (fun x c=>aU 8 (x^^^c.toNat)) 97063722=141410080:=af
theorem cf4:([130,131,37]:List Int).foldl (fun x c=>aU 8 (x^^^c.toNat)) 141410080=3506977115:=af
theorem cf5:([0,21,128]:List Int).foldl (fun x c=>aU 8 (x^^^c.toNat)) 3506977115=3132858684:=af
theorem cf6:([63,0,0]:List Int).foldl (fun x c=>aU 8 (x^^^c.toNat)) 3132858684=3924384079:=af
theorem cf7:([0,0,0]:List Int).foldl (fun x c=>aU 8 (x^^^c.toNat)) 3924384079=3379132117:=af
theorem cf8:([0,0,0]:List Int).foldl (fun x c=>aU 8 (x^^^c.toNat)) 3379132117=3326734494:=af
theorem cf9:([0,0,0]:List Int).foldl (fun x c=>aU 8 (x^^^c.toNat)) 3326734494=3962670517:=af
theorem cf10:([0,0,0]:List Int).foldl (fun x c=>aU 8 (x^^^c.toNat)) 3962670517=476502571:=af
theorem cf11:([0,0,0]:List Int).foldl (fun x c=>aU 8 (x^^^c.toNat)) 476502571=3944628453:=af
theorem cf12:([0,0,0]:List Int).foldl (fun x c=>aU 8 (x^^^c.toNat)) 3944628453=2774491334:=af
theorem cf13:([0,0,0]:List Int).foldl (fun x c=>aU 8 (x^^^c.toNat)) 2774491334=185322901:=af
theorem cf14:([0,0,0]:List Int).foldl (fun x c=>aU 8 (x^^^c.toNat)) 185322901=308152987:=af
theorem cf15:([0,0,0]:List Int).foldl (fun x c=>aU 8 (x^^^c.toNat)) 308152987=2272969594:=af
theorem cf16:([0,0,0]:List Int).foldl (fun x c=>aU 8 (x^^^c.toNat)) 2272969594=157413806:=af
theorem cf17:([0,0,0]:List Int).foldl (fun x c=>aU 8 (x^^^c.toNat)) 157413806=3841257809:=af
theorem cf18:([0]:List Int).foldl (fun x c=>aU 8 (x^^^c.toNat)) 3841257809=478713235:=af
theorem cfAll:gm [64,0,28,6,1,128,99,74,243,124,210,112,130,131,37,0,21,128,63,0,0,0,0,0,0,0,0,0,0,0,0,0,0,0,0,0,0,0,0,0,0,0,0,0,0,0,0,0,0,0,0,0,0,0,0]=3816254060:=by
 rw[show([64,0,28,6,1,128,99,74,243,124,210,112,130,131,37,0,21,128,63,0,0,0,0,0,0,0,0,0,0,0,0,0,0,0,0,0,0,0,0,0,0,0,0,0,0,0,0,0,0,0,0,0,0,0,0]:List Int)=[64,0,28]++([6,1,128]++([99,74,243]++([124,210,112]++([130,131,37]++([0,21,128]++([63,0,0]++([0,0,0]++([0,0,0]++([0,0,0]++([0,0,0]++([0,0,0]++([0,0,0]++([0,0,0]++([0,0,0]++([0,0,0]++([0,0,0]++([0,0,0]++([0])))))))))))))))))) from rfl]
 unfold gm reg
 rw[List.foldl_append,cf0,List.foldl_append,cf1,List.foldl_append,cf2,List.foldl_append,cf3,List.foldl_append,cf4,List.foldl_append,cf5,List.foldl_append,cf6,List.foldl_append,cf7,List.foldl_append,cf8,List.foldl_append,cf9,List.foldl_append,cf10,List.foldl_append,cf11,List.foldl_append,cf12,List.foldl_append,cf13,List.foldl_append,cf14,List.foldl_append,cf15,List.foldl_append,cf16,List.foldl_append,cf17,cf18]
 rfl
theorem ch0:([67,65,76]:List Int).foldl (fun x c=>aU 8 (x^^^c.toNat)) 4294967295=3832178315:=af
theorem ch1:([49,0,0]:List Int).foldl (fun x c=>aU 8 (x^^^c.toNat)) 3832178315=1443446597:=af
theorem ch2:([0,192,0]:List Int).foldl (fun x c=>aU 8 (x^^^c.toNat)) 1443446597=2628324011:=af
theorem ch3:([1,55,0]:List Int).foldl (fun x c=>aU 8 (x^^^c.toNat)) 2628324011=286100440:=af
theorem ch4:([0,0,0]:List Int).foldl (fun x c=>aU 8 (x^^^c.toNat)) 286100440=626809252:=af
theorem ch5:([0,97,0]:List Int).foldl (fun x c=>aU 8 (x^^^c.toNat)) 626809252=2872267965:=af
theorem ch6:([0,0,0]:List Int).foldl (fun x c=>aU 8 (x^^^c.toNat)) 2872267965=2894173358:=af
theorem ch7:([0,0,0]:List Int).foldl (fun x c=>aU 8 (x^^^c.toNat)) 2894173358=1551141998:=af
theorem ch8:([0,0,0]:List Int).foldl (fun x c=>aU 8 (x^^^c.toNat)) 1551141998=2182579220:=af
theorem ch9:([0,0,0]:List Int).foldl (fun x c=>aU 8 (x^^^c.toNat)) 2182579220=3339965350:=af
theorem ch10:([0,0,0]:List Int).foldl (fun x c=>aU 8 (x^^^c.toNat)) 3339965350=4083086871:=af
theorem ch11:([0,0,0]:List Int).foldl (fun x c=>aU 8 (x^^^c.toNat)) 4083086871=3613167566:=af
theorem ch12:([0,0,0]:List Int).foldl (fun x c=>aU 8 (x^^^c.toNat)) 3613167566=1173824198:=af
theorem ch13:([0,0,0]:List Int).foldl (fun x c=>aU 8 (x^^^c.toNat)) 1173824198=290048808:=af
theorem ch14:([0,0,0]:List Int).foldl (fun x c=>aU 8 (x^^^c.toNat)) 290048808=290513144:=af
theorem ch15:([0,0,0]:List Int).foldl (fun x c=>aU 8 (x^^^c.toNat)) 290513144=2395111521:=af
theorem ch16:([0,0,0]:List Int).foldl (fun x c=>aU 8 (x^^^c.toNat)) 2395111521=133995086:=af
theorem ch17:([2,0,0]:List Int).foldl (fun x c=>aU 8 (x^^^c.toNat)) 133995086=1176872964:=af
theorem ch18:([0,1,0]:List Int).foldl (fun x c=>aU 8 (x^^^c.toNat)) 1176872964=868776829:=af
theorem ch19:([0,0,0]:List Int).foldl (fun x c=>aU 8 (x^^^c.toNat)) 868776829=89985423:=af
theorem ch20:([0,0,0]:List Int).foldl (fun x c=>aU 8 (x^^^c.toNat)) 89985423=2892649185:=af
theorem ch21:([0,0,0]:List Int).foldl (fun x c=>aU 8 (x^^^c.toNat)) 2892649185=2378829227:=af
theorem ch22:([0,84,0]:List Int).foldl (fun x c=>aU 8 (x^^^c.toNat)) 2378829227=3320151999:=af
theorem ch23:([0,0,96]:List Int).foldl (fun x c=>aU 8 (x^^^c.toNat)) 3320151999=4218923902:=af
theorem ch24:([1,0,0]:List Int).foldl (fun x c=>aU 8 (x^^^c.toNat)) 4218923902=3695160875:=af
theorem ch25:([0,0,0]:List Int).foldl (fun x c=>aU 8 (x^^^c.toNat)) 3695160875=3002733959:=af
theorem ch26:([0,0]:List Int).foldl (fun x c=>aU 8 (x^^^c.toNat)) 3002733959=421484701:=af
theorem chAll:gm [67,65,76,49,0,0,0,192,0,1,55,0,0,0,0,0,97,0,0,0,0,0,0,0,0,0,0,0,0,0,0,0,0,0,0,0,0,0,0,0,0,0,0,0,0,0,0,0,0,0,0,2,0,0,0,1,0,0,0,0,0,0,0,0,0,0,0,84,0,0,0,96,1,0,0,0,0,0,0,0]=3873482594:=by
 rw[show([67,65,76,49,0,0,0,192,0,1,55,0,0,0,0,0,97,0,0,0,0,0,0,0,0,0,0,0,0,0,0,0,0,0,0,0,0,0,0,0,0,0,0,0,0,0,0,0,0,0,0,2,0,0,0,1,0,0,0,0,0,0,0,0,0,0,0,84,0,0,0,96,1,0,0,0,0,0,0,0]:List Int)=[67,65,76]++([49,0,0]++([0,192,0]++([1,55,0]++([0,0,0]++([0,97,0]++([0,0,0]++([0,0,0]++([0,0,0]++([0,0,0]++([0,0,0]++([0,0,0]++([0,0,0]++([0,0,0]++([0,0,0]++([0,0,0]++([0,0,0]++([2,0,0]++([0,1,0]++([0,0,0]++([0,0,0]++([0,0,0]++([0,84,0]++([0,0,96]++([1,0,0]++([0,0,0]++([0,0])))))))))))))))))))))))))) from rfl]
 unfold gm reg
 rw[List.foldl_append,ch0,List.foldl_append,ch1,List.foldl_append,ch2,List.foldl_append,ch3,List.foldl_append,ch4,List.foldl_append,ch5,List.foldl_append,ch6,List.foldl_append,ch7,List.foldl_append,ch8,List.foldl_append,ch9,List.foldl_append,ch10,List.foldl_append,ch11,List.foldl_append,ch12,List.foldl_append,ch13,List.foldl_append,ch14,List.foldl_append,ch15,List.foldl_append,ch16,List.foldl_append,ch17,List.foldl_append,ch18,List.foldl_append,ch19,List.foldl_append,ch20,List.foldl_append,ch21,List.foldl_append,ch22,List.foldl_append,ch23,List.foldl_append,ch24,List.foldl_append,ch25,ch26]
 rfl
def IMG:List Int:=[67,65,76,49,0,0,0,192,0,1,55,0,0,0,0,0,97,0,0,0,0,0,0,0,0,0,0,0,0,0,0,0,0,0,0,0,0,0,0,0,0,0,0,0,0,0,0,0,0,0,0,2,0,0,0,1,0,0,0,0,0,0,0,0,0,0,0,84,0,0,0,96,1,0,0,0,0,0,0,0,230,224,167,98,227,119,106,108,0,0,0,0,0,0,0,0,64,0,28,6,1,128,99,74,243,124,210,112,130,131,37,0,21,128,63,0,0,0,0,0,0,0,0,0,0,0,0,0,0,0,0,0,0,0,0,0,0,0,0,0,0,0,0,0,0,0,0,0,0,0,0,0,0,0,0,0,0,0,0,0,0,0,0,0,0,0,0,0,0,0,0,0,0,0,0,0,0,0,0,0,0,0,0,0,0,0,0,0,0,0,0,0]
theorem frA:frB (exF [50,60]).z [] 55=[64,0,28,6,1,128,99,74,243,124,210,112,130,131,37,0,21,128,63,0,0,0,0,0,0,0,0,0,0,0,0,0,0,0,0,0,0,0,0,0,0,0,0,0,0,0,0,0,0,0,0,0,0,0,0]:=af
def mA:Mt:=⟨strOfNums [97],2,1,1,false,0,0,84,96⟩
def ZL:List Int:=[0,0,0,0,0,0,0,0,0,0,0,0,0,0,0,0,0,0,0,0,0,0,0,0,0,0,0,0,0,0,0,0,0,0,0,0,0,0,0,0,0,0,0,0,0,0,0,0,0,0,0,0,0,0,0,0,0,0,0,0,0,0,0,0,0,0,0,0,0,0,0,0,0,0,0,0,0,0,0,0,0,0,0,0,227,119,106,108,0,0,0,0,0,0,0,0,64,0,28,6,1,128,99,74,243,124,210,112,130,131,37,0,21,128,63,0,0,0,0,0,0,0,0,0,0,0,0,0,0,0,0,0,0,0,0,0,0,0,0,0,0,0,0,0,0,0,0,0,0,0,0,0,0,0,0,0,0,0,0,0,0,0,0,0,0,0,0,0,0,0,0,0,0,0,0,0,0,0,0,0,0,0,0,0,0,0,0,0,0,0,0,0]
def ZH:List Int:=[67,65,76,49,0,0,0,192,0,1,55,0,0,0,0,0,97,0,0,0,0,0,0,0,0,0,0,0,0,0,0,0,0,0,0,0,0,0,0,0,0,0,0,0,0,0,0,0,0,0,0,2,0,0,0,1,0,0,0,0,0,0,0,0,0,0,0,84,0,0,0,96,1,0,0,0,0,0,0,0,0,0,0,0,227,119,106,108,0,0,0,0,0,0,0,0,64,0,28,6,1,128,99,74,243,124,210,112,130,131,37,0,21,128,63,0,0,0,0,0,0,0,0,0,0,0,0,0,0,0,0,0,0,0,0,0,0,0,0,0,0,0,0,0,0,0,0,0,0,0,0,0,0,0,0,0,0,0,0,0,0,0,0,0,0,0,0,0,0,0,0,0,0,0,0,0,0,0,0,0,0,0,0,0,0,0,0,0,0,0,0,0]
theorem layA:uf (List.replicate 192 0) mA [50,60] 55=ZL:=by
 unfold uf
 rw[frA,cfAll]
 kernel_rfl
theorem hdA:hdS ZL [mA] 55 1=ZH:=af
theorem tkA:ZH.take 80=[67,65,76,49,0,0,0,192,0,1,55,0,0,0,0,0,97,0,0,0,0,0,0,0,0,0,0,0,0,0,0,0,0,0,0,0,0,0,0,0,0,0,0,0,0,0,0,0,0,0,0,2,0,0,0,1,0,0,0,0,0,0,0,0,0,0,0,84,0,0,0,96,1,0,0,0,0,0,0,0]:=af
theorem headA:nT ZL [mA] 55=IMG:=by
 show kH (hdS ZL [mA] 55 1) 80 4 (gm ((hdS ZL [mA] 55 1).take 80)).toNat 4=IMG
 rw[hdA,tkA,chAll]
 kernel_rfl
theorem imgA(d:Option Addr)(dc:Nat):imgZ (sA d dc) [50,60] 55=IMG:=by
 unfold imgZ
 rw[upA,plLA]
 show nT (uf (List.replicate 192 0) mA [50,60] 55) [mA] 55=IMG
 rw[layA,headA]
theorem b8A:W8 (frB (exF [50,60]).z [] 55):=by
 rw[frA]
 have h:([64,0,28,6,1,128,99,74,243,124,210,112,130,131,37,0,21,128,63,0,0,0,0,0,0,0,0,0,0,0,0,0,0,0,0,0,0,0,0,0,0,0,0,0,0,0,0,0,0,0,0,0,0,0,0]:List Int).all (fun z=>(Lit.int .u8 z).wf)=true:=af
 exact fun z hz=>(List.all_eq_true.1 h) z hz
theorem layX:sZ mA [50,60] 55:=⟨rfl,exA,rtA,by rw[lnA];decide,b8A⟩
theorem EI(ao:Option Addr)(ib L cap:Nat)(zs:List Int)(hL:zs.length=L)(D6:L≤cap)(hz:cap≤60000)(db EP n:Nat)(ms:List Mt)(hn:n≤64)(J:ms.length=n)(hm: ∀i,i<n→MtB (ms.getD i m0))(hl:20+64*n≤L)(size:Nat)(hs:size≤96)(B2:ib≠db)(D7:0<n→ao=some ⟨db,0,none⟩)(D8:W8 zs)(w:World)(h:Blk .u8 w ib 5 zs)(hS:0<n→PlS w db n ms):Calls Tryz.prog 59 #[.slice (some ⟨ib,0,none⟩) L cap,.slice ao n EP,.int .i64 (size:Int)] w (NumP ib (nT zs ms size) w):=by
 have D9: ∀ty,(Builtin.copy_ #[63,9] ty #[.slice (some ⟨ib,0,none⟩) L cap,.string {data:=#[67,65,76,49]}]).run Tryz.prog w= .ok (goInt 4) (w.setCells ib 0 [.int .u8 67,.int .u8 65,.int .u8 76,.int .u8 49]):=fun ty=>by
  have h5:=run_copy_string (P:=Tryz.prog) w 63 9 ty 5 ib 0 L cap {data:=#[67,65,76,49]} Tryz.underlying63 (fun W=>af) (by show 4≤L;omega) (fun j hj=>by have G3:j<4:=hj;rw[h.cell aa];rfl) (fun j hj=>h.frozen _)
  exact h5
 have B3:Blk .u8 (w.setCells ib 0 [.int .u8 67,.int .u8 65,.int .u8 76,.int .u8 49]) ib 5 (aT zs 0 [67,65,76,49]):=Blk.setCells (vs:=[67,65,76,49]) h 0 (by show 0+4≤zs.length;omega)
 have B4:ag (fun k=>k=ib) w (w.setCells ib 0 [.int .u8 67,.int .u8 65,.int .u8 76,.int .u8 49]):=ag.setCells (S:=fun k=>k=ib) _ (ag.refl (fun k=>k=ib) w) (.inr rfl) 0
 have E0:(aT zs 0 [67,65,76,49]).length=L:=by rw[gu _ _ _ (by show 0+4≤zs.length;omega)];exact hL
 have E1:=MI (fun W (hB:Blk .u8 W ib 5 (aT zs 0 [67,65,76,49]))=>lF ib 0 L cap (aT zs 0 [67,65,76,49]) 4 4 L aq aa aa aa aa W hB)
 have E2:(kH (aT zs 0 [67,65,76,49]) (0+4) 4 L 4).length=L:=by rw[kG];exact E0
 have E3:=MI (fun W (hB:Blk .u8 W ib 5 (kH (aT zs 0 [67,65,76,49]) (0+4) 4 L 4))=>lF ib 0 L cap _ 8 2 n aq aa aa aa aa W hB)
 have E4:Hid ((kH (kH (aT zs 0 [67,65,76,49]) (0+4) 4 L 4) (0+8) 2 n 2).set 10 ((size:Int)%256)=hdS zs ms size 0):=by unfold Hid hdS hd0;rw[hL,J]
 have G4:(kH (kH (aT zs 0 [67,65,76,49]) (0+4) 4 L 4) (0+8) 2 n 2).length=L:=by rw[kG];exact E2
 have A5:=MI (fun i hi=>(GI zs ms size aa (by rw[J];exact hm) i hi).trans hL)
 have A6:=MI (NK D8 ms size hs (by rw[J];exact hm))
 rw[J] at A5 A6
 have B5:Hid (nT zs ms size=kH (hdS zs ms size n) (16+64*n) 4 (gm ((hdS zs ms size n).take (16+64*n))).toNat 4):=by unfold Hid nT;rw[J]
 have E5:=MI hm
 have E6:=MI B3
 have E7:=MI B4
 have E8:=MI hS
 have D2:=MI (fun W=>nC n aa W)
 clear hm B3 B4 hS h
 go_enter Tryz.func59,Tryz.ntmps59
 go_upto_region 1 with fail
 generalize w.setCells ib 0 [.int .u8 67,.int .u8 65,.int .u8 76,.int .u8 49]=W1 at*
 clear D9
 generalize aT zs 0 [67,65,76,49]=z1 at*
 have R:=E1.out W1 E6.out
 rw[show((4:Nat):Int)=4 from rfl] at R
 have R:=MI R
 go_upto_region 3 with(go_at_call 96;first
  | ((with_reducible refine R.out.mono ?_);rintro e w2 ⟨rfl,B6,B7⟩;have A0:=E3.out w2 B6;rw[show((8:Nat):Int)=8 from rfl,show((2:Nat):Int)=2 from rfl] at A0;have A0:=MI A0)
  | ((with_reducible refine A0.out.mono ?_);rintro e w3 ⟨rfl,A1,B8⟩))
 generalize kH (kH z1 (0+4) 4 L 4) (0+8) 2 n 2=z3 at*
 have E9:=A1.cell (i:=10) aa
 have F1:=A1.frozen 10
 have o:=A1.set 10 ((size:Int)%256)
 rw[E4.out,show(size:Int)%256=(size:Int) by omega] at o
 have A7:ag (fun k=>k=ib) w (w3.setCell ⟨ib,10,none⟩ (.int .u8 (size:Int))):=((E7.out.trans B7).trans B8).setCell (p:=⟨ib,10,none⟩) (.inr rfl) _
 have B9:=fun h0=>(E8.out h0).keep A7 (fun e=>B2 e.symm)
 have C0:=MI o
 have C1:=MI A7
 have C2:=MI B9
 clear o A7 B9 A1 B6 B7 B8 R
 go_upto_region 5 with fail
 generalize w3.setCell ⟨ib,10,none⟩ (.int .u8 (size:Int))=W4 at*
 clear E9 F1
 go_loopw [25] (fun v25 wr=>∃i:Nat,i≤n∧v25= .int .i64 (i:Int)∧Blk .u8 wr ib 5 (hdS zs ms size i)∧ag (fun k=>k=ib) w wr∧Hid (0<n→PlS wr db n ms)) (fun v25 _=>n - aC v25)
 case atStart=>exact⟨0,aa,rfl,C0.out,C1.out,C2.out⟩
 case round=>
  clear C0 C1 C2
  obtain⟨i,hi,rfl,hB,hK,hS⟩:=hrel
  by_cases C3:i<n
  ·have G2:(i:Int)<(n:Int):=aa
   have C4:0<n:=aa
   obtain rfl:=D7 C4
   have hS:=hS.out C4
   have hr:=hS.range C3
   have F2:=E5.out i C3
   have C5:=A5.out i hi
   have F3:=MI (fun W (hB:Blk .u8 W ib 5 (hdS zs ms size i))=>CE ib (0+(16+64*i)) (L - (16+64*i)) (cap - (16+64*i)) (hdS zs ms size i) (ms.getD i m0) F2 aa aa aa W hB)
   have C6:Hid (hdS zs ms size (i+1)=CG (hdS zs ms size i) (0+(16+64*i)) (ms.getD i m0)):=by unfold Hid;rw[Nat.zero_add];rfl
   have A2:=MI hB
   have U:=MI hK
   have C7:=MI hS
   have F4:(Tryz.prog.info? 54).map (·.size)=some (aV (ms.getD i m0)).length:=af
   have A8:(Tryz.prog.info? 54).map (·.size)=some (aF (ms.getD i m0)).size:=af
   have D3:=ja (ms.getD i m0)
   clear hB hK hS
   generalize ms.getD i m0=m at*
   go_upto_region 7 with(first
    | ((with_reducible refine MC 54 28 ?_);refine wpList_load_mid rfl 54 (.tmp 28) rfl db (i*9) rfl (aV m) _ hr Tryz.underlying54 rfl F4 ?_;rw[show(aV m).toArray=aF m from rfl])
    | ((with_reducible refine MF 54 7 29 ?_);refine wpList_store_row rfl 54 (.tmp 7) (.tmp 29) rfl _ (aF m) rfl rfl 54 Z54 (L9 _ _) A8 rfl D3 ?_))
   have A3:Below wr.heap.size wr ((wr.alloc (.cells Z54 54)).setRow wr.heap.size (aF m)):=below_setRow (ae wr (.cells Z54 54)) Me _
   have F5:=Md (aF m) (L9 wr (.cells Z54 54))
   have F6:=U.out.size
   have C8:=A2.out.aj A3
   have C9:=U.out.below A3 F6
   have D0:=C7.out.aj A3
   have D4:wr.heap.size≠ib:=fun e=>by have h5:=A2.out.lt;omega
   clear hr A3
   change Code.wp _ _ _ _ ((wr.alloc (.cells Z54 54)).setRow wr.heap.size (aF m))
   generalize (wr.alloc (.cells Z54 54)).setRow wr.heap.size (aF m)=X at*
   generalize wr.heap.size=xb at*
   have hP:=MI (F3.out X.drew (show Blk .u8 X.drew ib 5 _ from C8))
   have F7:=MI C9
   have D5:=MI D0
   rw[Nat.zero_add] at hP C6
   have D1:=fun W=>xW ib 0 L cap (16+64*i) aa aa D6 hz W
   rw[Nat.zero_add] at D1
   have e2:IntKind.i64.wrap ((i:Int)*64)=((64*i:Nat):Int):=by rw[show(i:Int)*64=((64*i:Nat):Int) by omega];exact IntWalk.i64_in _ aa
   have e3:IntKind.i64.wrap (16+((64*i:Nat):Int))=((16+64*i:Nat):Int):=by rw[show 16+((64*i:Nat):Int)=((16+64*i:Nat):Int) by omega];exact IntWalk.i64_in _ aa
   clear C9 D0 C8 A2 U C7
   refine wp_region_noPanic ?_
   refine wp_region_held_drew (S:=fun w'=>w'.heap[xb]? =some (.cells (aF m) 54 (0,0))) af ?_ (fun A4=>?_)
   ·exact F5
   refine ba 0 ?_
   try simp only[Act.put,aS]
   refine ba 1 ?_
   try simp only[Act.put,aS]
   refine wpAnyH_take (i:=2) (v:=.int .i64 ((64*i:Nat):Int)) rfl af af af (fun _ _ _ h=>h) (Or.inl ⟨af,?_⟩) aw ?_
   ·(intro w A9;(try dsimp only at A9);go_simp;try (first | rfl | exact IntWalk.i64_in _ aa | (rw[IntWalk.i64_in _ aa];omega)))
   try simp only[Act.put,aS]
   refine wpAnyH_take (i:=3) (v:=.int .i64 ((16+64*i:Nat):Int)) rfl af af af (fun _ _ _ h=>h) (Or.inl ⟨af,?_⟩) aw ?_
   ·(intro w A9;(try dsimp only at A9);go_simp;try (first | rfl | exact IntWalk.i64_in _ aa | (rw[IntWalk.i64_in _ aa];omega)))
   try simp only[Act.put,aS]
   refine wpAnyH_take (i:=4) (v:=.slice (some ⟨ib,16+64*i,none⟩) (L - (16+64*i)) (cap - (16+64*i))) rfl af af af (fun _ _ _ h=>h) (mG af 63 (.tmp 30) (.tmp 33) rfl rfl rfl D1) aw ?_
   try simp only[Act.put,aS]
   refine wpAnyH_take (i:=5) (v:=.agg (aF m)) rfl af af af (fun _ _ _ h=>h) (aZ af 54 (.tmp 7) rfl xb rfl 54 (aF m) (0,0) _ (fun w h=>h) Tryz.underlying54 rfl A8) aw ?_
   try simp only[Act.put,aS]
   refine bj 6 (fun K hK=>?_)
   go_simp
   go_at_call 97;refine hP.out.mono ?_;rintro e w4 ⟨rfl,F8,B0⟩
   refine hK.out _ _ ?_ (fun A4=>?_)
   ·(try dsimp only);exact B0.heap A4 D4
   clear hK K
   try simp only[Act.put,aS]
   refine wpAnyH_done af ?_ _
   refine NoPanic.normal ?_
   go_wp2_with fail
   refine⟨⟨i+1,aa,aD,by rw[C6.out];exact F8,F7.out.drew.trans B0,fun _=>D5.out.drew.keep B0 (fun e=>B2 e.symm)⟩,by simp[aC];omega⟩
  ·obtain rfl:i=n:=aa
   have A2:=MI hB
   have U:=MI hK
   have C5:=A5.out i Me
   have G5:=fun W=>Ij ib 0 L cap (16+64*i) aa hz W
   have hD:=D2.out wr
   have F9:=sum_any (some ⟨ib,0,none⟩) (16+64*i) cap _ wr ((Blk.ints hB L C5 aE (A6.out i Me)).take aa)
   have G6:=wJ ((hdS zs ms size i).take (16+64*i)) (fun c hc=>A6.out i Me c (List.mem_of_mem_take hc))
   have I:=lF ib 0 L cap (hdS zs ms size i) (16+64*i) 4 (gm ((hdS zs ms size i).take (16+64*i))).toNat aq aa aa aa aa wr hB
   have B1:=B5.out
   generalize gm ((hdS zs ms size i).take (16+64*i))=cr at*
   obtain⟨cn,rfl⟩: ∃cn:Nat,cr=(cn:Int):=⟨cr.toNat,aa⟩
   rw[Int.toNat_natCast] at I B1
   rw[Nat.zero_add,←B1] at I
   have I:=I
   clear hB hK hS B1 B5
   go_upto_region 10 with(go_at_call 44;refine hD.mono ?_;rintro e w4 ⟨rfl,rfl⟩)
   rw[show(20+64*(i:Int) - 4)=((16+64*i:Nat):Int) by omega]
   generalize 16+64*i=nn at*
   rw[show((4:Nat):Int)=4 from rfl] at I
   have I:=MI I
   have G7:IntKind.i64.wrap (cn:Int)=(cn:Int):=IntWalk.i64_in _ aa
   go_wp2_with (first | (go_at_call 46;refine F9.mono ?_;rintro e w5 ⟨rfl,rfl⟩) | (go_at_call 96;refine I.out.mono ?_;rintro e w6 ⟨rfl,G0,G1⟩))
   go_end0
   exact⟨rfl,G0,U.out.trans G1⟩
end Go.Proofs.YtnicjahcgnhogaaGreatDoor
namespace Go.Proofs.YtnicjahcgnhogaaGreatDoor
open Go Go.RowKit Go.Calli
theorem LV(size:Nat)(ms:List Mt){i j:Nat}(h:i≤j):plA size ms i≤plA size ms j:=by
  induction j with
  | zero => obtain rfl : i = 0 := aa
            exact Me
  | succ j ih=>
    rcases Nat.lt_or_ge i (j+1) with h1 | h1
    · have h2:=ih aa
      have h3:=(nH (plA size ms j+4*frm (ms.getD j m0)) 16 aq).1
      simp only[plA]
      omega
    · obtain rfl:i=j+1:=aa
      exact Me
theorem plA_few(size:Nat)(hs:size≤96)(ms:List Mt)(hm: ∀i,i<ms.length→frm (ms.getD i m0)≤20): ∀i,i≤ms.length→plA size ms i≤20+64*ms.length+2020*i:=by
 intro i
 induction i with
 | zero=>intro _;simp[plA]
 | succ i ih=>
  intro hi
  have h1:=ih aa
  have h2:=hm i aa
  have h3:=(nH (plA size ms i+4*frm (ms.getD i m0)) 16 aq).2
  have h4:=Nat.mul_le_mul hs h2
  simp only[plA]
  omega
structure SmS(s:Sr):Prop where
 ck:kR s
 sm: ∀l ∈ s.cs,l.length≤150
theorem SmS.len{s:Sr}(h:SmS s):1≤gQ s∧gQ s≤150:=by
 refine⟨h.ck.2.2.1.2.1,?_⟩
 unfold gQ
 have h1:=h.ck.2.2.1.1.1
 apply h.sm
 rw[List.getD,List.getElem?_eq_getElem aa]
 exact List.getElem_mem _
theorem SmS.ls{s:Sr}(h:SmS s):(0≤s.rate∧s.rate≤192000)∧(0≤s.ls∧s.ls≤150)∧(0≤s.le∧s.le≤150):=by
 have h1:=h.ck.2.1
 have h2:=h.ck.2.2.2.1
 have h3:=h.len
 unfold oG at h2
 refine⟨aa,?_⟩
 split at h2
 ·have h4:=of_decide_eq_true h2;omega
 ·have h4:=of_decide_eq_true h2;omega
theorem SmS.frm{s:Sr}(h:SmS s):frm (dB s)≤20:=by
 have h1:=h.len.2
 have h2:=h.ck.2.2.1.1.2
 have h3:aO (gQ s)≤10:=by unfold aO;omega
 exact Nat.mul_le_mul h3 h2
theorem Es(L:List Sr){i:Nat}(hi:i<L.length):(L.map dB).getD i m0=dB (L.getD i sr0):=by
 simp[List.getD,List.getElem?_map,hi]
theorem uN{L:List Sr}{i:Nat}(hi:i<L.length):L.getD i sr0 ∈ L:=by
 rw[List.getD,List.getElem?_eq_getElem hi];exact List.getElem_mem _
structure PkF(size LL:Nat)(m:Mt)(s:Sr):Prop where
 ch:m.ch=s.cs.length
 f:m.first+size*(aO (gQ s)*s.cs.length)≤LL
 s4:m.sums+4*(aO (gQ s)*s.cs.length)≤LL
 b:MtB m
theorem pkf(size:Nat)(hs:size≤96)(L:List Sr)(hL:L.length<12)(h: ∀s ∈ L,SmS s)(n:Nat)(hn:n=L.length):20+64*n≤upZ (plA size (L.map dB) n) 64∧upZ (plA size (L.map dB) n) 64≤60000∧∀i,i<n→PkF size (upZ (plA size (L.map dB) n) 64) ((plL size (L.map dB) n).getD i m0) (L.getD i sr0):=by
 subst hn
 have hf: ∀i,i<(L.map dB).length→frm ((L.map dB).getD i m0)≤20:=fun i hi=>by
  rw[List.length_map] at hi
  rw[Es L hi]
  exact(h _ (uN hi)).frm
 have hA:=plA_few size hs (L.map dB) hf L.length (by rw[List.length_map];omega)
 have hU:=nH (plA size (L.map dB) L.length) 64 aq
 have h0:=LV size (L.map dB) (Nat.zero_le L.length)
 simp only[plA,List.length_map] at h0 hA
 generalize R:upZ (plA size (L.map dB) L.length) 64=LL at*
 refine⟨aa,aa,fun i hi=>?_⟩
 have hS:=h _ (uN hi)
 have hg:(plL size (L.map dB) L.length).getD i m0=plM size (L.map dB) i:=by
  have:=F9 size (L.map dB) i (by rw[List.length_map];exact hi)
  rwa [List.length_map] at this
 have hm:=Es L hi
 have h1:=LV size (L.map dB) (show i+1≤L.length by omega)
 have h2:=(nH (plA size (L.map dB) i+4*frm ((L.map dB).getD i m0)) 16 aq).1
 simp only[plA] at h1
 have hq:frm ((L.map dB).getD i m0)=aO (gQ (L.getD i sr0))*(L.getD i sr0).cs.length:=by rw[hm];rfl
 rw[hg]
 unfold plM
 have hlen:=hS.len
 have U:=hS.ls
 have J:=hS.ck.2.2.1.1.2
 have I:=hS.ck.1
 refine⟨by show((L.map dB).getD i m0).ch=_;rw[hm];rfl,?_,?_,⟨?_,fun k=>?_,by show((L.map dB).getD i m0).ch≤2;rw[hm];exact J⟩⟩
 ·rw[←hq];show upZ _ 16+_≤_;omega
 ·rw[←hq];show plA _ _ _+_≤_;omega
 ·show((L.map dB).getD i m0).nm.size≤32
  rw[hm]
  show(strOfNums _).size≤32
  rw[strOfNums_size]
  unfold ku at I
  simp only[Bool.and_eq_true,decide_eq_true_eq] at I
  exact I.1.2
 ·show(([((L.map dB).getD i m0).len,((L.map dB).getD i m0).rate,((L.map dB).getD i m0).ls,((L.map dB).getD i m0).le,plA size (L.map dB) i,upZ (plA size (L.map dB) i+4*frm ((L.map dB).getD i m0)) 16]:List Nat).getD k 0)<4294967296
  rw[show((L.map dB).getD i m0).len=gQ (L.getD i sr0) by rw[hm];rfl,show((L.map dB).getD i m0).rate=(L.getD i sr0).rate.toNat by rw[hm];rfl,show((L.map dB).getD i m0).ls=(L.getD i sr0).ls.toNat by rw[hm];rfl,show((L.map dB).getD i m0).le=(L.getD i sr0).le.toNat by rw[hm];rfl]
  match k with
  | 0=>show gQ _<_;omega
  | 1=>show Int.toNat _<_;omega
  | 2=>show Int.toNat _<_;omega
  | 3=>show Int.toNat _<_;omega
  | 4=>show plA _ _ _<_;omega
  | 5=>show upZ _ _<_;omega
  | k+6=>show 0<_;omega
end Go.Proofs.YtnicjahcgnhogaaGreatDoor
namespace Go.Proofs.YtnicjahcgnhogaaGreatDoor
open Go Go.RowKit Go.Calli
attribute [local irreducible] wpStill wpAnyH wpAnyS wpList Code.wp
def Ha(w:World)(e:Ending)(w':World):Prop:=∃g z,e= .returned (.slice (some ⟨g,0,none⟩) 8 8)∧w.heap.size≤g∧z.length=8∧Blk .i64 w' g 2 z∧wfL z∧Below w.heap.size w w'
theorem GR(ao:Addr)(cap:Nat)(l:List Int)(w:World)(h:Ints .i64 w (some ao) 8 l):Calls Tryz.prog 218 #[.slice (some ao) 8 cap] w (Ha w):=by
 obtain⟨i2,A7,hu2,A8,A9⟩:=(show ∃i2:TypeInfo,Tryz.prog.info? 2=some i2∧i2.zero=some (.int .i64 0)∧i2.size=1∧i2.bytes=8 from⟨_,rfl,rfl,rfl,rfl⟩)
 have HI:=MI h
 have B5:ao.block<w.heap.size:=h.under aa ao rfl
 clear h
 go_enter Tryz.func218,Tryz.ntmps218
 go_upto_region 3 with(at_make;refine wpList_make_full _ rfl _ _ 68 rfl w.heap.size 2 _ _ _ Tryz.underlying68 A7 hu2 A8 _ _ _ _ 8 rfl rfl rfl rfl (by rw[A9];omega) aE Me ?_;intro w3 R J)
 have U:Below w.heap.size w w3:=((ag.refl (fun _=>False) w).grown J (fun k hk=>by cases hk)).aW Me (fun _ _ e=>e.elim)
 have A0:=qN R
 have HB:=MI U
 have A1:=MI (HI.out.aj U)
 have A2:=MI A0
 clear R J U A0 HI
 go_loopw [4,5,11] (fun v4 v5 v11 wr=>∃(i m:Nat)(z:List Int),i≤8∧v11= .int .i64 (i:Int)∧z.length=8∧wfL z∧Blk .i64 wr w.heap.size 2 z∧Below w.heap.size w wr∧Ints .i64 wr (some ao) 8 l) (fun _ _ v11 _=>8 - aC v11)
 case atStart=>exact⟨0,0,_,aa,rfl,ar,by intro z hz;simp at hz;subst hz;decide,A2.out,HB.out,A1.out⟩
 case round=>
  clear A2 HB A1
  obtain⟨i,m,z,hi,rfl,A3,A4,hZ,I,hI⟩:=hrel
  by_cases A5:i<8
  ·have B4:(i:Int)<8:=aa
   obtain⟨k,hk⟩: ∃k,7 - i=k:=⟨_,rfl⟩
   have B6:k<8:=aa
   have e1:IntKind.i64.wrap (7 - (i:Int))=(k:Int):=by rw[IntWalk.i64_in _ aa];omega
   have hc:=hI.cell i A5
   obtain⟨a2,B0,hc⟩:=hc
   cases B0
   have B1:=hI.wf (l.getD i 0) (by rw[List.getD,List.getElem?_eq_getElem (by rw[hI.hlen];exact A5)];exact List.getElem_mem _)
   generalize l.getD i 0=li at*
   have hd:=Blk.cell hZ (i:=k) aa
   have hf:=Blk.frozen hZ k
   generalize z.getD k 0=zk at*
   have B2:=MI (Blk.set hZ k li)
   have j:=aA wr w.heap.size k (.int .i64 li)
   have o:=MI (((ag.au (S:=fun _=>False) I Me).andThen j (fun q hq e=>aa)).aW Me (fun _ _ e=>e))
   have B3:Hid (Ints .i64 (wr.setCell ⟨w.heap.size,k,none⟩ (.int .i64 li)) (some ao) 8 l):=hI.kept j (fun a ha e=>by cases ha;omega)
   have A6:Hid (wfL (z.set k li)):=fun x hx=>by
    rcases List.mem_or_eq_of_mem_set hx with hx | rfl
    ·exact A4 x hx
    ·exact B1
   clear hk hZ I hI j
   go_wp2_with fail
   exact⟨⟨i+1,m,_,aa,aD,by rw[List.length_set];exact A3,A6.out,B2.out,o.out,B3.out⟩,by simp[aC];omega⟩
  ·obtain rfl:i=8:=aa
   have B7:¬((8:Nat):Int)<8:=aa
   have HE:Hid (Ha w (.returned (.slice (some ⟨w.heap.size,0,none⟩) 8 8)) wr):=⟨_,z,rfl,Me,A3,hZ,A4,I⟩
   clear hZ I hI
   go_wp2_with fail
   go_ret
   exact HE.out
structure TrS(base g c cap gx:Nat)(w:World):Prop where
 x: ∃zx,zx.length=8∧wfL zx∧Blk .i64 w gx 2 zx
 y: ∃z,wfL z∧z.length=c*16∧w.ownsRow base 194 16 (.slice (some ⟨g,0,none⟩) c cap) c (iL z)
theorem TrS.aj{base g c cap gx:Nat}{w w':World}(h:TrS base g c cap gx w)(hb:Below w.heap.size w w'):TrS base g c cap gx w':=by
 obtain⟨⟨zx,h1,h2,h3⟩,z,h4,h5,h6⟩:=h
 exact⟨⟨zx,h1,h2,h3.aj hb⟩,z,h4,h5,aQ h6 hb⟩
theorem TrS.ne{base g c cap gx:Nat}{w:World}(h:TrS base g c cap gx w):gx≠g:=fun e=>by
 obtain⟨⟨zx,h1,h2,h3⟩,z,h4,h5,h6⟩:=h
 obtain⟨cs,I⟩:=ah h6 (k:=g) rfl
 unfold Blk at h3
 rw[e,I] at h3
 simp at h3
theorem TrS.cx{base g c cap gx:Nat}{w:World}(h:TrS base g c cap gx w){k:Nat}(hk:k<8): ∃v,w.cell? ⟨gx,k,none⟩=some (.int .i64 v)∧w.frozen? ⟨gx,k,none⟩=false:=by
 obtain⟨⟨zx,h1,h2,h3⟩,-⟩:=h
 exact⟨_,h3.cell aa,h3.frozen k⟩
theorem TrS.cy{base g c cap gx:Nat}{w:World}(h:TrS base g c cap gx w){o:Nat}(ho:o<c*16): ∃v,w.cell? ⟨g,o,none⟩=some (.int .i64 v)∧w.frozen? ⟨g,o,none⟩=false:=by
 obtain⟨-,z,h4,h5,h6⟩:=h
 have h7:=h6.cells (g:=g) rfl o (.int .i64 (z.getD o 0)) (by unfold iL;rw[List.getElem?_map,List.getElem?_eq_getElem aa];simp[List.getD,show o<z.length by omega])
 rw[add0,Nat.zero_add] at h7
 exact⟨_,h7,(bJ h6 o 1 aa 0 aa).2⟩
theorem TrS.setx{base g c cap gx:Nat}{w:World}(h:TrS base g c cap gx w){k:Nat}(hk:k<8){v:Int}(hv:(Lit.int .i64 v).wf=true):TrS base g c cap gx (w.setCell ⟨gx,k,none⟩ (.int .i64 v)):=by
 have I:=h.ne
 obtain⟨⟨zx,h1,h2,h3⟩,z,h4,h5,h6⟩:=h
 refine⟨⟨zx.set k v,by rw[List.length_set];exact h1,fun x hx=>?_,h3.set k v⟩,z,h4,h5,aB h6 (aA w gx k _) (fun q hq e=>by cases hq;exact I e.symm)⟩
 rcases List.mem_or_eq_of_mem_set hx with hx | rfl
 ·exact h2 x hx
 ·exact hv
theorem TrS.sety{base g c cap gx:Nat}{w:World}(h:TrS base g c cap gx w){o:Nat}(ho:o<c*16){v:Int}(hv:(Lit.int .i64 v).wf=true):TrS base g c cap gx (w.setCell ⟨g,o,none⟩ (.int .i64 v)):=by
 have I:=h.ne
 obtain⟨⟨zx,h1,h2,h3⟩,z,h4,h5,h6⟩:=h
 have h7:=iZ h6 rfl o [.int .i64 v] (by simp;omega)
 have h8:iL (aT z o [v])=aT (iL z) o [.int .i64 v]:=by simp[iL,aT,List.map_take,List.map_drop]
 refine⟨⟨zx,h1,h2,h3.kept (aA w g o _) I⟩,aT z o [v],fun x hx=>?_,by rw[gu _ _ _ (by simp;omega)];exact h5,by rw[h8];exact h7⟩
 unfold aT at hx
 rcases List.mem_append.1 hx with hx | hx
 ·exact h4 x (List.mem_of_mem_take hx)
 ·rcases List.mem_append.1 hx with hx | hx
  ·simp at hx;subst hx;exact hv
  ·exact h4 x (List.mem_of_mem_drop hx)
def TrnP(base g c cap gx:Nat)(w:World)(e:Ending)(w':World):Prop:=e= .returned (.tuple #[])∧TrS base g c cap gx w'∧ag (fun q=>q=g∨q=gx) w w'
theorem turn194(base g c cap gx i0:Nat)(C1:i0<c)(hc:c≤10000)(w:World)(h:TrS base g c cap gx w):Calls Tryz.prog 194 #[.agg (iA aJ),.slice (some ⟨gx,0,none⟩) 8 8,.slice (some ⟨g,i0*16,none⟩) 8 16] w (TrnP base g c cap gx w):=by
 have hz:=MI (L9 w (.cells (iA aJ) 174))
 have hb:=ae w (.cells (iA aJ) 174)
 have HT:=MI (h.aj hb)
 have j:=MI ((ag.refl (fun q=>q=g∨q=gx) w).alloc (.cells (iA aJ) 174))
 have A6:g<w.heap.size:=by
  obtain⟨-,z,-,-,h6⟩:=h
  exact gX h6 rfl
 have A7:gx<w.heap.size:=by
  obtain⟨⟨zx,-,-,h3⟩,-⟩:=h
  exact h3.lt
 have A0:=h.ne
 have HL:=MI (fun p u a b w=>Az p u a b w)
 unfold Ap at HL
 have C2:aJ.length=16:=af
 clear h hb
 go_enter Tryz.func194,Tryz.ntmps194
 go_upto_region 1 with fail
 generalize w.alloc (.cells (iA aJ) 174)=W at*
 go_upto_region 2 with fail
 go_loopw [6,12] (fun v6 v12 wr=>∃k:Nat,k≤8∧v12= .int .i64 (k:Int)∧TrS base g c cap gx wr∧wr.heap[w.heap.size]? =some (.cells (iA aJ) 174 (0,0))∧ag (fun q=>q=g∨q=gx) w wr) (fun _ v12 _=>8 - aC v12)
 case atStart=>exact⟨0,aa,rfl,HT.out,hz.out,j.out⟩
 case round=>
  clear HT hz j
  obtain⟨k,hk,rfl,hT,hz,hK⟩:=hrel
  by_cases R:k<8
  ·have B8:(k:Int)<8:=aa
   obtain⟨xv,hx,C3⟩:=hT.cx R
   obtain⟨yv,hy,C4⟩:=hT.cy (o:=i0*16+k) aa
   have t0:=aH (k:=k*2) hz aa
   have t1:=aH (k:=k*2+1) hz aa
   generalize aJ.getD (k*2) 0=p0 at*
   generalize aJ.getD (k*2+1) 0=p1 at*
   have A8:=(turn_wf p0 p1 xv yv).1
   have A9:=(turn_wf p0 p1 xv yv).2
   have HT:=MI hT
   have HZ:=MI hz
   have HK:=MI hK
   have B0:g<wr.heap.size:=Nat.lt_of_lt_of_le A6 hK.size
   have B1:gx<wr.heap.size:=Nat.lt_of_lt_of_le A7 hK.size
   clear hT hz hK
   go_upto_region 4 with fail
   have B9:¬g=gx:=fun e=>A0 e.symm
   have C0:¬gx=g:=A0
   have B2:=MI (HL.out p0 p1 xv yv)
   generalize nZ p0 p1 xv yv=tz at*
   go_region_law (go_simp;go_at_call 196;refine(B2.out _).mono ?_;rintro e w2 ⟨rfl,I⟩;have B3:=(I.cell (p:=⟨gx,k,none⟩) B1).trans hx;have B4:=(I.cell (p:=⟨g,i0*16+k,none⟩) B0).trans hy;have J:=MI (HT.out.aj (show Below wr.heap.size wr w2 from((Below.refl _ wr).drew).trans I));obtain⟨-,-,A4⟩:=J.out.cx R;obtain⟨-,-,A5⟩:=J.out.cy (o:=i0*16+k) aa)
   all_goals (
    have U:Below wr.heap.size wr w2:=((Below.refl _ wr).drew).trans I
    have B5:=MI ((J.out.setx R A8).sety (o:=i0*16+k) aa A9)
    have A1:w2.heap[w.heap.size]? =some (.cells (iA aJ) 174 (0,0)):=cZ HZ.out U (L8 HZ.out)
    have A2:=((HK.out.andThen (ag.au (S:=fun _=>False) U Me) (fun _ _ e=>e.elim)).setCell (p:=⟨gx,k,none⟩) (.inr (.inr rfl)) (.int .i64 tz.1)).setCell (p:=⟨g,i0*16+k,none⟩) (.inr (.inl rfl)) (.int .i64 tz.2)
    have A3:=(aA (w2.setCell ⟨gx,k,none⟩ (.int .i64 tz.1)) g (i0*16+k) (.int .i64 tz.2)).heap ((aA w2 gx k (.int .i64 tz.1)).heap A1 aa) aa
    have B6:=MI A2
    have B7:=MI A3
    clear U A1 A2 A3 B3 B4 A4 A5 J I
    generalize (w2.setCell ⟨gx,k,none⟩ (.int .i64 tz.1)).setCell ⟨g,i0*16+k,none⟩ (.int .i64 tz.2)=W9 at*
    go_wp2_with fail
    exact⟨⟨k+1,aa,aD,B5.out,B7.out,B6.out⟩,by simp[aC];omega⟩)
  ·obtain rfl:k=8:=aa
   have C5:¬((8:Nat):Int)<8:=aa
   have HE:Hid (TrnP base g c cap gx w (.returned (.tuple #[])) wr):=⟨rfl,hT,hK⟩
   clear hT hz hK
   go_wp2_with fail
   go_end0
   exact HE.out
end Go.Proofs.YtnicjahcgnhogaaGreatDoor
