/- Part 19 of the walk: contracts of the program's functions, each for every input. No condition. -/
import Derived.Test.YtnicjahcgnhogaaGreatDoorQ17
import Derived.Test.YtnicjahcgnhogaaGreatDoorQ13
import Derived.Lib.Bytes
import Derived.Test.YtnicjahcgnhogaaGreatDoorQ00
import Derived.Test.YtnicjahcgnhogaaGreatDoorQ01
import Derived.Test.YtnicjahcgnhogaaGreatDoorQ03
import Derived.Test.YtnicjahcgnhogaaGreatDoorQ02
import Derived.Test.YtnicjahcgnhogaaGreatDoorQ07
set_option linter.unusedVariables false
set_option linter.unusedSimpArgs false
set_option maxRecDepth 100000
set_option maxHeartbeats 8000000
namespace Go.Proofs.YtnicjahcgnhogaaGreatDoor
open Go Go.RowKit Go.Calli
attribute [local irreducible] wpStill wpAnyH wpAnyS wpList Code.wp
theorem xH(D:Bd)(B:Bk)(t:ByteArray)(w:World)(h:jX D w B):Calls Tryz.prog 11 #[.pointer (some ⟨D.bb,0,none⟩),.string t] w (BsP B.dir t w):=by
 have hN:=MI (ry D B w h)
 have hB:=MI (bs_any D B t w h)
 obtain⟨c0,c1,c2⟩:=dB h.row
 clear h
 unfold BsP at*
 go_enter Tryz.func11,Tryz.ntmps11
 go_wp2_with (first
  | (go_at_call 28;refine hN.out.mono ?_;rintro e w' ⟨rfl,rfl⟩)
  | (go_at_call 29;refine hB.out.mono ?_;rintro e w' ⟨rfl,hb⟩))
 go_ret2
 exact⟨rfl,hb⟩
theorem Kt{d:List Mt}{t:ByteArray}(h:fM d t=true):gm d t<d.length:=(of_decide_eq_true h).1
def Byt(l:List Int):Prop:=∀z ∈ l,0≤z∧z<256
theorem nums_at(l:List Int)(hb:Byt l)(k:Nat)(hk:k<l.length)(hs:k<(strOfNums l).size):(((strOfNums l)[k]'hs).toNat:Int)=l.getD k 0:=by
 have h:=hb (l.getD k 0) (by rw[show l.getD k 0=l[k] by simp[List.getD,hk]];exact List.getElem_mem _)
 rw[show l.getD k 0=l[k] by simp[List.getD,hk]] at h⊢
 have e:(strOfNums l)[k]'hs=(strOfNums l).data[k]'hs:=rfl
 rw[e]
 simp only[strOfNums,List.getElem_toArray,List.getElem_map]
 simp
 omega
theorem uI(l:List Int)(hb:Byt l)(k:Nat)(hk:k<l.length)(w:World):(Instr.index 9 (.string (strOfNums l)) (.int .i64 (k:Int))).run Tryz.prog w= .ok (.int .u8 (l.getD k 0)) w:=by
 rw[run_index_string w 9 _ .i64 k Tryz.underlying9,dif_pos ⟨by omega,by rw[strOfNums_size];omega⟩]
 congr 2
 exact nums_at l hb k hk (by rw[strOfNums_size];exact hk)
theorem xg{l:List Int}{k:Nat}(h:k<l.length):l.getD k 0 ∈ l:=by
 rw[show l.getD k 0=l[k] by simp[List.getD,h]];exact List.getElem_mem _
theorem uu(l:List Int):(strOfNums l).toList.isEmpty=decide (l.length=0):=by
 rw[Lib.strOfNums_toList]
 cases l<;>simp[Lib.bytesOf]
theorem Byt.take{l:List Int}(h:Byt l)(k:Nat):Byt (l.take k):=fun z hz=>h z (List.mem_of_mem_take hz)
theorem E5{l:List Int}{k n:Nat}(h:k<n):(l.take n).getD k 0=l.getD k 0:=by simp[List.getD,List.getElem?_take,h]
def sW(l:List Int):Nat→Nat
 | 0=>0
 | k+1=>if l.getD k 0=0 then sW l k else k+1
def oK(l:List Int):List Int:=l.take (sW l l.length)
theorem Fa(l:List Int)(hb:Byt l)(hl:l.length≤100000)(w:World):Calls Tryz.prog 115 #[.string (strOfNums l),.int .u8 0] w (fun e w'=>e= .returned (.string (strOfNums (oK l)))∧w=w'):=by
 have HR:=MI (show oK l=l.take (sW l l.length) from rfl)
 generalize oK l=R at*
 go_enter Tryz.func115,Tryz.ntmps115
 go_wp2_with fail
 go_loopw [0] (fun v0 wr=>∃k:Nat,k≤l.length∧v0= .string (strOfNums (l.take k))∧Hid (R=l.take (sW l k))∧w=wr) (fun v0 _=>match v0 with | .string s=>s.size | _=>0)
 case atStart=>exact⟨l.length,Me,by rw[List.take_of_length_le Me],HR,rfl⟩
 case round=>
  clear HR
  obtain⟨k,hk,rfl,hR,rfl⟩:=hrel
  cases k with
  | zero=>
   have hR2:=MI (show R=[] by rw[hR.out];rfl)
   have hsz:(strOfNums (l.take 0)).size=0:=by rw[strOfNums_size];simp
   have HT:=MI (show strOfNums (l.take 0)=strOfNums [] by simp)
   clear hR
   generalize strOfNums (l.take 0)=S at*
   go_wp2_with fail
   go_ret
   exact⟨by rw[hR2.out];exact congrArg (fun z=>Ending.returned (.string z)) HT.out,rfl⟩
  | succ k=>
   have hsz:(strOfNums (l.take (k+1))).size=k+1:=by rw[strOfNums_size,List.length_take];omega
   have hix: ∀w,(Instr.index 9 (.string (strOfNums (l.take (k+1)))) (.int .i64 (k:Int))).run Tryz.prog w= .ok (.int .u8 (l.getD k 0)) w:=fun w=>by
    rw[uI _ (hb.take _) k (by rw[List.length_take];omega),E5 (by omega)]
   have hex:(strOfNums (l.take (k+1))).extract 0 k=strOfNums (l.take k):=by rw[pF,List.drop_zero,List.take_take];congr 2;omega
   have HU:=MI (show sW l (k+1)=if l.getD k 0=0 then sW l k else k+1 from rfl)
   have e1:IntKind.i64.wrap (((k+1:Nat):Int) - 1)=(k:Int):=by rw[IntWalk.i64_in _ (by omega)];omega
   have e2:IntKind.i64.wrap ((k:Int)+1 - 1)=(k:Int):=by rw[IntWalk.i64_in _ (by omega)];omega
   have hsz2:(strOfNums (l.take k)).size=k:=by rw[strOfNums_size,List.length_take];omega
   have HX:=MI hex
   have hkb:k+1≤100000:=by omega
   by_cases hz:l.getD k 0=0
   ·have hR2:=MI (show R=l.take (sW l k) by rw[hR.out,HU.out,if_pos hz])
    rw[hz] at hix
    have HT2:=MI (show strOfNums (l.take k)=strOfNums (l.take k) from rfl)
    clear hR hb HU hz
    generalize strOfNums (l.take (k+1))=S at*
    obtain⟨S2,hS2⟩: ∃S2,S2=strOfNums (l.take k):=⟨_,rfl⟩
    rw[←hS2] at hex hsz2 HX
    have HT2:=MI hS2
    clear hS2
    go_wp2_with fail
    exact⟨⟨k,by omega,by rw[HT2.out],hR2,trivial⟩,by show S2.size<S.size;omega⟩
   ·have hR2:=MI (show R=l.take (k+1) by rw[hR.out,HU.out,if_neg hz])
    have hne:(l.getD k 0==0)=false:=by simpa using hz
    obtain⟨S,hS⟩: ∃S,S=strOfNums (l.take (k+1)):=⟨_,rfl⟩
    rw[←hS] at hsz hix hex HX⊢
    have HT:=MI hS
    clear hR hb HU hz hsz2 hS
    generalize l.getD k 0=c at*
    go_wp2_with fail
    go_ret
    exact⟨by rw[hR2.out,←HT.out];rfl,rfl⟩
theorem Iy(l:List Int)(hb:Byt l)(h0:0<l.length)(hl:l.length≤100000)(w:World):Calls Tryz.prog 80 #[.string (strOfNums l),.string (ByteArray.mk #[0])] w (fun e w'=>e= .returned (.string (strOfNums (oK l)))∧w=w'):=by
 have HC:=MI (Fa l hb hl w)
 have hem:(strOfNums l).toList.isEmpty=false:=by rw[uu];simpa using(by intro e;rw[e] at h0;simp at h0)
 generalize strOfNums (oK l)=R at*
 generalize strOfNums l=S at*
 go_enter Tryz.func80,Tryz.ntmps80
 go_wp2_with (go_at_call 115;refine HC.out.mono ?_;rintro e w1 ⟨rfl,rfl⟩)
 go_ret
 exact⟨rfl,rfl⟩
def ku(l:List Int):Bool:=decide (0<l.length∧l.length≤32)&&l.all (fun z=>decide (32<z∧z<127))
theorem Lh{l:List Int}{p:Int→Bool}(h: ∀i,i<l.length→p (l.getD i 0)=true):l.all p=true:=by
 rw[List.all_eq_true]
 intro x hx
 obtain⟨i,hi,rfl⟩:=List.mem_iff_getElem.1 hx
 have:=h i hi
 rwa [show l.getD i 0=l[i] by simp[List.getD,hi]] at this
theorem all_not{l:List Int}{p:Int→Bool}{i:Nat}(hi:i<l.length)(h:p (l.getD i 0)=false):l.all p=false:=by
 rw[←Bool.not_eq_true,List.all_eq_true]
 intro h2
 have:=h2 _ (xg hi)
 rw[h] at this
 cases this
theorem uH(l:List Int)(hb:Byt l)(hl:l.length≤1000000000000)(w:World):Calls Tryz.prog 119 #[.string (strOfNums l)] w (fun e w'=>e= .returned (.bool (ku l))∧w=w'):=by
 have hsz:(strOfNums l).size=l.length:=strOfNums_size l
 have hem:=uu l
 have HD:=MI (show ku l=(decide (0<l.length∧l.length≤32)&&l.all (fun z=>decide (32<z∧z<127))) from rfl)
 have hix:=fun k hk w=>uI l hb k hk w
 generalize ku l=R at*
 obtain⟨S,hS⟩: ∃S,S=strOfNums l:=⟨_,rfl⟩
 rw[←hS] at hsz hem hix⊢
 clear hS
 by_cases h0:l.length=0
 ·have hR:=MI (show R=false by rw[HD.out,h0];rfl)
  have hem2:S.toList.isEmpty=true:=by rw[hem];simpa using h0
  clear HD hem hix
  go_enter Tryz.func119,Tryz.ntmps119
  go_wp2_with fail
  go_ret
  exact⟨by rw[hR.out];rfl,rfl⟩
 have hem2:S.toList.isEmpty=false:=by rw[hem];simpa using h0
 by_cases h32:32<l.length
 ·have hR:=MI (show R=false by rw[HD.out,decide_eq_false (by omega)];rfl)
  clear HD hem hix
  go_enter Tryz.func119,Tryz.ntmps119
  go_wp2_with fail
  go_ret
  exact⟨by rw[hR.out];rfl,rfl⟩
 have HD2:=MI (show R=l.all (fun z=>decide (32<z∧z<127)) by rw[HD.out,decide_eq_true (by omega)];rfl)
 have h32':l.length≤32:=by omega
 have h32'':¬(32:Int)<(l.length:Int):=by omega
 have HB:=MI hb
 clear HD hem
 go_enter Tryz.func119,Tryz.ntmps119
 go_wp2_with fail
 go_loopw [13] (fun v13 wr=>∃k:Nat,k≤l.length∧v13= .int .i64 (k:Int)∧Hid (∀i,i<k→(decide (32<l.getD i 0∧l.getD i 0<127))=true)∧w=wr) (fun v13 _=>l.length - aG v13)
 case atStart=>exact⟨0,by omega,rfl,(fun i hi=>by omega),rfl⟩
 case round=>
  obtain⟨k,hk,rfl,hP,rfl⟩:=hrel
  by_cases hlt:k<l.length
  ·have hlt2:(k:Int)<(l.length:Int):=by omega
   have hixk:=hix k hlt
   have hbk:=HB.out _ (xg hlt)
   have HN:=MI (fun h=>all_not (p:=fun z=>decide (32<z∧z<127)) hlt h)
   have HS:Hid (decide (32<l.getD k 0∧l.getD k 0<127)=true→∀i,i<k+1→(decide (32<l.getD i 0∧l.getD i 0<127))=true):=fun h i hi=>by
    rcases Nat.lt_or_ge i k with h1 | h1
    ·exact hP.out i h1
    ·obtain rfl:i=k:=by omega
     exact h
   clear hix hP hem2
   generalize l.getD k 0=c at*
   by_cases h1:c≤32
   ·have hR:=MI (show R=false by rw[HD2.out,HN.out (decide_eq_false (by omega))])
    clear HN HS
    go_wp2_with fail
    go_ret
    exact⟨by rw[hR.out];rfl,rfl⟩
   by_cases h2:127≤c
   ·have hR:=MI (show R=false by rw[HD2.out,HN.out (decide_eq_false (by omega))])
    clear HN HS
    go_wp2_with fail
    go_ret
    exact⟨by rw[hR.out];rfl,rfl⟩
   have HS2:=MI (HS.out (decide_eq_true (by omega)))
   clear HN HS
   go_wp2_with fail
   exact⟨⟨k+1,by omega,by go_num,HS2.out,trivial⟩,by simp[aG];omega⟩
  ·obtain rfl:k=l.length:=by omega
   have hR:=MI (show R=true by rw[HD2.out];exact Lh hP.out)
   have hnl:¬(l.length:Int)<(l.length:Int):=by omega
   clear hix hP
   go_wp2_with fail
   go_ret
   exact⟨by rw[hR.out];rfl,rfl⟩
def oO(is:Bool)(a b n:Int):Bool:=if is then decide (0≤a∧a<b∧b≤n) else decide (a=0∧b=0)
theorem vW(is:Bool)(a b n:Int)(w:World):Calls Tryz.prog 120 #[.bool is,.int .i64 a,.int .i64 b,.int .i64 n] w (fun e w'=>e= .returned (.bool (oO is a b n))∧w=w'):=by
 have HD:=MI (show oO is a b n=(if is then decide (0≤a∧a<b∧b≤n) else decide (a=0∧b=0)) from rfl)
 generalize oO is a b n=R at*
 cases is with
 | false=>
  have HD1:Hid (R=decide (a=0∧b=0)):=HD.out
  clear HD
  by_cases h1:a=0
  ·subst h1
   by_cases h2:b=0
   ·subst h2
    have hR:=MI (show R=true by rw[HD1.out];rfl)
    clear HD1
    go_enter Tryz.func120,Tryz.ntmps120
    go_wp2_with fail
    go_ret
    exact⟨by rw[hR.out];rfl,rfl⟩
   ·have hR:=MI (show R=false by rw[HD1.out];exact decide_eq_false (fun h=>h2 h.2))
    have hne:(b==0)=false:=by simpa using h2
    clear HD1
    go_enter Tryz.func120,Tryz.ntmps120
    go_wp2_with fail
    go_ret
    exact⟨by rw[hR.out];rfl,rfl⟩
  ·have hR:=MI (show R=false by rw[HD1.out];exact decide_eq_false (fun h=>h1 h.1))
   have hne:(a==0)=false:=by simpa using h1
   clear HD1
   go_enter Tryz.func120,Tryz.ntmps120
   go_wp2_with fail
   go_ret
   exact⟨by rw[hR.out];rfl,rfl⟩
 | true=>
  have HD1:Hid (R=decide (0≤a∧a<b∧b≤n)):=HD.out
  clear HD
  by_cases h1:0≤a
  ·by_cases h2:a<b
   ·by_cases h3:b≤n
    ·have hR:=MI (show R=true by rw[HD1.out];exact decide_eq_true ⟨h1,h2,h3⟩)
     clear HD1
     go_enter Tryz.func120,Tryz.ntmps120
     go_wp2_with fail
     go_ret
     exact⟨by rw[hR.out];rfl,rfl⟩
    ·have hR:=MI (show R=false by rw[HD1.out];exact decide_eq_false (fun h=>h3 h.2.2))
     clear HD1
     go_enter Tryz.func120,Tryz.ntmps120
     go_wp2_with fail
     go_ret
     exact⟨by rw[hR.out];rfl,rfl⟩
   ·have hR:=MI (show R=false by rw[HD1.out];exact decide_eq_false (fun h=>h2 h.2.1))
    clear HD1
    go_enter Tryz.func120,Tryz.ntmps120
    go_wp2_with fail
    go_ret
    exact⟨by rw[hR.out];rfl,rfl⟩
  ·have hR:=MI (show R=false by rw[HD1.out];exact decide_eq_false (fun h=>h1 h.1))
   clear HD1
   go_enter Tryz.func120,Tryz.ntmps120
   go_wp2_with fail
   go_ret
   exact⟨by rw[hR.out];rfl,rfl⟩
def byteAt(v size i:Nat):Int:=((v/2^(8*(size - 1 - i))%256:Nat):Int)
def jP(zs:List Int)(o size v:Nat):Nat→List Int
 | 0=>zs
 | k+1=>(jP zs o size v k).set (o+k) (byteAt v size k)
theorem kN(zs:List Int)(o size v:Nat): ∀k,(jP zs o size v k).length=zs.length:=by
 intro k
 induction k with
 | zero=>rfl
 | succ k ih=>simp only[jP,List.length_set,ih]
def NumP(b:Nat)(zs:List Int)(w:World)(e:Ending)(w':World):Prop:=e= .returned (.tuple #[])∧Blk .u8 w' b 5 zs∧af (fun k=>k=b) w w'
theorem kM(b off len cap:Nat)(zs:List Int)(at_ size v:Nat)(hs:size≤4)(hat:at_+size≤len)(hlen:off+len≤zs.length)(hz:zs.length≤60000)(hv:v<4294967296)(w:World)(h:Blk .u8 w b 5 zs):Calls Tryz.prog 96 #[.slice (some ⟨b,off,none⟩) len cap,.int .i64 at_,.int .i64 size,.int .i64 v] w (NumP b (jP zs (off+at_) size v size) w):=by
 go_enter Tryz.func96,Tryz.ntmps96
 go_wp2_with fail
 go_loopw [10] (fun v10 wr=>∃j:Nat,j≤size∧v10= .int .i64 (j:Int)∧Blk .u8 wr b 5 (jP zs (off+at_) size v j)∧af (fun k=>k=b) w wr) (fun v10 _=>size - aG v10)
 case atStart=>exact⟨0,by omega,rfl,h,af.refl _ _⟩
 case round=>
  obtain⟨j,hj,rfl,hB,hK⟩:=hrel
  by_cases hlt:j<size
  ·have hlt2:(j:Int)<(size:Int):=by omega
   have e1:IntKind.i64.wrap ((at_:Int)+(j:Int))=((at_+j:Nat):Int):=by rw[IntWalk.i64_in _ (by omega)];omega
   have e2:IntKind.i64.wrap ((size:Int) - 1)=((size - 1:Nat):Int):=by rw[IntWalk.i64_in _ (by omega)];omega
   have e3:IntKind.i64.wrap (((size - 1:Nat):Int) - (j:Int))=((size - 1 - j:Nat):Int):=by rw[IntWalk.i64_in _ (by omega)];omega
   have e4:IntKind.i64.wrap (8*((size - 1 - j:Nat):Int))=((8*(size - 1 - j):Nat):Int):=by rw[IntWalk.i64_in _ (by omega)];omega
   have e5:min (8*(size - 1 - j)) 64=8*(size - 1 - j):=by omega
   have hi1:at_+j<len:=by omega
   have hc:=hB.cell (i:=off+(at_+j)) (by rw[kN];omega)
   have hf:=hB.frozen (off+(at_+j))
   have hst:Blk .u8 (wr.setCell ⟨b,off+(at_+j),none⟩ (.int .u8 ((v:Int)/2^(8*(size - 1 - j))%256))) b 5 (jP zs (off+at_) size v (j+1)):=by
    have h1:=hB.set (off+(at_+j)) ((v:Int)/2^(8*(size - 1 - j))%256)
    have h2:(v:Int)/2^(8*(size - 1 - j))%256=byteAt v size j:=by unfold byteAt;simp
    rw[h2] at h1⊢
    rw[show jP zs (off+at_) size v (j+1)=(jP zs (off+at_) size v j).set (off+at_+j) (byteAt v size j) from rfl,Nat.add_assoc]
    exact h1
   go_wp2_with fail
   refine⟨⟨j+1,by omega,by go_num,hst,hK.setCell (p:=⟨b,off+(at_+j),none⟩) (.inr rfl) _⟩,by simp[aG];omega⟩
  ·obtain rfl:j=size:=by omega
   go_wp2_with fail
   go_end0
   exact⟨rfl,hB,hK⟩
theorem dR{P:Program}{w:World}{ops:Array Oper}{rest:List Oper}{o:Oper}{a:Act}{Q:Exit→Act→World→Prop}(hgd:o.guard=none)(s x:Operand)(t e:TypeId)(size:Nat)
  (ho:o.op= .call {callee:=.builtin .append,args:=#[s,x],argTypes:=#[t,t]}) (hu:P.underlying t=some (.slice e))
  {z:Value} {bytes:Nat} (hinfo:(P.info? e).map (fun i=>(i.zero,i.size,i.bytes))=some (some z,size,bytes)) (hz1:z.cells.size=size) (hs0:0<size)
  (B:Nat) (v:Value) (n:Nat) (xs:List Value) (hs:a.eval s=v) (hown:w.ownsRow B e size v n xs) (us:List Value) (hus:us.length=size) (hx:a.eval x= .slice (some ⟨w.heap.size,0,none⟩) 1 1) (h1: ∀u ∈ us,u.oneCell'=true)
  (hbd:(n+1)*bytes≤140737488355328) (hn:n+1≤maxLen) (hB:B≤w.heap.size)
  (h: ∀v' w',w'.ownsRow B e size v' (n+1) (xs++us)→af (fun k=>v.ownBlock=some k) w w'→(∀k,v'.ownBlock=some k→v.ownBlock=some k∨w.heap.size≤k)→wpList P ops Q rest (a.put o.dst v') w'):wpList P ops Q (o::rest) a (w.alloc (.cells us.toArray e)):=by
 obtain⟨v',w',hr,h2,h3,h4⟩:=Calli.fE (P:=P) w t o.type e size hu hinfo hz1 hs0 B v n xs hown us hus h1 hbd hn hB
 refine wpList_plain hgd fun K hK=>?_
 unfold Oper.wp execOp
 simp only[ho,resolve,invoke,builtin,Sem.run_bind,Sem.run_pure,Result.andThen_ok,List.map_toArray,List.map_cons,List.map_nil,hs,hx,hr]
 exact hK _ _ (h v' w' h2 h3 h4)
theorem kG{P:Program}(w:World)(t ty e:TypeId)(size:Nat)(hu:P.underlying t=some (.slice e))
  {z:Value} {bytes:Nat} (hinfo:(P.info? e).map (fun i=>(i.zero,i.size,i.bytes))=some (some z,size,bytes)) (hz1:z.cells.size=size) (hs0:0<size)
  (B:Nat) (v:Value) (n:Nat) (xs:List Value) (hown:w.ownsRow B e size v n xs) (ao:Option Addr) (m c:Nat) (us:List Value) (hus:us.length=m*size) (hcell: ∀a,ao=some a→∀j u,us[j]? =some u→w.cell? (a.add j)=some u) (hao:0<m→∃a,ao=some a) (h1: ∀u ∈ us,u.oneCell'=true)
  (hbd:(n+m)*bytes≤140737488355328) (hn:n+m≤maxLen) (hB:B≤w.heap.size):
  ∃v' w',(Builtin.append_ #[t,t] ty #[v,.slice ao m c]).run P w= .ok v' w'∧w'.ownsRow B e size v' (n+m) (xs++us)∧af (fun k=>v.ownBlock=some k) w w'∧(∀k,v'.ownBlock=some k→v.ownBlock=some k∨w.heap.size≤k):=by
 obtain⟨i,hi,hz,hsz,hby⟩:=info_parts hinfo
 cases ao with
 | none=>
  have hm:m=0:=by
   apply Classical.byContradiction
   intro hn
   obtain⟨a,ha⟩:=hao (by omega)
   cases ha
  subst hm
  have hu0:us=[]:=List.eq_nil_of_length_eq_zero (by omega)
  subst hu0
  have hr:=jR (P:=P) w t ty e i hu hi hown c
  exact⟨_,_,hr,by simpa using hown,af.refl _ _,fun k hk=>.inl hk⟩
 | some ad=>
  obtain⟨v',w',hr,h2,h3,_⟩:=run_append_own (P:=P) w B t ty e i z size bytes hu hi hz hsz hby hz1 hs0 v n xs hown ad m c us hus (hcell ad rfl) h1 hn hbd hB
  have hblk:=nN (P:=P) t ty e size hu hi hz hsz B v v' n xs hown ad m c us hus (hcell ad rfl) h1 (by rw[hby];exact hbd) hn hr
  refine⟨v',w',hr,h2,(af.refl _ w).grown h3 fun k hk=>.inr hk,fun k hk=>?_⟩
  rcases hblk with hblk | hblk
  ·exact .inl (hblk▸hk)
  ·rw[hblk] at hk
   cases hk
   exact .inr Me
structure Rp where
 lost:List Ls
 ended:List Int
structure oI(σ:Own)(w:World)(rb:Nat)(ov lv ev:Value)(fr rd:Int)(r:Rp):Prop where
 row:w.heap[rb]? =some (.cells #[ov,lv,ev,.int .i64 fr,.int .i64 rd] 35 (0,0))
 own:σ rb=3
 lost:w.ownsRow 0 215 3 lv r.lost.length (r.lost.flatMap lS)
 ended:w.ownsRow 0 3 1 ev r.ended.length (iL r.ended)
 lo: ∀b,lv.ownBlock=some b→σ b=3
 eo: ∀b,ev.ownBlock=some b→σ b=3
theorem oI.keep{σ:Own}{w w':World}{rb:Nat}{ov lv ev:Value}{fr rd:Int}{r:Rp}(h:oI σ w rb ov lv ev fr rd r){S:Nat→Prop}(hk:af S w w')(hS: ∀k,S k→k<w.heap.size→σ k≠3):oI σ w' rb ov lv ev fr rd r:=
 ⟨hk.heap h.row (fun e=>hS _ e (L8 h.row) h.own),h.own,ay h.lost hk (fun k e hs=>by
  obtain⟨cs,hcs⟩:=ag h.lost e
  exact hS k hs (L8 hcs) (h.lo k e)),ay h.ended hk (fun k e hs=>by
  obtain⟨cs,hcs⟩:=ag h.ended e
  exact hS k hs (L8 hcs) (h.eo k e)),h.lo,h.eo⟩
theorem oI.ah{σ:Own}{w w':World}{rb:Nat}{ov lv ev:Value}{fr rd:Int}{r:Rp}(h:oI σ w rb ov lv ev fr rd r)(hb:Below w.heap.size w w'):oI σ w' rb ov lv ev fr rd r:=h.keep (S:=fun _=>False) (af.au hb Me) (fun _ e=>e.elim)
theorem oI.ext{σ σ':Own}{w:World}{rb:Nat}{ov lv ev:Value}{fr rd:Int}{r:Rp}(h:oI σ w rb ov lv ev fr rd r)(he:Ext σ σ' w.heap.size):oI σ' w rb ov lv ev fr rd r:=
 ⟨h.row,(he _ (L8 h.row)).trans h.own,h.lost,h.ended,fun b e=>by
  obtain⟨cs,hcs⟩:=ag h.lost e
  exact(he _ (L8 hcs)).trans (h.lo b e),fun b e=>by
  obtain⟨cs,hcs⟩:=ag h.ended e
  exact(he _ (L8 hcs)).trans (h.eo b e)⟩
def Lt(B:Bk)(f f':Fe)(id:Nat)(P:Px)(p p':Pt)(a b:Int)(lo:List Ls):Prop:=∃l r v' us',Ba B f f' p.v v' p.us us' l r∧a=jq l p.l (Envp.vl p.sh p.sl)∧b=jq r p.r (Envp.vl p.sh p.sl)∧lo=jd id us' v'.m.ch∧p'={p with v:=v',us:=mX us' v'.m.ch,sl:=Envp.nx p.sh p.sl}
def putO(P:Px)(p:Pt):Po:=if p.over then none else some (P,p)
def EP(B:Bk)(f:Fe)(y:Ye)(r:Rp):Nat→Fe→Ye→Rp→List Int→List Int→Prop
  | 0,f',y',r',L,M=>f'=f∧y'=y∧r'=r∧L=[]∧M=[]
  | k+1,f',y',r',L',M'=>∃f1 y1 r1 L M,EP B f y r k f1 y1 r1 L M∧
    ((y1.ps.getD k none=none∧f'=f1∧y'=y1∧r'=r1∧L'=L∧M'=M)∨
     (∃P p p' a b lo,y1.ps.getD k none=some (P,p)∧Lt B f1 f' k P p p' a b lo∧y'={y1 with ps:=y1.ps.set k (putO P p')}∧r'=⟨r1.lost++lo,r1.ended++(if p'.over then[(k:Int)] else[])⟩∧L'=L++[a]∧M'=M++[b]))
def OneR(B:Bk)(n:Nat)(f f':Fe)(y y':Ye)(r r':Rp)(l m:Int):Prop:=∃L M,EP B f y r n f' y' r' L M∧l=iU (oH L)∧m=iU (oH M)
def FR(σ:Own)(k:Nat):Prop:=σ k=0∨σ k=2∨4≤σ k
def FG(σ:Own)(rb:Nat)(lv ev:Value)(k:Nat):Prop:=FR σ k∨k=rb∨lv.ownBlock=some k∨ev.ownBlock=some k
theorem zT(v vol sh:Int):(Lit.int .i64 (jq v vol sh)).wf=true:=by
 unfold jq rnd
 rw[if_neg (by decide)]
 exact wrap64_wf _
theorem iO.clr{X:Fx}{P:Px}{B:Bk}{K:Nat}{σ:Own}{w w':World}{p:Pt}(h:iO X P B K σ w p){us:List Ku}(hv:fJ X P.V B K σ w' p.v us)(hk:af (FL σ P.V.T) w w'):iO X P B K σ w' {p with us:=us}:=
 ⟨hk.heap h.row (fun e=>by have:=h.o1;unfold FL at e;omega),hv,hk.heap h.ev (fun e=>by have:=h.o2;unfold FL at e;omega),h.sok,h.st,h.o1,h.o2⟩
structure Wr where
 bs:List Int
 n:Nat
 e:Int
structure qA(w:World)(wb:Nat)(bv:Value)(x:Wr):Prop where
 row:w.heap[wb]? =some (.cells #[bv,.int .i64 (x.n:Int),.int .i64 x.e] 279 (0,0))
 own:w.ownsRow 0 5 1 bv x.bs.length (x.bs.map (.int .u8))
 len:x.bs.length=(x.n+7)/8
 wf: ∀z ∈ x.bs,(Lit.int .u8 z).wf=true
def jg(v i:Nat):Int:=((v/2^i%2:Nat):Int)
def orB(bs:List Int)(d m:Nat)(b:Int):List Int:=bs.set d (bits .or .u8 (bs.getD d 0) (IntKind.u8.wrap (b*2^(7 - m))))
def padB(x:Wr):List Int:=if x.n%8=0 then x.bs++[0] else x.bs
def putB(x:Wr)(v i:Nat):Wr:=⟨orB (padB x) (x.n/8) (x.n%8) (jg v i),x.n+1,x.e⟩
def iV(x:Wr)(v:Nat):Nat→Wr
 | 0=>x
 | i+1=>iV (putB x v i) v i
theorem Eh(bs:List Int)(d m:Nat)(b:Int):(orB bs d m b).length=bs.length:=by simp[orB]
theorem own_set{w:World}{base e n:Nat}{v:Value}{xs:List Value}(h:w.ownsRow base e 1 v n xs){g cap:Nat}(hv:v= .slice (some ⟨g,0,none⟩) n cap)(i:Nat)(hi:i<n)(u:Value):(w.setCell ⟨g,i,none⟩ u).ownsRow base e 1 v n (xs.set i u):=by
 obtain⟨h0,h1⟩:=h
 rcases h1 with⟨e1,_⟩ | ⟨g',cap',cur,e1,hb,hg,hnc,hcm,hcs,htk⟩
 ·rw[e1] at hv;cases hv
 ·rw[e1] at hv
  cases hv
  refine⟨by rw[List.length_set];exact h0,.inr ⟨g,cap,cur.setIfInBounds i u,e1,hb,Mc hg,hnc,hcm,by simpa using hcs,?_⟩⟩
  rw[Array.toList_setIfInBounds,List.take_set,htk]
theorem wf_set{k:IntKind}{zs:List Int}(h: ∀z ∈ zs,(Lit.int k z).wf=true)(i:Nat){x:Int}(hx:(Lit.int k x).wf=true): ∀z ∈ zs.set i x,(Lit.int k z).wf=true:=fun z hz=>by
 rcases List.mem_or_eq_of_mem_set hz with h1 | h1
 ·exact h z h1
 ·rw[h1];exact hx
theorem or_wf(x y:Int):(Lit.int .u8 (bits .or .u8 x y)).wf=true:=by
 have h:bits .or .u8 x y=IntKind.u8.wrap (((BitVec.ofInt 8 x|||BitVec.ofInt 8 y).toNat:Nat):Int):=rfl
 rw[h]
 exact wf_wrap _ _
theorem qA.bit{w:World}{wb g cap n:Nat}{bs:List Int}(hrow:w.heap[wb]? =some (.cells #[.slice (some ⟨g,0,none⟩) bs.length cap,.int .i64 (n:Int),()] 279 (0,0)))(hown:w.ownsRow 0 5 1 (.slice (some ⟨g,0,none⟩) bs.length cap) bs.length (bs.map (.int .u8)))(hl:bs.length=n/8+1)(hwf: ∀z ∈ bs,(Lit.int .u8 z).wf=true)(m:Nat)(b:Int):qA ((w.setCell ⟨g,n/8,none⟩ (.int .u8 (bits .or .u8 (bs.getD (n/8) 0) (IntKind.u8.wrap (b*2^(7 - m)))))).setCell ⟨wb,1,none⟩ (.int .i64 ((n+1:Nat):Int))) wb (.slice (some ⟨g,0,none⟩) bs.length cap) ⟨orB bs (n/8) m b,n+1,0⟩:=by
 have hne:wb≠g:=fun e=>by
  obtain⟨cs,hcs⟩:=ag hown rfl
  subst e
  exact aF hrow hcs (by decide) rfl
 have h1:=own_set hown rfl (n/8) (by omega) (.int .u8 (bits .or .u8 (bs.getD (n/8) 0) (IntKind.u8.wrap (b*2^(7 - m)))))
 rw[←List.map_set] at h1
 refine⟨?_,?_,?_,?_⟩
 ·exact Mc ((heap_setCell_other _ _ _ _ hne).trans hrow)
 ·show World.ownsRow _ 0 5 1 _ (orB bs (n/8) m b).length _
  rw[Eh]
  exact ay h1 (dV _ wb 1 _) (fun k e e2=>hne (e2.symm.trans (by injection e with e;exact e.symm)))
 ·show(orB bs (n/8) m b).length=(n+1+7)/8
  rw[Eh];omega
 ·exact wf_set hwf _ (or_wf _ _)
def PutP(wb:Nat)(bv:Value)(y:Wr)(w:World)(e:Ending)(w':World):Prop:=e= .returned (.tuple #[])∧∃bv',qA w' wb bv' y∧af (fun k=>k=wb∨bv.ownBlock=some k) w w'∧(∀k,bv'.ownBlock=some k→bv.ownBlock=some k∨w.heap.size≤k)
theorem info5:(Tryz.prog.info? 5).map (fun i=>(i.zero,i.size,i.bytes))=some (some (.int .u8 0),1,1):=by kernel_rfl
theorem u64_and1(n:Int)(h0:0≤n):bits .and .u64 n 1=n%2:=by
 have h127:(BitVec.ofInt 64 1).toNat=2^1 - 1:=by decide
 have key:(BitVec.ofInt 64 n&&&BitVec.ofInt 64 1).toNat=(n%((2^64:Nat):Int)).toNat%2^1:=by
  rw[BitVec.toNat_and,BitVec.toNat_ofInt,h127,Nat.and_two_pow_sub_one_eq_mod]
 show IntKind.u64.wrap ((BitVec.ofInt 64 n&&&BitVec.ofInt 64 1).toNat:Nat)=n%2
 rw[key,IntKind.wrap_u64]
 omega
theorem lh(v:Nat): ∀(k:Nat)(x:Wr),(iV x v k).e=x.e:=by
 intro k
 induction k with
 | zero=>intro x;rfl
 | succ k ih=>intro x;exact(ih _).trans rfl
theorem lg(v:Nat): ∀(k:Nat)(x:Wr),(iV x v k).n=x.n+k:=by
 intro k
 induction k with
 | zero=>intro x;rfl
 | succ k ih=>intro x;exact(ih _).trans (by show x.n+1+k=_;omega)
theorem iF{w:World}{B e size n:Nat}{v:Value}{xs:List Value}(h:w.ownsRow B e size v n xs)(hn:0<n): ∃g cap,v= .slice (some ⟨g,0,none⟩) n cap:=by
 rcases h.2 with⟨_,e2⟩ | ⟨g,cap,cur,e1,_⟩
 ·omega
 ·exact⟨g,cap,e1⟩
theorem ui{wb:Nat}{bv bq:Value}{w wr W:World}(hK:af (fun k=>k=wb∨bv.ownBlock=some k) w wr)(hKo: ∀k,bq.ownBlock=some k→bv.ownBlock=some k∨w.heap.size≤k)(K:af (fun k=>k=wb∨bq.ownBlock=some k) wr W):af (fun k=>k=wb∨bv.ownBlock=some k) w W:=
 hK.andThen K (fun k hk e=>e.elim .inl (fun e=>(hKo k e).elim .inr (fun h=>by omega)))
theorem put_any(wb:Nat)(bv:Value)(x:Wr)(v k:Nat)(hx:x.e=0)(hn:x.n≤100000)(hk:k≤57)(hv:v<2^k)(w:World)(h:qA w wb bv x):Calls Tryz.prog 171 #[.pointer (some ⟨wb,0,none⟩),.int .u64 (v:Int),.int .i64 (k:Int)] w (PutP wb bv (iV x v k) w):=by
 have hdz:v/2^k=0:=Nat.div_eq_of_lt hv
 have hdz2:(v:Int)/2^k=0:=by
  have:((v/2^k:Nat):Int)=(v:Int)/2^k:=by simp
  rw[←this,hdz];rfl
 have hpk:2^k≤2^57:=Nat.pow_le_pow_right (by decide) hk
 have hrow:=h.row
 rw[hx] at hrow
 obtain⟨c0,c1,c2⟩:=aW hrow
 have H:=MI h
 have HX:=MI hx
 have HN:=MI hn
 have hk1:¬(k:Int)<0:=by omega
 have hk2:¬57<(k:Int):=by omega
 have hmk:min k 64=k:=by omega
 have ek:IntKind.i64.wrap ((k:Int) - 1)=(k:Int) - 1:=IntWalk.i64_in _ (by omega)
 have HV:Hid (v<2^57):=by unfold Hid;omega
 clear h hx hn hv hdz hpk hrow
 go_enter Tryz.func171,Tryz.ntmps171
 go_upto_region 4 with fail
 clear c0 c1 c2 hdz2 hmk ek
 go_loopw [6] (fun v6 wr=>∃(r:Nat)(y:Wr)(bq:Value),r≤k∧v6= .int .i64 ((r:Int) - 1)∧qA wr wb bq y∧y.e=0∧y.n+r=x.n+k∧Hid (iV y v r=iV x v k)∧af (fun k=>k=wb∨bv.ownBlock=some k) w wr∧(∀k,bq.ownBlock=some k→bv.ownBlock=some k∨w.heap.size≤k)) (fun v6 _=>(intOf v6+1).toNat)
 case atStart=>exact⟨k,x,bv,Me,rfl,H.out,HX.out,rfl,rfl,af.refl _ _,fun k e=>.inl e⟩
 case round=>
  obtain⟨r,y,bq,hr,rfl,hI,hy,hyn,hpe,hK,hKo⟩:=hrel
  by_cases hr0:r=0
  ·subst hr0
   have hz:¬(0:Int)≤((0:Nat):Int) - 1:=by omega
   have HE:=MI hK
   go_wp2_with fail
   go_end0
   rw[←hpe.out]
   exact⟨rfl,bq,hI,HE.out,hKo⟩
  ·obtain⟨i,rfl⟩: ∃i,r=i+1:=⟨r - 1,by omega⟩
   have hri:((i+1:Nat):Int) - 1=(i:Int):=by omega
   rw[hri]
   have hiz:(0:Int)≤(i:Int):=by omega
   obtain⟨bs,n,e⟩:=y
   simp only at hy hyn
   subst hy
   have hN:=HN.out
   have hrow:=hI.row
   simp only at hrow
   obtain⟨c0,c1,c2⟩:=aW hrow
   have f0:=aj hrow 0
   have f1:=aj hrow 1
   have hlen:=hI.len
   simp only at hlen
   have hm8:(n:Int)%8=((n%8:Nat):Int):=by omega
   have hd8:(n:Int)/8=((n/8:Nat):Int):=by omega
   have hbl:bs.length≤13000:=by omega
   have HLEN:=MI hlen
   have hwf0:=MI hI.wf
   have hO0:=MI hI.own
   simp only at hO0 hwf0
   have hrow0:=MI hrow
   have hpb:Hid (putB ⟨bs,n,0⟩ v i=⟨orB (padB ⟨bs,n,0⟩) (n/8) (n%8) (jg v i),n+1,0⟩):=rfl
   have hne:¬bq.ownBlock=some wb:=fun e=>by
    obtain⟨cs,hcs⟩:=ag hI.own e
    exact aF hrow hcs (by decide) rfl
   clear hI hrow hlen
   by_cases hmz:n%8=0
   ·have hmzi:((n%8:Nat):Int)=0:=by omega
    have hpad:padB ⟨bs,n,0⟩=bs++[0]:=if_pos hmz
    have HPE:Hid (iV ⟨orB (bs++[0]) (n/8) (n%8) (jg v i),n+1,0⟩ v i=iV x v k):=by
     unfold Hid
     rw[←hpe.out,←hpad]
     rfl
    clear hpad hpb
    go_upto_region 8 with(at_builtin;refine dR rfl (.tmp 43) (.tmp 44) 63 5 1 rfl Tryz.underlying63 info5 rfl (by omega) 0 _ _ _ rfl hO0.out [.int .u8 0] rfl rfl (by simp[Value.oneCell']) (by omega) (by unfold maxLen;omega) (Nat.zero_le _) ?_;intro bQ w3 hO3 hk3 hb3;have hrow3:=hk3.heap hrow0.out hne;have g0:=aj hrow3 0;obtain⟨q0,q1,q2⟩:=aW hrow3;obtain⟨g,cap3,rfl⟩:=iF hO3 (Nat.succ_pos _))
    have hne3:(Value.slice (some ⟨g,0,none⟩) (bs.length+1) cap3).ownBlock≠some wb:=fun e=>by
     obtain⟨cs,hcs⟩:=ag hO3 e
     exact aF hrow3 hcs (by decide) rfl
    have hR:(w3.setCell ⟨wb,0,none⟩ (.slice (some ⟨g,0,none⟩) (bs.length+1) cap3)).heap[wb]? =some (.cells #[.slice (some ⟨g,0,none⟩) (bs.length+1) cap3,.int .i64 (n:Int),()] 279 (0,0)):=(Mc hrow3).trans rfl
    have hO4:=ay hO3 (dV w3 wb 0 (.slice (some ⟨g,0,none⟩) (bs.length+1) cap3)) (fun k e e2=>hne3 (by rw[e,e2]))
    obtain⟨BS,hBS⟩: ∃BS,BS=bs++[0]:=⟨_,rfl⟩
    have hBL:BS.length=bs.length+1:=by rw[hBS];simp
    have hBl:BS.length=n/8+1:=by rw[hBL,HLEN.out];omega
    have hO:(w3.setCell ⟨wb,0,none⟩ (.slice (some ⟨g,0,none⟩) (bs.length+1) cap3)).ownsRow 0 5 1 (.slice (some ⟨g,0,none⟩) BS.length cap3) BS.length (BS.map (.int .u8)):=by
     rw[hBL,hBS,List.map_append];exact hO4
    have hWF: ∀z ∈ BS,(Lit.int .u8 z).wf=true:=fun z hz=>by
     rw[hBS] at hz
     rcases List.mem_append.1 hz with h1 | h1
     ·exact hwf0.out z h1
     ·simp at h1;subst h1;rfl
    have hKO: ∀k,(Value.slice (some ⟨g,0,none⟩) BS.length cap3).ownBlock=some k→bv.ownBlock=some k∨w.heap.size≤k:=fun k e=>by
     rcases hb3 k e with h1 | h1
     ·exact hKo k h1
     ·exact .inr (Nat.le_trans hK.size h1)
    have hKS:af (fun k=>k=wb∨bv.ownBlock=some k) w (w3.setCell ⟨wb,0,none⟩ (.slice (some ⟨g,0,none⟩) (bs.length+1) cap3)):=ui hK hKo ((hk3.mono fun k _ e=>.inr e).setCell (p:=⟨wb,0,none⟩) (.inr (.inl rfl)) _)
    rw[←hBS] at HPE
    rw[←hBL] at hR hO hKS⊢
    clear hBL hBS hO3 hO4 hk3 hb3 hne3 q0 q1 q2 g0 hrow3 hne hmzi c0 c1 c2 f0 f1 hO0 hwf0 hrow0 hK hKo hpe
    generalize w3.setCell ⟨wb,0,none⟩ (.slice (some ⟨g,0,none⟩) BS.length cap3)=V at*
    have hcb:=hO.cells (g:=g) rfl (n/8) (.int .u8 (BS.getD (n/8) 0)) (by simp[List.getD,show n/8<BS.length by omega])
    rw[add0,Nat.zero_add] at hcb
    have hW:=MI (qA.bit (w:=V.drew) (wb:=wb) (g:=g) (cap:=cap3) (n:=n) (bs:=BS) hR hO hBl hWF (n%8) (jg v i))
    have hfg:V.frozen? ⟨g,n/8,none⟩=false:=by
     obtain⟨cs,hcs⟩:=ag hO rfl
     exact aj hcs _
    obtain⟨c0,c1,c2⟩:=aW hR
    have f1:=aj hR 1
    have hbt:Hid (jg v i=((v/2^i%2:Nat):Int)):=rfl
    have hvi:(v:Int)/2^i=((v/2^i:Nat):Int):=by simp
    have hmi:min i 64=i:=by omega
    have hand:bits .and .u64 ((v/2^i:Nat):Int) 1=jg v i:=by rw[u64_and1 _ (Int.natCast_nonneg _)];rfl
    have hb2:jg v i=0∨jg v i=1:=by rw[hbt.out];omega
    have hwb:IntKind.u8.wrap (jg v i)=jg v i:=by rcases hb2 with e | e<;>rw[e]<;>rfl
    have hw7:IntKind.i64.wrap (7 - ((n%8:Nat):Int))=((7 - n%8:Nat):Int):=by rw[show 7 - ((n%8:Nat):Int)=((7 - n%8:Nat):Int) by omega];exact IntWalk.i64_in _ (by omega)
    have hm7:min (7 - n%8) 8=7 - n%8:=by omega
    have hd5:n/8<BS.length:=by omega
    have hn1:IntKind.i64.wrap ((n:Int)+1)=((n+1:Nat):Int):=by rw[show(n:Int)+1=((n+1:Nat):Int) by omega];exact IntWalk.i64_in _ (by omega)
    have hi1:IntKind.i64.wrap ((i:Int) - 1)=(i:Int) - 1:=IntWalk.i64_in _ (by omega)
    have hwd:IntKind.i64.wrap ((n/8:Nat):Int)=((n/8:Nat):Int):=IntWalk.i64_in _ (by omega)
    have hng:wb≠g:=fun e=>by
     obtain⟨cs,hcs⟩:=ag hO rfl
     subst e
     exact aF hR hcs (by decide) rfl
    have hc1': ∀u,(V.drew.setCell ⟨g,n/8,none⟩ u).cell? ⟨wb,1,none⟩=some (.int .i64 (n:Int)):=fun u=>(aC V.drew g (n/8) u).cell c1 hng
    have hf1': ∀u,(V.drew.setCell ⟨g,n/8,none⟩ u).frozen? ⟨wb,1,none⟩=false:=fun u=>aj ((heap_setCell_other _ _ _ _ hng).trans hR) 1
    have htm:(n:Int).tmod 8=((n%8:Nat):Int):=rfl
    have HKS:=MI hKS
    clear hmz
    have HKO:=MI hKO
    clear hO hBl hbt hR hWF hb2 hKS hKO
    generalize hd:n/8=d at*
    generalize hm:n%8=m at*
    have HD:=MI hd
    have HM:=MI hm
    clear hd hm
    generalize v/2^i=vi at*
    generalize hbv:jg v i=bt at*
    have HBT:=MI hbv
    clear hbv
    generalize BS.getD d 0=old at*
    go_still_tail 25,(by kernel_rfl)
    repeat still_step
    try refine wpStill_nil ?_
    change wpList _ _ _ _ _ V.drew
    go_wp2_with fail
    refine⟨⟨i,_,_,by omega,rfl,hW.out,rfl,?_,?_,?_,HKO.out⟩,?_⟩
    ·show n+1+i=_;omega
    ·exact HPE.out
    ·exact ui HKS.out HKO.out (((af.refl (fun k=>k=wb∨(Value.slice (some ⟨g,0,none⟩) BS.length cap3).ownBlock=some k) V).drew.setCell (p:=⟨g,d,none⟩) (.inr (.inr rfl)) _).setCell (p:=⟨wb,1,none⟩) (.inr (.inl rfl)) _)
    ·simp[intOf]
   ·have hpad:padB ⟨bs,n,0⟩=bs:=if_neg hmz
    have HPE:Hid (iV ⟨orB bs (n/8) (n%8) (jg v i),n+1,0⟩ v i=iV x v k):=by
     unfold Hid
     rw[←hpe.out]
     conv=>rhs;rw[show iV ⟨bs,n,0⟩ v (i+1)=iV (putB ⟨bs,n,0⟩ v i) v i from rfl,hpb.out,hpad]
    have hmzi:¬((n%8:Nat):Int)=0:=by omega
    have hmz2:¬(n:Int)%8=0:=by omega
    have hmzb:((n:Int)%8==0)=false:=beq_eq_false_iff_ne.2 hmz2
    have hmzc:(((n%8:Nat):Int)==0)=false:=beq_eq_false_iff_ne.2 hmzi
    have hO:=hO0.out
    have hR:=hrow0.out
    obtain⟨g,cap3,rfl⟩:=iF hO (by rw[HLEN.out];omega)
    have hBl:bs.length=n/8+1:=by rw[HLEN.out];omega
    have hWF:=hwf0.out
    have hKS:=MI hK
    have hKO:=MI hKo
    clear hpad hpb hpe hwf0 hrow0 hO0 hne hK hKo hm8 hmzc
    go_upto_region 8 with fail
    have hKS:=hKS.out
    have hKO:=hKO.out
    clear c0 c1 c2 f0 f1 hmzi hmzb hmz2
    have hm8:(n:Int)%8=((n%8:Nat):Int):=by omega
    generalize hVV:wr=V at*
    clear hVV
    generalize hBB:bs=BS at*
    clear hBB
    have hcb:=hO.cells (g:=g) rfl (n/8) (.int .u8 (BS.getD (n/8) 0)) (by simp[List.getD,show n/8<BS.length by omega])
    rw[add0,Nat.zero_add] at hcb
    have hW:=MI (qA.bit (w:=V.drew) (wb:=wb) (g:=g) (cap:=cap3) (n:=n) (bs:=BS) hR hO hBl hWF (n%8) (jg v i))
    have hfg:V.frozen? ⟨g,n/8,none⟩=false:=by
     obtain⟨cs,hcs⟩:=ag hO rfl
     exact aj hcs _
    obtain⟨c0,c1,c2⟩:=aW hR
    have f1:=aj hR 1
    have hbt:Hid (jg v i=((v/2^i%2:Nat):Int)):=rfl
    have hvi:(v:Int)/2^i=((v/2^i:Nat):Int):=by simp
    have hmi:min i 64=i:=by omega
    have hand:bits .and .u64 ((v/2^i:Nat):Int) 1=jg v i:=by rw[u64_and1 _ (Int.natCast_nonneg _)];rfl
    have hb2:jg v i=0∨jg v i=1:=by rw[hbt.out];omega
    have hwb:IntKind.u8.wrap (jg v i)=jg v i:=by rcases hb2 with e | e<;>rw[e]<;>rfl
    have hw7:IntKind.i64.wrap (7 - ((n%8:Nat):Int))=((7 - n%8:Nat):Int):=by rw[show 7 - ((n%8:Nat):Int)=((7 - n%8:Nat):Int) by omega];exact IntWalk.i64_in _ (by omega)
    have hm7:min (7 - n%8) 8=7 - n%8:=by omega
    have hd5:n/8<BS.length:=by omega
    have hn1:IntKind.i64.wrap ((n:Int)+1)=((n+1:Nat):Int):=by rw[show(n:Int)+1=((n+1:Nat):Int) by omega];exact IntWalk.i64_in _ (by omega)
    have hi1:IntKind.i64.wrap ((i:Int) - 1)=(i:Int) - 1:=IntWalk.i64_in _ (by omega)
    have hwd:IntKind.i64.wrap ((n/8:Nat):Int)=((n/8:Nat):Int):=IntWalk.i64_in _ (by omega)
    have hng:wb≠g:=fun e=>by
     obtain⟨cs,hcs⟩:=ag hO rfl
     subst e
     exact aF hR hcs (by decide) rfl
    have hc1': ∀u,(V.drew.setCell ⟨g,n/8,none⟩ u).cell? ⟨wb,1,none⟩=some (.int .i64 (n:Int)):=fun u=>(aC V.drew g (n/8) u).cell c1 hng
    have hf1': ∀u,(V.drew.setCell ⟨g,n/8,none⟩ u).frozen? ⟨wb,1,none⟩=false:=fun u=>aj ((heap_setCell_other _ _ _ _ hng).trans hR) 1
    have htm:(n:Int).tmod 8=((n%8:Nat):Int):=rfl
    have HKS:=MI hKS
    clear hmz
    have HKO:=MI hKO
    clear hO hBl hbt hR hWF hb2 hKS hKO
    generalize hd:n/8=d at*
    generalize hm:n%8=m at*
    have HD:=MI hd
    have HM:=MI hm
    clear hd hm
    generalize v/2^i=vi at*
    generalize hbv:jg v i=bt at*
    have HBT:=MI hbv
    clear hbv
    generalize BS.getD d 0=old at*
    go_still_tail 25,(by kernel_rfl)
    repeat still_step
    try refine wpStill_nil ?_
    change wpList _ _ _ _ _ V.drew
    go_wp2_with fail
    refine⟨⟨i,_,_,by omega,rfl,hW.out,rfl,?_,?_,?_,HKO.out⟩,?_⟩
    ·show n+1+i=_;omega
    ·exact HPE.out
    ·exact ui HKS.out HKO.out (((af.refl (fun k=>k=wb∨(Value.slice (some ⟨g,0,none⟩) BS.length cap3).ownBlock=some k) V).drew.setCell (p:=⟨g,d,none⟩) (.inr (.inr rfl)) _).setCell (p:=⟨wb,1,none⟩) (.inr (.inl rfl)) _)
    ·simp[intOf]
end Go.Proofs.YtnicjahcgnhogaaGreatDoor
