/- A part of the proof: texts put together and cut down by a program of mine (wip/gen/mini.py). -/
import Derived.Test.YtffcefoadaogbaaGreatS1
import Derived.Test.YtffcefoadaogbaaGreatRows
import Derived.Laws.BitsAllLaws
import Derived.Laws.Runes
import Derived.Laws.RangeAny
import Derived.Test.YtffcefoadaogbaaGreatProg
import Derived.LoopTactic
namespace Go.Proofs.YtffcefoadaogbaaGreat
open Go.RowKit
open Go.Proofs.Tryz
set_option linter.unusedVariables false
set_option maxRecDepth 100000
set_option maxHeartbeats 16000000
def crcB(x:Nat):Nat:=if x % 2=1 then (x / 2) ^^^ 3988292384 else x / 2
def crcK:Nat→Nat→Nat
 | 0,x=>x
 | k+1,x=>crcB (crcK k x)
def crcC(x:Nat)(b:UInt8):Nat:=crcK 8 (x ^^^ b.toNat)
def crcL(l:List UInt8):Nat:=4294967295 ^^^ l.foldl crcC 4294967295
theorem xor_lt32{a b:Nat}(ha:a<4294967296)(hb:b<4294967296):a ^^^ b<4294967296:=Nat.xor_lt_two_pow (n:=32) ha hb
theorem crcB_lt{x:Nat}(h:x<4294967296):crcB x<4294967296:=by
 unfold crcB;split
 ·exact xor_lt32 (by omega) (by decide)
 ·omega
theorem crcK_lt{x:Nat}(h:x<4294967296):∀ k,crcK k x<4294967296
 | 0=>h
 | k+1=>crcB_lt (crcK_lt h k)
theorem crcC_lt{x:Nat}(h:x<4294967296)(b:UInt8):crcC x b<4294967296:=by
 have hb:b.toNat<256:=b.toNat_lt;exact crcK_lt (xor_lt32 h (by omega)) 8
theorem foldl_crc_lt:∀(l:List UInt8) {x:Nat},x<4294967296→l.foldl crcC x<4294967296
 | [],_,h=>h
 | b::l,_,h=>foldl_crc_lt l (crcC_lt h b)
theorem crcL_lt(l:List UInt8):crcL l<4294967296:=xor_lt32 (by decide) (foldl_crc_lt l (by decide))
theorem not32(n:Nat)(h:n<4294967296):bits BinOp.xor IntKind.u32 IntKind.u32.max (n:Int)=((4294967295 ^^^ n:Nat):Int):=u32_xor_nat 4294967295 n (by decide) h
theorem crc_step(q:Nat)(h:q<4294967296):bits .xor .u32 ((q:Int) / 2) (bits .and .u32 3988292384 (-bits .and .u32 (q:Int) 1 % 4294967296))=((crcB q:Nat):Int):=by
 have ha:=u32_and_nat q 1 h (by decide);rw[Nat.and_one_is_mod]at ha;rw[show((1:Nat):Int)=1 from rfl]at ha;rw[ha];have hq:((q:Int) / 2)=((q / 2:Nat):Int):=by omega
 rw[hq];rcases Nat.mod_two_eq_zero_or_one q with h2|h2
 ·have h4:=u32_xor_nat (q / 2) 0 (by omega) (by decide)
  rw[Nat.xor_zero]at h4;have hb1:crcB q=q / 2:=by unfold crcB;rw[h2];rfl
  rw[h2,hb1];exact h4
 ·have h4:=u32_xor_nat (q / 2) 3988292384 (by omega) (by decide)
  have hb1:crcB q=(q / 2) ^^^ 3988292384:=by unfold crcB;rw[h2];rfl
  rw[h2,hb1];exact h4
theorem crc_step2(q:Nat)(h:q<4294967296)(h2:q % 2=1):bits .xor .u32 ((q:Int) / 2) 3988292384=((crcB q:Nat):Int):=by
 have h4:=u32_xor_nat (q / 2) 3988292384 (by omega) (by decide);have hb1:crcB q=(q / 2) ^^^ 3988292384:=by unfold crcB;rw[h2];rfl
 rw[show((q:Int) / 2)=((q / 2:Nat):Int) by omega,hb1];exact h4
theorem foldl_take{α:Type}(f:Nat→α→Nat)(x:Nat)(l:List α){j:Nat}(h:j<l.length):(l.take (j+1)).foldl f x=f ((l.take j).foldl f x) l[j]:=by
 rw[List.take_add_one,List.getElem?_eq_getElem h,List.foldl_append];rfl
theorem more_any(w:World)(A:Option Addr)(n c:Nat)(l:List UInt8)(hb:Rb w A n c l) :
  Calls prog 216 #[.int .u32 0,.slice A n c] w fun e w'=>e = .returned (.int .u32 (crcL l:Nat))∧w'=w:=by
 have hn:=hb.len;have hmx:=hb.max;unfold maxLen at hmx;obtain⟨r,hr⟩:∃ r,crcL l=r:=⟨_,rfl⟩;rw[hr];have HR:=hqd hr;clear hr;have hi:bits BinOp.xor IntKind.u32 IntKind.u32.max 0=4294967295:=by decide
 go_enter func216,ntmps216;go_wp2_with fail;go_loop [5,12] (fun s i=>∃(j:Nat),i = .int .i64 (j:Nat)∧j≤n∧s = .int .u32 ((l.take j).foldl crcC 4294967295:Nat)) (fun _ i=>n-(intOf i).toNat)
 case atStart=>exact⟨0,rfl,Nat.zero_le _,by simp⟩
 case round =>
  obtain⟨j,rfl,hj,rfl⟩:=hrel;have hy:=foldl_crc_lt (l.take j) (x:=4294967295) (by decide);by_cases hjn:j<n
  ·have hjl:j<l.length:=by omega
   obtain⟨b,o,rfl,hc⟩:=hb.at_ hjl;have hst:=foldl_take crcC 4294967295 l hjl;have hv:(l[j]).toNat<256:=(l[j]).toNat_lt;have Hst:=hqd hst;clear hst;obtain⟨u,hu⟩:∃ u,l[j]=u:=⟨_,rfl⟩;rw[hu]at hc hv;have Hu:=hqd hu;clear hu;obtain⟨y,hyy⟩:∃ y,(l.take j).foldl crcC 4294967295=y:=⟨_,rfl⟩;rw[hyy]at hy ⊢;have Hyy:=hqd hyy;clear hyy;have hx:=u32_xor_nat y u.toNat hy (by omega);have hz:=xor_lt32 hy (show u.toNat<4294967296 by omega);have hC:crcC y u=crcK 8 (y ^^^ u.toNat):=rfl;generalize y ^^^ u.toNat=z at *;have HC:=hqd hC;clear hC;go_wp2_with fail;go_loop [5,20] (fun s i=>∃(k:Nat),i = .int .i64 (k:Nat)∧k≤8∧s = .int .u32 (crcK k z:Nat)) (fun _ i=>8-(intOf i).toNat)
   case atStart=>exact⟨0,rfl,Nat.zero_le _,rfl⟩
   case round =>
    obtain⟨k,rfl,hk,rfl⟩:=hrel;have hq:=crcK_lt hz k;have hs:crcK (k+1) z=crcB (crcK k z):=rfl;by_cases hk8:k<8
    ·have Hs:=hqd hs
     clear hs;obtain⟨q,hqq⟩:∃ q,crcK k z=q:=⟨_,rfl⟩;rw[hqq]at hq ⊢;have Hqq:=hqd hqq;clear hqq;have hB:=crc_step q hq;have HB:=hqd hB;clear hB;go_wp2_with fail;go_round
     case rel=>exact⟨k+1,by go_num,by omega,by rw[Hs.out,Hqq.out,← HB.out]⟩
     case measure=>simp[intOf];omega
    ·obtain rfl:k=8:=by omega
     clear hs;go_wp2_with fail;go_round
     case rel=>exact⟨j+1,by go_num,by omega,by rw[Hst.out,Hyy.out,Hu.out,HC.out]⟩
     case measure=>simp[intOf];omega
  ·obtain rfl:j=n:=by omega
   rw[hn,List.take_length]at hy ⊢;have h9:=not32 _ hy;have h8:4294967295 ^^^ l.foldl crcC 4294967295=r:=HR.out;rw[h8]at h9;clear h8;generalize l.foldl crcC 4294967295=y at *;go_wp2_with fail;go_ret;exact⟨rfl,rfl⟩
theorem crc_any(w:World)(A:Option Addr)(n c:Nat)(l:List UInt8)(hb:Rb w A n c l) :
  Calls prog 195 #[.slice A n c] w fun e w'=>e = .returned (.int .u32 (crcL l:Nat))∧w'=w:=by
 have hm:=more_any w A n c l hb;go_enter func195,ntmps195;go_wp2_with fail;refine hm.mono ?_;rintro e w1 ⟨rfl,rfl⟩;go_wp2_with fail;go_ret;exact⟨rfl,rfl⟩
theorem rcrc_any(w:World)(A:Option Addr)(n c:Nat)(l:List UInt8)(hb:Rb w A n c l) :
  Calls prog 33 #[.slice A n c] w fun e w'=>e = .returned (.int .u32 (crcL l:Nat))∧w'=w:=by
 have hn:=hb.len;have hmx:=hb.max;unfold maxLen at hmx;obtain⟨r,hr⟩:∃ r,crcL l=r:=⟨_,rfl⟩;rw[hr];have HR:=hqd hr;clear hr;go_enter func33,ntmps33;go_wp2_with fail;go_loop [3,4] (fun s i=>∃(j:Nat),i = .int .i64 (j:Nat)∧j≤n∧s = .int .u32 ((l.take j).foldl crcC 4294967295:Nat)) (fun _ i=>n-(intOf i).toNat)
 case atStart=>exact⟨0,rfl,Nat.zero_le _,by simp⟩
 case round =>
  obtain⟨j,rfl,hj,rfl⟩:=hrel;have hy:=foldl_crc_lt (l.take j) (x:=4294967295) (by decide);by_cases hjn:j<n
  ·have hjl:j<l.length:=by omega
   obtain⟨b,o,rfl,hc⟩:=hb.at_ hjl;have hst:=foldl_take crcC 4294967295 l hjl;have hv:(l[j]).toNat<256:=(l[j]).toNat_lt;have Hst:=hqd hst;clear hst;obtain⟨u,hu⟩:∃ u,l[j]=u:=⟨_,rfl⟩;rw[hu]at hc hv;have Hu:=hqd hu;clear hu;obtain⟨y,hyy⟩:∃ y,(l.take j).foldl crcC 4294967295=y:=⟨_,rfl⟩;rw[hyy]at hy ⊢;have Hyy:=hqd hyy;clear hyy;have hx:=u32_xor_nat y u.toNat hy (by omega);have hz:=xor_lt32 hy (show u.toNat<4294967296 by omega);have hC:crcC y u=crcK 8 (y ^^^ u.toNat):=rfl;generalize y ^^^ u.toNat=z at *;have HC:=hqd hC;clear hC;go_wp2_with fail;go_loop [3,5] (fun s i=>∃(k:Nat),i = .int .i64 (k:Nat)∧k≤8∧s = .int .u32 (crcK k z:Nat)) (fun _ i=>8-(intOf i).toNat)
   case atStart=>exact⟨0,rfl,Nat.zero_le _,rfl⟩
   case round =>
    obtain⟨k,rfl,hk,rfl⟩:=hrel;have hq:=crcK_lt hz k;have hs:crcK (k+1) z=crcB (crcK k z):=rfl;by_cases hk8:k<8
    ·have Hs:=hqd hs
     clear hs;obtain⟨q,hqq⟩:∃ q,crcK k z=q:=⟨_,rfl⟩;rw[hqq]at hq ⊢;have Hqq:=hqd hqq;clear hqq;rcases Nat.mod_two_eq_zero_or_one q with h2|h2
     ·have hb1:crcB q=q / 2:=by unfold crcB;rw[h2];rfl
      have h5:((q:Int) % 2==1)=false:=by rw[beq_eq_false_iff_ne];omega
      have Hb1:=hqd hb1;clear hb1 h2;go_wp2_with fail;go_round
      case rel=>exact⟨k+1,by go_num,by omega,by rw[Hs.out,Hqq.out,Hb1.out];simp⟩
      case measure=>simp[intOf];omega
     ·have hb1:crcB q=(q / 2) ^^^ 3988292384:=by unfold crcB;rw[h2];rfl
      have h4:=hqd (crc_step2 q hq h2);have h5:((q:Int) % 2==1)=true:=by rw[beq_iff_eq];omega
      have Hb1:=hqd hb1;clear hb1 h2;go_wp2_with fail;go_round
      case rel=>exact⟨k+1,by go_num,by omega,by rw[Hs.out,Hqq.out,← h4.out]⟩
      case measure=>simp[intOf];omega
    ·obtain rfl:k=8:=by omega
     clear hs;go_wp2_with fail;go_round
     case rel=>exact⟨j+1,by go_num,by omega,by rw[Hst.out,Hyy.out,Hu.out,HC.out]⟩
     case measure=>simp[intOf];omega
  ·obtain rfl:j=n:=by omega
   rw[hn,List.take_length]at hy ⊢;have h9:=not32 _ hy;have h8:4294967295 ^^^ l.foldl crcC 4294967295=r:=HR.out;rw[h8]at h9;clear h8;generalize l.foldl crcC 4294967295=y at *;go_wp2_with fail;go_ret;exact⟨rfl,rfl⟩
def ok32(x:Int):Prop:=-2147483648≤x∧x≤2147483647
def w32(x:Int):Int:=(x+2147483648) % 4294967296-2147483648
def flagN(b:Bool):Int:=if b then 1 else 0
def divN(a b:Int):Int:=if b=0 then 0 else w32 (a.tdiv b)
def remN(a:Int):Nat:=(a % 32).toNat
def sumN(k a b:Int):Int :=
 if k=3 then w32 (a+b) else if k=4 then w32 (a-b) else if k=5 then w32 (a*b) else if k=6 then divN a b else if k=7 then flagN (decide (a<b)) else flagN (decide (a=b))
theorem wrap32_is(x:Int):wrap32 x=w32 x:=by unfold wrap32 w32;omega
theorem w32_ok(x:Int):ok32 (w32 x):=by unfold ok32 w32;omega
theorem flagN_ok(b:Bool):ok32 (flagN b):=by cases b<;>simp[flagN,ok32]
theorem remN_lt(a:Int):remN a<32:=by unfold remN;omega
theorem sumN_ok(k a b:Int):ok32 (sumN k a b):=by
 unfold sumN divN;repeat' split
 all_goals first|exact w32_ok _|exact flagN_ok _|(unfold ok32;omega)
theorem flag_is(w:World)(b:Bool):Calls prog 207 #[.bool b] w fun e w'=>e = .returned (.int .i32 (flagN b))∧w'=w:=by
 cases b <;>
 ·go_enter func207,ntmps207
  go_wp2_with fail;go_ret;exact⟨rfl,rfl⟩
theorem add_is(w:World)(a b:Int):Calls prog 203 #[.int .i32 a,.int .i32 b] w fun e w'=>e = .returned (.int .i32 (w32 (a+b)))∧w'=w:=by
 go_enter func203,ntmps203;go_wp2_with fail;go_ret;exact⟨by simp[wrap32_is],rfl⟩
theorem sub_is(w:World)(a b:Int):Calls prog 204 #[.int .i32 a,.int .i32 b] w fun e w'=>e = .returned (.int .i32 (w32 (a-b)))∧w'=w:=by
 go_enter func204,ntmps204;go_wp2_with fail;go_ret;exact⟨by simp[wrap32_is],rfl⟩
theorem mul_is(w:World)(a b:Int):Calls prog 205 #[.int .i32 a,.int .i32 b] w fun e w'=>e = .returned (.int .i32 (w32 (a*b)))∧w'=w:=by
 go_enter func205,ntmps205;go_wp2_with fail;go_ret;exact⟨by simp[wrap32_is],rfl⟩
theorem div_is(w:World)(a b:Int):Calls prog 206 #[.int .i32 a,.int .i32 b] w fun e w'=>e = .returned (.int .i32 (divN a b))∧w'=w:=by
 by_cases h0:b=0
 ·subst h0
  go_enter func206,ntmps206;go_wp2_with fail;go_ret;exact⟨by simp[divN],rfl⟩
 have b0:(b==0)=false:=by rw[beq_eq_false_iff_ne];exact h0
 by_cases h1:b = -1
 ·subst h1
  go_enter func206,ntmps206;go_wp2_with fail;go_ret;exact⟨by simp[divN,wrap32_is],rfl⟩
 have b1:(b==-1)=false:=by rw[beq_eq_false_iff_ne];exact h1
 go_enter func206,ntmps206;go_wp2_with fail;go_ret;exact⟨by simp[divN,h0,wrap32_is],rfl⟩
def bt(l:List UInt8)(k:Nat):Nat:=(l.getD k 0).toNat
def cnt(l:List UInt8)(k:Nat):Prop:=k<l.length∧bt l k / 64=2
instance (l k):Decidable (cnt l k):=by unfold cnt;infer_instance
def c2(l:List UInt8):Nat:=(bt l 0 % 32)*64+bt l 1 % 64
def c3(l:List UInt8):Nat:=(bt l 0 % 16)*4096+(bt l 1 % 64)*64+bt l 2 % 64
def c4(l:List UInt8):Nat:=(bt l 0 % 8)*262144+(bt l 1 % 64)*4096+(bt l 2 % 64)*64+bt l 3 % 64
def dec(l:List UInt8):Nat×Nat :=
 if bt l 0<128 then (bt l 0,1)
 else if bt l 0 / 32=6∧cnt l 1 then (if 128≤c2 l then (c2 l,2) else (65533,1))
 else if bt l 0 / 16=14∧cnt l 1∧cnt l 2 then (if 2048≤c3 l∧¬ (55296≤c3 l∧c3 l<57344) then (c3 l,3) else (65533,1))
 else if bt l 0 / 8=30∧cnt l 1∧cnt l 2∧cnt l 3 then (if 65536≤c4 l∧c4 l≤1114111 then (c4 l,4) else (65533,1))
 else (65533,1)
theorem bt_lt(l:List UInt8)(k:Nat):bt l k<256:=(l.getD k 0).toNat_lt
theorem bt_drop(l:List UInt8)(p k:Nat):bt (l.drop p) k=bt l (p+k):=by
 unfold bt;rw[List.getD_eq_getElem?_getD,List.getD_eq_getElem?_getD,List.getElem?_drop]
theorem get_bs(l:List UInt8)(i:Nat):((bs l).get! i).toNat=bt l i:=by
 unfold bt bs;show(l.toArray[i]!).toNat=_
 rw[List.getD_eq_getElem?_getD];by_cases h:i<l.length
 ·simp[h]
 ·simp[h];rfl
theorem cnt_iff(l:List UInt8)(p k:Nat):(decide (p+k<(bs l).size)&&(bt (l.drop p) k / 64==2))=decide (cnt (l.drop p) k):=by
 rw[Bool.eq_iff_iff];simp only[Bool.and_eq_true,decide_eq_true_eq,beq_iff_eq];unfold cnt;rw[bs_size,List.length_drop];exact and_congr_left fun _=>by omega
theorem bd_c(l:List UInt8):c2 l<2048∧c3 l<65536∧c4 l<2097152:=by
 unfold c2 c3 c4;omega
theorem ite_way{α:Type}{p q:Prop}[Decidable p][Decidable q](h:p↔q)(a b:α):(if p then a else b)=if q then a else b:=by
 by_cases hp:p
 ·rw[if_pos hp,if_pos (h.mp hp)]
 ·rw[if_neg hp,if_neg fun hq=>hp (h.mpr hq)]
theorem decode_bs(l:List UInt8)(p:Nat):Utf8.decode (bs l) p=dec (l.drop p):=by
 have hb:∀ k,((bs l).get! (p+k)).toNat=bt (l.drop p) k:=fun k=>by rw[get_bs,bt_drop]
 have hc:=bd_c (l.drop p);simp only[Utf8.decode,hb,cnt_iff];generalize hl:l.drop p=m;rw[hl]at hc;unfold dec;have hv:∀ c:Nat,Utf8.valid (c:Int)=decide (¬ (55296≤c∧c<57344)∧c≤1114111):=fun c=>by
  rw[Utf8.valid,Bool.eq_iff_iff];simp only[Bool.or_eq_true,Bool.and_eq_true,decide_eq_true_eq];omega
 simp only[Bool.and_eq_true,decide_eq_true_eq,beq_iff_eq,hv,Utf8.runeError,ge_iff_le];unfold c2 c3 c4 at *;have hx:bt m 0 % 16*4096+bt m 1 % 64*64+bt m 2 % 64≤1114111:=by omega
 clear hb hv hl;by_cases h1:bt m 0<128
 ·simp only[h1,if_true]
 by_cases h2:bt m 0 / 32=6∧cnt m 1
 ·simp only[h1,h2,and_self,if_true,if_false]
 by_cases h3:bt m 0 / 16=14∧cnt m 1∧cnt m 2
 ·have h3':(bt m 0 / 16=14∧cnt m 1)∧cnt m 2:=⟨⟨h3.1,h3.2.1⟩,h3.2.2⟩
  rw[if_neg h1,if_neg h2,if_pos h3',if_neg h1,if_neg h2,if_pos h3];refine ite_way ?_ _ _;exact⟨fun h=>⟨h.1,h.2.1⟩,fun h=>⟨h.1,h.2,hx⟩⟩
 have h3':¬ ((bt m 0 / 16=14∧cnt m 1)∧cnt m 2):=fun h=>h3 ⟨h.1.1,h.1.2,h.2⟩;by_cases h4:bt m 0 / 8=30∧cnt m 1∧cnt m 2∧cnt m 3
 ·have h4':((bt m 0 / 8=30∧cnt m 1)∧cnt m 2)∧cnt m 3:=⟨⟨⟨h4.1,h4.2.1⟩,h4.2.2.1⟩,h4.2.2.2⟩
  rw[if_neg h1,if_neg h2,if_neg h3',if_pos h4',if_neg h1,if_neg h2,if_neg h3,if_pos h4];refine ite_way ?_ _ _;exact⟨fun h=>⟨h.1,h.2.2⟩,fun h=>⟨h.1,by omega,h.2⟩⟩
 have h4':¬ (((bt m 0 / 8=30∧cnt m 1)∧cnt m 2)∧cnt m 3):=fun h=>h4 ⟨h.1.1.1,h.1.1.2,h.1.2,h.2⟩;rw[if_neg h1,if_neg h2,if_neg h3',if_neg h4',if_neg h1,if_neg h2,if_neg h3,if_neg h4]
def wideN(r:Nat):Nat:=if r<128 then 1 else if r<2048 then 2 else if r<65536 then 3 else 4
theorem dec_ways(l:List UInt8) :
  bt l 0<128∧dec l=(bt l 0,1) ∨
  (128≤bt l 0∧cnt l 1∧bt l 0 / 32=6∧128≤c2 l∧dec l=(c2 l,2)) ∨
  (128≤bt l 0∧cnt l 1∧cnt l 2∧bt l 0 / 16=14∧2048≤c3 l∧¬ (55296≤c3 l∧c3 l<57344)∧dec l=(c3 l,3)) ∨
  (128≤bt l 0∧cnt l 1∧cnt l 2∧cnt l 3∧bt l 0 / 8=30∧65536≤c4 l∧c4 l≤1114111∧dec l=(c4 l,4)) ∨
  (128≤bt l 0∧dec l=(65533,1)):=by
 unfold dec;by_cases h1:bt l 0<128
 ·rw[if_pos h1];exact .inl ⟨h1,rfl⟩
 have h1':128≤bt l 0:=by omega
 rw[if_neg h1];refine .inr ?_;by_cases h2:bt l 0 / 32=6∧cnt l 1
 ·rw[if_pos h2]
  by_cases h:128≤c2 l
  ·rw[if_pos h];exact .inl ⟨h1',h2.2,h2.1,h,rfl⟩
  ·rw[if_neg h];exact .inr (.inr (.inr ⟨h1',rfl⟩))
 rw[if_neg h2];refine .inr ?_;by_cases h3:bt l 0 / 16=14∧cnt l 1∧cnt l 2
 ·rw[if_pos h3]
  by_cases h:2048≤c3 l∧¬ (55296≤c3 l∧c3 l<57344)
  ·rw[if_pos h];exact .inl ⟨h1',h3.2.1,h3.2.2,h3.1,h.1,h.2,rfl⟩
  ·rw[if_neg h];exact .inr (.inr ⟨h1',rfl⟩)
 rw[if_neg h3];refine .inr ?_;by_cases h4:bt l 0 / 8=30∧cnt l 1∧cnt l 2∧cnt l 3
 ·rw[if_pos h4]
  by_cases h:65536≤c4 l∧c4 l≤1114111
  ·rw[if_pos h];exact .inl ⟨h1',h4.2.1,h4.2.2.1,h4.2.2.2,h4.1,h.1,h.2,rfl⟩
  ·rw[if_neg h];exact .inr ⟨h1',rfl⟩
 rw[if_neg h4];exact .inr ⟨h1',rfl⟩
theorem dec_pos(l:List UInt8):1≤(dec l).2∧(dec l).2≤4:=by
 rcases dec_ways l with ⟨_,e⟩|⟨_,_,_,_,e⟩|⟨_,_,_,_,_,_,e⟩|⟨_,_,_,_,_,_,_,e⟩|⟨_,e⟩<;>rw[e]<;>dsimp only<;>omega
theorem dec_le{l:List UInt8}(hl:0<l.length):(dec l).2≤l.length:=by
 rcases dec_ways l with ⟨_,e⟩|⟨_,h,_,_,e⟩|⟨_,_,h,_,_,_,e⟩|⟨_,_,_,h,_,_,_,e⟩|⟨_,e⟩<;>rw[e]
 ·exact hl
 ·exact h.1
 ·exact h.1
 ·exact h.1
 ·exact hl
theorem dec_most(l:List UInt8):(dec l).1≤1114111:=by
 have hc:=bd_c l;rcases dec_ways l with ⟨_,e⟩|⟨_,_,_,_,e⟩|⟨_,_,_,_,_,_,e⟩|⟨_,_,_,_,_,_,_,e⟩|⟨_,e⟩<;>rw[e]<;>dsimp only<;>omega
theorem dec_wide(l:List UInt8):wideN (dec l).1=(dec l).2↔((dec l).1≠65533∨(dec l).2=3):=by
 have hc:=bd_c l;unfold wideN;rcases dec_ways l with ⟨_,e⟩|⟨_,_,_,_,e⟩|⟨_,_,_,_,_,_,e⟩|⟨_,_,_,_,_,_,_,e⟩|⟨_,e⟩<;>rw[e]<;>dsimp only<;>(repeat' split)<;>omega
def rsF:Nat→List UInt8→List (Nat×Nat)
 | 0,_=>[]
 | f+1,l=>if l=[] then [] else dec l::rsF f (l.drop (dec l).2)
def rs(l:List UInt8):List (Nat×Nat):=rsF l.length l
theorem rsF_enough:∀ f g (l:List UInt8),l.length≤f→l.length≤g→rsF f l=rsF g l
 | 0,0,_,_,_=>rfl
 | 0,g+1,l,h,_=>by rw[List.eq_nil_of_length_eq_zero (Nat.le_zero.mp h)];simp[rsF]
 | f+1,0,l,_,h=>by rw[List.eq_nil_of_length_eq_zero (Nat.le_zero.mp h)];simp[rsF]
 | f+1,g+1,l,h,h'=>by
  unfold rsF;split
  ·rfl
  ·have:=(dec_pos l).1
   rw[rsF_enough f g _ (by rw[List.length_drop];omega) (by rw[List.length_drop];omega)]
theorem rs_cons{l:List UInt8}(h:l≠[]):rs l=dec l::rs (l.drop (dec l).2):=by
 have h0:=List.length_pos_iff.mpr h;have h1:=(dec_pos l).1;unfold rs;obtain⟨n,hn⟩:∃ n,l.length=n+1:=⟨l.length-1,by omega⟩;conv=>lhs;rw[hn,rsF,if_neg h]
 rw[rsF_enough n _ _ (by rw[List.length_drop];omega) (Nat.le_refl _)]
theorem rs_at{l:List UInt8}{p:Nat}(h:p<l.length):rs (l.drop p)=dec (l.drop p)::rs (l.drop (p+(dec (l.drop p)).2)):=by
 rw[rs_cons (by intro e;have:=congrArg List.length e;simp at this;omega),List.drop_drop]
theorem rs_end{l:List UInt8}{p:Nat}(h:l.length≤p):rs (l.drop p)=[]:=by rw[List.drop_eq_nil_of_le h];rfl
theorem dec_at_le{l:List UInt8}{p:Nat}(h:p<l.length):1≤(dec (l.drop p)).2∧p+(dec (l.drop p)).2≤l.length:=by
 have:=dec_le (l:=l.drop p) (by rw[List.length_drop];omega);rw[List.length_drop]at this;exact⟨(dec_pos _).1,by omega⟩
def wellR(x:Nat×Nat):Bool:=x.1 != 65533 || x.2==3
def goodL(l:List UInt8):Bool:=(rs l).all wellR
def plainR(x:Nat×Nat):Bool:=decide (32≤x.1)&&x.1 != 127
def titleL(l:List UInt8):Bool:=(rs l).all plainR&&decide (1≤(rs l).length)&&decide ((rs l).length≤20)&&goodL l
abbrev OpT:=Int×Int×Int×Int
def opAgg(o:OpT):Value:=.agg #[.int .i64 o.1,.int .i64 o.2.1,.int .i64 o.2.2.1,.int .i64 o.2.2.2]
def ocs(o:OpT):List Value:=[.int .i64 o.1,.int .i64 o.2.1,.int .i64 o.2.2.1,.int .i64 o.2.2.2]
def opcs(l:List OpT):List Value:=l.flatMap ocs
def okI(n:Int):Prop:=-9223372036854775808≤n∧n≤9223372036854775807
def okO(o:OpT):Prop:=okI o.1∧okI o.2.1∧okI o.2.2.1∧okI o.2.2.2
theorem opcs_cons(o:OpT)(l:List OpT):opcs (o::l)=ocs o++opcs l:=rfl
theorem ocs_length(o:OpT):(ocs o).length=4:=rfl
theorem opcs_length:∀ l:List OpT,(opcs l).length=l.length*4
 | []=>rfl
 | o::l=>by rw[opcs_cons,List.length_append,ocs_length,opcs_length l,List.length_cons];omega
theorem opcs_get:∀(l:List OpT) (k j:Nat) (hk:k<l.length),j<4→(opcs l)[k*4+j]?=(ocs l[k])[j]?
 | o::l,0,j,_,hj=>by
  rw[opcs_cons,Nat.zero_mul,Nat.zero_add,List.getElem?_append_left (by rw[ocs_length];exact hj)];rfl
 | o::l,k+1,j,hk,hj=>by
  rw[opcs_cons,List.getElem?_append_right (by rw[ocs_length];omega),ocs_length,show(k+1)*4+j-4=k*4+j by omega,opcs_get l k j (by simpa using hk) hj];rfl
theorem opcs_one(l:List OpT):∀ u∈opcs l,u.oneCell'=true:=by
 intro u hu;obtain⟨o,_,ho⟩:=List.mem_flatMap.1 hu;simp only[ocs,List.mem_cons,List.not_mem_nil,or_false]at ho;rcases ho with rfl|rfl|rfl|rfl<;>rfl
def Ro(w:World)(A:Option Addr)(n c:Nat)(l:List OpT):Prop:=Rd w 4 A n c (opcs l)
theorem Ro.len{w:World}{A:Option Addr}{n c:Nat}{l:List OpT}(h:Ro w A n c l):n=l.length:=by have:=h.1;rw[opcs_length]at this;omega
theorem Ro.ext{w w':World}{A:Option Addr}{n c:Nat}{l:List OpT}(h:Ro w A n c l)(he:Ext w w'):Ro w' A n c l:=Rd.ext h he
theorem Ro.max{w:World}{A:Option Addr}{n c:Nat}{l:List OpT}(h:Ro w A n c l):n≤c∧c≤maxLen:=⟨h.2.1,h.2.2.1⟩
theorem Ro.at_{w:World}{A:Option Addr}{n c:Nat}{l:List OpT}(h:Ro w A n c l){k:Nat}(hk:k<l.length) :
  ∃ b o,A=some ⟨b,o,none⟩∧w.cell? ⟨b,o+k*4,none⟩=some (.int .i64 l[k].1)∧w.cell? ⟨b,o+k*4+1,none⟩=some (.int .i64 l[k].2.1) ∧
   w.cell? ⟨b,o+k*4+2,none⟩=some (.int .i64 l[k].2.2.1)∧w.cell? ⟨b,o+k*4+3,none⟩=some (.int .i64 l[k].2.2.2):=by
 have hn:=h.len;obtain⟨b,o,e,hc⟩:=h.2.2.2 (by omega);have hg:∀ j (hj:j<4),w.cell? ⟨b,o+k*4+j,none⟩=some ((ocs l[k])[j]'(by rw[ocs_length];exact hj)):=fun j hj=>by
  rw[Nat.add_assoc];refine hc _ _ ?_;rw[opcs_get l k j hk hj,List.getElem?_eq_getElem (by rw[ocs_length];exact hj)]
 exact⟨b,o,e,hg 0 (by decide),hg 1 (by decide),hg 2 (by decide),hg 3 (by decide)⟩
def smallI(n:Int):Bool:=decide (-2147483648≤n)&&decide (n≤2147483647)
def smallO(o:OpT):Bool:=smallI o.1&&smallI o.2.1&&smallI o.2.2.1&&smallI o.2.2.2
def formL(t:List UInt8)(l:List OpT):Bool:=titleL t&&decide (1≤l.length)&&decide (l.length≤64)&&l.all smallO
def nums(o:OpT):List Int:=[o.1,o.2.1,o.2.2.1,o.2.2.2]
def encB(t:List UInt8)(l:List OpT):List UInt8:=bytesL t++putL l.length++putAll (l.flatMap nums)
def takesL(c:Int):Int :=
 if c=0 then 0 else if c=9∨c=15 then 1 else if c=1∨c=2∨c=10∨c=11∨c=12∨c=13∨c=14 then 2 else if 3≤c∧c≤8 then 3 else -1
def cellI(n:Int):Bool:=decide (0≤n)&&decide (n≤31)
def toI(m:Nat)(n:Int):Bool:=decide (0≤n)&&decide (n≤m)
def mayL(o:OpT)(m:Nat):Bool :=
 if o.1=0 then o.2.1==0&&o.2.2.1==0&&o.2.2.2==0
 else if o.1=1 then cellI o.2.1&&o.2.2.2==0
 else if o.1=9 then toI m o.2.1&&o.2.2.1==0&&o.2.2.2==0
 else if o.1=10 then cellI o.2.1&&toI m o.2.2.1&&o.2.2.2==0
 else if o.1=15 then cellI o.2.1&&o.2.2.1==0&&o.2.2.2==0
 else if o.1=2∨11≤o.1∧o.1≤14 then cellI o.2.1&&cellI o.2.2.1&&o.2.2.2==0
 else if 3≤o.1∧o.1≤8 then cellI o.2.1&&cellI o.2.2.1&&cellI o.2.2.2
 else false
def badGo(m:Nat):Nat→List OpT→Int
 | _,[]=>-1
 | k,o::l=>if mayL o m then badGo m (k+1) l else k
def faultL(t:List UInt8)(l:List OpT):Int:=if formL t l then badGo l.length 0 l else -2
def runeN(l:List UInt8)(n:Int):Nat:=if 0≤n then (((rs l)[n.toNat]?).map (·.1)).getD 0 else 0
def getN(g:List Int)(i:Int):Int:=g.getD i.toNat 0
def setN(g:List Int)(i:Int)(v:Int):List Int:=g.set i.toNat v
def inN(press:List UInt8)(who:Int):Int:=if who<0 then 0 else (bt press who.toNat:Nat)
def valN(t press:List UInt8)(frame:Int)(g:List Int)(o:OpT):Int :=
 if o.1=1 then w32 o.2.2.1
 else if o.1=2 then getN g o.2.2.1
 else if o.1=11 then inN press (getN g o.2.2.1)
 else if o.1=12 then getN g (remN (getN g o.2.2.1):Nat)
 else if o.1=14 then (runeN t (getN g o.2.2.1):Nat)
 else if o.1=15 then w32 frame
 else sumN o.1 (getN g o.2.2.1) (getN g o.2.2.2)
def oneN(t press:List UInt8)(frame:Int)(g:List Int)(k:Nat)(o:OpT):List Int×Nat :=
 if o.1=9 then (g,o.2.1.toNat)
 else if o.1=10 then (g,if getN g o.2.1=0 then o.2.2.1.toNat else k+1)
 else if o.1=13 then (setN g (remN (getN g o.2.1):Nat) (getN g o.2.2.1),k+1)
 else (setN g o.2.1 (valN t press frame g o),k+1)
def runN(t press:List UInt8)(frame:Int)(l:List OpT):Nat→Nat→List Int→List Int×Nat
 | 0,_,g=>(g,0)
 | f+1,k,g =>
  match l[k]? with
  | none=>(g,0)
  | some o=>if o.1=0 then (g,1) else ((runN t press frame l f (oneN t press frame g k o).2 (oneN t press frame g k o).1).1,(runN t press frame l f (oneN t press frame g k o).2 (oneN t press frame g k o).1).2+1)
def stepN(t press:List UInt8)(frame:Int)(l:List OpT)(g:List Int):List Int×Nat:=if faultL t l = -1 then runN t press frame l 200 0 g else (g,0)
def okG(g:List Int):Prop:=g.length=32∧∀ x∈g,ok32 x
theorem getN_ok{g:List Int}(h:okG g)(i:Int):ok32 (getN g i):=by
 unfold getN;rw[List.getD_eq_getElem?_getD];cases e:g[i.toNat]? with
 | none=>simp[ok32]
 | some x=>exact h.2 x (List.mem_of_getElem? e)
theorem setN_ok{g:List Int}(h:okG g)(i:Int){v:Int}(hv:ok32 v):okG (setN g i v):=by
 refine⟨by simp[setN,h.1],fun x hx=>?_⟩;rcases List.mem_or_eq_of_mem_set hx with h1|h1
 ·exact h.2 x h1
 ·subst h1;exact hv
theorem inN_ok(press:List UInt8)(who:Int):ok32 (inN press who):=by
 unfold inN ok32;split
 ·omega
 ·have:=bt_lt press who.toNat;omega
theorem rs_most(l:List UInt8):∀ x∈rs l,x.1≤1114111:=by
 have h:∀ f (l:List UInt8),∀ x∈rsF f l,x.1≤1114111:=by
  intro f;induction f with
  | zero=>intro l x hx;simp[rsF]at hx
  | succ f ih =>
   intro l x hx;unfold rsF at hx;split at hx
   ·simp at hx
   ·rcases List.mem_cons.1 hx with rfl|h1
    ·exact dec_most _
    ·exact ih _ x h1
 exact h _ l
theorem runeN_le(l:List UInt8)(n:Int):runeN l n≤1114111:=by
 unfold runeN;split
 ·cases e:(rs l)[n.toNat]? with
  | none=>simp
  | some x =>
   have hm:=List.mem_of_getElem? e;simp only[Option.map_some,Option.getD_some];exact rs_most l x hm
 ·omega
theorem valN_ok(t press:List UInt8)(frame:Int){g:List Int}(h:okG g)(o:OpT):ok32 (valN t press frame g o):=by
 unfold valN;repeat' split
 ·exact w32_ok _
 ·exact getN_ok h _
 ·exact inN_ok _ _
 ·exact getN_ok h _
 ·have:=runeN_le t (getN g o.2.2.1);unfold ok32;omega
 ·exact w32_ok _
 ·exact sumN_ok _ _ _
theorem oneN_ok(t press:List UInt8)(frame:Int){g:List Int}(h:okG g)(k:Nat)(o:OpT):okG (oneN t press frame g k o).1:=by
 unfold oneN;split
 ·exact h
 split
 ·exact h
 split
 ·exact setN_ok h _ (getN_ok h _)
 ·exact setN_ok h _ (valN_ok _ _ _ h _)
theorem runN_zero(t press:List UInt8)(frame:Int)(l:List OpT)(k:Nat)(g:List Int):runN t press frame l 0 k g=(g,0):=rfl
theorem runN_end(t press:List UInt8)(frame:Int)(l:List OpT)(f k:Nat)(g:List Int)(h:l.length≤k):runN t press frame l f k g=(g,0):=by
 cases f with
 | zero=>rfl
 | succ f=>unfold runN;rw[List.getElem?_eq_none h]
theorem runN_halt(t press:List UInt8)(frame:Int)(l:List OpT)(f k:Nat)(g:List Int)(h:k<l.length)(h0:l[k].1=0):runN t press frame l (f+1) k g=(g,1):=by
 unfold runN;rw[List.getElem?_eq_getElem h];simp only[h0,if_true]
theorem runN_go(t press:List UInt8)(frame:Int)(l:List OpT)(f k:Nat)(g:List Int)(h:k<l.length)(h0:l[k].1≠0) :
  runN t press frame l (f+1) k g=((runN t press frame l f (oneN t press frame g k l[k]).2 (oneN t press frame g k l[k]).1).1,(runN t press frame l f (oneN t press frame g k l[k]).2 (oneN t press frame g k l[k]).1).2+1):=by
 conv=>lhs;unfold runN
 rw[List.getElem?_eq_getElem h];simp only[h0,if_false]
theorem runN_ok(t press:List UInt8)(frame:Int)(l:List OpT):∀(f k:Nat) {g:List Int},okG g→okG (runN t press frame l f k g).1∧(runN t press frame l f k g).2≤f
 | 0,k,g,h=>⟨h,Nat.le_refl _⟩
 | f+1,k,g,h=>by
  by_cases hk:k<l.length
  ·by_cases h0:l[k].1=0
   ·rw[runN_halt _ _ _ _ _ _ _ hk h0];exact⟨h,by simp⟩
   ·rw[runN_go _ _ _ _ _ _ _ hk h0]
    have:=runN_ok t press frame l f (oneN t press frame g k l[k]).2 (oneN_ok t press frame h k l[k]);exact⟨this.1,by simpa using this.2⟩
  ·rw[runN_end _ _ _ _ _ _ _ (by omega)];exact⟨h,Nat.zero_le _⟩
theorem stepN_ok(t press:List UInt8)(frame:Int)(l:List OpT){g:List Int}(h:okG g):okG (stepN t press frame l g).1:=by
 unfold stepN;split
 ·exact(runN_ok _ _ _ _ _ _ h).1
 ·exact h
theorem badGo_all:∀ {l:List OpT} {m k:Nat},badGo m k l = -1→∀ o∈l,mayL o m=true
 | [],_,_,_,o,ho=>by simp at ho
 | x::l,m,k,h,o,ho=>by
  have e:badGo m k (x::l)=if mayL x m then badGo m (k+1) l else (k:Int):=rfl
  rw[e]at h;by_cases hx:mayL x m=true
  ·rw[if_pos hx]at h
   rcases List.mem_cons.1 ho with rfl|h1
   ·exact hx
   ·exact badGo_all h o h1
  ·rw[if_neg hx]at h;omega
theorem fault_all{t:List UInt8}{l:List OpT}(h:faultL t l = -1):∀ o∈l,mayL o l.length=true:=by
 unfold faultL at h;split at h
 ·exact badGo_all h
 ·cases h
theorem fault_form{t:List UInt8}{l:List OpT}(h:faultL t l = -1):formL t l=true:=by
 unfold faultL at h;split at h
 ·assumption
 ·cases h
theorem may_ways{o:OpT}{m:Nat}(h:mayL o m=true) :
  o.1=0∨(o.1=9∧0≤o.2.1∧o.2.1≤m)∨(o.1=10∧0≤o.2.1∧o.2.1≤31∧0≤o.2.2.1∧o.2.2.1≤m)∨(o.1=1∧0≤o.2.1∧o.2.1≤31)∨(o.1=15∧0≤o.2.1∧o.2.1≤31) ∨
   ((o.1=2∨11≤o.1∧o.1≤14)∧0≤o.2.1∧o.2.1≤31∧0≤o.2.2.1∧o.2.2.1≤31)∨((3≤o.1∧o.1≤8)∧0≤o.2.1∧o.2.1≤31∧0≤o.2.2.1∧o.2.2.1≤31∧0≤o.2.2.2∧o.2.2.2≤31):=by
 unfold mayL cellI toI at h;by_cases h0:o.1=0
 ·exact .inl h0
 rw[if_neg h0]at h;by_cases h1:o.1=1
 ·rw[if_pos h1]at h;simp at h;omega
 rw[if_neg h1]at h;by_cases h9:o.1=9
 ·rw[if_pos h9]at h;simp at h;omega
 rw[if_neg h9]at h;by_cases h10:o.1=10
 ·rw[if_pos h10]at h;simp at h;omega
 rw[if_neg h10]at h;by_cases h15:o.1=15
 ·rw[if_pos h15]at h;simp at h;omega
 rw[if_neg h15]at h;by_cases h2:o.1=2∨11≤o.1∧o.1≤14
 ·rw[if_pos h2]at h;simp at h;omega
 rw[if_neg h2]at h;by_cases h3:3≤o.1∧o.1≤8
 ·rw[if_pos h3]at h;simp at h;omega
 rw[if_neg h3]at h;cases h
theorem oneN_at{t press:List UInt8}{frame:Int}{g:List Int}{k m:Nat}{o:OpT}(h:mayL o m=true)(hk:k<m):(oneN t press frame g k o).2≤m:=by
 have hw:=may_ways h;unfold oneN;repeat' split
 all_goals first|(simp only;omega)|(simp only;split<;>omega)
theorem next_yes(w:World)(l:List UInt8)(p:Nat)(h:p<l.length)(ty:TypeId) :
  (Instr.next (.pointer (some ⟨w.heap.size,0,none⟩)) true ty).run prog (w.iter (bs l) p) =
   .ok (.tuple #[.bool true,.int .i64 p,.int .i32 (dec (l.drop p)).1]) (w.iter (bs l) (p+(dec (l.drop p)).2)):=by
 rw[run_next_any w (bs l) p ty (by rw[bs_size];exact h),decode_bs]
theorem next_no(w:World)(l:List UInt8)(p:Nat)(h:¬ p<l.length)(ty:TypeId) :
  (Instr.next (.pointer (some ⟨w.heap.size,0,none⟩)) true ty).run prog (w.iter (bs l) p) = .ok (.tuple #[.bool false]) (w.iter (bs l) p) :=
 run_next_end w (bs l) p ty (by rw[bs_size];exact h)
theorem Ext.iter{w:World}(s:ByteArray)(p:Nat):Ext w (w.iter s p):=Ext.alloc w _
def wideI(x:Int):Int:=if x<128 then 1 else if x<2048 then 2 else if x<65536 then 3 else 4
theorem wide_int(w:World)(x:Int) :
  Calls prog 231 #[.int .i32 x] w fun e w'=>e = .returned (.int .i64 (wideI x))∧w=w':=by
 unfold wideI;by_cases h1:x<128
 ·rw[if_pos h1]
  go_enter func231,ntmps231;go_wp2_with fail;go_ret;exact⟨rfl,rfl⟩
 by_cases h2:x<2048
 ·rw[if_neg h1,if_pos h2]
  go_enter func231,ntmps231;go_wp2_with fail;go_ret;exact⟨rfl,rfl⟩
 by_cases h3:x<65536
 ·rw[if_neg h1,if_neg h2,if_pos h3]
  go_enter func231,ntmps231;go_wp2_with fail;go_ret;exact⟨rfl,rfl⟩
 ·rw[if_neg h1,if_neg h2,if_neg h3]
  go_enter func231,ntmps231;go_wp2_with fail;go_ret;exact⟨rfl,rfl⟩
theorem wide_any(w:World)(r:Nat):Calls prog 231 #[.int .i32 (r:Nat)] w fun e w'=>e = .returned (.int .i64 (wideN r:Nat))∧w=w':=by
 have h:=wide_int w r;have e:wideI (r:Nat)=(wideN r:Nat):=by unfold wideI wideN;(repeat' split)<;>omega
 rwa[e]at h
def ValRel(w:World)(l:List UInt8)(n:Value)(w':World):Prop :=
 ∃ p:Nat,w'=w.iter (bs l) p∧n = .int .i64 p∧p≤l.length∧goodL l=(rs (l.drop p)).all wellR
def ValBad(w:World)(l:List UInt8)(n:Value)(w':World):Prop :=
 ∃ p m:Nat,w'=w.iter (bs l) p∧n = .int .i64 m∧m≠p∧m≤l.length+4∧p≤l.length∧goodL l=false
def ValAny(w:World)(l:List UInt8)(n:Value)(w':World):Prop:=ValRel w l n w'∨ValBad w l n w'
theorem well_iff(l:List UInt8):wellR (dec l)=decide (wideN (dec l).1=(dec l).2):=by
 rw[Bool.eq_iff_iff,decide_eq_true_iff,dec_wide];simp[wellR]
theorem valid_any(w:World)(l:List UInt8)(hl:l.length≤1099511627776) :
  Calls prog 218 #[.string (bs l)] w fun e w'=>e = .returned (.bool (goodL l))∧Ext w w':=by
 go_enter func218,ntmps218;go_wp2_with fail;go_loopw [3] (fun n w'=>ValAny w l n w') (fun _ w'=>l.length-w'.iterPos w.heap.size)
 case atStart=>exact .inl ⟨0,rfl,rfl,Nat.zero_le _,rfl⟩
 case round =>
  rcases hrel with ⟨p,rfl,rfl,hp,hg⟩|⟨p,m,rfl,rfl,hne,hm,hp,hg⟩
  ·by_cases hlt:p<l.length
   ·have hnx:=next_yes w l p hlt
    have hd:=dec_at_le hlt;have hmost:=dec_most (l.drop p);have hw:=well_iff (l.drop p);rw[rs_at hlt,List.all_cons,hw]at hg;have h4:wideN (dec (l.drop p)).1≤4:=by unfold wideN;(repeat' split)<;>omega
    clear hw;have Hg:=hqd hg;clear hg;go_wp2_with fail;refine(wide_any _ _).mono ?_;rintro e w1 ⟨rfl,rfl⟩;go_wp2_with fail;go_roundw
    case rel =>
     have hg:=Hg.out;by_cases hb:wideN (dec (l.drop p)).1=(dec (l.drop p)).2
     ·refine .inl ⟨_,rfl,by rw[← hb];go_num,hd.2,?_⟩
      rw[hg];simp[hb]
     ·refine .inr ⟨_,p+wideN (dec (l.drop p)).1,rfl,by go_num,by omega,by omega,hd.2,?_⟩
      rw[hg];simp[hb]
    case measure=>simp;omega
   ·obtain rfl:p=l.length:=by omega
    have hnx:=next_no w l l.length hlt;go_wp2_with fail;go_ret;rw[rs_end (Nat.le_refl _)]at hg;exact⟨by rw[hg];rfl,Ext.iter _ _⟩
  ·by_cases hlt:p<l.length
   ·have hnx:=next_yes w l p hlt
    have hb:((p:Int)==(m:Int))=false:=by rw[beq_eq_false_iff_ne];omega
    go_wp2_with fail;go_ret;exact⟨by rw[hg];rfl,Ext.iter _ _⟩
   ·obtain rfl:p=l.length:=by omega
    have hnx:=next_no w l l.length hlt;have hb:((m:Int)==(l.length:Int))=false:=by rw[beq_eq_false_iff_ne];omega
    go_wp2_with fail;go_ret;exact⟨by rw[hg];rfl,Ext.iter _ _⟩
def TitRel(w:World)(l:List UInt8)(n:Value)(w':World):Prop :=
 ∃ p k:Nat,w'=w.iter (bs l) p∧n = .int .i64 k∧k≤p∧p≤l.length∧(rs l).length=k+(rs (l.drop p)).length∧(rs l).all plainR=(rs (l.drop p)).all plainR
theorem title_any(w:World)(l:List UInt8)(hl:l.length≤1099511627776) :
  Calls prog 197 #[.string (bs l)] w fun e w'=>e = .returned (.bool (titleL l))∧Ext w w':=by
 go_enter func197,ntmps197;go_wp2_with fail;go_loopw [3] (fun n w'=>TitRel w l n w') (fun _ w'=>l.length-w'.iterPos w.heap.size)
 case atStart=>exact⟨0,0,rfl,rfl,Nat.zero_le _,Nat.zero_le _,by simp,by simp⟩
 case round =>
  obtain⟨p,k,rfl,rfl,hk,hp,hn,ha⟩:=hrel;by_cases hlt:p<l.length
  ·have hnx:=next_yes w l p hlt
   have hd:=dec_at_le hlt;have hmost:=dec_most (l.drop p);rw[rs_at hlt]at ha hn;simp only[List.all_cons,List.length_cons]at ha hn;have Ha:=hqd ha;clear ha;generalize dec (l.drop p)=d at *;by_cases h1:d.1<32
   ·go_wp2_with fail
    go_ret;refine⟨?_,Ext.iter _ _⟩;have:plainR d=false:=by simp[plainR];omega
    simp[titleL,Ha.out,this]
   ·by_cases h2:d.1=127
    ·go_wp2_with fail
     go_ret;refine⟨?_,Ext.iter _ _⟩;have:plainR d=false:=by simp[plainR,h2]
     simp[titleL,Ha.out,this]
    ·have hb:((d.1:Int)==127)=false:=by rw[beq_eq_false_iff_ne];omega
     go_wp2_with fail;go_roundw
     case rel =>
      refine⟨_,k+1,rfl,by go_num,by omega,hd.2,by omega,?_⟩;rw[Ha.out];have:plainR d=true:=by simp[plainR,h2];omega
      rw[this];rfl
     case measure=>simp;omega
  ·obtain rfl:p=l.length:=by omega
   have hnx:=next_no w l l.length hlt;rw[rs_end (Nat.le_refl _)]at ha hn;simp only[List.length_nil,Nat.add_zero]at hn;have Ha:=hqd ha;clear ha;by_cases h1:k<1
   ·go_wp2_with fail
    go_ret;exact⟨by simp[titleL];omega,Ext.iter _ _⟩
   ·by_cases h2:20<k
    ·go_wp2_with fail
     go_ret;exact⟨by simp[titleL];omega,Ext.iter _ _⟩
    ·go_wp2_with fail
     refine(valid_any _ l hl).mono ?_;rintro e w1 ⟨rfl,e1⟩;go_wp2_with fail;go_ret;exact⟨by simp[titleL,Ha.out];omega,(Ext.iter _ _).trans e1⟩
def acc(l:List UInt8)(m:Nat):Nat→Nat
 | 0=>0
 | 1=>bt l 0 % m
 | j+2=>acc l m (j+1)*64+bt l (j+1) % 64


def pAgg(t:List UInt8)(A:Option Addr)(n c:Nat):Value:=.agg #[.string (bs t),.slice A n c]
theorem rsF_span:∀(f:Nat) (l:List UInt8),l.length≤f→l.length≤4*(rsF f l).length
 | 0,l,h=>by rw[List.eq_nil_of_length_eq_zero (Nat.le_zero.mp h)];simp
 | f+1,l,h=>by
  unfold rsF;split
  ·rename_i e;rw[e];simp
  ·have h1:=dec_pos l
   have h2:=rsF_span f (l.drop (dec l).2) (by rw[List.length_drop];omega);rw[List.length_drop]at h2;rw[List.length_cons];omega
theorem title_len{t:List UInt8}(h:titleL t=true):t.length≤80:=by
 unfold titleL at h;simp only[Bool.and_eq_true,decide_eq_true_eq]at h;have:=rsF_span t.length t (Nat.le_refl _);have h2:=h.1.2;unfold rs at h2;omega
def SlO(base:Nat)(l:List UInt8)(v:Value)(w:World):Prop:=∃ B m d,v = .slice B m d∧Own w base 5 1 B m d (bcs l)
theorem SlO.stab(base:Nat)(l:List UInt8):∀ v w w',SlO base l v w→Ext w w'→SlO base l v w':=fun _ _ _ ⟨B,m,d,hv,h⟩ he=>⟨B,m,d,hv,h.ext he⟩
def EncOf(w:World)(t:List UInt8)(l:List OpT)(r:Ending)(w':World):Prop :=
 (formL t l=false∧r = .returned (.slice none 0 0)∧Ext w w') ∨
 (formL t l=true∧∃ g m d,r = .returned (.slice (some ⟨g,0,none⟩) m d)∧Own w' w.heap.size 5 1 (some ⟨g,0,none⟩) m d (bcs (encB t l))∧Ext w w')
def encP(t:List UInt8)(l:List OpT)(k:Nat):List UInt8:=bytesL t++putL l.length++putAll ((l.take k).flatMap nums)
theorem encP_succ(t:List UInt8)(l:List OpT)(k:Nat)(h:k<l.length):encP t l (k+1)=encP t l k++putAll (nums l[k]):=by
 unfold encP putAll;rw[List.take_succ_eq_append_getElem h,List.flatMap_append,List.flatMap_append,← List.append_assoc];simp
theorem encP_len{t:List UInt8}{l:List OpT}(h:t.length≤80)(h2:l.length≤64)(k:Nat):(encP t l k).length≤2660:=by
 have h3:=putL_le t.length;have h4:=putL_le l.length;have h5:=putAll_le ((l.take k).flatMap nums);have h6:((l.take k).flatMap nums).length=4*(l.take k).length:=by
  generalize l.take k=m;clear h2 h4 h5;induction m with
  | nil=>rfl
  | cons o m ih=>rw[List.flatMap_cons,List.length_append,ih];simp[nums];omega
 have h7:(l.take k).length≤l.length:=by rw[List.length_take];omega
 unfold encP bytesL;simp only[List.length_append];omega
def enRel(t:List UInt8)(l:List OpT)(w1:World)(b i:Value)(w':World):Prop :=
 ∃(k:Nat) (C:Option Addr) (m d:Nat),i = .int .i64 (k:Nat)∧k≤l.length∧b = .slice C m d∧l.all smallO=(l.drop k).all smallO∧Own w' w1.heap.size 5 1 C m d (bcs (encP t l k))∧Ext w1 w'
def inRel(pre:List UInt8)(ns:List Int)(w1:World)(b i:Value)(w':World):Prop :=
 ∃(j:Nat) (C:Option Addr) (m d:Nat),i = .int .i64 (j:Nat)∧j≤ns.length∧b = .slice C m d∧(ns.take j).all smallI=true∧Own w' w1.heap.size 5 1 C m d (bcs (pre++putAll (ns.take j)))∧Ext w1 w'
theorem encode_any(w:World)(t:List UInt8)(A:Option Addr)(n c:Nat)(l:List OpT)(ht:t.length≤1099511627776)(hl:Ro w A n c l) :
  Calls prog 175 #[pAgg t A n c] w (EncOf w t l):=by
 unfold pAgg;have hn:=hl.len;have hmx:=hl.max;unfold maxLen at hmx;subst hn;go_enter func175,ntmps175;go_wp2_with fail;refine(title_any _ t ht).mono ?_;rintro e w1 ⟨rfl,e1⟩;have e2:=(Ext.alloc w _).trans e1;have c0:=e1.cell (show(w.alloc (.cells #[.string (bs t),.slice A l.length c] 65)).cell? ⟨w.heap.size,0,none⟩=some (.string (bs t)) by go_simp);have c1:=e1.cell (show(w.alloc (.cells #[.string (bs t),.slice A l.length c] 65)).cell? ⟨w.heap.size,1,none⟩=some (.slice A l.length c) by go_simp);by_cases hlt:titleL t=false∨l.length<1∨64<l.length
 ·have Hf:RowKit.Hid (formL t l=false):=hqd (by
   unfold formL;rcases hlt with h|h|h
   ·rw[h];rfl
   ·rw[decide_eq_false (show ¬ 1≤l.length by omega)];simp
   ·rw[decide_eq_false (show ¬ l.length≤64 by omega)];simp)
  cases htt:titleL t
  ·clear hlt
   go_wp2_with fail;go_ret;exact .inl ⟨Hf.out,rfl,e2⟩
  ·rw[htt]at hlt
   by_cases h1:l.length<1
   ·go_wp2_with fail
    go_ret;exact .inl ⟨Hf.out,rfl,e2⟩
   ·have h2:64<l.length:=by rcases hlt with h|h|h<;>first|cases h|omega
    clear hlt;go_wp2_with fail;go_ret;exact .inl ⟨Hf.out,rfl,e2⟩
 have htt:titleL t=true:=by cases h:titleL t<;>simp[h]at hlt ⊢
 have h1:1≤l.length:=by omega
 have h2:l.length≤64:=by omega
 have Hf:RowKit.Hid (formL t l=l.all smallO):=hqd (by unfold formL;rw[htt,decide_eq_true h1,decide_eq_true h2];rfl);have Htt:=hqd htt;have ht80:=title_len htt;rw[htt];clear hlt htt;go_wp2_with fail;apply wrN 6;simp only[tk];repeat apply lxA (fun _ h _=>aj (h.cell c0) (h.cell c1))
 apply lex_call (p:=SlO w1.heap.size (bytesL t)) (SlO.stab _ _)
 ·rfl
 ·intro W
  go_simp;exact⟨rfl,rfl⟩
 ·intro W hR hΦ
  refine(bytes_any w1.heap.size none 0 0 [] t W (by omega) (Own.nil_ _ _ _ _) (by decide) hR.size).mono ?_;rintro e W' ⟨B,m,d,rfl,ho,hg,_⟩;exact⟨_,rfl,ext_of_grown hg,B,m,d,rfl,ho⟩
 intro v;simp only[pu];repeat apply lxA (fun _ h _=>aj (h.cell c0) (h.cell c1))
 refine lex_nil ?_;intro W hR hΦ;obtain⟨B,m,d,rfl,ho⟩:=hΦ.1 rfl;simp only[dk];clear hΦ;have hbm:m=(bytesL t).length:=by have:=ho.len;rw[bcs_length]at this;omega
 have hb90:(bytesL t).length≤90:=by have:=putL_le t.length;unfold bytesL;rw[List.length_append];omega
 have Hbm:=hqd hbm;clear hbm;go_wp2_with fail;refine(put_any w1.heap.size B m d (bytesL t) l.length W (by omega) (by omega) ho (by have:=Hbm.out;omega) hR.size).mono ?_;rintro e w2 ⟨B2,m2,d2,rfl,ho2,hg2,hw2⟩;have e3:Ext w1 w2:=Ext.own hR hg2 ho.blk_ge;have c02:=e3.cell c0;have c12:=e3.cell c1;clear ho hg2 hw2 Hbm hR;go_wp2_with fail;go_loopw [3,34] (fun b i w'=>enRel t l w1 b i w') (fun _ i _=>l.length-(intOf i).toNat)
 case atStart=>exact⟨0,B2,m2,d2,rfl,Nat.zero_le _,rfl,rfl,by simpa [encP,putAll] using ho2,e3⟩
 case round =>
  obtain⟨k,C,cm,cd,rfl,hk,rfl,ha,hoc,he⟩:=hrel;obtain⟨wo,rfl⟩:∃ wo:World,wo=wr:=⟨_,rfl⟩;have Ha:=hqd ha;clear ha;by_cases hlt:k<l.length
  ·obtain⟨b,o,rfl,g0,g1,g2,g3⟩:=(hl.ext (e2.trans he)).at_ hlt
   have Hs:=hqd (show(l.drop k).all smallO=(smallO l[k]&&(l.drop (k+1)).all smallO) by rw[List.drop_eq_getElem_cons hlt,List.all_cons]);have Hp:=hqd (encP_succ t l k hlt);generalize l[k]=op at *;obtain⟨x,a,b',c'⟩:=op;dsimp only at g0 g1 g2 g3
   have i0:∀ W,(Instr.index 217 (.agg #[.int .i64 x,.int .i64 a,.int .i64 b',.int .i64 c']) (.int .i64 0)).run prog W = .ok (.int .i64 x) W:=fun _=>by kernel_rfl
   have i1:∀ W,(Instr.index 217 (.agg #[.int .i64 x,.int .i64 a,.int .i64 b',.int .i64 c']) (.int .i64 1)).run prog W = .ok (.int .i64 a) W:=fun _=>by kernel_rfl
   have i2:∀ W,(Instr.index 217 (.agg #[.int .i64 x,.int .i64 a,.int .i64 b',.int .i64 c']) (.int .i64 2)).run prog W = .ok (.int .i64 b') W:=fun _=>by kernel_rfl
   have i3:∀ W,(Instr.index 217 (.agg #[.int .i64 x,.int .i64 a,.int .i64 b',.int .i64 c']) (.int .i64 3)).run prog W = .ok (.int .i64 c') W:=fun _=>by kernel_rfl
   have hpl:=encP_len ht80 h2 k;generalize hpre:encP t l k=pre at *;have Hpre:=hqd hpre;clear hpre;go_wp2_with fail;go_loopw [3,47] (fun b i w'=>inRel pre [x,a,b',c'] w1 b i w') (fun _ i _=>4-(intOf i).toNat)
   case atStart=>exact⟨0,C,cm,cd,rfl,by simp,rfl,rfl,by simpa [putAll] using hoc.ext (Ext.alloc _ _),he.trans (Ext.alloc _ _)⟩
   case round =>
    obtain⟨j,D,dm,dd,rfl,hj,rfl,hsm,hod,hed⟩:=hrel;have Hsm:=hqd hsm;clear hsm;have hdm:dm≤2700:=by
     have:=hod.len;rw[bcs_length,List.length_append]at this;have h5:=putAll_le ([x,a,b',c'].take j);have h6:([x,a,b',c'].take j).length≤4:=by rw[List.length_take];exact Nat.min_le_right _ _
     omega
    have hcase:j=0∨j=1∨j=2∨j=3∨j=4:=by simp at hj;omega
    rcases hcase with rfl|rfl|rfl|rfl|rfl
    ·by_cases k1:x < -2147483648
     ·have Hb:RowKit.Hid (smallO (x,a,b',c')=false):=hqd (by simp[smallO,smallI];omega)
      go_wp2_with fail;go_ret;exact .inl ⟨by rw[Hf.out,Ha.out,Hs.out,Hb.out];rfl,rfl,e2.trans hed⟩
     by_cases k2:2147483647<x
     ·have Hb:RowKit.Hid (smallO (x,a,b',c')=false):=hqd (by simp[smallO,smallI];omega)
      go_wp2_with fail;go_ret;exact .inl ⟨by rw[Hf.out,Ha.out,Hs.out,Hb.out];rfl,rfl,e2.trans hed⟩
     ·go_wp2_with fail
      refine(put_any w1.heap.size D dm dd _ x _ (by omega) (by omega) hod (by omega) hed.size).mono ?_;rintro e w3 ⟨D2,dm2,dd2,rfl,hod2,hgd,hwd⟩;go_wp2_with fail;go_roundw
      case rel=>exact⟨1,D2,dm2,dd2,rfl,by simp,rfl,by have:=Hsm.out;simp[smallI]at this ⊢;omega,by simpa [putAll] using hod2,Ext.own hed hgd hod.blk_ge⟩
      case measure=>simp[intOf]
    ·by_cases k1:a < -2147483648
     ·have Hb:RowKit.Hid (smallO (x,a,b',c')=false):=hqd (by simp[smallO,smallI];omega)
      go_wp2_with fail;go_ret;exact .inl ⟨by rw[Hf.out,Ha.out,Hs.out,Hb.out];rfl,rfl,e2.trans hed⟩
     by_cases k2:2147483647<a
     ·have Hb:RowKit.Hid (smallO (x,a,b',c')=false):=hqd (by simp[smallO,smallI];omega)
      go_wp2_with fail;go_ret;exact .inl ⟨by rw[Hf.out,Ha.out,Hs.out,Hb.out];rfl,rfl,e2.trans hed⟩
     ·go_wp2_with fail
      refine(put_any w1.heap.size D dm dd _ a _ (by omega) (by omega) hod (by omega) hed.size).mono ?_;rintro e w3 ⟨D2,dm2,dd2,rfl,hod2,hgd,hwd⟩;go_wp2_with fail;go_roundw
      case rel=>exact⟨2,D2,dm2,dd2,rfl,by simp,rfl,by have:=Hsm.out;simp[smallI]at this ⊢;omega,by simpa [putAll] using hod2,Ext.own hed hgd hod.blk_ge⟩
      case measure=>simp[intOf]
    ·by_cases k1:b' < -2147483648
     ·have Hb:RowKit.Hid (smallO (x,a,b',c')=false):=hqd (by simp[smallO,smallI];omega)
      go_wp2_with fail;go_ret;exact .inl ⟨by rw[Hf.out,Ha.out,Hs.out,Hb.out];rfl,rfl,e2.trans hed⟩
     by_cases k2:2147483647<b'
     ·have Hb:RowKit.Hid (smallO (x,a,b',c')=false):=hqd (by simp[smallO,smallI];omega)
      go_wp2_with fail;go_ret;exact .inl ⟨by rw[Hf.out,Ha.out,Hs.out,Hb.out];rfl,rfl,e2.trans hed⟩
     ·go_wp2_with fail
      refine(put_any w1.heap.size D dm dd _ b' _ (by omega) (by omega) hod (by omega) hed.size).mono ?_;rintro e w3 ⟨D2,dm2,dd2,rfl,hod2,hgd,hwd⟩;go_wp2_with fail;go_roundw
      case rel=>exact⟨3,D2,dm2,dd2,rfl,by simp,rfl,by have:=Hsm.out;simp[smallI]at this ⊢;omega,by simpa [putAll] using hod2,Ext.own hed hgd hod.blk_ge⟩
      case measure=>simp[intOf]
    ·by_cases k1:c' < -2147483648
     ·have Hb:RowKit.Hid (smallO (x,a,b',c')=false):=hqd (by simp[smallO,smallI];omega)
      go_wp2_with fail;go_ret;exact .inl ⟨by rw[Hf.out,Ha.out,Hs.out,Hb.out];rfl,rfl,e2.trans hed⟩
     by_cases k2:2147483647<c'
     ·have Hb:RowKit.Hid (smallO (x,a,b',c')=false):=hqd (by simp[smallO,smallI];omega)
      go_wp2_with fail;go_ret;exact .inl ⟨by rw[Hf.out,Ha.out,Hs.out,Hb.out];rfl,rfl,e2.trans hed⟩
     ·go_wp2_with fail
      refine(put_any w1.heap.size D dm dd _ c' _ (by omega) (by omega) hod (by omega) hed.size).mono ?_;rintro e w3 ⟨D2,dm2,dd2,rfl,hod2,hgd,hwd⟩;go_wp2_with fail;go_roundw
      case rel=>exact⟨4,D2,dm2,dd2,rfl,by simp,rfl,by have:=Hsm.out;simp[smallI]at this ⊢;omega,by simpa [putAll] using hod2,Ext.own hed hgd hod.blk_ge⟩
      case measure=>simp[intOf]
    ·have Hso:RowKit.Hid (smallO (x,a,b',c')=true):=hqd (by have:=Hsm.out;simpa [smallO,and_assoc] using this)
     go_wp2_with fail;go_roundw
     case rel=>exact⟨k+1,D,dm,dd,by go_num,hlt,rfl,by rw[Ha.out,Hs.out,Hso.out,Bool.true_and],by rw[Hp.out];simpa [nums] using hod,hed⟩
     case measure=>simp[intOf];omega
  ·obtain rfl:k=l.length:=by omega
   have hne:encP t l l.length=encB t l:=by unfold encP encB;rw[List.take_length]
   have Hall:=hqd (show l.all smallO=true by rw[Ha.out,List.drop_length];rfl);obtain⟨g,hg⟩:∃ g,C=some ⟨g,0,none⟩:=by
    rcases hoc.2 with ⟨hv,_⟩|⟨g,cap,cur,hv,_⟩
    ·injection hv with _ h5 _
     have:=hoc.len;rw[bcs_length]at this;have h6:=putL_pos t.length;have h7:0<(encP t l l.length).length:=by unfold encP bytesL;simp only[List.length_append];omega
     omega
    ·injection hv with h5
     exact⟨g,h5⟩
   subst hg;rw[hne]at hoc;clear hne;go_wp2_with fail;go_ret;exact .inr ⟨by rw[Hf.out];exact Hall.out,g,cm,cd,rfl,hoc.mono e2.size,e2.trans he⟩
theorem takes_any(w:World)(c:Int)(h0:-9223372036854775808≤c)(h1:c≤9223372036854775807) :
  Calls prog 201 #[.int .i64 c] w fun e w'=>e = .returned (.int .i64 (takesL c))∧w=w':=by
 have hc:c=0∨c=1∨c=2∨c=3∨c=4∨c=5∨c=6∨c=7∨c=8∨c=9∨c=10∨c=11∨c=12∨c=13∨c=14∨c=15∨(c<0∨15<c):=by omega
 rcases hc with rfl|rfl|rfl|rfl|rfl|rfl|rfl|rfl|rfl|rfl|rfl|rfl|rfl|rfl|rfl|rfl|hc
 iterate 16
  ·go_enter func201,ntmps201
   go_wp2_with fail;go_ret;exact⟨rfl,rfl⟩
 have ht:takesL c = -1:=by
  unfold takesL;rw[if_neg (by omega),if_neg (by omega),if_neg (by omega),if_neg (by omega)]
 have b:∀ k:Int,0≤k→k≤15→(c==k)=false:=fun k h h'=>by rw[beq_eq_false_iff_ne];omega
 have b0:=b 0 (by decide) (by decide);have b1:=b 1 (by decide) (by decide);have b2:=b 2 (by decide) (by decide);have b3:=b 3 (by decide) (by decide);have b4:=b 4 (by decide) (by decide);have b5:=b 5 (by decide) (by decide);have b6:=b 6 (by decide) (by decide);have b7:=b 7 (by decide) (by decide);have b8:=b 8 (by decide) (by decide);have b9:=b 9 (by decide) (by decide);have b10:=b 10 (by decide) (by decide);have b11:=b 11 (by decide) (by decide);have b12:=b 12 (by decide) (by decide);have b13:=b 13 (by decide) (by decide);have b14:=b 14 (by decide) (by decide);have b15:=b 15 (by decide) (by decide);have Ht:=hqd ht;clear ht b hc;go_enter func201,ntmps201;go_wp2_with fail;go_ret;exact⟨by rw[Ht.out];rfl,rfl⟩
def ics(l:List Int):List Value:=l.map (Value.int .i64)
def cellRel(l:List Int)(i:Value):Prop:=∃ k:Nat,i = .int .i64 (k:Nat)∧k≤l.length∧l.all cellI=(l.drop k).all cellI
theorem cell_any(w:World)(A:Option Addr)(n c:Nat)(l:List Int)(hr:Rd w 1 A n c (ics l))(hl:l.length≤3) :
  Calls prog 202 #[.slice A n c] w fun e w'=>e = .returned (.bool (l.all cellI))∧w=w':=by
 have hn:n=l.length:=by have:=hr.1;simp[ics]at this;omega
 subst hn;go_enter func202,ntmps202;go_wp2_with fail;go_loop [7] (fun i=>cellRel l i) (fun i=>l.length-(intOf i).toNat)
 case atStart=>exact⟨0,rfl,Nat.zero_le _,rfl⟩
 case round =>
  obtain⟨k,rfl,hk,ha⟩:=hrel;by_cases hlt:k<l.length
  ·obtain⟨b,o,rfl,u,hu,hc⟩:=Rd.at_ hr hlt
   have hu2:u = .int .i64 l[k]:=by
    unfold ics at hu;rw[List.getElem?_map,List.getElem?_eq_getElem hlt]at hu;exact(Option.some.inj hu).symm
   subst hu2;rw[List.drop_eq_getElem_cons hlt,List.all_cons]at ha;have Ha:=hqd ha;clear ha hu;generalize l[k]=x at *;by_cases k1:x<0
   ·go_wp2_with fail
    go_ret;have:cellI x=false:=by simp[cellI];omega
    exact⟨by rw[Ha.out,this];rfl,rfl⟩
   by_cases k2:32≤x
   ·go_wp2_with fail
    go_ret;have:cellI x=false:=by simp[cellI];omega
    exact⟨by rw[Ha.out,this];rfl,rfl⟩
   ·have Hx:RowKit.Hid (cellI x=true):=hqd (by simp[cellI];omega)
    go_wp2_with fail;go_round
    case rel=>exact⟨k+1,by go_num,hlt,by rw[Ha.out,Hx.out];rfl⟩
    case measure=>simp[intOf];omega
  ·obtain rfl:k=l.length:=by omega
   have Ha:=hqd ha;clear ha;go_wp2_with fail;go_ret;exact⟨by rw[Ha.out,List.drop_length];rfl,rfl⟩
theorem to_any(w:World)(x:Int)(p:Addr)(n:Nat)(hc:w.cell? p=some (.int .i64 (n:Nat))) :
  Calls prog 200 #[.int .i64 x,.pointer (some p)] w fun e w'=>e = .returned (.bool (toI n x))∧w=w':=by
 by_cases h:0≤x
 ·by_cases h1:x≤(n:Int)
  ·go_enter func200,ntmps200
   go_wp2_with fail;go_ret;exact⟨by simp[toI,h,h1],rfl⟩
  ·go_enter func200,ntmps200
   go_wp2_with fail;go_ret;exact⟨by simp[toI,h,h1],rfl⟩
 ·go_enter func200,ntmps200
  go_wp2_with fail;go_ret;exact⟨by simp only[toI,decide_eq_false (show ¬ 0≤x by omega),Bool.false_and];rfl,rfl⟩
theorem takes_is(w:World)(c:Int)(h0:-9223372036854775808≤c)(h1:c≤9223372036854775807){t:Int}(ht:takesL c=t) :
  Calls prog 201 #[.int .i64 c] w fun e w'=>e = .returned (.int .i64 t)∧w=w':=ht▸takes_any w c h0 h1
theorem cell_is(w:World)(l:List Int)(t:TypeId)(hl:l.length≤3){b:Bool}(hb:l.all cellI=b){B n c:Nat}(hB:B=w.heap.size)(hn:n=l.length)(hc:c=l.length) :
  Calls prog 202 #[.slice (some ⟨B,0,none⟩) n c] (w.alloc (.cells (ics l).toArray t)) fun e w'=>e = .returned (.bool b)∧w.alloc (.cells (ics l).toArray t)=w':=by
 subst hb hB hn hc;exact cell_any _ _ _ _ l (Rd.made w t 1 (ics l) l.length (by simp[ics]) (by have:maxLen=9223372036854775807:=rfl;omega)) hl
theorem may_0(a b c:Int)(n:Nat):mayL (0,a,b,c) n=(a==0&&b==0&&c==0):=rfl
theorem may_1(a b c:Int)(n:Nat):mayL (1,a,b,c) n=(cellI a&&c==0):=rfl
theorem may_9(a b c:Int)(n:Nat):mayL (9,a,b,c) n=(toI n a&&b==0&&c==0):=rfl
theorem may_10(a b c:Int)(n:Nat):mayL (10,a,b,c) n=(cellI a&&toI n b&&c==0):=rfl
theorem may_15(a b c:Int)(n:Nat):mayL (15,a,b,c) n=(cellI a&&b==0&&c==0):=rfl
theorem may_two{x:Int}(a b c:Int)(n:Nat)(h:x=2∨11≤x∧x≤14):mayL (x,a,b,c) n=(cellI a&&cellI b&&c==0)∧takesL x=2:=by
 have h0:x≠0:=by omega
 have h1:x≠1:=by omega
 have h9:x≠9:=by omega
 have h10:x≠10:=by omega
 have h15:x≠15:=by omega
 refine⟨?_,?_⟩
 ·unfold mayL
  rw[if_neg h0,if_neg h1,if_neg h9,if_neg h10,if_neg h15,if_pos h]
 ·unfold takesL
  rw[if_neg h0,if_neg (by omega),if_pos (by omega)]
theorem may_three{x:Int}(a b c:Int)(n:Nat)(h:3≤x∧x≤8):mayL (x,a,b,c) n=(cellI a&&cellI b&&cellI c)∧takesL x=3:=by
 refine⟨?_,?_⟩
 ·unfold mayL
  dsimp only
  rw[if_neg (by omega),if_neg (by omega),if_neg (by omega),if_neg (by omega),if_neg (by omega),if_neg (by omega),if_pos h]
 ·unfold takesL
  rw[if_neg (by omega),if_neg (by omega),if_neg (by omega),if_pos h]
theorem may_none{x:Int}(a b c:Int)(n:Nat)(h:x<0∨15<x):mayL (x,a,b,c) n=false∧takesL x = -1:=by
 refine⟨?_,?_⟩
 ·unfold mayL
  dsimp only
  rw[if_neg (by omega),if_neg (by omega),if_neg (by omega),if_neg (by omega),if_neg (by omega),if_neg (by omega),if_neg (by omega)]
 ·unfold takesL
  rw[if_neg (by omega),if_neg (by omega),if_neg (by omega),if_neg (by omega)]
theorem ne0{c:Int}(h:¬ c=0):(c != 0)=true∧(c==0)=false:=⟨by rw[bne_iff_ne];exact h,by rw[beq_eq_false_iff_ne];exact h⟩
theorem may_any(w:World)(x a b c:Int)(n:Nat)(hx:okI x) :
  Calls prog 176 #[opAgg (x,a,b,c),.int .i64 (n:Nat)] w fun e w'=>e = .returned (.bool (mayL (x,a,b,c) n))∧Ext w w':=by
 unfold opAgg okI at *;have hc:(x<0∨15<x)∨x=0∨x=1∨x=9∨x=10∨x=15∨(x=2∨11≤x∧x≤14)∨3≤x∧x≤8:=by omega
 rcases hc with hc|rfl|rfl|rfl|rfl|rfl|hc|hc
 ·have h:=may_none a b c n hc
  have Hm:=hqd h.1;have Ht:=hqd h.2;clear hc h;go_enter func176,ntmps176;go_wp2_with fail;refine(takes_is _ x hx.1 hx.2 Ht.out).mono ?_;rintro e w1 ⟨rfl,rfl⟩;go_wp2_with fail;go_ret;exact⟨by rw[Hm.out];rfl,((Below.refl _ _).alloc (Nat.le_refl _) _).alloc (by simp) _⟩
 ·have Hm:=hqd (may_0 a b c n)
  by_cases c0:c=0
  ·subst c0
   by_cases b0:b=0
   ·subst b0
    by_cases a0:a=0
    ·subst a0
     go_enter func176,ntmps176;go_wp2_with fail;refine(takes_is _ 0 hx.1 hx.2 (t:=0) rfl).mono ?_;rintro e w1 ⟨rfl,rfl⟩;go_wp2_with fail;go_ret;exact⟨rfl,((Below.refl _ _).alloc (Nat.le_refl _) _).alloc (by simp) _⟩
    ·obtain⟨q1,q2⟩:=ne0 a0
     clear a0;go_enter func176,ntmps176;go_wp2_with fail;refine(takes_is _ 0 hx.1 hx.2 (t:=0) rfl).mono ?_;rintro e w1 ⟨rfl,rfl⟩;go_wp2_with fail;go_ret;exact⟨by rw[Hm.out,q2];rfl,((Below.refl _ _).alloc (Nat.le_refl _) _).alloc (by simp) _⟩
   ·obtain⟨q1,q2⟩:=ne0 b0
    clear b0;go_enter func176,ntmps176;go_wp2_with fail;refine(takes_is _ 0 hx.1 hx.2 (t:=0) rfl).mono ?_;rintro e w1 ⟨rfl,rfl⟩;go_wp2_with fail;go_ret;exact⟨by rw[Hm.out,q2];simp,((Below.refl _ _).alloc (Nat.le_refl _) _).alloc (by simp) _⟩
  ·obtain⟨q1,q2⟩:=ne0 c0
   clear c0;go_enter func176,ntmps176;go_wp2_with fail;refine(takes_is _ 0 hx.1 hx.2 (t:=0) rfl).mono ?_;rintro e w1 ⟨rfl,rfl⟩;go_wp2_with fail;go_ret;exact⟨by rw[Hm.out,q2];simp,((Below.refl _ _).alloc (Nat.le_refl _) _).alloc (by simp) _⟩
 ·have Hm:=hqd (may_1 a b c n)
  by_cases c0:c=0
  ·subst c0
   go_enter func176,ntmps176;go_wp2_with fail;refine(takes_is _ 1 hx.1 hx.2 (t:=2) rfl).mono ?_;rintro e w1 ⟨rfl,rfl⟩;go_wp2_with fail;refine(cell_is _ [a] _ (by simp) rfl (by simp) rfl rfl).mono ?_;rintro e w1 ⟨rfl,rfl⟩;go_wp2_with fail;go_ret;exact⟨by rw[Hm.out];simp,(((Below.refl _ _).alloc (Nat.le_refl _) _).alloc (by simp) _).alloc (by simp;omega) _⟩
  ·obtain⟨q1,q2⟩:=ne0 c0
   clear c0;go_enter func176,ntmps176;go_wp2_with fail;refine(takes_is _ 1 hx.1 hx.2 (t:=2) rfl).mono ?_;rintro e w1 ⟨rfl,rfl⟩;go_wp2_with fail;go_ret;exact⟨by rw[Hm.out,q2];simp,((Below.refl _ _).alloc (Nat.le_refl _) _).alloc (by simp) _⟩
 ·have Hm:=hqd (may_9 a b c n)
  by_cases c0:c=0
  ·subst c0
   by_cases b0:b=0
   ·subst b0
    go_enter func176,ntmps176;go_wp2_with fail;refine(takes_is _ 9 hx.1 hx.2 (t:=1) rfl).mono ?_;rintro e w1 ⟨rfl,rfl⟩;go_wp2_with fail;refine(to_any _ a _ n (by go_simp)).mono ?_;rintro e w1 ⟨rfl,rfl⟩;go_wp2_with fail;go_ret;exact⟨by rw[Hm.out];simp,((Below.refl _ _).alloc (Nat.le_refl _) _).alloc (by simp) _⟩
   ·obtain⟨q1,q2⟩:=ne0 b0
    clear b0;go_enter func176,ntmps176;go_wp2_with fail;refine(takes_is _ 9 hx.1 hx.2 (t:=1) rfl).mono ?_;rintro e w1 ⟨rfl,rfl⟩;go_wp2_with fail;go_ret;exact⟨by rw[Hm.out,q2];simp,((Below.refl _ _).alloc (Nat.le_refl _) _).alloc (by simp) _⟩
  ·obtain⟨q1,q2⟩:=ne0 c0
   clear c0;go_enter func176,ntmps176;go_wp2_with fail;refine(takes_is _ 9 hx.1 hx.2 (t:=1) rfl).mono ?_;rintro e w1 ⟨rfl,rfl⟩;go_wp2_with fail;go_ret;exact⟨by rw[Hm.out,q2];simp,((Below.refl _ _).alloc (Nat.le_refl _) _).alloc (by simp) _⟩
 ·have Hm:=hqd (may_10 a b c n)
  by_cases c0:c=0
  ·subst c0
   cases hca:cellI a
   ·have Hca:=hqd hca
    clear hca;go_enter func176,ntmps176;go_wp2_with fail;refine(takes_is _ 10 hx.1 hx.2 (t:=2) rfl).mono ?_;rintro e w1 ⟨rfl,rfl⟩;go_wp2_with fail;refine(cell_is _ [a] _ (by simp) (b:=false) (by simp[Hca.out]) (by simp) rfl rfl).mono ?_;rintro e w1 ⟨rfl,rfl⟩;go_wp2_with fail;go_ret;exact⟨by rw[Hm.out,Hca.out];rfl,(((Below.refl _ _).alloc (Nat.le_refl _) _).alloc (by simp) _).alloc (by simp;omega) _⟩
   ·have Hca:=hqd hca
    clear hca;go_enter func176,ntmps176;go_wp2_with fail;refine(takes_is _ 10 hx.1 hx.2 (t:=2) rfl).mono ?_;rintro e w1 ⟨rfl,rfl⟩;go_wp2_with fail;refine(cell_is _ [a] _ (by simp) (b:=true) (by simp[Hca.out]) (by simp) rfl rfl).mono ?_;rintro e w1 ⟨rfl,rfl⟩;go_wp2_with fail;refine(to_any _ b _ n (by go_simp)).mono ?_;rintro e w1 ⟨rfl,rfl⟩;go_wp2_with fail;go_ret;exact⟨by rw[Hm.out,Hca.out];simp,(((Below.refl _ _).alloc (Nat.le_refl _) _).alloc (by simp) _).alloc (by simp;omega) _⟩
  ·obtain⟨q1,q2⟩:=ne0 c0
   clear c0;go_enter func176,ntmps176;go_wp2_with fail;refine(takes_is _ 10 hx.1 hx.2 (t:=2) rfl).mono ?_;rintro e w1 ⟨rfl,rfl⟩;go_wp2_with fail;go_ret;exact⟨by rw[Hm.out,q2];simp,((Below.refl _ _).alloc (Nat.le_refl _) _).alloc (by simp) _⟩
 ·have Hm:=hqd (may_15 a b c n)
  by_cases c0:c=0
  ·subst c0
   by_cases b0:b=0
   ·subst b0
    go_enter func176,ntmps176;go_wp2_with fail;refine(takes_is _ 15 hx.1 hx.2 (t:=1) rfl).mono ?_;rintro e w1 ⟨rfl,rfl⟩;go_wp2_with fail;refine(cell_is _ [a,0,0] _ (by simp) rfl (by simp) rfl rfl).mono ?_;rintro e w1 ⟨rfl,rfl⟩;go_wp2_with fail;go_ret;exact⟨by rw[Hm.out];simp[cellI],(((Below.refl _ _).alloc (Nat.le_refl _) _).alloc (by simp) _).alloc (by simp;omega) _⟩
   ·obtain⟨q1,q2⟩:=ne0 b0
    clear b0;go_enter func176,ntmps176;go_wp2_with fail;refine(takes_is _ 15 hx.1 hx.2 (t:=1) rfl).mono ?_;rintro e w1 ⟨rfl,rfl⟩;go_wp2_with fail;go_ret;exact⟨by rw[Hm.out,q2];simp,((Below.refl _ _).alloc (Nat.le_refl _) _).alloc (by simp) _⟩
  ·obtain⟨q1,q2⟩:=ne0 c0
   clear c0;go_enter func176,ntmps176;go_wp2_with fail;refine(takes_is _ 15 hx.1 hx.2 (t:=1) rfl).mono ?_;rintro e w1 ⟨rfl,rfl⟩;go_wp2_with fail;go_ret;exact⟨by rw[Hm.out,q2];simp,((Below.refl _ _).alloc (Nat.le_refl _) _).alloc (by simp) _⟩
 ·have h:=may_two a b c n hc
  have Hm:=hqd h.1;have Ht:=hqd h.2;have g0:(x==0)=false:=by rw[beq_eq_false_iff_ne];omega
  have g1:(x==1)=false:=by rw[beq_eq_false_iff_ne];omega
  have g9:(x==9)=false:=by rw[beq_eq_false_iff_ne];omega
  have g10:(x==10)=false:=by rw[beq_eq_false_iff_ne];omega
  clear hc h;by_cases c0:c=0
  ·subst c0
   go_enter func176,ntmps176;go_wp2_with fail;refine(takes_is _ x hx.1 hx.2 Ht.out).mono ?_;rintro e w1 ⟨rfl,rfl⟩;go_wp2_with fail;refine(cell_is _ [a,b,0] _ (by simp) rfl (by simp) rfl rfl).mono ?_;rintro e w1 ⟨rfl,rfl⟩;go_wp2_with fail;go_ret;exact⟨by rw[Hm.out];simp[cellI],(((Below.refl _ _).alloc (Nat.le_refl _) _).alloc (by simp) _).alloc (by simp;omega) _⟩
  ·obtain⟨q1,q2⟩:=ne0 c0
   clear c0;go_enter func176,ntmps176;go_wp2_with fail;refine(takes_is _ x hx.1 hx.2 Ht.out).mono ?_;rintro e w1 ⟨rfl,rfl⟩;go_wp2_with fail;go_ret;exact⟨by rw[Hm.out,q2];simp,((Below.refl _ _).alloc (Nat.le_refl _) _).alloc (by simp) _⟩
 ·have h:=may_three a b c n hc
  have Hm:=hqd h.1;have Ht:=hqd h.2;have g0:(x==0)=false:=by rw[beq_eq_false_iff_ne];omega
  have g1:(x==1)=false:=by rw[beq_eq_false_iff_ne];omega
  have g9:(x==9)=false:=by rw[beq_eq_false_iff_ne];omega
  have g10:(x==10)=false:=by rw[beq_eq_false_iff_ne];omega
  clear hc h;go_enter func176,ntmps176;go_wp2_with fail;refine(takes_is _ x hx.1 hx.2 Ht.out).mono ?_;rintro e w1 ⟨rfl,rfl⟩;go_wp2_with fail;refine(cell_is _ [a,b,c] _ (by simp) rfl (by simp) rfl rfl).mono ?_;rintro e w1 ⟨rfl,rfl⟩;go_wp2_with fail;go_ret;exact⟨by rw[Hm.out];simp[Bool.and_assoc],(((Below.refl _ _).alloc (Nat.le_refl _) _).alloc (by simp) _).alloc (by simp;omega) _⟩

theorem badGo_cons(m k:Nat)(o:OpT)(l:List OpT):badGo m k (o::l)=if mayL o m then badGo m (k+1) l else (k:Int):=rfl
theorem badGo_at{l:List OpT}{k:Nat}(m:Nat)(h:k<l.length):badGo m k (l.drop k)=if mayL l[k] m then badGo m (k+1) (l.drop (k+1)) else (k:Int):=by
 rw[List.drop_eq_getElem_cons h,badGo_cons]
theorem form_small{t:List UInt8}{l:List OpT}(h:formL t l=true):∀ o∈l,okO o:=by
 unfold formL at h;simp only[Bool.and_eq_true,List.all_eq_true]at h;intro o ho;have:=h.2 o ho;simp only[smallO,smallI,Bool.and_eq_true,decide_eq_true_eq]at this;unfold okO okI;omega
theorem form_len{t:List UInt8}{l:List OpT}(h:formL t l=true):1≤l.length∧l.length≤64∧t.length≤80:=by
 unfold formL at h;simp only[Bool.and_eq_true,decide_eq_true_eq]at h;exact⟨h.1.1.2,h.1.2,title_len h.1.1.1⟩
def ftRel(l:List OpT)(w:World)(r:Int)(i:Value)(w':World):Prop:=∃ k:Nat,i = .int .i64 (k:Nat)∧k≤l.length∧r=badGo l.length k (l.drop k)∧Ext w w'
theorem fault_any(w:World)(t:List UInt8)(A:Option Addr)(n c:Nat)(l:List OpT)(ht:t.length≤1099511627776)(hl:Ro w A n c l) :
  Calls prog 151 #[pAgg t A n c] w fun e w'=>e = .returned (.int .i64 (faultL t l))∧Ext w w':=by
 have hn:=hl.len;have hmx:=hl.max;unfold maxLen at hmx;subst hn;have hl1:=hl.ext (Ext.alloc w (.cells #[.string (bs t),.slice A l.length c] 65));have henc:=encode_any _ t A l.length c l ht hl1;unfold pAgg at *;have Henc:=hqd henc;have hnil:=fun(W:World) (a:Option Addr) (n c:Nat)=>Lib.run_eql_slice_nil (P:=prog) W 30 5 a n c 0 0 underlying30;clear henc;go_enter func151,ntmps151;go_wp2_with fail;refine Calls.mono Henc.out ?_;rintro e w1 (⟨hf,rfl,e1⟩|⟨hf,g,m,d,rfl,ho,e1⟩)
 ·have Hf:=hqd hf
  clear hf;go_wp2_with fail;go_ret;exact⟨by unfold faultL;rw[Hf.out];rfl,(Ext.alloc w _).trans e1⟩
 have e2:=(Ext.alloc w _).trans e1;have c1:=e1.cell (show(w.alloc (.cells #[.string (bs t),.slice A l.length c] 65)).cell? ⟨w.heap.size,1,none⟩=some (.slice A l.length c) by go_simp);have hfl:=form_len hf;have hok:=form_small hf;have Hok:=hqd hok;have Hr:RowKit.Hid (faultL t l=badGo l.length 0 l):=hqd (by unfold faultL;rw[hf];rfl);clear hf hok Henc;go_wp2_with fail;go_loopw [11] (fun i w'=>ftRel l w1 (faultL t l) i w') (fun i _=>l.length-(intOf i).toNat)
 case atStart=>exact⟨0,rfl,Nat.zero_le _,Hr.out,Ext.refl _⟩
 case round =>
  obtain⟨k,rfl,hk,hr,he⟩:=hrel;have d1:=he.cell c1;have hsz:w.heap.size<wr.heap.size:=World.block_lt_of_cell? wr _ d1;have Hr2:=hqd hr;clear hr;by_cases hlt:k<l.length
  ·obtain⟨b,o,rfl,g0,g1,g2,g3⟩:=(hl.ext (e2.trans he)).at_ hlt
   have hs:=badGo_at l.length hlt;have hoi:=(Hok.out _ (List.getElem_mem hlt)).1;generalize l[k]=op at *;obtain⟨x,a,b',c'⟩:=op;dsimp only at g0 g1 g2 g3
   have hmay:=fun W=>may_any W x a b' c' l.length hoi;unfold opAgg at hmay;have Hmay:=hqd hmay;cases hm:mayL (x,a,b',c') l.length
   ·rw[hm,if_neg (by simp)]at hs
    have Hs:=hqd hs;have Hm:=hqd hm;clear hs hm hmay hoi;go_wp2_with fail;refine(Hmay.out _).mono ?_;rintro e w2 ⟨rfl,f2⟩;rw[Hm.out];go_wp2_with fail;go_ret;exact⟨by rw[Hr2.out,Hs.out];rfl,e2.trans ((he.trans (Ext.alloc _ _)).trans f2)⟩
   ·rw[hm,if_pos rfl]at hs
    have Hs:=hqd hs;have Hm:=hqd hm;clear hs hm hmay hoi;go_wp2_with fail;refine(Hmay.out _).mono ?_;rintro e w2 ⟨rfl,f2⟩;rw[Hm.out];go_wp2_with fail;go_roundw
    case rel=>exact⟨k+1,by go_num,hlt,by rw[Hr2.out,Hs.out],(he.trans (Ext.alloc _ _)).trans f2⟩
    case measure=>simp[intOf];omega
  ·obtain rfl:k=l.length:=by omega
   go_wp2_with fail;go_ret;exact⟨by rw[Hr2.out,List.drop_length];rfl,e2.trans he⟩
theorem may_is(w:World)(t:List UInt8)(A:Option Addr)(n c:Nat)(l:List OpT)(ht:t.length≤1099511627776)(hl:Ro w A n c l){b:Bool}(hb:(faultL t l==-1)=b) :
  Calls prog 111 #[pAgg t A n c] w fun e w'=>e = .returned (.bool b)∧Ext w w':=by
 have hl1:=hl.ext (Ext.alloc w (.cells #[.string (bs t),.slice A n c] 65));have hf:=fault_any _ t A n c l ht hl1;unfold pAgg at *;have Hf:=hqd hf;clear hf;go_enter func111,ntmps111;go_wp2_with fail;refine Calls.mono Hf.out ?_;rintro e w1 ⟨rfl,e1⟩;go_wp2_with fail;go_ret;exact⟨rfl,(Ext.alloc w _).trans e1⟩
end Go.Proofs.YtffcefoadaogbaaGreat
