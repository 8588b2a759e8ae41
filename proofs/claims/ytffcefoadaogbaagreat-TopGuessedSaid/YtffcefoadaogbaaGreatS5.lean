/- A part of the proof: texts put together and cut down by a program of mine (wip/gen/mini.py). -/
import Derived.Test.YtffcefoadaogbaaGreatS2
import Derived.Test.YtffcefoadaogbaaGreatS4
import Derived.Test.YtffcefoadaogbaaGreatRows
import Derived.Laws.BitsAllLaws
import Derived.ProofKit
namespace Go.Proofs.YtffcefoadaogbaaGreat
open Go.RowKit
open Go.Proofs.Tryz
set_option linter.unusedVariables false
set_option maxRecDepth 100000
set_option maxHeartbeats 16000000
def kindP(p:Pk):Int:=if p.quit then 2 else 1
def pkAgg(id:Int)(p:Pk)(A:Option Addr)(n c:Nat):Value :=
 .agg #[.int .i64 (kindP p),.int .i64 (p.src:Nat),.int .i64 (p.dst:Nat),.int .i64 id,.int .i64 (p.first:Nat),.slice A n c,.int .i64 (p.ack:Nat),.int .i64 (p.frame:Nat),.int .u32 (p.sum:Nat)]
def okId(id:Int):Prop:=0≤id∧id≤1099511627776
theorem in_yes(w:World)(most:Int)(b n:Nat)(l:List Int)(hn:n=l.length)(h4:n≤4)(hm:0≤most∧most≤100000)(hl:∀ j (h:j<l.length),w.cell? ⟨b,j,none⟩=some (.int .i64 l[j]))(ha:∀ x∈l,0≤x∧x≤most) :
  Calls prog 332 #[.int .i64 most,.slice (some ⟨b,0,none⟩) n n] w fun e w'=>e = .returned (.bool true)∧w'=w:=by
 go_enter func332,ntmps332;go_wp2_with fail;go_loop [9] (fun i=>∃ j:Nat,i = .int .i64 (j:Nat)∧j≤n) (fun i=>n-(intOf i).toNat)
 case atStart=>exact⟨0,rfl,Nat.zero_le _⟩
 case round =>
  obtain⟨j,rfl,hj⟩:=hrel;by_cases hjn:j<n
  ·have c0:=hl j (by omega)
   have h0:=ha _ (List.getElem_mem (show j<l.length by omega));generalize l[j]'(by omega)=x at *;have d1:decide (x<0)=false:=decide_eq_false (by omega);have d2:decide (most<x)=false:=decide_eq_false (by omega);clear hl ha;go_wp2_with fail;go_round
   case rel=>exact⟨j+1,by go_num,by omega⟩
   case measure=>simp[intOf];omega
  ·obtain rfl:j=n:=by omega
   clear hl ha;go_wp2_with fail;go_ret;exact⟨rfl,rfl⟩
theorem pk_ways{p:Pk}(h:okPk p):p.src<8∧p.dst<8∧p.src≠p.dst∧((p.quit=true∧p.first=0∧p.press=[]∧p.ack=0∧p.frame=0∧p.sum=0)∨(p.quit=false∧p.first≤1000∧p.ack≤1000∧p.frame≤1000∧p.press.length≤32∧p.sum<4294967296)):=by
 obtain⟨h1,h2,h3,h4⟩:=h;refine⟨h1,h2,h3,?_⟩;by_cases hq:p.quit=true
 ·rw[if_pos hq]at h4;exact .inl ⟨hq,h4⟩
 ·rw[if_neg hq]at h4;exact .inr ⟨by simpa using hq,h4⟩
theorem may_pk(w:World)(id:Int)(p:Pk)(A:Option Addr)(n c:Nat)(hp:okPk p)(hid:okId id)(hn:n=p.press.length)(hc:n≤c∧c≤maxLen) :
  Calls prog 326 #[pkAgg id p A n c] w fun e w'=>e = .returned (.bool true)∧Ext w w':=by
 obtain⟨hs,hd,hne,hw⟩:=pk_ways hp;have hiy:=fun W b n l h1 h2 h3 h4=>in_yes W 7 b n l h1 h2 (by decide) h3 h4;have hiy2:=fun W b n l h1 h2 h3 h4=>in_yes W 1000 b n l h1 h2 (by decide) h3 h4;have hiy3:=fun W b n l h1 h2 h3 h4=>in_yes W 0 b n l h1 h2 (by decide) h3 h4;unfold okId at hid;have e1:((p.src:Int)==(p.dst:Int))=false:=by rw[beq_eq_false_iff_ne];omega
 have e1':(p.src==p.dst)=false:=by rw[beq_eq_false_iff_ne];omega
 have e2:decide (id<0)=false:=decide_eq_false (by omega);have e3:decide (1099511627776<id)=false:=decide_eq_false (by omega);have H1:=hqd hiy;have H2:=hqd hiy2;have H3:=hqd hiy3;unfold pkAgg kindP;clear hp hiy hiy2 hiy3;rcases hw with ⟨hq,hf,hpr,hac,hfr,hsu⟩|⟨hq,hf,hac,hfr,hpr,hsu⟩
 ·have hn0:n=0:=by rw[hn,hpr];rfl
  rw[hq,hf,hac,hfr,hsu,hn0];clear hq hf hpr hac hfr hsu hn;go_enter func326,ntmps326;go_wp2_with fail;generalize hV:World.alloc (World.alloc w _) _=V;have eV:Ext w V:=by subst hV;exact(Ext.alloc _ _).trans (Ext.alloc _ _)
  have q0:V.cell? ⟨w.heap.size,0,none⟩=some (.int .i64 2):=by subst hV;go_simp
  have q1:V.cell? ⟨w.heap.size,1,none⟩=some (.int .i64 (p.src:Nat)):=by subst hV;go_simp
  have q2:V.cell? ⟨w.heap.size,2,none⟩=some (.int .i64 (p.dst:Nat)):=by subst hV;go_simp
  have q3:V.cell? ⟨w.heap.size,3,none⟩=some (.int .i64 id):=by subst hV;go_simp
  have q4:V.cell? ⟨w.heap.size,4,none⟩=some (.int .i64 0):=by subst hV;go_simp
  have q5:V.cell? ⟨w.heap.size,5,none⟩=some (.slice A 0 c):=by subst hV;go_simp
  have q6:V.cell? ⟨w.heap.size,6,none⟩=some (.int .i64 0):=by subst hV;go_simp
  have q7:V.cell? ⟨w.heap.size,7,none⟩=some (.int .i64 0):=by subst hV;go_simp
  have q8:V.cell? ⟨w.heap.size,8,none⟩=some (.int .u32 0):=by subst hV;go_simp
  refine(H1.out V _ 2 [(p.src:Int),(p.dst:Int)] rfl (by decide) ?_ ?_).mono ?_
  ·intro j hj
   match j,hj with
   | 0,_=>subst hV;go_simp
   | 1,_=>subst hV;go_simp
   | j+2,hj=>simp at hj;omega
  ·intro x hx;simp at hx;omega
  rintro e w2 ⟨rfl,rfl⟩;clear hV;have hlt:w.heap.size<w2.heap.size:=World.block_lt_of_cell? _ _ q0;go_wp2_with fail;refine(H3.out _ _ 4 [0,0,0,0] rfl (by decide) ?_ ?_).mono ?_
  ·intro j hj
   match j,hj with
   | 0,_=>go_simp
   | 1,_=>go_simp
   | 2,_=>go_simp
   | 3,_=>go_simp
   | j+4,hj=>simp at hj;omega
  ·intro x hx;simp at hx;omega
  rintro e w3 ⟨rfl,rfl⟩;go_wp2_with fail;go_ret;exact⟨rfl,eV.trans (Ext.alloc _ _)⟩
 ·rw[hq]
  rw[← hn]at hpr;clear hq hn;go_enter func326,ntmps326;go_wp2_with fail;generalize hV:World.alloc (World.alloc w _) _=V;have eV:Ext w V:=by subst hV;exact(Ext.alloc _ _).trans (Ext.alloc _ _)
  have q0:V.cell? ⟨w.heap.size,0,none⟩=some (.int .i64 1):=by subst hV;go_simp
  have q1:V.cell? ⟨w.heap.size,1,none⟩=some (.int .i64 (p.src:Nat)):=by subst hV;go_simp
  have q2:V.cell? ⟨w.heap.size,2,none⟩=some (.int .i64 (p.dst:Nat)):=by subst hV;go_simp
  have q3:V.cell? ⟨w.heap.size,3,none⟩=some (.int .i64 id):=by subst hV;go_simp
  have q4:V.cell? ⟨w.heap.size,4,none⟩=some (.int .i64 (p.first:Nat)):=by subst hV;go_simp
  have q5:V.cell? ⟨w.heap.size,5,none⟩=some (.slice A n c):=by subst hV;go_simp
  have q6:V.cell? ⟨w.heap.size,6,none⟩=some (.int .i64 (p.ack:Nat)):=by subst hV;go_simp
  have q7:V.cell? ⟨w.heap.size,7,none⟩=some (.int .i64 (p.frame:Nat)):=by subst hV;go_simp
  refine(H1.out V _ 2 [(p.src:Int),(p.dst:Int)] rfl (by decide) ?_ ?_).mono ?_
  ·intro j hj
   match j,hj with
   | 0,_=>subst hV;go_simp
   | 1,_=>subst hV;go_simp
   | j+2,hj=>simp at hj;omega
  ·intro x hx;simp at hx;omega
  rintro e w2 ⟨rfl,rfl⟩;clear hV;have hlt:w.heap.size<w2.heap.size:=World.block_lt_of_cell? _ _ q0;have e5:decide (n≤32)=true:=decide_eq_true hpr;have e5':decide ((n:Int)≤32)=true:=decide_eq_true (by omega);go_wp2_with fail;refine(H2.out _ _ 3 [(p.first:Int),(p.ack:Int),(p.frame:Int)] rfl (by decide) ?_ ?_).mono ?_
  ·intro j hj
   match j,hj with
   | 0,_=>go_simp
   | 1,_=>go_simp
   | 2,_=>go_simp
   | j+3,hj=>simp at hj;omega
  ·intro x hx;simp at hx;omega
  rintro e w3 ⟨rfl,rfl⟩;go_wp2_with fail;go_ret;exact⟨rfl,eV.trans (Ext.alloc _ _)⟩
theorem frames_yes(w:World)(n:Int)(h0:0≤n)(h1:n≤1000) :
  Calls prog 43 #[.int .i64 n] w fun e w'=>e = .returned (.bool true)∧w'=w:=by
 have d1:decide (0≤n)=true:=decide_eq_true h0;have d2:decide (n≤1000)=true:=decide_eq_true h1;go_enter func43,ntmps43;go_wp2_with fail;go_ret;exact⟨rfl,rfl⟩
theorem rmay_pk(w:World)(id:Int)(p:Pk)(A:Option Addr)(n c:Nat)(hp:okPk p)(hid:okId id)(hn:n=p.press.length)(hc:n≤c∧c≤maxLen) :
  Calls prog 29 #[pkAgg id p A n c] w fun e w'=>e = .returned (.bool true)∧Ext w w':=by
 obtain⟨hs,hd,hne,hw⟩:=pk_ways hp;have hfy:=fun W n h0 h1=>frames_yes W n h0 h1;unfold okId at hid;have e1:((p.src:Int)==(p.dst:Int))=false:=by rw[beq_eq_false_iff_ne];omega
 have e1':(p.src==p.dst)=false:=by rw[beq_eq_false_iff_ne];omega
 have e2:decide (id<0)=false:=decide_eq_false (by omega);have e3:decide (1099511627776<id)=false:=decide_eq_false (by omega);have e4:decide ((7:Int)<(p.src:Int))=false:=decide_eq_false (by omega);have e5:decide ((7:Int)<(p.dst:Int))=false:=decide_eq_false (by omega);have e4':decide (7<p.src)=false:=decide_eq_false (by omega);have e5':decide (7<p.dst)=false:=decide_eq_false (by omega);have H1:=hqd hfy;unfold pkAgg kindP;clear hp hfy;rcases hw with ⟨hq,hf,hpr,hac,hfr,hsu⟩|⟨hq,hf,hac,hfr,hpr,hsu⟩
 ·have hn0:n=0:=by rw[hn,hpr];rfl
  rw[hq,hf,hac,hfr,hsu,hn0];clear hq hf hpr hac hfr hsu hn;go_enter func29,ntmps29;go_wp2_with fail;go_ret;exact⟨rfl,Ext.alloc _ _⟩
 ·rw[hq]
  rw[← hn]at hpr;clear hq hn;have e8:decide (n≤32)=true:=decide_eq_true hpr;have e8':decide ((n:Int)≤32)=true:=decide_eq_true (by omega);go_enter func29,ntmps29;go_wp2_with fail;refine(H1.out _ _ (by omega) (by omega)).mono ?_;rintro e w2 ⟨rfl,rfl⟩;go_wp2_with fail;refine(H1.out _ _ (by omega) (by omega)).mono ?_;rintro e w2 ⟨rfl,rfl⟩;go_wp2_with fail;refine(H1.out _ _ (by omega) (by omega)).mono ?_;rintro e w2 ⟨rfl,rfl⟩;go_wp2_with fail;go_ret;exact⟨rfl,Ext.alloc _ _⟩
def GetRel(l:List UInt8)(u i:Value):Prop:=∃ k q:Nat,i = .int .i64 k∧u = .int .u64 q∧k≤l.length∧k≤9∧q<128 ^ k∧getGo k q (l.drop k)=getL l
theorem and127_nat:∀ n:Nat,n<256→bits BinOp.and IntKind.u8 (n:Int) 127=((n % 128:Nat):Int):=by decide
theorem or64_nat(a b:Nat)(ha:a<18446744073709551616)(hb:b<18446744073709551616):bits .or .u64 (a:Int) (b:Int)=((a ||| b:Nat):Int):=by
 have hx:a ||| b<2 ^ 64:=Nat.or_lt_two_pow (by omega) (by omega)
 show IntKind.u64.wrap ((BitVec.ofInt 64 (a:Int) ||| BitVec.ofInt 64 (b:Int)).toNat:Int)=_
 rw[BitVec.toNat_or,BitVec.ofInt_natCast,BitVec.ofInt_natCast,BitVec.toNat_ofNat,BitVec.toNat_ofNat,Nat.mod_eq_of_lt (by omega),Nat.mod_eq_of_lt (by omega),IntKind.wrap_u64];omega
theorem and64_one(a:Nat)(ha:a<18446744073709551616):bits .and .u64 (a:Int) 1=((a % 2:Nat):Int):=by
 show IntKind.u64.wrap ((BitVec.ofInt 64 (a:Int) &&& BitVec.ofInt 64 ((1:Nat):Int)).toNat:Int)=_
 rw[BitVec.toNat_and,BitVec.ofInt_natCast,BitVec.ofInt_natCast,BitVec.toNat_ofNat,BitVec.toNat_ofNat,Nat.mod_eq_of_lt (by omega),Nat.mod_eq_of_lt (by omega),Nat.and_one_is_mod,IntKind.wrap_u64];omega
theorem get_or(q k x:Nat)(hk:k≤9)(hq:q<128 ^ k)(hx:x<256)(h9:k=9→x≤1) :
  bits .or .u64 (q:Int) (IntKind.u64.wrap (IntKind.u64.wrap (bits .and .u8 (x:Int) 127)*2 ^ (7*k)))=((q+x % 128*2 ^ (7*k):Nat):Int)∧q+x % 128*2 ^ (7*k)<18446744073709551616∧(127<x→q+x % 128*2 ^ (7*k)<128 ^ (k+1)):=by
 have hp:2 ^ (7*k)=128 ^ k:=two_pow7 k;have hpk:(128:Nat) ^ k≤128 ^ 9:=Nat.pow_le_pow_right (by omega) hk;have e9:(128:Nat) ^ 9=9223372036854775808:=by decide
 have hlt:x % 128*128 ^ k<18446744073709551616:=by
  by_cases h:k=9
  ·have:=h9 h
   subst h;have:x % 128*128 ^ 9≤1*128 ^ 9:=Nat.mul_le_mul_right _ (by omega);omega
  ·have hpk:(128:Nat) ^ k≤128 ^ 8:=Nat.pow_le_pow_right (by omega) (by omega)
   have e8:(128:Nat) ^ 8=72057594037927936:=by decide
   have:x % 128*128 ^ k≤127*128 ^ k:=Nat.mul_le_mul_right _ (by omega);omega
 have hor:q ||| x % 128*128 ^ k=q+x % 128*128 ^ k:=by
  rw[← hp]at hq ⊢;rw[Nat.or_comm,Nat.mul_comm,← Nat.two_pow_add_eq_or_of_lt hq,Nat.add_comm]
 have hsum:x % 128*128 ^ k+128 ^ k≤128*128 ^ k:=by
  rw[← Nat.succ_mul];exact Nat.mul_le_mul_right _ (by omega)
 have hlt2:q+x % 128*128 ^ k<18446744073709551616:=by
  by_cases h:k=9
  ·have:=h9 h
   subst h;have:x % 128*128 ^ 9≤1*128 ^ 9:=Nat.mul_le_mul_right _ (by omega);omega
  ·have hpk:(128:Nat) ^ k≤128 ^ 8:=Nat.pow_le_pow_right (by omega) (by omega)
   have e8:(128:Nat) ^ 8=72057594037927936:=by decide
   omega
 refine⟨?_,by rw[hp];exact hlt2,fun _=>by rw[hp,pow128];omega⟩;rw[and127_nat x hx,hp];have ew:IntKind.u64.wrap (IntKind.u64.wrap ((x % 128:Nat):Int)*2 ^ (7*k))=((x % 128*128 ^ k:Nat):Int):=by
  rw[IntWalk.u64_in ((x % 128:Nat):Int) (by omega)];have e2:((x % 128:Nat):Int)*2 ^ (7*k)=((x % 128*128 ^ k:Nat):Int):=by
   rw[← hp];simp
  rw[e2];exact IntWalk.u64_in _ (by omega)
 rw[ew,or64_nat _ _ (by omega) hlt,hor]
theorem not_i64(n:Nat)(h:n<9223372036854775808):bits BinOp.xor IntKind.i64 (-1) (n:Int) = -(n:Int)-1:=by
 have e:BitVec.ofInt 64 (-1)=BitVec.allOnes 64:=by decide
 show IntKind.i64.wrap ((BitVec.ofInt 64 (-1) ^^^ BitVec.ofInt 64 (n:Int)).toNat:Int)=_
 rw[e,BitVec.xor_comm,BitVec.xor_allOnes,BitVec.toNat_not,BitVec.ofInt_natCast,BitVec.toNat_ofNat,Nat.mod_eq_of_lt (by omega),IntKind.wrap_i64];omega
theorem zag_odd{Q:Nat}(hp:Q % 2=1)(hlt:Q<18446744073709551616):bits BinOp.xor IntKind.i64 (-1) ((Q:Int) / 2)=zag Q:=by
 have:=not_i64 (Q / 2) (by omega);have e:((Q / 2:Nat):Int)=(Q:Int) / 2:=by omega
 rw[e]at this;rw[this,zag,if_pos hp,e]
theorem zag_even{Q:Nat}(hp:Q % 2=0):(Q:Int) / 2=zag Q:=by
 rw[zag,if_neg (by omega)];omega
theorem drop_cons{α:Type}{l:List α}{k:Nat}(h:k<l.length):l.drop k=l[k]::l.drop (k+1):=List.drop_eq_getElem_cons h
theorem get_any(A:Option Addr)(n c:Nat)(l:List UInt8)(w:World)(hr:Rb w A n c l) :
  Calls prog 329 #[.slice A n c] w fun e w'=>e = .returned (.tuple #[.int .i64 (getL l).1,.int .i64 (getL l).2.1,.int .i64 (getL l).2.2])∧w=w':=by
 have hn:=hr.len;have hmx:=hr.max;unfold maxLen at hmx;subst hn;go_enter func329,ntmps329;go_wp2_with fail;go_loop [5,11] (fun u i=>GetRel l u i) (fun _ i=>l.length-(intOf i).toNat)
 case atStart=>exact⟨0,0,rfl,rfl,Nat.zero_le _,by omega,by simp,rfl⟩
 case round =>
  obtain⟨k,q,rfl,rfl,hk,hk9,hq,hg⟩:=hrel;by_cases hlt:k<l.length
  ·rw[drop_cons hlt]at hg
   obtain⟨b,o,rfl,hc⟩:=hr.at_ hlt;have hb:=(l[k]).toNat_lt;clear hr;generalize l[k]=x at *;by_cases h9:k=9∧1<x.toNat
   ·obtain⟨rfl,h91⟩:=h9
    rw[getGo,if_pos ⟨rfl,h91⟩]at hg;have Hg:=hqd hg;clear hg;go_wp2_with fail;go_ret3
    exact⟨by rw[← Hg.out];rfl,rfl⟩
   ·rw[getGo,if_neg h9]at hg
    obtain⟨hor,hlt2,hlt3⟩:=get_or q k x.toNat hk9 hq hb (by omega);obtain⟨Q,hQ⟩:∃ Q,Q=q+x.toNat % 128*2 ^ (7*k):=⟨_,rfl⟩;rw[← hQ]at hg hor hlt2 hlt3;have HQ:=hqd hQ;clear hQ;have hodd:=and64_one Q hlt2;by_cases h1:127<x.toNat
    ·rw[if_pos h1]at hg
     have Hg:=hqd hg;have hne:((k:Int)==9)=false:=by simp;omega
     clear hg hodd;go_wp2_with fail;go_round
     case rel=>exact⟨k+1,Q,by go_num,rfl,by omega,by omega,hlt3 h1,Hg.out⟩
     case measure=>simp[intOf];omega
    ·rw[if_neg h1]at hg
     by_cases h2:0<k∧x.toNat=0
     ·rw[if_pos h2]at hg
      have Hg:=hqd hg;obtain⟨h3,h4⟩:=h2;have h5:((x.toNat:Int)==0)=true:=by simp;omega
      clear hg hodd h9;by_cases h6:k=9
      ·subst h6
       have e9:(2:Int) ^ (7*9)=9223372036854775808:=by decide
       rw[e9]at hor;clear e9;go_wp2_with fail;go_ret3
       exact⟨by rw[← Hg.out];rfl,rfl⟩
      ·have hne:((k:Int)==9)=false:=by simp;omega
       go_wp2_with fail;go_ret3
       exact⟨by rw[← Hg.out];rfl,rfl⟩
     ·rw[if_neg h2]at hg
      have Hg:=hqd hg;clear hg;by_cases h6:k=9
      ·subst h6
       have e9:(2:Int) ^ (7*9)=9223372036854775808:=by decide
       rw[e9]at hor;have h5:((x.toNat:Int)==0)=false:=by simp;omega
       have hx1:x.toNat≤1:=by omega
       clear e9 h9 h2;by_cases hp:Q % 2=1
       ·rw[hp]at hodd
        have hz:=zag_odd hp hlt2;clear hp;go_wp2_with fail;go_ret3
        exact⟨by rw[← Hg.out];rfl,rfl⟩
       ·have hp0:Q % 2=0:=by omega
        have Hp:=hqd hp0;rw[hp0]at hodd;clear hp hp0;go_wp2_with fail;go_ret3
        exact⟨by rw[← Hg.out,zag_even Hp.out];rfl,rfl⟩
      ·have hne:((k:Int)==9)=false:=by simp;omega
       have h5:0<k→((x.toNat:Int)==0)=false:=by intro hk;simp;omega
       have e1:((k+1:Nat):Int)=(k:Int)+1:=by omega
       have He:=hqd e1;clear h9 h2 e1;by_cases hp:Q % 2=1
       ·rw[hp]at hodd
        have hz:=zag_odd hp hlt2;clear hp;by_cases h7:0<k
        ·have h5:=h5 h7
         go_wp2_with fail;go_ret3
         exact⟨by rw[← Hg.out,He.out];rfl,rfl⟩
        ·go_wp2_with fail
         go_ret3
         exact⟨by rw[← Hg.out,He.out];rfl,rfl⟩
       ·have hp0:Q % 2=0:=by omega
        have Hp:=hqd hp0;rw[hp0]at hodd;clear hp hp0;by_cases h7:0<k
        ·have h5:=h5 h7
         go_wp2_with fail;go_ret3
         exact⟨by rw[← Hg.out,zag_even Hp.out,He.out];rfl,rfl⟩
        ·go_wp2_with fail
         go_ret3
         exact⟨by rw[← Hg.out,zag_even Hp.out,He.out];rfl,rfl⟩
  ·rw[List.drop_eq_nil_of_le (by omega),getGo]at hg
   have Hg:=hqd hg;clear hg;go_wp2_with fail;go_ret3
   exact⟨by rw[← Hg.out];rfl,rfl⟩
theorem four_cells2(n:Nat)(h:n<4294967296):bcs (fourL n)=[.int .u8 (↑n / 16777216),.int .u8 (↑n / 65536 % 256),.int .u8 (↑n / 256 % 256),.int .u8 (↑n % 256)]:=by
 simp only[bcs,fourL,List.map_cons,List.map_nil];rw[toNat_ofNat8 (by omega),toNat_ofNat8 (by omega),toNat_ofNat8 (by omega),toNat_ofNat8 (by omega)];simp
theorem four_any(n:Nat)(w:World)(h:n<4294967296) :
  Calls prog 327 #[.int .u32 (n:Nat)] w (Made w 5 1 (bcs (fourL n))):=by
 go_enter func327,ntmps327;go_wp2_with fail;go_ret;refine⟨_,_,_,rfl,?_,Ext.alloc _ _⟩;rw[four_cells2 n h];exact Own.made w _ _ 1 _ 4 (Nat.le_refl _) (by decide) rfl
theorem rput_any(x:Int)(w:World)(h0:-9223372036854775808≤x)(h1:x≤9223372036854775807) :
  Calls prog 30 #[.int .i64 x] w (Appended w w.heap.size 5 1 none (bcs (putL x))):=by
 obtain⟨i,hi,hz0,hz1,hz2⟩:=info_parts info_u8;have hzl:=zig_lt h0 h1;rcases zig_ways h0 with ⟨hx,hz⟩|⟨hx,hz⟩
 all_goals
  go_enter func30,ntmps30;go_wp2_with fail;clear hz;go_loopw [4,3] (fun v u wr=>PutRel w w.heap.size none [] x v u wr) (fun _ u _=>(intOf u).toNat)
  case atStart=>exact⟨none,0,0,[],zig x,9,rfl,rfl,Own.nil_ _ _ _ _,World.grownBy.refl w _,Went.refl w _,rfl,by rw[pow128_10];omega,rfl,hzl⟩
  case round =>
   obtain⟨B,m,d,pre,q,k,rfl,rfl,ho,hg,hw,hp,hq,hk,hq64⟩:=hrel;have hm:m≤10:=by have:=ho.len;simp[bcs_length]at this;omega
   have hbw:w.heap.size≤wr.heap.size:=hg.size;have Hp:=hqd hp;have Hk:=hqd hk;clear hp hk;go_wp2_with (at_builtin;refine wpList_append_new _ rfl _ _ 30 rfl w.heap.size 5 i (.int .u8 0) 1 1 underlying30 hi hz0 hz1 hz2 rfl (by decide) B m d _ rfl ho 1 _ rfl rfl (by simp[Value.oneCell']) (by unfold maxLen;omega) (by omega) hbw ?_;intro B' d' w' ho' hg' hw')
   ·go_roundw
    case rel=>exact put_again (by omega) hg hw Hp.out hq Hk.out hq64 ho' hg' hw'
    case measure=>simp[intOf];omega
   ·go_ret
    exact put_end (l:=[]) (by omega) hg hw Hp.out ho' hg' hw'
def runN_(c:UInt8):List UInt8→Nat
 | []=>0
 | x::l=>if x=c then runN_ c l+1 else 0
theorem runN_le(c:UInt8):∀ l:List UInt8,runN_ c l≤l.length
 | []=>Nat.le_refl _
 | x::l=>by
  unfold runN_;split
  ·simp only[List.length_cons];have:=runN_le c l;omega
  ·simp
theorem runN_cons(c:UInt8)(l:List UInt8):runN_ c (c::l)=runN_ c l+1:=by simp[runN_]
theorem runN_is{c:UInt8}:∀(l:List UInt8) (k:Nat),k≤l.length→(∀ j (h:j<k) (h2:j<l.length),l[j]=c)→(∀ h:k<l.length,l[k]≠c)→runN_ c l=k
 | [],k,hk,_,_=>by simp at hk;subst hk;rfl
 | x::l,0,_,_,h=>by
  unfold runN_;rw[if_neg];exact h (by simp)
 | x::l,k+1,hk,ha,h=>by
  have hx:x=c:=ha 0 (by omega) (by simp);subst hx;rw[runN_cons,runN_is l k (by simpa using hk) (fun j hj h2=>ha (j+1) (by omega) (by simpa using h2)) (fun h2=>h (by simpa using h2))]
def runsG(a:UInt8)(l:List UInt8):List UInt8 :=
 match l with
 | []=>[]
 | c::r=>putL ((runN_ c (c::r):Nat):Int)++[c ^^^ a]++runsG c ((c::r).drop (runN_ c (c::r)))
termination_by l.length
decreasing_by simp only[List.length_drop,runN_cons,List.length_cons];omega
def runsL(l:List UInt8):List UInt8:=runsG 0 l
theorem runsG_nil(a:UInt8):runsG a []=[]:=by unfold runsG;rfl
theorem runsG_cons(a c:UInt8)(r:List UInt8):runsG a (c::r)=putL ((runN_ c (c::r):Nat):Int)++[c ^^^ a]++runsG c ((c::r).drop (runN_ c (c::r))):=by rw[runsG]
theorem putL_le10(n:Int):(putL n).length≤10:=putF_le 10 _
theorem SlP.stabK{base:Nat}{e:TypeId}{xs:List Value}{k:Nat}{C:Option Addr}:∀ j,j≠k→∀ v w w',SlP base e xs v w→gRs k C j w w'→SlP base e xs v w':=by
 rintro j hj v w w' ⟨B,m,d,hv,h⟩ hR;rcases hR with ⟨h1,_⟩|hg
 ·exact absurd h1 hj
 ·exact⟨B,m,d,hv,h.ext hg⟩
def NewP(B0:Nat)(T:TypeId)(cs:List Value)(v:Value)(w:World):Prop:=∃ g,v = .slice (some ⟨g,0,none⟩) cs.length cs.length∧B0≤g∧w.heap[g]?=some (.cells cs.toArray T (0,0))
theorem NewP.stab{B0:Nat}{T:TypeId}{cs:List Value}{k i:Nat}{C:Option Addr}(hC:∀ g,blk C=some g→g<B0):∀ j,j≠i→∀ v w w',NewP B0 T cs v w→gRs k C j w w'→NewP B0 T cs v w':=by
 rintro j _ v w w' ⟨g,hv,hg,h⟩ hR;refine⟨g,hv,hg,?_⟩;have hlt:=(Array.getElem?_eq_some_iff.1 h).1;rcases hR with ⟨_,hgr⟩|he
 ·rw[hgr.block g hlt (fun e=>by have:=hC g e.symm;omega)];exact h
 ·rw[he.block g hlt];exact h
theorem NewP.rd{B0:Nat}{T:TypeId}{cs:List Value}{v:Value}{w:World}(h:NewP B0 T cs v w)(hm:cs.length≤maxLen):∃ g,v = .slice (some ⟨g,0,none⟩) cs.length cs.length∧Rd w 1 (some ⟨g,0,none⟩) cs.length cs.length cs∧B0≤g:=by
 obtain⟨g,hv,hg,h⟩:=h;refine⟨g,hv,⟨by simp,Nat.le_refl _,hm,fun _=>⟨g,0,rfl,fun j u hu=>?_⟩⟩,hg⟩;rw[cell_of_row _ _ _ _ _ _ h];simpa using hu
theorem own_lt{w:World}{base:Nat}{e:TypeId}{size:Nat}{A:Option Addr}{n c:Nat}{xs:List Value}(h:Own w base e size A n c xs):∀ g,blk A=some g→g<w.heap.size:=fun g hg=>by
 obtain⟨a,ha,rfl⟩:=Option.map_eq_some_iff.1 hg;exact(h.base_le a ha).2
theorem xor8(a b:UInt8):bits .xor .u8 (a.toNat:Int) (b.toNat:Int)=((a ^^^ b).toNat:Int):=by
 rw[u8_xor_nat _ _ a.toNat_lt b.toNat_lt,UInt8.toNat_xor]
theorem runs_step{l:List UInt8}{a:UInt8}{k e:Nat}(hk:k<l.length)(he:e≤l.length)(hlt:k<e)(ha:∀ j (h:k≤j) (h2:j<e) (h3:j<l.length),l[j]=l[k])(hn:∀ h:e<l.length,l[e]≠l[k]) :
  runsG a (l.drop k)=putL (((e-k:Nat):Nat):Int)++[l[k] ^^^ a]++runsG l[k] (l.drop e):=by
 have hd:l.drop k=l[k]::l.drop (k+1):=List.drop_eq_getElem_cons hk;have hr:runN_ l[k] (l.drop k)=e-k:=runN_is _ _ (by rw[List.length_drop];omega) (fun j hj h2=>by
  rw[List.getElem_drop];exact ha _ (by omega) (by omega) (by rw[List.length_drop]at h2;omega)) (fun h=>by
  rw[List.getElem_drop];have e2:k+(e-k)=e:=by omega
  simp only[e2];exact hn _)
 rw[hd]at hr ⊢;rw[runsG_cons,hr,← hd,List.drop_drop,show k+(e-k)=e by omega]
def runsRel(T:TypeId)(w:World)(l:List UInt8)(v a i:Value)(wr:World):Prop :=
 ∃(k:Nat) (B:Option Addr) (m d:Nat) (p:List UInt8) (x:UInt8),i = .int .i64 (k:Nat)∧k≤l.length∧v = .slice B m d∧a = .int .u8 (x.toNat:Nat)∧Own wr w.heap.size T 1 B m d (bcs p)∧p.length≤11*k∧p++runsG x (l.drop k)=runsL l∧Ext w wr
theorem Rb_lt{w:World}{b o n c:Nat}{l:List UInt8}(h:Rb w (some ⟨b,o,none⟩) n c l)(h0:0<n):b<w.heap.size:=Rd.lt h (by omega) _ rfl
theorem exec_append_sl{P:Program}{k:Nat}(w:World){o:Oper}{a:Act}(s x:Operand)(t:TypeId)
  (ho:o.op = .call {callee:=.builtin .append,args:=#[s,x],argTypes:=#[t,t]})
  (base:Nat) (e:TypeId) (i:TypeInfo) (z:Value) (bytes:Nat) (ht:P.underlying t=some (.slice e)) (hi:P.info? e=some i) (hz:i.zero=some z)
  (hsize:i.size=1) (hby:i.bytes=bytes) (hzs:z.cells.size=1)
  (A:Option Addr) (n c:Nat) (xs:List Value) (hs:a.eval s = .slice A n c) (hown:Own w base e 1 A n c xs)
  (A':Option Addr) (m c':Nat) (news:List Value) (hx:a.eval x = .slice A' m c') (hr:Rd w 1 A' m c' news) (h1:∀ u∈news,u.oneCell'=true)
  (h63:n+m≤maxLen) (hbytes:(n+m)*bytes≤140737488355328) (hbase:base≤w.heap.size) :
  ∃ u w',(execOp a.eval o).run P w = .ok (.value u) w'∧gR A w w'∧gRs k A k w w'∧SlP base e (xs++news) u w':=by
 obtain⟨u,w',hrun,hgr,B,d,hu,ho',hw'⟩:=exec_append_to (P:=P) w s x t ho base e i z 1 bytes ht hi hz hsize hby hzs (by decide) A n c xs hs hown A' m c' news hx hr h1 h63 hbytes hbase;exact⟨u,w',hrun,hgr,.inl ⟨rfl,hgr⟩,B,_,d,hu,ho'⟩
theorem runs_any(w:World)(A:Option Addr)(n c:Nat)(l:List UInt8)(hb:Rb w A n c l)(h1000:l.length≤1000) :
  Calls prog 328 #[.slice A n c] w (Made w 5 1 (bcs (runsL l))):=by
 obtain⟨i0,hi,hz0,hz1,hz2⟩:=info_parts info_u8;have hn:=hb.len;subst hn;have hmx:=hb.max;unfold maxLen at hmx;obtain⟨r,hr⟩:∃ r,runsL l=r:=⟨_,rfl⟩;rw[hr];have HR:=hqd hr;clear hr;go_enter func328,ntmps328;go_wp2_with fail;go_loopw [3,4,5] (fun v a i wr=>runsRel 5 w l v a i wr) (fun _ _ i _=>l.length-(intOf i).toNat)
 case atStart=>exact⟨0,none,0,0,[],0,rfl,Nat.zero_le _,rfl,rfl,Own.nil_ _ _ _ _,Nat.zero_le _,rfl,Ext.refl _⟩
 case round =>
  obtain⟨k,B,m,d,p,x,rfl,hk,rfl,rfl,ho,hp,hrest,hx⟩:=hrel;by_cases hkn:k<l.length
  ·have hkl:k<l.length:=by omega
   have hlen0:0<l.length:=by omega
   have hst:=fun e h1 h2 h3 h4=>runs_step (a:=x) (e:=e) hkl h1 h2 h3 h4;have Hst:=hqd hst;have Hrest:=hqd hrest;have Hp:=hqd hp;clear hst hrest hp;have hbr:=hb.ext hx;obtain⟨b,o,rfl,hc⟩:=hbr.at_ hkl;obtain⟨u,hu⟩:∃ u,l[k]=u:=⟨_,rfl⟩;rw[hu]at hc;have Hu:=hqd hu;clear hu;go_wp2_with fail;go_loopw [6] (fun i wx=>∃ e:Nat,i = .int .i64 (e:Nat)∧k≤e∧e≤l.length∧(∀ j (h:k≤j) (h2:j<e) (h3:j<l.length),l[j]=u)∧Ext wr wx) (fun i _=>l.length-(intOf i).toNat)
   case atStart=>exact⟨k,rfl,Nat.le_refl _,by omega,fun j h h2=>by omega,Ext.refl _⟩
   case round =>
    obtain⟨e,rfl,hke,hen,hall,hxe⟩:=hrel;have Hall:=hqd hall;clear hall;by_cases hel:e<l.length
    ·have hel2:e<l.length:=by omega
     have hbe:=hbr.ext hxe;obtain⟨b',o',hA',hce⟩:=hbe.at_ hel2;obtain⟨rfl,rfl⟩:b'=b∧o'=o:=by injection hA' with h;injection h with h1 h2 _;exact⟨h1.symm,h2.symm⟩
     have hc2:=hxe.cell hc;obtain⟨y,hy⟩:∃ y,l[e]=y:=⟨_,rfl⟩;rw[hy]at hce;have Hy:=hqd hy;clear hA' hy hbe;by_cases huy:y=u
     ·subst huy
      go_wp2_with fail;apply wrA trivial;repeat first|apply lxA (fun _ h _=>aj (h.cell hc2) (h.cell hce))|apply lxK trivial
      refine lex_nil ?_;intro W1 hR1 hΦ;clear hΦ;go_wp2_with fail;go_roundw
      case rel=>exact⟨e+1,by go_num,by omega,by omega,fun j h h2 h3=>by
       by_cases he:j=e
       ·subst he;exact Hy.out
       ·exact Hall.out j h (by omega) h3,hxe.trans hR1⟩
      case measure=>simp[intOf];omega
     ·have hne:((y.toNat:Int)==(u.toNat:Int))=false:=by
       rw[beq_eq_false_iff_ne];intro h;exact huy (UInt8.toNat_inj.1 (by omega))
      have hne2:(y.toNat==u.toNat)=false:=by
       rw[beq_eq_false_iff_ne];intro h;exact huy (UInt8.toNat_inj.1 h)
      have hlt:k<e:=by
       rcases Nat.lt_or_ge k e with h|h
       ·exact h
       ·obtain rfl:e=k:=by omega
        exact absurd (Hy.out.symm.trans Hu.out) huy
      have Hstop:Hid (∀ h:e<l.length,l[e]≠u):=hqd fun h=>by rw[Hy.out];exact huy
      go_wp2_with fail;apply wrA trivial;repeat first|apply lxA (fun _ h _=>aj (h.cell hc2) (h.cell hce))|apply lxK trivial
      refine lex_nil ?_;intro W1 hR1 hΦ;clear hΦ;go_wp2_with fail;have xW:=hx.trans (hxe.trans hR1);have hoW:=ho.ext (hxe.trans hR1);have hcW:=(hxe.trans hR1).cell hc;have hbase_le:w.heap.size≤W1.heap.size:=xW.size;have hblt:b'<w.heap.size:=Rb_lt hb hlen0;have hneC:blk B≠some b':=fun e9=>by have:=hoW.blk_ge _ e9;omega
      have hltC:∀ g,blk B=some g→g<W1.heap.size:=own_lt hoW;have hpl:m≤11*k:=by have:=hoW.len;have:=Hp.out;rw[bcs_length]at *;omega
      obtain⟨q,hq⟩:∃ q:Nat,e=k+q:=⟨e-k,by omega⟩;have hxor:=xor8 u x;have hput:=putL_le10 (q:Nat);have hq10:q≤1000:=by omega
      have hsub:(e:Int)-(k:Int)=(q:Nat):=by omega
      have hsubw:IntKind.i64.wrap ((e:Int)-(k:Int))=(q:Nat):=by rw[hsub];exact IntWalk.i64_in _ (by omega)
      clear hsub;have Hq:=hqd hq;clear hq;apply wrH 12 (gR B) (gRs 4 B) (gJ 4 w.heap.size 5 B m d (bcs p)) (gJ.start hoW);simp only[tk];repeat apply lxG (fun _ h _ _=>h.cell hcW hneC)
      apply lexG_call (p:=SlP w.heap.size 5 (bcs (p++putL (q:Nat)))) (by decide) (by decide) SlP.stabK
      ·rfl
      ·intro W
       go_simp;exact⟨rfl,rfl⟩
      ·intro W hR hJ hΦ
       refine(put_any w.heap.size B m d p (q:Nat) W (by omega) (by omega) (hJ rfl) (by omega) (Nat.le_trans hbase_le hR.size)).mono ?_;rintro e W' ⟨B,m,d,rfl,ho,hg,_⟩;exact⟨_,rfl,hg,.inl ⟨rfl,hg⟩,B,m,d,rfl,ho⟩
      intro v1;simp only[pu];repeat apply lxG (fun _ h _ _=>h.cell hcW hneC)
      apply lexG_new (p:=NewP W1.heap.size 5 [.int .u8 ((u ^^^ x).toNat:Nat)]) (by decide) (by decide) (NewP.stab hltC)
      ·rfl
      ·intro W hR hJ hΦ
       refine⟨.slice (some ⟨W.heap.size,0,none⟩) ([.int .u8 ((u ^^^ x).toNat:Nat)]).length ([.int .u8 ((u ^^^ x).toNat:Nat)]).length,W.alloc (.cells ([.int .u8 ((u ^^^ x).toNat:Nat)]).toArray 5),?_,(Ext.alloc _ _).grownBy _,.inr (Ext.alloc _ _),W.heap.size,rfl,hR.size,heap_alloc_new W _⟩;go_simp;first|done|rfl
      intro v2;simp only[pu];refine lexG_nil ?_;intro W2 hR2 _ hΦ;obtain⟨g,rfl,hrd,hg⟩:=NewP.rd (hΦ.1 rfl) (by simp[maxLen]);obtain⟨D,Dm,Dd,rfl,hoD⟩:=hΦ.2.1 rfl;simp only[dk];clear hΦ;have hDm:Dm=m+(putL (q:Nat)).length:=by have:=hoD.len;have h9:=hoW.len;simp only[bcs_length,List.length_append,Nat.mul_one]at this h9;omega
      have eD:Ext w W2:=Ext.own xW hR2 hoW.blk_ge;have c2:=hR2.cell hcW hneC;have hneD:some b'≠blk D:=fun e9=>by have:=hoD.blk_ge _ e9.symm;omega
      go_wp2_with (at_builtin;refine wpList_append_to _ rfl _ _ 30 rfl w.heap.size 5 i0 (.int .u8 0) 1 1 underlying30 hi hz0 hz1 hz2 rfl (by decide) D Dm Dd _ rfl hoD _ _ _ _ rfl hrd (by simp[Value.oneCell']) (by unfold maxLen;simp;omega) (by simp;omega) eD.size ?_;intro E Ed VV hoE hgE hwE;have c3:=World.grownBy.cell hgE c2 hneD)
      go_roundw
      case rel =>
       refine⟨e,E,_,Ed,p++putL (q:Nat)++[u ^^^ x],u,rfl,by omega,rfl,rfl,?_,?_,?_,Ext.own eD hgE hoD.blk_ge⟩
       ·rw[bcs_append,← hDm];exact hoE
       ·have:=Hp.out;simp only[List.length_append,List.length_cons,List.length_nil];omega
       ·rw[← Hrest.out,Hst.out e (by omega) (by omega) (fun j h1 h2 h3=>by rw[Hall.out j h1 h2 h3,Hu.out]) (fun h=>by rw[Hu.out];exact Hstop.out h),Hu.out,show e-k=q by have:=Hq.out;omega]
        simp[List.append_assoc]
      case measure=>simp[intOf];omega
    ·have hlt:k<e:=by omega
     have Hstop:Hid (∀ h:e<l.length,l[e]≠u):=hqd fun h=>by omega
     obtain⟨b',rfl⟩:∃ b',b'=b:=⟨_,rfl⟩;have hd1:decide (e<l.length)=false:=decide_eq_false (by omega);have hd2:decide ((e:Int)<(l.length:Int))=false:=decide_eq_false (by omega);go_wp2_with fail;apply wrA trivial;repeat first|apply lxA (fun _ _ _=>trivial)|apply lxK trivial
     refine lex_nil ?_;intro W1 hR1 hΦ;clear hΦ;go_wp2_with fail;have xW:=hx.trans (hxe.trans hR1);have hoW:=ho.ext (hxe.trans hR1);have hcW:=(hxe.trans hR1).cell hc;have hbase_le:w.heap.size≤W1.heap.size:=xW.size;have hblt:b'<w.heap.size:=Rb_lt hb hlen0;have hneC:blk B≠some b':=fun e9=>by have:=hoW.blk_ge _ e9;omega
     have hltC:∀ g,blk B=some g→g<W1.heap.size:=own_lt hoW;have hpl:m≤11*k:=by have:=hoW.len;have:=Hp.out;rw[bcs_length]at *;omega
     obtain⟨q,hq⟩:∃ q:Nat,e=k+q:=⟨e-k,by omega⟩;have hxor:=xor8 u x;have hput:=putL_le10 (q:Nat);have hq10:q≤1000:=by omega
     have hsub:(e:Int)-(k:Int)=(q:Nat):=by omega
     have hsubw:IntKind.i64.wrap ((e:Int)-(k:Int))=(q:Nat):=by rw[hsub];exact IntWalk.i64_in _ (by omega)
     clear hsub;have Hq:=hqd hq;clear hq;apply wrH 12 (gR B) (gRs 4 B) (gJ 4 w.heap.size 5 B m d (bcs p)) (gJ.start hoW);simp only[tk];repeat apply lxG (fun _ h _ _=>h.cell hcW hneC)
     apply lexG_call (p:=SlP w.heap.size 5 (bcs (p++putL (q:Nat)))) (by decide) (by decide) SlP.stabK
     ·rfl
     ·intro W
      go_simp;exact⟨rfl,rfl⟩
     ·intro W hR hJ hΦ
      refine(put_any w.heap.size B m d p (q:Nat) W (by omega) (by omega) (hJ rfl) (by omega) (Nat.le_trans hbase_le hR.size)).mono ?_;rintro e W' ⟨B,m,d,rfl,ho,hg,_⟩;exact⟨_,rfl,hg,.inl ⟨rfl,hg⟩,B,m,d,rfl,ho⟩
     intro v1;simp only[pu];repeat apply lxG (fun _ h _ _=>h.cell hcW hneC)
     apply lexG_new (p:=NewP W1.heap.size 5 [.int .u8 ((u ^^^ x).toNat:Nat)]) (by decide) (by decide) (NewP.stab hltC)
     ·rfl
     ·intro W hR hJ hΦ
      refine⟨.slice (some ⟨W.heap.size,0,none⟩) ([.int .u8 ((u ^^^ x).toNat:Nat)]).length ([.int .u8 ((u ^^^ x).toNat:Nat)]).length,W.alloc (.cells ([.int .u8 ((u ^^^ x).toNat:Nat)]).toArray 5),?_,(Ext.alloc _ _).grownBy _,.inr (Ext.alloc _ _),W.heap.size,rfl,hR.size,heap_alloc_new W _⟩;go_simp;first|done|rfl
     intro v2;simp only[pu];refine lexG_nil ?_;intro W2 hR2 _ hΦ;obtain⟨g,rfl,hrd,hg⟩:=NewP.rd (hΦ.1 rfl) (by simp[maxLen]);obtain⟨D,Dm,Dd,rfl,hoD⟩:=hΦ.2.1 rfl;simp only[dk];clear hΦ;have hDm:Dm=m+(putL (q:Nat)).length:=by have:=hoD.len;have h9:=hoW.len;simp only[bcs_length,List.length_append,Nat.mul_one]at this h9;omega
     have eD:Ext w W2:=Ext.own xW hR2 hoW.blk_ge;have c2:=hR2.cell hcW hneC;have hneD:some b'≠blk D:=fun e9=>by have:=hoD.blk_ge _ e9.symm;omega
     go_wp2_with (at_builtin;refine wpList_append_to _ rfl _ _ 30 rfl w.heap.size 5 i0 (.int .u8 0) 1 1 underlying30 hi hz0 hz1 hz2 rfl (by decide) D Dm Dd _ rfl hoD _ _ _ _ rfl hrd (by simp[Value.oneCell']) (by unfold maxLen;simp;omega) (by simp;omega) eD.size ?_;intro E Ed VV hoE hgE hwE;have c3:=World.grownBy.cell hgE c2 hneD)
     go_roundw
     case rel =>
      refine⟨e,E,_,Ed,p++putL (q:Nat)++[u ^^^ x],u,rfl,by omega,rfl,rfl,?_,?_,?_,Ext.own eD hgE hoD.blk_ge⟩
      ·rw[bcs_append,← hDm];exact hoE
      ·have:=Hp.out;simp only[List.length_append,List.length_cons,List.length_nil];omega
      ·rw[← Hrest.out,Hst.out e (by omega) (by omega) (fun j h1 h2 h3=>by rw[Hall.out j h1 h2 h3,Hu.out]) (fun h=>by rw[Hu.out];exact Hstop.out h),Hu.out,show e-k=q by have:=Hq.out;omega]
       simp[List.append_assoc]
     case measure=>simp[intOf];omega
  ·obtain rfl:k=l.length:=by omega
   have hfin:p=r:=by rw[← HR.out,← hrest,List.drop_length,runsG_nil,List.append_nil]
   subst hfin;go_wp2_with fail;go_ret;exact⟨B,m,d,rfl,ho,hx⟩
theorem rruns_any(w:World)(A:Option Addr)(n c:Nat)(l:List UInt8)(hb:Rb w A n c l)(h1000:l.length≤1000) :
  Calls prog 32 #[.slice A n c] w (Made w 5 1 (bcs (runsL l))):=by
 obtain⟨i0,hi,hz0,hz1,hz2⟩:=info_parts info_u8;have hn:=hb.len;subst hn;have hmx:=hb.max;unfold maxLen at hmx;obtain⟨r,hr⟩:∃ r,runsL l=r:=⟨_,rfl⟩;rw[hr];have HR:=hqd hr;clear hr;go_enter func32,ntmps32;go_wp2_with fail;go_loopw [3,4,5] (fun v a i wr=>runsRel 5 w l v a i wr) (fun _ _ i _=>l.length-(intOf i).toNat)
 case atStart=>exact⟨0,none,0,0,[],0,rfl,Nat.zero_le _,rfl,rfl,Own.nil_ _ _ _ _,Nat.zero_le _,rfl,Ext.refl _⟩
 case round =>
  obtain⟨k,B,m,d,p,x,rfl,hk,rfl,rfl,ho,hp,hrest,hx⟩:=hrel;by_cases hkn:k<l.length
  ·have hkl:k<l.length:=by omega
   have hlen0:0<l.length:=by omega
   have hst:=fun e h1 h2 h3 h4=>runs_step (a:=x) (e:=e) hkl h1 h2 h3 h4;have Hst:=hqd hst;have Hrest:=hqd hrest;have Hp:=hqd hp;clear hst hrest hp;have hbr:=hb.ext hx;obtain⟨b,o,rfl,hc⟩:=hbr.at_ hkl;obtain⟨u,hu⟩:∃ u,l[k]=u:=⟨_,rfl⟩;rw[hu]at hc;have Hu:=hqd hu;clear hu;go_wp2_with fail;go_loopw [6] (fun i wx=>∃ q:Nat,i = .int .i64 (q:Nat)∧1≤q∧k+q≤l.length∧(∀ j (h:k≤j) (h2:j<k+q) (h3:j<l.length),l[j]=u)∧Ext wr wx) (fun i _=>l.length-(intOf i).toNat)
   case atStart=>exact⟨1,rfl,by omega,by omega,fun j h h2 h3=>by(obtain rfl:j=k:=(by omega));exact Hu.out,Ext.refl _⟩
   case round =>
    obtain⟨q,rfl,hke,hen,hall,hxe⟩:=hrel;obtain⟨e,he0⟩:∃ e,k+q=e:=⟨_,rfl⟩;have hwr:IntKind.i64.wrap ((k:Int)+(q:Int))=((e:Nat):Int):=by rw[IntWalk.i64_in _ (by omega)];omega
    have hq9:q≤1000∧k<e∧q≤e:=by omega
    rw[he0]at hen hall;have He0:=hqd he0;clear he0;have Hall:=hqd hall;clear hall;by_cases hel:e<l.length
    ·have hel2:e<l.length:=by omega
     have hbe:=hbr.ext hxe;obtain⟨b',o',hA',hce⟩:=hbe.at_ hel2;obtain⟨rfl,rfl⟩:b'=b∧o'=o:=by injection hA' with h;injection h with h1 h2 _;exact⟨h1.symm,h2.symm⟩
     have hc2:=hxe.cell hc;obtain⟨y,hy⟩:∃ y,l[e]=y:=⟨_,rfl⟩;rw[hy]at hce;have Hy:=hqd hy;clear hA' hy hbe;by_cases huy:y=u
     ·subst huy
      go_wp2_with fail;apply wrA trivial;repeat first|apply lxA (fun _ h _=>aj (h.cell hc2) (h.cell hce))|apply lxK trivial
      refine lex_nil ?_;intro W1 hR1 hΦ;clear hΦ;go_wp2_with fail;go_roundw
      case rel=>exact⟨q+1,by go_num,by omega,by have:=He0.out;omega,fun j h h2 h3=>by
       have h9:=He0.out;by_cases he:j=e
       ·subst he;exact Hy.out
       ·exact Hall.out j h (by omega) h3,hxe.trans hR1⟩
      case measure=>simp[intOf];omega
     ·have hne:((y.toNat:Int)==(u.toNat:Int))=false:=by
       rw[beq_eq_false_iff_ne];intro h;exact huy (UInt8.toNat_inj.1 (by omega))
      have hne2:(y.toNat==u.toNat)=false:=by
       rw[beq_eq_false_iff_ne];intro h;exact huy (UInt8.toNat_inj.1 h)
      have Hstop:Hid (∀ h:e<l.length,l[e]≠u):=hqd fun h=>by rw[Hy.out];exact huy
      go_wp2_with fail;apply wrA trivial;repeat first|apply lxA (fun _ h _=>aj (h.cell hc2) (h.cell hce))|apply lxK trivial
      refine lex_nil ?_;intro W1 hR1 hΦ;clear hΦ;go_wp2_with fail;have xW:=hx.trans (hxe.trans hR1);have hoW:=ho.ext (hxe.trans hR1);have hcW:=(hxe.trans hR1).cell hc;have hbase_le:w.heap.size≤W1.heap.size:=xW.size;have hblt:b'<w.heap.size:=Rb_lt hb hlen0;have hneC:blk B≠some b':=fun e9=>by have:=hoW.blk_ge _ e9;omega
      have hltC:∀ g,blk B=some g→g<W1.heap.size:=own_lt hoW;have hpl:m≤11*k:=by have:=hoW.len;have:=Hp.out;rw[bcs_length]at *;omega
      have hxor:=xor8 u x;have hput:=putL_le10 (q:Nat);apply wrH 11 (gR B) (gRs 3 B) (gJ 3 w.heap.size 5 B m d (bcs p)) (gJ.start hoW);simp only[tk];repeat apply lxG (fun _ h _ _=>h.cell hcW hneC)
      apply lexG_call (p:=SlP W1.heap.size 5 (bcs (putL (q:Nat)))) (by decide) (by decide) (SlP.stab hltC)
      ·rfl
      ·intro W
       go_simp;exact⟨rfl,rfl⟩
      ·intro W hR hJ hΦ
       refine(rput_any (q:Nat) W (by omega) (by omega)).mono ?_;rintro e W' ⟨B,m,d,rfl,ho,hg,_⟩;exact⟨_,rfl,(ext_of_grown hg).grownBy _,.inr (ext_of_grown hg),B,m,d,rfl,ho.mono hR.size⟩
      intro v1;simp only[pu];apply lexG_new (p:=SlP w.heap.size 5 (bcs p++bcs (putL (q:Nat)))) (by decide) (by decide) SlP.stabK
      ·rfl
      ·intro W hR hJ hΦ
       obtain⟨B2,m2,d2,rfl,ho2⟩:=hΦ.1 rfl;have hm2:m2=(putL (q:Nat)).length:=by have:=ho2.len;rw[bcs_length]at this;omega
       exact exec_append_sl W _ _ 30 rfl w.heap.size 5 i0 (.int .u8 0) 1 underlying30 hi hz0 hz1 hz2 rfl B m d (bcs p) rfl (hJ rfl) B2 m2 d2 _ rfl ho2.rd (bcs_one _) (by unfold maxLen;omega) (by omega) (Nat.le_trans hbase_le hR.size)
      intro v3;simp only[pu];repeat apply lxG (fun _ h _ _=>h.cell hcW hneC)
      apply lexG_new (p:=NewP W1.heap.size 5 [.int .u8 ((u ^^^ x).toNat:Nat)]) (by decide) (by decide) (NewP.stab hltC)
      ·rfl
      ·intro W hR hJ hΦ
       refine⟨.slice (some ⟨W.heap.size,0,none⟩) ([.int .u8 ((u ^^^ x).toNat:Nat)]).length ([.int .u8 ((u ^^^ x).toNat:Nat)]).length,W.alloc (.cells ([.int .u8 ((u ^^^ x).toNat:Nat)]).toArray 5),?_,(Ext.alloc _ _).grownBy _,.inr (Ext.alloc _ _),W.heap.size,rfl,hR.size,heap_alloc_new W _⟩;go_simp;first|done|rfl
      intro v2;simp only[pu];refine lexG_nil ?_;intro W2 hR2 _ hΦ;obtain⟨g,rfl,hrd,hg⟩:=NewP.rd (hΦ.1 rfl) (by simp[maxLen]);obtain⟨D,Dm,Dd,rfl,hoD⟩:=hΦ.2.1 rfl;simp only[dk];clear hΦ;have hDm:Dm=m+(putL (q:Nat)).length:=by have:=hoD.len;have h9:=hoW.len;simp only[bcs_length,List.length_append,Nat.mul_one]at this h9;omega
      have eD:Ext w W2:=Ext.own xW hR2 hoW.blk_ge;have c2:=hR2.cell hcW hneC;have hneD:some b'≠blk D:=fun e9=>by have:=hoD.blk_ge _ e9.symm;omega
      go_wp2_with (at_builtin;refine wpList_append_to _ rfl _ _ 30 rfl w.heap.size 5 i0 (.int .u8 0) 1 1 underlying30 hi hz0 hz1 hz2 rfl (by decide) D Dm Dd _ rfl hoD _ _ _ _ rfl hrd (by simp[Value.oneCell']) (by unfold maxLen;simp;omega) (by simp;omega) eD.size ?_;intro E Ed VV hoE hgE hwE;have c3:=World.grownBy.cell hgE c2 hneD)
      go_roundw
      case rel =>
       refine⟨e,E,_,Ed,p++putL (q:Nat)++[u ^^^ x],u,rfl,by omega,rfl,rfl,?_,?_,?_,Ext.own eD hgE hoD.blk_ge⟩
       ·rw[bcs_append,bcs_append,← hDm];exact hoE
       ·have:=Hp.out;simp only[List.length_append,List.length_cons,List.length_nil];omega
       ·rw[← Hrest.out,Hst.out e (by omega) (by omega) (fun j h1 h2 h3=>by rw[Hall.out j h1 h2 h3,Hu.out]) (fun h=>by rw[Hu.out];exact Hstop.out h),Hu.out,show e-k=q by have:=He0.out;omega]
        simp[List.append_assoc]
      case measure=>simp[intOf];omega
    ·have hlt:k<e:=by omega
     have Hstop:Hid (∀ h:e<l.length,l[e]≠u):=hqd fun h=>by omega
     obtain⟨b',rfl⟩:∃ b',b'=b:=⟨_,rfl⟩;have hd1:decide (e<l.length)=false:=decide_eq_false (by omega);have hd2:decide ((e:Int)<(l.length:Int))=false:=decide_eq_false (by omega);go_wp2_with fail;apply wrA trivial;repeat first|apply lxA (fun _ _ _=>trivial)|apply lxK trivial
     refine lex_nil ?_;intro W1 hR1 hΦ;clear hΦ;go_wp2_with fail;have xW:=hx.trans (hxe.trans hR1);have hoW:=ho.ext (hxe.trans hR1);have hcW:=(hxe.trans hR1).cell hc;have hbase_le:w.heap.size≤W1.heap.size:=xW.size;have hblt:b'<w.heap.size:=Rb_lt hb hlen0;have hneC:blk B≠some b':=fun e9=>by have:=hoW.blk_ge _ e9;omega
     have hltC:∀ g,blk B=some g→g<W1.heap.size:=own_lt hoW;have hpl:m≤11*k:=by have:=hoW.len;have:=Hp.out;rw[bcs_length]at *;omega
     have hxor:=xor8 u x;have hput:=putL_le10 (q:Nat);apply wrH 11 (gR B) (gRs 3 B) (gJ 3 w.heap.size 5 B m d (bcs p)) (gJ.start hoW);simp only[tk];repeat apply lxG (fun _ h _ _=>h.cell hcW hneC)
     apply lexG_call (p:=SlP W1.heap.size 5 (bcs (putL (q:Nat)))) (by decide) (by decide) (SlP.stab hltC)
     ·rfl
     ·intro W
      go_simp;exact⟨rfl,rfl⟩
     ·intro W hR hJ hΦ
      refine(rput_any (q:Nat) W (by omega) (by omega)).mono ?_;rintro e W' ⟨B,m,d,rfl,ho,hg,_⟩;exact⟨_,rfl,(ext_of_grown hg).grownBy _,.inr (ext_of_grown hg),B,m,d,rfl,ho.mono hR.size⟩
     intro v1;simp only[pu];apply lexG_new (p:=SlP w.heap.size 5 (bcs p++bcs (putL (q:Nat)))) (by decide) (by decide) SlP.stabK
     ·rfl
     ·intro W hR hJ hΦ
      obtain⟨B2,m2,d2,rfl,ho2⟩:=hΦ.1 rfl;have hm2:m2=(putL (q:Nat)).length:=by have:=ho2.len;rw[bcs_length]at this;omega
      exact exec_append_sl W _ _ 30 rfl w.heap.size 5 i0 (.int .u8 0) 1 underlying30 hi hz0 hz1 hz2 rfl B m d (bcs p) rfl (hJ rfl) B2 m2 d2 _ rfl ho2.rd (bcs_one _) (by unfold maxLen;omega) (by omega) (Nat.le_trans hbase_le hR.size)
     intro v3;simp only[pu];repeat apply lxG (fun _ h _ _=>h.cell hcW hneC)
     apply lexG_new (p:=NewP W1.heap.size 5 [.int .u8 ((u ^^^ x).toNat:Nat)]) (by decide) (by decide) (NewP.stab hltC)
     ·rfl
     ·intro W hR hJ hΦ
      refine⟨.slice (some ⟨W.heap.size,0,none⟩) ([.int .u8 ((u ^^^ x).toNat:Nat)]).length ([.int .u8 ((u ^^^ x).toNat:Nat)]).length,W.alloc (.cells ([.int .u8 ((u ^^^ x).toNat:Nat)]).toArray 5),?_,(Ext.alloc _ _).grownBy _,.inr (Ext.alloc _ _),W.heap.size,rfl,hR.size,heap_alloc_new W _⟩;go_simp;first|done|rfl
     intro v2;simp only[pu];refine lexG_nil ?_;intro W2 hR2 _ hΦ;obtain⟨g,rfl,hrd,hg⟩:=NewP.rd (hΦ.1 rfl) (by simp[maxLen]);obtain⟨D,Dm,Dd,rfl,hoD⟩:=hΦ.2.1 rfl;simp only[dk];clear hΦ;have hDm:Dm=m+(putL (q:Nat)).length:=by have:=hoD.len;have h9:=hoW.len;simp only[bcs_length,List.length_append,Nat.mul_one]at this h9;omega
     have eD:Ext w W2:=Ext.own xW hR2 hoW.blk_ge;have c2:=hR2.cell hcW hneC;have hneD:some b'≠blk D:=fun e9=>by have:=hoD.blk_ge _ e9.symm;omega
     go_wp2_with (at_builtin;refine wpList_append_to _ rfl _ _ 30 rfl w.heap.size 5 i0 (.int .u8 0) 1 1 underlying30 hi hz0 hz1 hz2 rfl (by decide) D Dm Dd _ rfl hoD _ _ _ _ rfl hrd (by simp[Value.oneCell']) (by unfold maxLen;simp;omega) (by simp;omega) eD.size ?_;intro E Ed VV hoE hgE hwE;have c3:=World.grownBy.cell hgE c2 hneD)
     go_roundw
     case rel =>
      refine⟨e,E,_,Ed,p++putL (q:Nat)++[u ^^^ x],u,rfl,by omega,rfl,rfl,?_,?_,?_,Ext.own eD hgE hoD.blk_ge⟩
      ·rw[bcs_append,bcs_append,← hDm];exact hoE
      ·have:=Hp.out;simp only[List.length_append,List.length_cons,List.length_nil];omega
      ·rw[← Hrest.out,Hst.out e (by omega) (by omega) (fun j h1 h2 h3=>by rw[Hall.out j h1 h2 h3,Hu.out]) (fun h=>by rw[Hu.out];exact Hstop.out h),Hu.out,show e-k=q by have:=He0.out;omega]
       simp[List.append_assoc]
     case measure=>simp[intOf];omega
  ·obtain rfl:k=l.length:=by omega
   have hfin:p=r:=by rw[← HR.out,← hrest,List.drop_length,runsG_nil,List.append_nil]
   subst hfin;go_wp2_with fail;go_ret;exact⟨B,m,d,rfl,ho,hx⟩
theorem ro_new{w:World}{l:List OpT}{B n c:Nat}{t:TypeId}(hB:B=w.heap.size)(hn:n=l.length)(hc:c=l.length)(hm:l.length≤1000):Ro (w.alloc (.cells (opcs l).toArray t)) (some ⟨B,0,none⟩) n c l:=by
 subst hB hn hc;exact Rd.made w t 4 (opcs l) l.length (opcs_length l) (by have:maxLen=9223372036854775807:=rfl;omega)
def Gm(w:World)(b:Nat)(g:List Int):Prop:=g.length=32∧∀ j,j<32→w.cell? ⟨b,j,none⟩=some (.int .i32 (g.getD j 0))∧w.frozen? ⟨b,j,none⟩=false
section
variable {w w':World} {b:Nat} {g:List Int}
theorem Gm.lt(h:Gm w b g):b<w.heap.size:=World.block_lt_of_cell? w _ (h.2 0 (by decide)).1
theorem Gm.at_(h:Gm w b g){i:Int}(h0:0≤i)(h1:i≤31):w.cell? ⟨b,i.toNat,none⟩=some (.int .i32 (getN g i))∧w.frozen? ⟨b,i.toNat,none⟩=false:=h.2 i.toNat (by omega)
theorem Gm.of_block(h:Gm w b g)(e:w'.heap[b]?=w.heap[b]?):Gm w' b g :=
 ⟨h.1,fun j hj=>⟨(World.cell?_of_block (a:=⟨b,j,none⟩) e).trans (h.2 j hj).1,by have:=(h.2 j hj).2;simp only[World.frozen?]at this ⊢;rw[e];exact this⟩⟩
theorem Gm.keep{B:Nat}(h:Gm w b g)(e:Below B w w')(hB:b<B):Gm w' b g:=h.of_block (e.block b hB)
theorem Gm.ext(h:Gm w b g)(e:Ext w w'):Gm w' b g:=h.keep e h.lt
theorem Gm.set_(h:Gm w b g){i:Int}(h0:0≤i)(h1:i≤31)(v:Int):Gm (w.setCell ⟨b,i.toNat,none⟩ (.int .i32 v)) b (setN g i v):=by
 refine⟨by simp[setN,h.1],fun j hj=>?_⟩;obtain⟨c1,c2⟩:=h.2 j hj;obtain⟨d1,_⟩:=h.2 i.toNat (by omega);by_cases e:j=i.toNat
 ·subst e
  refine⟨?_,by go_simp⟩;have:(setN g i v).getD i.toNat 0=v:=by unfold setN;rw[List.getD_eq_getElem?_getD,List.getElem?_set_self (by rw[h.1];omega)];rfl
  rw[this];go_simp
 ·refine⟨?_,by go_simp⟩
  have:(setN g i v).getD j 0=g.getD j 0:=by unfold setN;rw[List.getD_eq_getElem?_getD,List.getElem?_set_ne (fun h=>e h.symm),← List.getD_eq_getElem?_getD]
  rw[this];have hne:(⟨b,j,none⟩:Addr)≠⟨b,i.toNat,none⟩:=fun h=>e (by injection h);go_simp
end
structure Moved(F:Nat→Prop)(w w':World):Prop where
 os:w'.os=w.os
 tape:w'.tape=w.tape
 output:w'.output=w.output
 size:w.heap.size≤w'.heap.size
 block:∀ k,k<w.heap.size→¬ F k→w'.heap[k]?=w.heap[k]?
section
variable {F F':Nat→Prop} {w a c w':World}
theorem Moved.refl(F:Nat→Prop)(w:World):Moved F w w:=⟨rfl,rfl,rfl,Nat.le_refl _,fun _ _ _=>rfl⟩
theorem Moved.trans(h:Moved F w a)(k:Moved F a c):Moved F w c :=
 ⟨k.os.trans h.os,k.tape.trans h.tape,k.output.trans h.output,Nat.le_trans h.size k.size,fun i hi h1=>(k.block i (Nat.lt_of_lt_of_le hi h.size) h1).trans (h.block i hi h1)⟩
theorem Moved.of_ext(F:Nat→Prop)(h:Ext w w'):Moved F w w':=⟨h.os,h.tape,h.output,h.size,fun k hk _=>h.block k hk⟩
theorem Moved.set(F:Nat→Prop)(w:World)(a:Addr)(u:Value)(h:F a.block):Moved F w (w.setCell a u) :=
 ⟨rfl,rfl,rfl,by simp[World.setCell],fun k _ hk=>Below.heap_setCell w a u k (fun e=>hk (by rw[e];exact h))⟩
theorem Moved.mono(h:Moved F w a)(hf:∀ k,k<w.heap.size→F k→F' k):Moved F' w a:=⟨h.os,h.tape,h.output,h.size,fun k hk hn=>h.block k hk (fun e=>hn (hf k hk e))⟩
end
structure MemI(T b:Nat)(F:Nat→Prop)(rep:World→List Int→Bool→Prop)(G S:FuncId):Prop where
 gm:∀ f w,(method (f+1) T (.pointer (some ⟨b,0,none⟩)) "Get").run prog w = .ok (G,.pointer (some ⟨b,0,none⟩)) w
 sm:∀ f w,(method (f+1) T (.pointer (some ⟨b,0,none⟩)) "Set").run prog w = .ok (S,.pointer (some ⟨b,0,none⟩)) w
 ge:∀ x w,(callFunc G #[.pointer (some ⟨b,0,none⟩),x]).run prog w = .ok (.enter G #[.pointer (some ⟨b,0,none⟩),x]) w
 se:∀ x y w,(callFunc S #[.pointer (some ⟨b,0,none⟩),x,y]).run prog w = .ok (.enter S #[.pointer (some ⟨b,0,none⟩),x,y]) w
 gc:∀ w g d i,rep w g d→0≤i→i≤31→Calls prog G #[.pointer (some ⟨b,0,none⟩),.int .i64 i] w fun e w'=>e = .returned (.int .i32 (getN g i))∧Ext w w'
 sc:∀ w g d i v,rep w g d→okG g→ok32 v→0≤i→i≤31→Calls prog S #[.pointer (some ⟨b,0,none⟩),.int .i64 i,.int .i32 v] w fun e w' =>
  e = .returned (.tuple #[])∧Moved F w w'∧∃ g' d',rep w' g' d'∧okG g'∧(d'=false→d=false∧g'=setN g i v)
 keep:∀ w w' g d,rep w g d→w.heap.size≤w'.heap.size→(∀ k,F k→k<w.heap.size→w'.heap[k]?=w.heap[k]?)→rep w' g d
 lt:∀ w g d,rep w g d→∀ k,F k→k<w.heap.size
section
variable {T b:Nat} {F:Nat→Prop} {rep:World→List Int→Bool→Prop} {G S:FuncId} {w w':World} {g:List Int} {d:Bool}
theorem MemI.ext(hM:MemI T b F rep G S)(h:rep w g d)(e:Ext w w'):rep w' g d:=hM.keep w w' g d h e.size fun k _ hk=>e.block k hk
theorem MemI.set(hM:MemI T b F rep G S)(h:rep w g d)(a:Addr)(u:Value)(hn:¬ F a.block):rep (w.setCell a u) g d :=
 hM.keep w _ g d h (by simp[World.setCell]) fun k hk _=>Below.heap_setCell w a u k (fun e=>hn (by rw[← e];exact hk))
end
theorem bd_u8{n:Int}(h:(Lit.int .u8 n).wf=true):0≤n∧n<256:=by
 simp[Lit.wf,IntKind.min,IntKind.max,IntKind.bits,IntKind.signed]at h;omega
theorem bd_i64{n:Int}(h:(Lit.int .i64 n).wf=true):-9223372036854775808≤n∧n≤9223372036854775807:=by
 simp[Lit.wf,IntKind.min,IntKind.max,IntKind.bits,IntKind.signed]at h;omega
def Ri(w:World)(k:IntKind)(A:Option Addr)(n c:Nat)(l:List Int):Prop:=Rd w 1 A n c (l.map (Value.int k))∧∀ z∈l,(Lit.int k z).wf=true
theorem Ri.nil_(w:World)(k:IntKind):Ri w k none 0 0 []:=⟨Rd.nil_ w 1,by simp⟩
theorem rd_open{w:World}{k:IntKind}{x:Addr}{len cap:Nat}{zs:List Int}(hl:len≤cap)(hm:cap≤maxLen)(hz:zs.length=cap)
  (hcell:∀ i,i<zs.length→w.cell? (x.add i)=some (.int k (zs.getD i 0))):Rd w 1 (some x) len cap ((zs.take len).map (Value.int k)):=by
 refine⟨by simp;omega,hl,hm,fun hn=>?_⟩;obtain⟨b,o,sp⟩:=x;have hc:=hcell 0 (by omega);obtain rfl:sp=none:=by simpa [Addr.add] using World.cell?_spot hc
 refine⟨b,o,rfl,fun j u hu=>?_⟩;simp only[List.getElem?_map,List.getElem?_take,Option.map_eq_some_iff]at hu;obtain⟨z,hz2,rfl⟩:=hu;split at hz2
 ·rename_i hj
  have:=hcell j (by omega);rw[Addr.add_lit]at this;rw[this,List.getD,hz2];rfl
 ·cases hz2
theorem ri_open{w:World}{k:IntKind}{x:Addr}{len cap:Nat}{zs:List Int}(hl:len≤cap)(hm:cap≤maxLen)(hz:zs.length=cap)
  (hcell:∀ i,i<zs.length→w.cell? (x.add i)=some (.int k (zs.getD i 0))) (hwz:∀ n∈zs,(Lit.int k n).wf=true):∃ l,Ri w k (some x) len cap l :=
 ⟨zs.take len,rd_open hl hm hz hcell,fun z h=>hwz z (List.mem_of_mem_take h)⟩
def oR(S:Nat→Prop)(T:Tg)(w w':World):Prop:=Moved (fun k=>S (T k)) w w'
def oRs(K:Nat)(S:Nat→Prop)(T:Tg)(i:Nat)(w w':World):Prop:=(i=K∧oR S T w w')∨Ext w w'
def oJ(K:Nat)(w0:World)(j:Nat)(w:World):Prop:=j=K→Ext w0 w
def oP(S:Nat→Prop)(w0:World)(T:Tg)(P:Value→World→Tg→Prop)(v:Value)(w:World):Prop:=∃ T',Turn S w0 T w T'∧P v w T'
def Grow(P:Value→World→Tg→Prop):Prop:=∀ v w T w',P v w T→Ext w w'→P v w' T
section
variable {S:Nat→Prop} {T:Tg} {K:Nat} {w w' w0:World} {P:Value→World→Tg→Prop} {v:Value}
theorem oR.of_ext(h:Ext w w'):oR S T w w':=Moved.of_ext _ h
theorem oR.refl(S:Nat→Prop)(T:Tg):∀ w,oR S T w w:=fun w=>Moved.refl _ w
theorem oRs.refl(K:Nat)(S:Nat→Prop)(T:Tg):∀ i w,oRs K S T i w w:=fun _ w=>.inr (Ext.refl w)
theorem oR.sz(S:Nat→Prop)(T:Tg):∀ a b,oR S T a b→a.heap.size≤b.heap.size:=fun _ _ h=>Moved.size h
theorem oR.trans(S:Nat→Prop)(T:Tg):∀ a b c,oR S T a b→oR S T b c→oR S T a c:=fun _ _ _=>Moved.trans
theorem oR.drew(S:Nat→Prop)(T:Tg)(w:World):oR S T w w.drew:=Moved.of_ext _ (Ext.drew w)
theorem oJ.stab:∀ j i,i≠j→∀ w w',oJ K w0 j w→oRs K S T i w w'→oJ K w0 j w':=by
 intro j i hij w w' hJ hR hjk;rcases hR with ⟨h,_⟩|h
 ·exact absurd (h.trans hjk.symm) hij
 ·exact(hJ hjk).trans h
theorem oJ.start(K:Nat)(w:World):∀ i,oJ K w i w.drew:=fun _ _=>Ext.drew w
theorem oP.stab(hP:Grow P)(K:Nat):∀ j,j≠K→∀ v w w',oP S w0 T P v w→oRs K S T j w w'→oP S w0 T P v w':=by
 rintro j hj v w w' ⟨T',h1,h2⟩ hR;rcases hR with ⟨h,_⟩|h
 ·exact absurd h hj
 ·exact⟨T',h1.ext h,hP _ _ _ _ h2 h⟩
theorem oR.cell{p:Addr}{u:Value}(h:oR S T w w')(hc:w.cell? p=some u)(hn:¬ S (T p.block)):w'.cell? p=some u:=by
 have hl:=World.block_lt_of_cell? w _ hc;have:=h.block p.block hl hn;obtain⟨b,o,s⟩:=p;simp only[World.cell?]at hc ⊢;rw[this];exact hc
theorem Moved.of_turn{T':Tg}(hT:Turn S w T w' T'):Moved (fun k=>S (T k)) w w':=⟨hT.os,hT.tape,hT.output,hT.size,fun k hk hn=>hT.block k hk hn⟩
theorem one_call{Pr:Program}{f:FuncId}{args:Array Value}(hu:Unborn w0 T)(he:Ext w0 w)(h:Calls Pr f args w (Gives S w T P)) :
  Calls Pr f args w fun e w'=>∃ v,e = .returned v∧oR S T w w'∧oRs K S T K w w'∧oP S w0 T P v w':=by
 refine h.mono ?_;rintro e w' ⟨v,rfl,T',hT,hP⟩;exact⟨v,rfl,Moved.of_turn hT,.inl ⟨rfl,Moved.of_turn hT⟩,T',(Turn.of_ext S hu he).trans hT,hP⟩
theorem oP_val{u:Value}{Q:World→Tg→Prop}(h:oP S w0 T (fun v w T=>v=u∧Q w T) v w):v=u:=by
 obtain⟨_,_,h,_⟩:=h;exact h
theorem Has.moved{t b:Nat}{vs:List Value}(h:Has w T t b vs)(hR:oR S T w w')(hs:¬ S t):Has w' T t b vs:=h.of_block (hR.block b h.lt (by rw[h.1];exact hs)) rfl
end
section
variable {P:Program} {R:World→World→Prop} {w0:World} {Rs:Nat→World→World→Prop} {J:Nat→World→Prop} {F1 F2:Nat} {l:List Oper} {Q:Act→World→Prop}
variable {o:Oper} {os:List Oper} {qs:List Post} {i:Nat} {a:Act} {u1 u2:Value} {Φ:(Nat→Bool)→World→Prop}
theorem lexG_eff{p:Value→World→Prop}(hF1:i≠F1)(hF2:i≠F2)(hst:∀ j,j≠i→∀ v w w',p v w→Rs j w w'→p v w')(hw:Region.wanted o (yielded l.toArray a.tmps)=true)(hrun:∀ w,R w0 w→J i w→Φ (bef l i) w→∃ w',(execOp a.eval o).run P w = .ok .skip w'∧R w w'∧Rs i w w'∧p undef w')
  (h:∀ v,lexG P R w0 Rs J F1 F2 l Q qs os (i+1) (a.put o.dst v) (if i=F1 then v else u1) (if i=F2 then v else u2) (fun d w=>(d i=true→p v w)∧Φ d w)):lexG P R w0 Rs J F1 F2 l Q (.inr p::qs) (o::os) i a u1 u2 Φ:=by
 refine⟨?_,fun j hj _=>hst j hj,h⟩;rw[if_pos hw];intro w hR hJ hΦ;obtain⟨w',hu,hRw,hRs,hp⟩:=hrun w hR hJ hΦ;rw[hu];exact⟨⟨hRw,hRs,fun e=>by rcases e with e|e;exact absurd e hF1;exact absurd e hF2⟩,hp⟩
end
def mC(T:Tg)(t b:Nat)(ks:List Nat)(w w':World):Prop:=oR (· = t) T w w'∧∀ vs,Has w T t b vs→∃ vs',Has w' T t b vs'∧vs'.length=vs.length∧∀ j,j∉ks→vs'[j]?=vs[j]?
def mP(T:Tg)(t b:Nat)(kv:List (Nat×Value))(w:World):Prop:=∃ vs,Has w T t b vs∧∀ q∈kv,vs[q.1]?=some q.2
section
variable {T:Tg} {t b:Nat} {ks ks':List Nat} {w w' w1:World} {kv:List (Nat×Value)}
theorem mC.of_ext(T:Tg)(t b:Nat)(ks:List Nat)(h:Ext w w'):mC T t b ks w w':=⟨oR.of_ext h,fun vs hv=>⟨vs,hv.ext h,rfl,fun _ _=>rfl⟩⟩
theorem mC.trans(h:mC T t b ks w w1)(h':mC T t b ks w1 w'):mC T t b ks w w':=⟨oR.trans _ _ _ _ _ h.1 h'.1,fun vs hv=>by
 obtain⟨v1,h1,h2,h3⟩:=h.2 vs hv;obtain⟨v2,h4,h5,h6⟩:=h'.2 v1 h1;exact⟨v2,h4,h5.trans h2,fun j hj=>(h6 j hj).trans (h3 j hj)⟩⟩
theorem mC.mono(h:mC T t b ks w w')(hs:∀ k∈ks,k∈ks'):mC T t b ks' w w':=⟨h.1,fun vs hv=>by
 obtain⟨v1,h1,h2,h3⟩:=h.2 vs hv;exact⟨v1,h1,h2,fun j hj=>h3 j fun hk=>hj (hs j hk)⟩⟩
theorem mP.keep(h:mP T t b kv w)(hC:mC T t b ks w w')(hd:∀ q∈kv,q.1∉ks):mP T t b kv w':=by
 obtain⟨vs,h1,h2⟩:=h;obtain⟨v1,h3,h4,h5⟩:=hC.2 vs h1;exact⟨v1,h3,fun q hq=>(h5 _ (hd q hq)).trans (h2 q hq)⟩
theorem mC.put(hu:Unborn w T){vs:List Value}(h:Has w T t b vs){i:Nat}(hi:i<vs.length)(v:Value):mC T t b [i] w (w.setCell ⟨b,i,none⟩ v)∧mP T t b [(i,v)] (w.setCell ⟨b,i,none⟩ v):=by
 obtain⟨hT,hH⟩:=h.put (S:=(· = t)) hu i v rfl;refine⟨⟨Moved.of_turn hT,fun vs' hv=>?_⟩,vs.set i v,hH,fun q hq=>?_⟩
 ·obtain⟨_,hH'⟩:=hv.put (S:=(· = t)) hu i v rfl
  exact⟨_,hH',by simp,fun j hj=>List.getElem?_set_ne (by simp at hj;omega)⟩
 ·simp at hq
  subst hq;exact List.getElem?_set_self hi
theorem mC.put2(hu:Unborn w T){vs:List Value}(h:Has w T t b vs){i j:Nat}(hi:i<vs.length)(hj:j<vs.length)(hij:i≠j)(v u:Value):mC T t b [i,j] w ((w.setCell ⟨b,i,none⟩ v).setCell ⟨b,j,none⟩ u)∧mP T t b [(i,v),(j,u)] ((w.setCell ⟨b,i,none⟩ v).setCell ⟨b,j,none⟩ u):=by
 obtain⟨h1,h2⟩:=mC.put hu h hi v;obtain⟨hT,hH⟩:=h.put (S:=(· = t)) hu i v rfl;obtain⟨h3,h4⟩:=mC.put hT.unborn hH (i:=j) (by simpa using hj) u;refine⟨(h1.mono (by simp)).trans (h3.mono (by simp)),?_⟩;obtain⟨v1,k1,k2⟩:=h4;obtain⟨v2,k3,k4⟩:=h2.keep h3 (by simp;exact hij);refine⟨v1,k1,fun q hq=>?_⟩;have e:v1=v2:=by
  obtain⟨_,e1,b1⟩:=k1;obtain⟨_,e2,b2⟩:=k3;rw[b1]at b2;have:=Option.some.inj b2;injection this with h5 _ _
  simpa using h5
 simp at hq
 rcases hq with rfl|rfl
 ·rw[e];exact k4 _ (by simp)
 ·exact k2 _ (by simp)
theorem Has.uniq{vs vs':List Value}(h:Has w T t b vs)(h':Has w T t b vs'):vs=vs':=by
 obtain⟨_,e1,b1⟩:=h;obtain⟨_,e2,b2⟩:=h';rw[b1]at b2;have:=Option.some.inj b2;injection this with h5 _ _
 simpa using h5
end
end Go.Proofs.YtffcefoadaogbaaGreat
