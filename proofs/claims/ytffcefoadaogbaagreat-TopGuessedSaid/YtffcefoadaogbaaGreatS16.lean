/- A part of the proof: texts put together and cut down by a program of mine (wip/gen/mini.py). -/
import Derived.Test.YtffcefoadaogbaaGreatS15
import Derived.Deep.DeepCutAuto
namespace Go.Proofs.YtffcefoadaogbaaGreat
open Go.RowKit
open Go.Proofs.Tryz
set_option linter.unusedVariables false
set_option maxRecDepth 100000
set_option maxHeartbeats 16000000
section
variable {w w' w1:World} {g n c1 c2 c3 c4:Nat}
def MerR(w0:World)(g n c c1 c2 c3 c4 k:Nat):Prop:=∀ W a m b,Sw g n w0 W→b-a≤k→a<m→m<b→b≤n→Calls prog 331 #[.slice (some ⟨g,0,none⟩) n c,.int .i64 (a:Nat),.int .i64 (m:Nat),.int .i64 (b:Nat),cmpV c1 c2 c3 c4] W fun e w'=>e = .returned (.tuple #[])∧Sw g n W w'
theorem merge_both(w:World)(c:Nat)(h:Zs w g n)(hn:n≤256)(a m b k:Nat)(ha:a+1<m)(hm:m+1<b)(hb:b≤n)(hk:b-a≤k+1)(hC:Cmp w g c1 c2 c3 c4)(hR:MerR w g n c c1 c2 c3 c4 k):Calls prog 331 #[.slice (some ⟨g,0,none⟩) n c,.int .i64 (a:Nat),.int .i64 (m:Nat),.int .i64 (b:Nat),cmpV c1 c2 c3 c4] w fun e w'=>e = .returned (.tuple #[])∧Sw g n w w':=by
 have HZ0:=hqd h;have HC:=hqd fun W (hs:Sw g n w W)=>hC.grown hs.1;have HRot:=hqd fun W (hs:Sw g n w W) a m b h1 h2 h3=>sort_rotate W c hs.2 hn a m b h1 h2 h3 (cmpV c1 c2 c3 c4);have HR:=hqd hR;have hw1:IntKind.i64.wrap ((m:Int)-(a:Int))=(m:Int)-(a:Int):=IntWalk.i64_in _ (by omega);have he1:((m:Int)-(a:Int)==1)=false:=by rw[beq_eq_false_iff_ne];omega
 have hw2:IntKind.i64.wrap ((b:Int)-(m:Int))=(b:Int)-(m:Int):=IntWalk.i64_in _ (by omega);have he2:((b:Int)-(m:Int)==1)=false:=by rw[beq_eq_false_iff_ne];omega
 obtain⟨d,hd,hd1,hd2⟩:∃ d:Nat,((a:Int)+(b:Int)) / 2=(d:Nat)∧2*d≤a+b∧a+b≤2*d+1:=⟨(a+b) / 2,by omega,by omega,by omega⟩;have hw3:IntKind.i64.wrap ((d:Int)+(m:Int))=(d:Int)+(m:Int):=IntWalk.i64_in _ (by omega);unfold MerR cmpV at HR;unfold cmpV at HRot;unfold cmpV;clear h hC hR;go_enter func331,ntmps331;go_upto_if 140 with fail
 go_cut [20,21] (fun sv rv wx=>∃ s r:Nat,sv = .int .i64 (s:Nat)∧rv = .int .i64 (r:Nat)∧wx=w∧((d<m∧s+b=d+m∧r=d)∨(m≤d∧s=a∧r=m)))
 case first =>
  as_aux_lemma =>
  by_cases hdm:d<m
  ·have q1:decide (d<m)=true:=decide_eq_true hdm
   have hw4:IntKind.i64.wrap ((d:Int)+(m:Int)-(b:Int))=(d:Int)+(m:Int)-(b:Int):=IntWalk.i64_in _ (by omega);go_wp2_with fail;go_meet
   exact⟨d+m-b,d,by congr 1;omega,rfl,rfl,.inl ⟨hdm,by omega,rfl⟩⟩
  ·have q1:decide (d<m)=false:=decide_eq_false hdm
   go_wp2_with fail;go_meet
   exact⟨a,m,rfl,rfl,rfl,.inr ⟨by omega,rfl,rfl⟩⟩
 case rest =>
  as_aux_lemma =>
  obtain⟨s,r,rfl,rfl,hwc,hsr⟩:=hcut;have hwc:=hwc.symm;subst hwc;have hsr0:a≤s∧s≤r∧r≤m∧r≤d∧d+m≤s+b:=by omega
  have hw5:IntKind.i64.wrap ((d:Int)+(m:Int)-1)=(d:Int)+(m:Int)-1:=IntWalk.i64_in _ (by omega);go_wp2_with fail;go_loopw [20,21] (fun iv jv wr=>∃ i j:Nat,iv = .int .i64 (i:Nat)∧jv = .int .i64 (j:Nat)∧s≤i∧i≤j∧j≤r∧Sw g n w wr) (fun iv jv _=>(intOf jv).toNat-(intOf iv).toNat)
  case atStart=>exact⟨s,r,rfl,rfl,by omega,by omega,by omega,Sw.refl HZ0.out⟩
  case round =>
   as_aux_lemma =>
   obtain⟨i,j,rfl,rfl,hi1,hij,hjb,hS⟩:=hrel;have HS:=hqd hS;have HZ:=hqd hS.2;have HCx:=hqd (HC.out wr hS);clear hS;by_cases hlt:i<j
   ·have hd9:decide (i<j)=true:=decide_eq_true hlt
    obtain⟨q,hh,hih,hhj⟩:∃ q:Nat,((i:Int)+(j:Int)) / 2=(q:Nat)∧i≤q∧q<j:=⟨(i+j) / 2,by omega,by omega,by omega⟩;obtain⟨pc,hpc⟩:∃ pc:Nat,(d:Int)+(m:Int)-1-(q:Int)=(pc:Nat):=⟨d+m-1-q,by omega⟩;have hpn:pc<n:=by omega
    have hnp:(pc<n)=True:=eq_true hpn;have hnp':decide (pc<n)=true:=decide_eq_true hpn;have hw6:IntKind.i64.wrap (pc:Int)=(pc:Int):=IntWalk.i64_in _ (by omega);have hnh:(q<n)=True:=eq_true (by omega);have hnh':decide (q<n)=true:=decide_eq_true (by omega);have hwh:IntKind.i64.wrap ((q:Int)+1)=(q:Int)+1:=IntWalk.i64_in _ (by omega);go_wp2_with fail;clear hh;apply wrH 12 (zR g n) (fun _=>zR g n) (fun _ _=>True) (fun _=>trivial);simp only[tk];repeat apply lxG (fun _ _ _ _=>trivial)
    apply lexG_new (p:=zby) (by decide) (by decide) zby.stab
    ·rfl
    ·intro W hR hJ hΦ
     obtain⟨x,h1,_⟩:=hR.2 HZ.out (pc) (by omega);refine⟨_,W,?_,zR.refl _,zR.refl _,x,rfl⟩;go_simp;first|done|rfl
    intro v6;simp only[pu];repeat apply lxG (fun _ _ _ _=>trivial)
    apply lexG_new (p:=zby) (by decide) (by decide) zby.stab
    ·rfl
    ·intro W hR hJ hΦ
     obtain⟨x,h1,_⟩:=hR.2 HZ.out (q) (by omega);refine⟨_,W,?_,zR.refl _,zR.refl _,x,rfl⟩;go_simp;first|done|rfl
    intro v10;simp only[pu];apply lexG_call (p:=zi) (by decide) (by decide) zi.stab
    ·rfl
    ·intro W
     go_simp;exact⟨rfl,rfl⟩
    ·intro W hR hJ hΦ
     obtain⟨x1,rfl⟩:=hΦ.2.1 rfl;obtain⟨x2,rfl⟩:=hΦ.1 rfl;refine(HCx.out W x1 x2 hR.1).mono ?_;rintro e w' ⟨⟨q,rfl⟩,ee⟩;exact⟨_,rfl,zR.of_ext ee,zR.of_ext ee,q,rfl⟩
    intro v11;simp only[pu];refine lexG_nil ?_;intro Wx hRx hap hΦ;obtain⟨u,rfl⟩:=hΦ.1 rfl;clear hΦ hap;simp only[dk];have HS2:=hqd (HS.out.trans (hRx.sw HZ.out));clear hRx;by_cases hq:u<0
    ·have hq1:decide (u<0)=true:=decide_eq_true hq
     go_wp2_with fail;go_roundw
     case rel=>exact⟨i,q,rfl,rfl,by omega,by omega,by omega,HS2.out⟩
     case measure=>simp[intOf];omega
    ·have hq1:decide (u<0)=false:=decide_eq_false hq
     go_wp2_with fail;go_roundw
     case rel=>exact⟨q+1,j,by go_num,rfl,by omega,by omega,by omega,HS2.out⟩
     case measure=>simp[intOf];omega
   ·have hd9:decide (i<j)=false:=decide_eq_false hlt
    obtain rfl:i=j:=by omega
    obtain⟨e,hee⟩:∃ e:Nat,(d:Int)+(m:Int)-(i:Int)=(e:Nat):=⟨d+m-i,by omega⟩;have hw7:IntKind.i64.wrap (e:Int)=(e:Int):=IntWalk.i64_in _ (by omega);have hee1:e+i≤d+m∧d+m≤e+i:=by omega
    go_upto_region 39 with fail
    clear hee;go_cut [185] (fun bv wx=>∃ bo:Bool,bv = .bool bo∧(bo=true↔i<m∧m<e)∧wx=wr)
    case first =>
     as_aux_lemma =>
     by_cases p1:i<m
     ·have e1:decide (i<m)=true:=decide_eq_true p1
      by_cases p2:m<e
      ·have e2:decide (m<e)=true:=decide_eq_true p2
       go_wp2_with fail;go_meet
       exact⟨true,rfl,⟨fun _=>⟨p1,p2⟩,fun _=>rfl⟩,rfl⟩
      ·have e2:decide (m<e)=false:=decide_eq_false p2
       go_wp2_with fail;go_meet
       exact⟨false,rfl,⟨fun h=>absurd h (by decide),fun h=>absurd h.2 p2⟩,rfl⟩
     ·have e1:decide (i<m)=false:=decide_eq_false p1
      go_wp2_with fail;go_meet
      exact⟨false,rfl,⟨fun h=>absurd h (by decide),fun h=>absurd h.1 p1⟩,rfl⟩
    case rest =>
     as_aux_lemma =>
     obtain⟨bo,rfl,hbo,hwx⟩:=hcut;have hwx:=hwx.symm;subst hwx;go_upto_if 185 with fail
     go_cut [] (fun wx=>Sw g n w wx)
     case first =>
      as_aux_lemma =>
      cases bo with
      | true =>
       obtain⟨p1,p2⟩:=hbo.1 rfl;have HX:=hqd (HRot.out _ HS.out i m e p1 p2 (by omega));go_wp2_with fail;refine HX.out.mono ?_;rintro e5 w5 ⟨rfl,hS5⟩;have hS6:=HS.out.trans hS5;go_wp2_with fail;go_meet
       exact hS6
      | false =>
       go_wp2_with fail;go_meet
       exact HS.out
     case rest =>
      as_aux_lemma =>
      obtain⟨wb,hwb⟩:∃ wb,wb=wc:=⟨_,rfl⟩;subst hwb;have HSb:=hqd hcut;clear hcut hbo;go_upto_region 41 with fail
      go_cut [199] (fun bv wx=>∃ bo:Bool,bv = .bool bo∧(bo=true↔a<i∧i<d)∧wx=wb)
      case first =>
       as_aux_lemma =>
       by_cases p1:a<i
       ·have e1:decide (a<i)=true:=decide_eq_true p1
        by_cases p2:i<d
        ·have e2:decide (i<d)=true:=decide_eq_true p2
         go_wp2_with fail;go_meet
         exact⟨true,rfl,⟨fun _=>⟨p1,p2⟩,fun _=>rfl⟩,rfl⟩
        ·have e2:decide (i<d)=false:=decide_eq_false p2
         go_wp2_with fail;go_meet
         exact⟨false,rfl,⟨fun h=>absurd h (by decide),fun h=>absurd h.2 p2⟩,rfl⟩
       ·have e1:decide (a<i)=false:=decide_eq_false p1
        go_wp2_with fail;go_meet
        exact⟨false,rfl,⟨fun h=>absurd h (by decide),fun h=>absurd h.1 p1⟩,rfl⟩
      case rest =>
       as_aux_lemma =>
       obtain⟨bo,rfl,hbo,hwx⟩:=hcut;have hwx:=hwx.symm;subst hwx;go_upto_if 199 with fail
       go_cut [] (fun wx=>Sw g n w wx)
       case first =>
        as_aux_lemma =>
        cases bo with
        | true =>
         obtain⟨p1,p2⟩:=hbo.1 rfl;have HX:=hqd (HR.out _ a i d HSb.out (by omega) p1 p2 (by omega));go_wp2_with fail;refine HX.out.mono ?_;rintro e5 w5 ⟨rfl,hS5⟩;have hS6:=HSb.out.trans hS5;go_wp2_with fail;go_meet
         exact hS6
        | false =>
         go_wp2_with fail;go_meet
         exact HSb.out
       case rest =>
        as_aux_lemma =>
        obtain⟨wd,hwd⟩:∃ wd,wd=wc:=⟨_,rfl⟩;subst hwd;have HSd:=hqd hcut;clear hcut hbo;go_upto_region 43 with fail
        go_cut [213] (fun bv wx=>∃ bo:Bool,bv = .bool bo∧(bo=true↔d<e∧e<b)∧wx=wd)
        case first =>
         as_aux_lemma =>
         by_cases p1:d<e
         ·have e1:decide (d<e)=true:=decide_eq_true p1
          by_cases p2:e<b
          ·have e2:decide (e<b)=true:=decide_eq_true p2
           go_wp2_with fail;go_meet
           exact⟨true,rfl,⟨fun _=>⟨p1,p2⟩,fun _=>rfl⟩,rfl⟩
          ·have e2:decide (e<b)=false:=decide_eq_false p2
           go_wp2_with fail;go_meet
           exact⟨false,rfl,⟨fun h=>absurd h (by decide),fun h=>absurd h.2 p2⟩,rfl⟩
         ·have e1:decide (d<e)=false:=decide_eq_false p1
          go_wp2_with fail;go_meet
          exact⟨false,rfl,⟨fun h=>absurd h (by decide),fun h=>absurd h.1 p1⟩,rfl⟩
        case rest =>
         as_aux_lemma =>
         obtain⟨bo,rfl,hbo,hwx⟩:=hcut;have hwx:=hwx.symm;subst hwx;cases bo with
         | true =>
          obtain⟨p1,p2⟩:=hbo.1 rfl;have HX:=hqd (HR.out _ d e b HSd.out (by omega) p1 p2 (by omega));go_wp2_with fail;refine HX.out.mono ?_;rintro e5 w5 ⟨rfl,hS5⟩;have hS6:=HSd.out.trans hS5;go_wp2_with fail;go_end0
          exact⟨rfl,hS6⟩
         | false =>
          go_wp2_with fail;go_end0
          exact⟨rfl,HSd.out⟩
end
section
variable {w w' w1:World} {g n c1 c2 c3 c4:Nat}
theorem merge_all(w0:World)(c:Nat)(hn:n≤256)(hC:Cmp w0 g c1 c2 c3 c4):∀ k,MerR w0 g n c c1 c2 c3 c4 k
 | 0=>fun W a m b hS hk ha hm hb=>by omega
 | k+1=>fun W a m b hS hk ha hm hb=>by
  have hCW:=hC.grown hS.1;by_cases h1:a+1=m
  ·subst h1
   exact merge_left W c hS.2 hn a b (by omega) hb hCW
  ·by_cases h2:m+1=b
   ·subst h2
    exact merge_right W c hS.2 hn a m (by omega) hb hCW
   ·exact merge_both W c hS.2 hn a m b k (by omega) (by omega) hb hk hCW fun W2 a2 m2 b2 hS2 hk2 h3 h4 h5=>merge_all w0 c hn hC k W2 a2 m2 b2 (hS.trans hS2) hk2 h3 h4 h5
theorem sort_stable(w:World)(c:Nat)(h:Zs w g n)(hn:n≤256)(hC:Cmp w g c1 c2 c3 c4):Calls prog 325 #[.slice (some ⟨g,0,none⟩) n c,.int .i64 (n:Nat),cmpV c1 c2 c3 c4] w fun e w'=>e = .returned (.tuple #[])∧Sw g n w w':=by
 have HIns:=hqd fun W (hs:Sw g n w W) a b h1 h2=>sort_insertion W c hs.2 hn a b h1 h2 (hC.grown hs.1);have HM:=hqd fun W (hs:Sw g n w W) a m b h1 h2 h3=>merge_all w c hn hC (b-a) W a m b hs (Nat.le_refl _) h1 h2 h3;have HZ:=hqd h;unfold cmpV at *;clear h hC;go_enter func325,ntmps325;go_wp2_with fail;go_loopw [7,8] (fun av bv wr=>∃ a b:Nat,av = .int .i64 (a:Nat)∧bv = .int .i64 (b:Nat)∧(b≤a+20∧a+20≤b)∧a≤n∧Sw g n w wr) (fun _ bv _=>n+20-(intOf bv).toNat)
 case atStart=>exact⟨0,20,rfl,rfl,by omega,Nat.zero_le _,Sw.refl HZ.out⟩
 case round =>
  obtain⟨a,b,rfl,rfl,hab,han,hS⟩:=hrel;by_cases hbn:b≤n
  ·have hd1:decide (b≤n)=true:=decide_eq_true hbn
   have hw1:IntKind.i64.wrap ((b:Int)+20)=(b:Int)+20:=IntWalk.i64_in _ (by omega);have HX:=hqd (HIns.out wr hS a b han hbn);have HS:=hqd hS;clear hS;go_wp2_with fail;refine HX.out.mono ?_;rintro e w3 ⟨rfl,hS3⟩;have HS3:=hqd (HS.out.trans hS3);clear hS3;go_wp2_with fail;go_roundw
   case rel=>exact⟨b,b+20,rfl,by go_num,by omega,hbn,HS3.out⟩
   case measure=>simp[intOf];omega
  ·have hd1:decide (b≤n)=false:=decide_eq_false hbn
   have HX:=hqd (HIns.out wr hS a n han (Nat.le_refl _));have HS:=hqd hS;clear hS;go_wp2_with fail;refine HX.out.mono ?_;rintro e w3 ⟨rfl,hS3⟩;have hS4:=HS.out.trans hS3;clear hS3;go_wp2_with fail;go_loopw [6] (fun sv wr=>∃ s:Nat,sv = .int .i64 (s:Nat)∧20≤s∧s≤600∧Sw g n w wr) (fun sv _=>600-(intOf sv).toNat)
   case atStart=>exact⟨20,rfl,by omega,by omega,hS4⟩
   case round =>
    obtain⟨s,rfl,hs1,hs2,hS⟩:=hrel;by_cases hsn:s<n
    ·have hd2:decide (s<n)=true:=decide_eq_true hsn
     have hw2:IntKind.i64.wrap (2*(s:Int))=2*(s:Int):=IntWalk.i64_in _ (by omega);have hw2':IntKind.i64.wrap ((s:Int)*2)=(s:Int)*2:=IntWalk.i64_in _ (by omega);have HS:=hqd hS;clear hS;go_wp2_with fail;go_loopw [7,8] (fun av bv wr=>∃ a b:Nat,av = .int .i64 (a:Nat)∧bv = .int .i64 (b:Nat)∧(b≤a+2*s∧a+2*s≤b)∧a≤n∧Sw g n w wr) (fun _ bv _=>n+2*s-(intOf bv).toNat)
     case atStart=>exact⟨0,2*s,rfl,by go_num,by omega,Nat.zero_le _,HS.out⟩
     case round =>
      obtain⟨a,b,rfl,rfl,hab,han,hS⟩:=hrel;have hw3:IntKind.i64.wrap ((a:Int)+(s:Int))=(a:Int)+(s:Int):=IntWalk.i64_in _ (by omega);have hcast:(a:Int)+(s:Int)=((a+s:Nat):Int):=by omega
      by_cases hbn:b≤n
      ·have hd3:decide (b≤n)=true:=decide_eq_true hbn
       have hw4:IntKind.i64.wrap ((b:Int)+2*(s:Int))=(b:Int)+2*(s:Int):=IntWalk.i64_in _ (by omega);have HX:=hqd (HM.out wr hS a (a+s) b (by omega) (by omega) hbn);rw[← hcast]at HX;have HS:=hqd hS;clear hS hcast;go_wp2_with fail;refine HX.out.mono ?_;rintro e w5 ⟨rfl,hS5⟩;have HS5:=hqd (HS.out.trans hS5);clear hS5;go_wp2_with fail;go_roundw
       case rel=>exact⟨b,b+2*s,rfl,by go_num,by omega,hbn,HS5.out⟩
       case measure=>simp[intOf];omega
      ·have hd3:decide (b≤n)=false:=decide_eq_false hbn
       by_cases hmn:a+s<n
       ·have hd4:decide ((a:Int)+(s:Int)<(n:Int))=true:=decide_eq_true (by omega)
        have HX:=hqd (HM.out wr hS a (a+s) n (by omega) hmn (Nat.le_refl _));rw[← hcast]at HX;have HS:=hqd hS;clear hS hcast;go_wp2_with fail;refine HX.out.mono ?_;rintro e w5 ⟨rfl,hS5⟩;have HS5:=hqd (HS.out.trans hS5);clear hS5;go_wp2_with fail;go_roundw
        case rel=>exact⟨s*2,by go_num,by omega,by omega,HS5.out⟩
        case measure=>simp[intOf];omega
       ·have hd4:decide ((a:Int)+(s:Int)<(n:Int))=false:=decide_eq_false (by omega)
        have HS:=hqd hS;clear hS hcast;go_wp2_with fail;go_roundw
        case rel=>exact⟨s*2,by go_num,by omega,by omega,HS.out⟩
        case measure=>simp[intOf];omega
    ·have hd2:decide (s<n)=false:=decide_eq_false hsn
     have HS:=hqd hS;clear hS;go_wp2_with fail;go_end0
     exact⟨rfl,HS.out⟩
theorem sort_func(w:World)(c:Nat)(h:Zs w g n)(hn:n≤256)(hC:Cmp w g c1 c2 c3 c4):Calls prog 317 #[.slice (some ⟨g,0,none⟩) n c,cmpV c1 c2 c3 c4] w fun e w'=>e = .returned (.tuple #[])∧Sw g n w w':=by
 have HX:=hqd (sort_stable w c h hn hC);unfold cmpV at *;clear h hC;go_enter func317,ntmps317;go_wp2_with fail;refine HX.out.mono ?_;rintro e w1 ⟨rfl,hS⟩;go_wp2_with fail;go_end0
 exact⟨rfl,hS⟩
end
section
variable {w w':World}
theorem rank_cmp(w:World)(f:Nat→Nat)(kind:Nat)(hk3:kind≠3)(d1 d2:UInt8)(g1 g2 g3 g4:Nat)(h1:w.cell? ⟨g1,0,none⟩=some (.int .u8 (d1.toNat:Nat)))(h2:w.cell? ⟨g2,0,none⟩=some (.int .u8 (d2.toNat:Nat)))(h3:w.cell? ⟨g3,0,none⟩=some (.int .i64 (kind:Nat)))(h4:∀ v,v<256→w.cell? ⟨g4,v,none⟩=some (.int .i64 (f v:Nat)))(hf:∀ v,f v≤2000)(x y:UInt8) :
  Calls prog 318 #[.int .u8 (x.toNat:Nat),.int .u8 (y.toNat:Nat),.pointer (some ⟨g1,0,none⟩),.pointer (some ⟨g2,0,none⟩),.pointer (some ⟨g3,0,none⟩),.pointer (some ⟨g4,0,none⟩)] w fun e w'=>(∃ q:Int,e = .returned (.int .i64 q))∧Ext w w':=by
 have hx:=x.toNat_lt;have hy:=y.toNat_lt;have cx:=h4 x.toNat hx;have cy:=h4 y.toNat hy;have hfx:=hf x.toNat;have hfy:=hf y.toNat;have hkk:((kind:Int) != 3)=true:=by rw[bne_iff_ne];omega
 have hix:Hid (∀ k,k<2→∃ d:Nat,∀ W,(Instr.index 415 (.agg #[.int .u8 (d1.toNat:Nat),.int .u8 (d2.toNat:Nat)]) (.int .i64 (k:Nat))).run prog W = .ok (.int .u8 (d:Nat)) W):=hqd fun k hk=>by
  rcases(by omega:k=0∨k=1) with rfl|rfl
  ·exact⟨d1.toNat,fun W=>rfl⟩
  ·exact⟨d2.toNat,fun W=>rfl⟩
 clear h4;generalize f x.toNat=fx at *;generalize f y.toNat=fy at *;generalize x.toNat=xn at *;generalize y.toNat=yn at *;have hx1:(xn<256)=True:=eq_true (by omega);have hy1:(yn<256)=True:=eq_true (by omega);have hx2:decide (xn<256)=true:=decide_eq_true (by omega);have hy2:decide (yn<256)=true:=decide_eq_true (by omega);have hx3:((xn:Int)<256)=True:=eq_true (by omega);have hy3:((yn:Int)<256)=True:=eq_true (by omega);have hw1:IntKind.i64.wrap ((fy:Int)-(fx:Int))=(fy:Int)-(fx:Int):=IntWalk.i64_in _ (by omega);go_enter func318,ntmps318;go_wp2_with fail;go_loopw [14] (fun iv wr=>∃ k:Nat,iv = .int .i64 (k:Nat)∧k≤2∧Ext w wr) (fun iv _=>2-(intOf iv).toNat)
 case atStart=>exact⟨0,rfl,Nat.zero_le _,Ext.refl _⟩
 case round =>
  obtain⟨k,rfl,hk,er⟩:=hrel;by_cases hk2:k<2
  ·have hd:decide (k<2)=true:=decide_eq_true hk2
   have hd':decide ((k:Int)<2)=true:=decide_eq_true (by omega);obtain⟨d,hdx⟩:=hix.out k hk2;have h3r:=er.cell h3;have cxr:=er.cell cx;have cyr:=er.cell cy;go_wp2_with fail;apply wrA trivial;repeat first|apply lxA (fun _ h _=>aj (h.cell h3r) (aj (h.cell cxr) (h.cell cyr)))|apply lxK trivial
   refine lex_nil ?_;intro Wx hWx hΦ;clear hΦ;have ew:=er.trans hWx;have cxr:=hWx.cell cxr;have cyr:=hWx.cell cyr;by_cases hne:fx=fy
   ·have e1:((fx:Int) != (fy:Int))=false:=by rw[bne_eq_false_iff_eq];omega
    by_cases hxd:xn=d
    ·have e2:((xn:Int)==(d:Int))=true:=by rw[beq_iff_eq];omega
     by_cases hyd:yn=d
     ·have e3:((yn:Int)==(d:Int))=true:=by rw[beq_iff_eq];omega
      go_wp2_with fail;go_roundw
      case rel=>exact⟨k+1,by go_num,by omega,ew⟩
      case measure=>simp[intOf];omega
     ·have e3:((yn:Int)==(d:Int))=false:=by rw[beq_eq_false_iff_ne];omega
      go_wp2_with fail;go_ret;exact⟨⟨_,rfl⟩,ew⟩
    ·have e2:((xn:Int)==(d:Int))=false:=by rw[beq_eq_false_iff_ne];omega
     by_cases hyd:yn=d
     ·have e3:((yn:Int)==(d:Int))=true:=by rw[beq_iff_eq];omega
      go_wp2_with fail;go_ret;exact⟨⟨_,rfl⟩,ew⟩
     ·have e3:((yn:Int)==(d:Int))=false:=by rw[beq_eq_false_iff_ne];omega
      go_wp2_with fail;go_roundw
      case rel=>exact⟨k+1,by go_num,by omega,ew⟩
      case measure=>simp[intOf];omega
   ·have e1:((fx:Int) != (fy:Int))=true:=by rw[bne_iff_ne];omega
    go_wp2_with fail;apply wrA trivial;repeat apply lxA (fun _ h _=>aj (h.cell cxr) (h.cell cyr))
    refine lex_nil ?_;intro Wx hWx hΦ;clear hΦ;go_wp2_with fail;go_ret;exact⟨⟨_,rfl⟩,ew.trans hWx⟩
  ·have hd:decide (k<2)=false:=decide_eq_false hk2
   have hd':decide ((k:Int)<2)=false:=decide_eq_false (by omega);go_wp2_with fail;go_ret;exact⟨⟨_,rfl⟩,er⟩
theorem Zs.rb{g n m c:Nat}(h:Zs w g n)(hm:m≤n)(hc:m≤c)(hx:c≤maxLen):∃ l,Rb w (some ⟨g,0,none⟩) m c l:=by
 have h0:∀ i,∃ x:UInt8,i<n→w.cell? ⟨g,i,none⟩=some (.int .u8 (x.toNat:Nat)):=fun i=>by
  by_cases hi:i<n
  ·obtain⟨x,h1,_⟩:=h i hi
   exact⟨x,fun _=>h1⟩
  ·exact⟨0,fun h=>absurd h hi⟩
 refine⟨(List.range m).map fun i=>Classical.choose (h0 i),by simp[bcs],hc,hx,fun _=>⟨g,0,rfl,fun j u hj=>?_⟩⟩;have hjm:j<m:=by
  have:=(List.getElem?_eq_some_iff.1 hj).1;simpa [bcs] using this
 rw[bcs_get (by simpa using hjm)]at hj;cases hj
 have:=Classical.choose_spec (h0 j) (by omega);simpa using this
theorem rank_any(w:World){kind o:Nat}(h:okBy kind o)(A:Option Addr)(n c:Nat)(past:List UInt8)(hb:Rb w A n c past)(hl:past.length≤1000)(r:Nat)(hr:r≤100) :
  Calls prog 300 #[byV kind o,.slice A n c,.int .i64 ((r:Int)+1)] w fun e w'=>∃ g d l,e = .returned (.slice (some ⟨g,0,none⟩) (r+1) d)∧Rb w' (some ⟨g,0,none⟩) (r+1) d l∧Ext w w':=by
 obtain⟨i0,hi,hz0,hz1,hz2⟩:=info_parts info_u8;obtain⟨j0,hj,hjz0,hjz1,hjz2⟩:=info_parts info_w256;rw[w256_zero]at hjz0;have hk3:kind≠3:=by rcases h with ⟨rfl,_⟩|⟨rfl,_⟩<;>decide
 have Hmay:=hqd fun W=>pmay_yes W h;have Hw:=hqd fun W (e:Ext w W)=>weights_any W h A n c past (hb.ext e) (by omega);have Hf:=hqd fun W (e:Ext w W)=>first_any W h A n c past (hb.ext e) (by omega);have Hla:=hqd fun W (e:Ext w W)=>last_any W A n c past (hb.ext e);have Hfl:=hqd fun v=>Nat.le_trans (wgtL_le kind o past v) (show past.length≤2000 by omega);generalize wgtL kind o past=f at *;generalize firstL kind o past=d1 at *;generalize lastL past=d2 at *;unfold byV at *;clear h hb;have hmf:∀ fn first cap w,(Instr.makeFunc fn first cap).run prog w = .ok (.func fn first cap) w:=fun _ _ _ _=>rfl;go_enter func300,ntmps300;go_wp2_with fail;generalize hV:w.alloc _=V at *;have eV:Ext w V:=by subst hV;exact Ext.alloc _ _
 have b0:V.cell? ⟨w.heap.size,0,none⟩=some (.int .i64 (kind:Nat)):=by subst hV;go_simp
 have b1:V.cell? ⟨w.heap.size,1,none⟩=some (.int .i64 (o:Nat)):=by subst hV;go_simp
 have b2:V.cell? ⟨w.heap.size,2,none⟩=some (.slice none 0 0):=by subst hV;go_simp
 have hgV:w.heap.size<V.heap.size:=by subst hV;simp
 clear hV;generalize hgb:w.heap.size=gb at *;have Hgb:=hqd (show w.heap.size≤gb by omega);clear hgb;refine(Hmay.out V).mono ?_;rintro e w1 ⟨rfl,e1⟩;replace b0:=e1.cell b0;replace b1:=e1.cell b1;replace b2:=e1.cell b2;replace eV:=eV.trans e1;replace hgV:=Nat.lt_of_lt_of_le hgV e1.size;clear e1;go_wp2_with fail;refine(Hw.out w1 eV).mono ?_;rintro e w2 ⟨rfl,e1⟩;replace b0:=e1.cell b0;replace b1:=e1.cell b1;replace b2:=e1.cell b2;replace eV:=eV.trans e1;replace hgV:=Nat.lt_of_lt_of_le hgV e1.size;clear e1;go_upto_region 4 with (first|(with_reducible refine wpList_alloc_ar rfl 331 rfl hj hjz0 ?_;intro W1 a1 x1 s1)|(with_reducible refine wpList_store_ar rfl 331 (.tmp 7) (.tmp 17) rfl rfl rfl a1 (w256_len _) (w256_len _) size_w256 (w256_one _) ?_;intro W3 a3 g3 s3))
 have hgg:(some gb:Option Nat)≠some w2.heap.size:=by simp;omega
 replace b0:=g3.cell (x1.cell b0) hgg;replace b1:=g3.cell (x1.cell b1) hgg;replace b2:=g3.cell (x1.cell b2) hgg;have eW:=Ext.own (B:=some ⟨w2.heap.size,0,none⟩) (eV.trans x1) g3 (fun k hk=>by cases hk;exact eV.size);have hgW:w2.heap.size<W3.heap.size:=a3.lt;obtain⟨g7,hg7⟩:∃ g7,g7=w2.heap.size:=⟨_,rfl⟩;rw[← hg7]at a3 hgW ⊢;have hgb7:gb<g7:=by omega
 clear hg7 g3 x1 a1 s1 s3 eV hgV hgg;go_wp2_with fail;refine(Hf.out W3 eW).mono ?_;rintro e w4 ⟨rfl,e4⟩;replace b0:=e4.cell b0;replace b1:=e4.cell b1;replace b2:=e4.cell b2;replace a3:=a3.ext e4;replace eW:=eW.trans e4;replace hgW:=Nat.lt_of_lt_of_le hgW e4.size;clear e4;go_wp2_with fail;refine(Hla.out w4 eW).mono ?_;rintro e w5 ⟨rfl,hw5⟩;subst hw5;go_upto_region 5 with fail
 have x5:=(Ext.alloc w5 (.cells #[.int .u8 (d1.toNat:Nat)] 5)).trans (Ext.alloc _ (.cells #[.int .u8 (d2.toNat:Nat)] 5));have q1:=((Has.new w5 (fun _=>0) [.int .u8 (d1.toNat:Nat)] 5 rfl).ext (Ext.alloc _ (.cells #[.int .u8 (d2.toNat:Nat)] 5))).cell (i:=0) rfl;have q2:=(Has.new (w5.alloc (.cells #[.int .u8 (d1.toNat:Nat)] 5)) (fun _=>0) [.int .u8 (d2.toNat:Nat)] 5 (b:=w5.heap.size+1) (by simp)).cell (i:=0) rfl;have hz:((w5.alloc (.cells #[.int .u8 (d1.toNat:Nat)] 5)).alloc (.cells #[.int .u8 (d2.toNat:Nat)] 5)).heap.size=w5.heap.size+2:=by simp
 generalize hW:World.alloc (World.alloc w5 _) _=W5 at *;clear hW;replace b0:=x5.cell b0;replace a3:=a3.ext x5;replace eW:=eW.trans x5;obtain⟨g8,hg8⟩:∃ g8,g8=w5.heap.size:=⟨_,rfl⟩;obtain⟨g9,hg9⟩:∃ g9,g9=w5.heap.size+1:=⟨_,rfl⟩;rw[← hg9]at q2 ⊢;rw[← hg8]at q1 ⊢;have hgs:gb<W5.heap.size∧g7<W5.heap.size∧g8<W5.heap.size∧g9<W5.heap.size:=by omega
 clear hg8 hg9 hz x5 b1 b2 hgW hgb7;have hCm:=fun W g (hg:W5.grownBy W (some g)) (hge:W5.heap.size≤g) (x y:UInt8)=>rank_cmp W f kind hk3 d1 d2 g8 g9 gb g7 (hg.cell q1 (by simp;omega)) (hg.cell q2 (by simp;omega)) (hg.cell b0 (by simp;omega)) (fun v hv=>hg.cell (a3.cell (w256_get f hv)) (by simp;omega)) Hfl.out x y;have HCm:=hqd hCm;clear hCm q1 q2 b0 a3 hgs;go_wp2_with fail;go_loopw [10,23] (fun v iv wr=>∃(k:Nat) (B:Option Addr) (d:Nat) (l:List UInt8),iv = .int .i64 (k:Nat)∧k≤256∧v = .slice B k d∧Own wr W5.heap.size 5 1 B k d (bcs l)∧Ext W5 wr) (fun _ iv _=>256-(intOf iv).toNat)
 case atStart=>exact⟨0,none,0,[],rfl,Nat.zero_le _,rfl,Own.nil_ _ _ _ _,Ext.refl _⟩
 case round =>
  obtain⟨k,B,d,l,rfl,hk,rfl,ho,er⟩:=hrel;by_cases hkm:k<256
  ·have hd1:decide (k<256)=true:=decide_eq_true hkm
   have hd1':decide ((k:Int)<256)=true:=decide_eq_true (by omega);have hcw:IntKind.u8.wrap (k:Int)=(k:Int):=by simp[IntKind.wrap,IntKind.bits,IntKind.signed];omega
   have her:=er.size;go_wp2_with (at_builtin;refine wpList_append_new _ rfl _ _ 30 rfl W5.heap.size 5 i0 (.int .u8 0) 1 1 underlying30 hi hz0 hz1 hz2 rfl (by decide) B k d _ rfl ho 1 _ rfl rfl (by simp[Value.oneCell']) (by unfold maxLen;omega) (by omega) her ?_;intro E Ed wy hoE hgE hwE);go_roundw
   case rel =>
    refine⟨k+1,E,Ed,l++[UInt8.ofNat k],by go_num,by omega,rfl,?_,Ext.own er hgE (fun q hq=>ho.blk_ge q hq)⟩;rw[bcs_append];have:bcs [UInt8.ofNat k]=[.int .u8 (k:Nat)]:=by
     simp[bcs]
     omega
    rw[this];exact hoE
   case measure=>simp[intOf];omega
  ·obtain rfl:k=256:=by omega
   have hd1:decide ((256:Nat)<256)=false:=by decide
   have hRow:Row wr (fun _=>0) 0 5 1 B 256 d (bcs l):=⟨ho.mono (Nat.zero_le _),fun _ _=>rfl⟩;have hll:l.length=256:=by have:=ho.len;rw[bcs_length]at this;omega
   have hz:∃ g,B=some ⟨g,0,none⟩∧Zs wr g 256:=by
    obtain⟨g,hg,_⟩:=hRow.at_ (i:=0) (bcs_get (l:=l) (k:=0) (by omega));refine⟨g,hg,fun i hi=>?_⟩;obtain⟨g2,hg2,hc,hf,_⟩:=hRow.at_ (i:=i) (bcs_get (l:=l) (k:=i) (by omega));rw[hg]at hg2;cases hg2
    exact⟨_,hc,hf⟩
   obtain⟨g,rfl,hZ⟩:=hz;have hgW:W5.heap.size≤g:=ho.blk_ge g rfl;have HS:=hqd (sort_func (c1:=g8) (c2:=g9) (c3:=gb) (c4:=g7) wr d hZ (Nat.le_refl _) fun W x y hg=>(HCm.out W g ((er.grownBy _).trans hg) hgW x y));have hm1:max ((r:Int)+1) 0=(r:Int)+1:=by omega
   have hm2:min ((r:Int)+1) 256=(r:Int)+1:=by omega
   have hdc:256≤d∧d≤maxLen:=⟨ho.rd.2.1,ho.rd.2.2.1⟩;unfold cmpV at HS;clear ho hRow hZ hll;go_wp2_with fail;refine HS.out.mono ?_;rintro e w7 ⟨rfl,hS⟩;obtain⟨l7,hl7⟩:=hS.2.rb (m:=r+1) (c:=d) (by omega) (by omega) hdc.2;have hx:=Ext.own (B:=some ⟨g,0,none⟩) er hS.1 (fun q hq=>by cases hq;exact hgW);have Hl7:=hqd hl7;have Hx:=hqd (eW.trans hx);have hrd:(r:Int)+1≤(d:Int):=by omega
   have hrd0:0≤(r:Int)+1:=by omega
   clear hl7 hx hS;go_wp2_with fail;go_ret;exact⟨g,d,l7,rfl,Hl7.out,Hx.out⟩
end
theorem run_append_zero{P:Program}(w:World)(t ty e:TypeId)(i:TypeInfo)(ht:P.underlying t=some (.slice e))(hi:P.info? e=some i)(A:Option Addr)(n c:Nat)(hle:n≤c)(A':Option Addr)(c':Nat) :
  (Builtin.append_ #[t,t] ty #[.slice A n c,.slice A' 0 c']).run P w = .ok (.slice A n c) w:=by
 cases A<;>cases A'<;>simp[Builtin.append_,run_underlying ht,sizeOf,typeInfo,hi,Builtin.lenOf,Builtin.firstCells,hle,storeCells,loadCells,loadCellsFrom]
theorem wpList_append_zero{P:Program}(w:World){ops:Array Oper}{rest:List Oper}{o:Oper}{a:Act}{Q:Exit→Act→World→Prop}(hgd:o.guard=none)(s x:Operand)(t:TypeId)
  (ho:o.op = .call {callee:=.builtin .append,args:=#[s,x],argTypes:=#[t,t]}) (e:TypeId) (i:TypeInfo) (ht:P.underlying t=some (.slice e)) (hi:P.info? e=some i)
  (A:Option Addr) (n c:Nat) (hs:a.eval s = .slice A n c) (hle:n≤c) (A':Option Addr) (c':Nat) (hx:a.eval x = .slice A' 0 c') (h:wpList P ops Q rest (a.put o.dst (.slice A n c)) w):wpList P ops Q (o::rest) a w:=by
 refine wpList_plain hgd fun K hK=>?_;have hr2:=run_append_zero (P:=P) w t o.type e i ht hi A n c hle A' c';unfold Oper.wp execOp;simp only[ho,resolve,invoke,builtin,Sem.run_bind,Sem.run_pure,Result.andThen_ok,List.map_toArray,List.map_cons,List.map_nil,hs,hx,hr2];exact hK _ _ h
section
variable {w w':World}
theorem gline_rank(w:World){kind o:Nat}(h:okBy kind o)(A:Option Addr)(n c:Nat)(past:List UInt8)(hb:Rb w A n c past)(r:Nat)(hr:r≤100)(h0:0<r)(tt:Nat)(ht:tt≤1000)(hl:past.length≤1000) :
  Calls prog 284 #[.slice A n c,byV kind o,.int .i64 (r:Nat),.int .i64 (tt:Nat)] w (LineP w kind o past r tt A):=by
 obtain⟨i0,hi,hz0,hz1,hz2⟩:=info_parts info_u8;have hn:=hb.len;subst hn;have hmx:=hb.max;unfold maxLen at hmx;by_cases hlt:tt≤past.length
 ·have hd:decide (tt≤past.length)=true:=decide_eq_true hlt
  have hd':decide ((tt:Int)≤(past.length:Int))=true:=decide_eq_true (by omega);have Hb:=hqd hb;have Hlt:=hqd hlt;unfold byV;clear hb;go_enter func284,ntmps284;go_wp2_with fail;go_ret;exact⟨A,_,c,past,rfl,Hb.out.ext (Ext.alloc _ _),Hlt.out,by omega,fun e=>by omega,.inl rfl,List.prefix_refl _,Ext.alloc _ _⟩
 ·have hd:decide (tt≤past.length)=false:=decide_eq_false hlt
  have hd':decide ((tt:Int)≤(past.length:Int))=false:=decide_eq_false (by omega);have hrm:(r:Int).tmod 256=(r:Int):=Int.tmod_eq_of_lt (by omega) (by omega);have hrd:decide (0<r)=true:=decide_eq_true h0;have hrw:IntKind.i64.wrap ((r:Int)+1)=(r:Int)+1:=IntWalk.i64_in _ (by omega);have hrw2:IntKind.i64.wrap (r:Int)=(r:Int):=IntWalk.i64_in _ (by omega);have Hk:=hqd fun W (e:Ext w W)=>rank_any W h A past.length c past (hb.ext e) hl r hr;have Hc:=hqd fun W A' n' c' past' (hb':Rb W A' n' c' past') hl' m hm=>chain_any W h A' n' c' past' hb' hl' m hm;have Hb:=hqd hb;unfold byV at *;clear hb h;go_enter func284,ntmps284;go_wp2_with fail;generalize hV:w.alloc _=V at *;have eV:Ext w V:=by subst hV;exact Ext.alloc _ _
  have b0:V.cell? ⟨w.heap.size,0,none⟩=some (.int .i64 (kind:Nat)):=by subst hV;go_simp
  have b1:V.cell? ⟨w.heap.size,1,none⟩=some (.int .i64 (o:Nat)):=by subst hV;go_simp
  have b2:V.cell? ⟨w.heap.size,2,none⟩=some (.slice none 0 0):=by subst hV;go_simp
  clear hV;apply wrN 15;simp only[tk];repeat apply lxA (fun _ h _=>aj (h.cell b0) (aj (h.cell b1) (h.cell b2)))
  apply lex_call (p:=fun u W=>∃ g d l,u = .slice (some ⟨g,0,none⟩) (r+1) d∧Rb W (some ⟨g,0,none⟩) (r+1) d l) (fun _ _ _ ⟨g,d,l,hv,h1⟩ he=>⟨g,d,l,hv,h1.ext he⟩)
  ·rfl
  ·intro W
   go_simp;exact⟨rfl,rfl⟩
  ·intro W hR hΦ
   refine(Hk.out W (eV.trans hR)).mono ?_;rintro e w' ⟨g,d,l,rfl,h1,h2⟩;exact⟨_,rfl,h2,g,d,l,rfl,h1⟩
  intro v1;simp only[pu];repeat apply lxA (fun _ h _=>aj (h.cell b0) (aj (h.cell b1) (h.cell b2)))
  apply lex_new (p:=fun u W=>∃(g:Nat) (x:UInt8),u = .pointer (some ⟨g,r,none⟩)∧W.cell? ⟨g,r,none⟩=some (.int .u8 (x.toNat:Nat))) (fun _ _ _ ⟨g,x,hv,h1⟩ he=>⟨g,x,hv,he.cell h1⟩)
  ·rfl
  ·intro W hR hΦ
   obtain⟨g,d,l,rfl,hB⟩:=hΦ.1 rfl;have hll:r<l.length:=by have:=hB.len;omega
   obtain⟨g2,o2,hA2,hcl⟩:=hB.at_ hll;cases hA2
   rw[Nat.zero_add]at hcl;have hrr:((r:Int)<(r:Int)+1)=True:=eq_true (by omega);have hrr2:(r<r+1)=True:=eq_true (by omega);refine⟨.pointer (some ⟨g,r,none⟩),W,?_,Ext.refl _,g,_,rfl,hcl⟩;go_simp;first|done|rfl
  intro v2;simp only[pu];apply lex_new (p:=fun u W=>∃ x:UInt8,u = .int .u8 (x.toNat:Nat)) (fun _ _ _ h _=>h)
  ·rfl
  ·intro W hR hΦ
   obtain⟨g,x,rfl,hcl⟩:=hΦ.1 rfl;refine⟨_,W,?_,Ext.refl _,x,rfl⟩;go_simp;first|done|rfl
  intro v3;simp only[pu];apply lex_new (p:=fun u W=>∃(g:Nat) (x:UInt8),u = .slice (some ⟨g,0,none⟩) 1 1∧Rd W 1 (some ⟨g,0,none⟩) 1 1 (bcs [x])) (fun _ _ _ ⟨g,x,hv,h1⟩ he=>⟨g,x,hv,h1.ext he⟩)
  ·rfl
  ·intro W hR hΦ
   obtain⟨x,rfl⟩:=hΦ.1 rfl;refine⟨_,_,?_,Ext.alloc _ _,_,x,rfl,(Own.made _ 0 5 1 [.int .u8 (x.toNat:Nat)] 1 (Nat.zero_le _) (by unfold maxLen;omega) rfl).rd⟩;go_simp;first|done|rfl
  intro v4;simp only[pu];refine lex_nil ?_;intro Wx hWx hΦ;obtain⟨g,x,rfl,hB1⟩:=hΦ.1 rfl;clear hΦ;simp only[dk];replace b0:=hWx.cell b0;replace b1:=hWx.cell b1;replace b2:=hWx.cell b2;have eX:=eV.trans hWx;have hbx:=Hb.out.ext eX;clear hWx eV;go_upto_region 6 with (at_builtin;refine wpList_append_full _ rfl _ _ 30 rfl 5 i0 (.int .u8 0) 1 1 underlying30 hi hz0 hz1 hz2 rfl (by decide) A past.length _ rfl (Rd.cap hbx) _ 1 1 _ rfl hB1 (by decide) (bcs_one _) (by unfold maxLen;omega) (by omega) ?_;intro E Ed wy hoE hxE)
  obtain⟨q,hq⟩:∃ q,q=past.length+1:=⟨_,rfl⟩;rw[← hq]at hoE ⊢;have hbE:Rb wy E q Ed (past++[x]):=Rb.of hoE.rd (by rw[bcs_append]);have hmE:=hbE.max;unfold maxLen at hmE;obtain⟨m,hm⟩:∃ m,tt-q=m:=⟨_,rfl⟩;have hw:IntKind.i64.wrap ((tt:Int)-(q:Int))=(m:Nat):=by rw[IntWalk.i64_in _ (by omega)];omega
  have hmb:m≤1000:=by omega
  have eY:=eX.trans hxE;replace b0:=hxE.cell b0;replace b1:=hxE.cell b1;replace b2:=hxE.cell b2;have hlp:(past++[x]).length≤1000:=by simp;omega
  have Hc2:=hqd fun W (e:Ext wy W)=>Hc.out W E q Ed (past++[x]) (hbE.ext e) hlp m (by simp;omega);have HE:=hqd hbE;have HEb:=hqd (show ∀ q,blk E=some q→w.heap.size≤q from fun q hq=>by have:=hoE.blk_ge q hq;have:=eX.size;omega);have hfin:tt=past.length+1+m:=by omega
  have Hfin:=hqd hfin;have hqm:q≤1000:=by omega
  clear hoE hxE hbE hbx hB1 hm hfin hq;go_wp2_with fail;apply wrN 13;simp only[tk];repeat apply lxA (fun _ h _=>aj (h.cell b0) (aj (h.cell b1) (h.cell b2)))
  apply lex_call (p:=fun u W=>∃ B d,u = .slice B m d∧Rb W B m d (chainL kind o (past++[x]) m)) (fun _ _ _ ⟨B,d,hv,h1⟩ he=>⟨B,d,hv,h1.ext he⟩)
  ·rfl
  ·intro W
   go_simp;exact⟨rfl,rfl⟩
  ·intro W hR hΦ
   refine(Hc2.out W hR).mono ?_;rintro e w' ⟨B,d,rfl,h1,h2,h3⟩;exact⟨_,rfl,h3,B,d,rfl,h1⟩
  intro v5;simp only[pu];refine lex_nil ?_;intro Wx hWx hΦ;obtain⟨B,d,rfl,hB⟩:=hΦ.1 rfl;clear hΦ;simp only[dk];have hEx:=HE.out.ext hWx;have eZ:=eY.trans hWx;have hpre:past <+: past++[x]:=List.prefix_append _ _;have Hpre:=hqd hpre;clear hpre;rcases Nat.eq_zero_or_pos m with hm0|hm0
  ·subst hm0
   go_wp2_with (at_builtin;refine wpList_append_zero _ rfl _ _ 30 rfl 5 i0 underlying30 hi E q q rfl (Nat.le_refl _) B d rfl ?_)
   go_ret;have hf:=Hfin.out;exact⟨E,_,_,past++[x],rfl,Rd.cap hEx,by simp;omega,by simp;omega,fun e=>by omega,.inr HEb.out,Hpre.out,eZ⟩
  ·go_wp2_with (at_builtin;refine wpList_append_full _ rfl _ _ 30 rfl 5 i0 (.int .u8 0) 1 1 underlying30 hi hz0 hz1 hz2 rfl (by decide) E q _ rfl (Rd.cap hEx) B m d _ rfl hB hm0 (bcs_one _) (by unfold maxLen;omega) (by omega) ?_;intro E2 Ed2 wz hoE2 hxE2)
   go_ret;have hf:=Hfin.out;refine⟨E2,_,Ed2,(past++[x])++chainL kind o (past++[x]) m,rfl,Rb.of hoE2.rd (by simp only[bcs_append]),by simp[chainL_len];omega,by simp[chainL_len];omega,fun e=>by omega,.inr fun q hq=>?_,Hpre.out.trans (List.prefix_append _ _),eZ.trans hxE2⟩;have:=hoE2.blk_ge q hq;have:=eZ.size;omega
theorem gline_all(w:World){kind o:Nat}(h:okBy kind o)(A:Option Addr)(n c:Nat)(past:List UInt8)(hb:Rb w A n c past)(r:Nat)(hr:r≤100)(tt:Nat)(ht:tt≤1000)(hl:past.length≤1000) :
  Calls prog 284 #[.slice A n c,byV kind o,.int .i64 (r:Nat),.int .i64 (tt:Nat)] w (LineP w kind o past r tt A):=by
 rcases Nat.eq_zero_or_pos r with h0|h0
 ·subst h0
  exact gline_zero w h A n c past hb tt ht hl
 ·exact gline_rank w h A n c past hb r hr h0 tt ht hl
end
section
variable {w w':World} {T T':Tg} {t b:Nat} {cf:Cf} {me:Nat} {tp:List UInt8} {ops:List OpT} {x:Mx} {c c':Cr} {s:Ms} {B:Nat}
theorem oR.turn{S:Nat→Prop}(h:oR S T w w')(hu:Unborn w T):Turn S w T w' T:=⟨h.os,h.tape,h.output,h.size,fun k hk hn=>h.block k hk hn,fun _ _=>rfl,fun k hk=>hu k (Nat.le_trans h.size hk)⟩
theorem MIn.added(h:MIn w T t b cf me tp ops x c s)(hok:CfOk cf)(hl:c.ls.length≤8){press:List (List UInt8)}{v:Value}(hT:Turn (fun j=>j=t+12∨j=t+12+1∨In (t+7) 5 j) w T w' T')
  (hA:AddP (t+12) x.tb x.sb cf.branches s.tlast s.epoch s.fr (t+7) (4*cf.room) s.free s.last s.bl s.gs press (gameAt tp ops c.ls s.fr) v w' T') (hp:okPs press) (hj:∀ p∈press,p.length=cf.n) :
  ∃ s',MIn w' T' t b cf me tp ops x c s'∧s'.base=s.base∧s'.fr=s.fr∧s'.last≤s.last+1∧s'.tlast≤s.tlast+1∧s'.epoch=s.epoch:=by
 have hwk:∀(i:Nat) wb k,x.wb[i]?=some wb→s.ks[i]?=some k→Has w' T' (t+3+i) wb (wkC tp x.A x.an x.ad x.tb x.jb x.sb k):=fun j wb2 k2 h1 h2=>by
  have hjl:=(List.getElem?_eq_some_iff.1 h1).1;have:=h.nw;have:=hok.workers;exact(h.wk j wb2 k2 h1 h2).turn hT (by unfold In;omega)
 rcases hA with ⟨_,hTr,hS⟩|⟨_,_,hTr,hS⟩
 ·exact⟨s,⟨h.hd.turn hT (by unfold In;omega),h.op.turn hT (by unfold In;omega),h.row.turn hT (by unfold In;omega),h.nw,h.nk,hwk,hS,hTr,h.jo.turn hT (by unfold In;omega) (by unfold In;omega),h.pl.turn hT (fun k hk=>by unfold In at *;omega),h.ok,h.jn⟩,rfl,rfl,Nat.le_succ _,Nat.le_succ _,rfl⟩
 ·refine⟨{s with last:=s.last+1,tlast:=s.tlast+1,gs:=s.gs++[(s.last+1,gameAt tp ops c.ls s.fr)],bl:=s.bl++[⟨s.tlast+1,press,0,s.last+1⟩]},⟨h.hd.turn hT (by unfold In;omega),h.op.turn hT (by unfold In;omega),h.row.turn hT (by unfold In;omega),h.nw,h.nk,hwk,hS,hTr,h.jo.turn hT (by unfold In;omega) (by unfold In;omega),h.pl.turn hT (fun k hk=>by unfold In at *;omega),h.ok.add h.st.ids_low hp,fun y hy=>?_⟩,rfl,rfl,Nat.le_refl _,Nat.le_refl _,rfl⟩
  rcases List.mem_append.1 hy with hy|hy
  ·exact h.jn y hy
  ·simp at hy
   subst hy;exact hj
def tryRel(w:World)(T:Tg)(t b:Nat)(cf:Cf)(me:Nat)(tp:List UInt8)(ops:List OpT)(x:Mx)(c:Cr)(s:Ms)(iv:Value)(wr:World):Prop :=
 ∃(k:Nat) (T':Tg) (s':Ms),iv = .int .i64 (k:Nat)∧k≤cf.branches∧Turn (In (t+7) 7) w T wr T'∧MIn wr T' t b cf me tp ops x c s'∧s'.base=s.base∧s'.fr=s.fr∧s'.last≤s.last+k∧s'.tlast≤s.tlast+k∧s'.epoch=s.epoch
def putsRel(w:World)(T:Tg)(t b:Nat)(cf:Cf)(me:Nat)(tp:List UInt8)(ops:List OpT)(x:Mx)(c:Cr)(s:Ms)(A:Option Addr)(d:Nat)(iv:Value)(wr:World):Prop :=
 ∃(k:Nat) (T':Tg),iv = .int .i64 (k:Nat)∧k≤s.bl.length∧Turn (In (t+14) 2) w T wr T'∧MIn wr T' t b cf me tp ops x c s∧Bs wr T' A s.bl.length d s.fr s.bl
theorem MIn.jobs(h:MIn w T t b cf me tp ops x c s)(hok:CfOk cf)(hl:c.ls.length≤8)(ht:0<t)(hT:Turn (In (t+14) 2) w T w' T')(hJ:JobsAt w' T' (t+14) x.jb):MIn w' T' t b cf me tp ops x c s :=
 ⟨h.hd.turn hT (by unfold In;omega),h.op.turn hT (by unfold In;omega),h.row.turn hT (by unfold In;omega),h.nw,h.nk,fun j wb2 k2 h1 h2=>by
  have hjl:=(List.getElem?_eq_some_iff.1 h1).1;have:=h.nw;have:=hok.workers;exact(h.wk j wb2 k2 h1 h2).turn hT (by unfold In;omega),h.st.turn hT (fun k hk=>by unfold In at *;omega),h.tr.turn hT (by unfold In;omega) (by unfold In;omega) (by unfold In;omega),hJ,h.pl.turn hT (fun k hk=>by unfold In at *;omega),h.ok,h.jn⟩
theorem fld_br(a0 a1 a2 a3 a4 a5 a6 a7 a8 a9:Int)(w:World):(Instr.field 26 (.agg #[.int .i64 a0,.int .i64 a1,.int .i64 a2,.int .i64 a3,.int .i64 a4,.int .i64 a5,.int .i64 a6,.int .i64 a7,.int .i64 a8,.int .i64 a9]) 7).run prog w = .ok (.int .i64 a7) w:=by kernel_rfl
def TryP(t b:Nat)(cf:Cf)(me:Nat)(tp:List UInt8)(ops:List OpT)(x:Mx)(c:Cr)(s:Ms)(v:Value)(w':World)(T':Tg):Prop :=
 v = .tuple #[]∧∃ s',MIn w' T' t b cf me tp ops x c s'∧s'.fr=s.fr∧s'.last≤s.last+8∧s'.tlast≤s.tlast+8∧s'.epoch=s.epoch
theorem mul_try(h:MIn w T t b cf me tp ops x c s)(ht:0<t)(hk:CrOk cf me c [])(hu:Unborn w T)(hf:s.fr=c.front)(hN:s.last≤900000000∧s.tlast≤900000000):Calls prog 279 #[ptrV b] w (Gives (In (t+7) 9) w T (TryP t b cf me tp ops x c s)):=by
 have hok:=hk.ok;have hlen:=hk.len;have hn8:=hok.n8;have hbr:=hok.branches;have hl8:c.ls.length≤8:=by omega
 have b0:=h.hd.cell (i:=0) rfl;have Hco:=hqd (plain_core h.pl);have Hcf:=hqd (core_conf h.pl.core);have HU:=hqd hu;have HM:=hqd h;have hfld:=fld_br;unfold ptrV confV at *;clear h hu;go_enter func279,ntmps279;go_wp2_with fail;refine Hco.out.mono ?_;rintro e w1 ⟨rfl,hw⟩;subst hw;go_wp2_with fail;refine Hcf.out.mono ?_;rintro e w2 ⟨rfl,e2⟩;have hk2:=hk;have hhd:c.head me≤1000:=by
  have hml:me<c.ls.length:=by rw[hk.len];exact hk.me
  have:(c.head me)=c.ls[me].length:=by simp[Cr.head,Cr.mine,List.getD_eq_getElem?_getD,hml]
  rw[this];exact hk.short _ (List.getElem_mem hml)
 have hby:okBy cf.guess cf.order:=hok.by_;clear hk;go_wp2_with fail;go_loopw [13] (fun iv wr=>tryRel w1 T t b cf me tp ops x c s iv wr) (fun iv _=>cf.branches-(intOf iv).toNat)
 case atStart=>exact⟨0,T,s,rfl,Nat.zero_le _,Turn.of_ext _ HU.out e2,HM.out.ext e2,rfl,rfl,Nat.le_refl _,Nat.le_refl _,rfl⟩
 case round =>
  obtain⟨k,T3,s3,rfl,hk,hT3,hM3,q1,q2,q3,q4,q5⟩:=hrel;by_cases hkn:k<cf.branches
  ·have hd1:decide (k<cf.branches)=true:=decide_eq_true hkn
   have hd1':decide ((k:Int)<(cf.branches:Int))=true:=decide_eq_true (by omega);have HQ:=hqd (show s3.base=s.base∧s3.fr=s.fr∧s3.last≤s.last+k∧s3.tlast≤s.tlast+k∧s3.epoch=s.epoch from⟨q1,q2,q3,q4,q5⟩);have hN3:s3.last≤900000010∧s3.tlast≤900000010:=by omega
   have hsm:=hM3.small hok;clear q1 q2 q3 q4 q5;have HM3:=hqd hM3;have HT3:=hqd hT3;have b0:=hM3.hd.cell (i:=0) rfl;have Hco3:=hqd fun W (e:Ext wr W)=>plain_core (hM3.pl.ext e);have Hqu3:=hqd fun W (e:Ext wr W)=>core_queue (hM3.pl.core.ext e);have Hby3:=hqd fun W (e:Ext wr W)=>plain_by (hM3.pl.ext e);have Hhd3:=hqd fun W (e:Ext wr W)=>core_head (hM3.pl.core.ext e) (hk2.marksP tp ops hk2.front_le);have Hah3:=hqd fun W (e:Ext wr W)=>ahead_rws (hM3.pl.core.que.ext e) hl8 (by rw[hlen];have:=hok.n2;omega) hk2.short hby k (c.head me) (by omega) hhd fun W rr hrr A n c past hb hl=>gline_all W hby A n c past hb rr (by omega) _ hhd hl;unfold ptrV byV at *;clear hM3 hT3;go_wp2_with fail;apply wrA trivial;repeat apply lxA (fun _ h _=>h.cell b0)
   apply lxC (fun W hR=>Hco3.out W hR);apply lxC (fun W hR=>Hqu3.out W hR);repeat apply lxA (fun _ h _=>h.cell b0)
   apply lxC (fun W hR=>Hby3.out W hR);repeat apply lxA (fun _ h _=>h.cell b0)
   apply lxC (fun W hR=>Hco3.out W hR);apply lxC (fun W hR=>Hhd3.out W hR);apply lex_call (p:=fun u W=>∃ B m d full,u = .slice B m d∧okFull cf.guess cf.order c.ls k (c.head me) full∧∃ base,wr.heap.size≤base∧Rws W base B m d (aheadOf full (frontL c.ls) (c.head me))) (fun _ _ _ ⟨B,m,d,full,hv,h1,base,h2,h3⟩ he=>⟨B,m,d,full,hv,h1,base,h2,h3.ext he⟩)
   ·rfl
   ·intro W
    go_simp;exact⟨rfl,rfl⟩
   ·intro W hR hΦ
    refine(Hah3.out W hR).mono ?_;rintro e w' ⟨B,m,d,full,rfl,h1,⟨base,h2,h3⟩,he⟩;exact⟨_,rfl,he,B,m,d,full,rfl,h1,base,Nat.le_trans hR.size h2,h3⟩
   intro v1;simp only[pu];apply lex_new (p:=fun u W=>∃ B m d full,u = .slice B m d∧okFull cf.guess cf.order c.ls k (c.head me) full∧∃ base,wr.heap.size≤base∧Rws W base B m d (aheadOf full (frontL c.ls) (c.head me))) (fun _ _ _ ⟨B,m,d,full,hv,h1,base,h2,h3⟩ he=>⟨B,m,d,full,hv,h1,base,h2,h3.ext he⟩)
   ·rfl
   ·intro W hR hΦ
    obtain⟨B,m,d,full,rfl,h1,base,h2,h3⟩:=hΦ.1 rfl;refine⟨_,W,?_,Ext.refl _,B,m,d,full,rfl,h1,base,h2,h3⟩;go_simp;first|done|rfl
   intro v2;simp only[pu];refine lex_nil ?_;intro Wx hWx hΦ;obtain⟨B,m,d,full,rfl,hfull,base,hbase,hRw⟩:=hΦ.1 rfl;clear hΦ;have hjn:∀ p∈aheadOf full (frontL c.ls) (c.head me),p.length=cf.n:=fun p hp=>by
    obtain⟨j,_,rfl⟩:=List.mem_map.1 hp;rw[jointL_len,hfull.1,hlen]
   have hps:okPs (aheadOf full (frontL c.ls) (c.head me)):=⟨by simp[aheadOf];omega,fun p hp=>by rw[hjn p hp];omega⟩;have hml:m=(aheadOf full (frontL c.ls) (c.head me)).length:=hRw.len;have hsp:Sp Wx T3 B m d (aheadOf full (frontL c.ls) (c.head me)):=hRw.sp fun q hq=>HT3.out.unborn q (Nat.le_trans hbase hq);have HMx:=hqd (HM3.out.ext hWx);have HTx:=hqd (HT3.out.ext hWx);clear hfull hRw HM3 HT3;generalize aheadOf full (frontL c.ls) (c.head me)=press at *;have Hml:=hqd hml;have Hps:=hqd hps;have Hjn:=hqd hjn;have Hsp:=hqd hsp;have hmx:=hsp.rp.max;unfold maxLen at hmx;clear hml hps hjn hsp b0 hbase;generalize hWZ:Wx=W5 at *;clear hWZ hWx;by_cases hm0:m=0
   ·have e3:((m:Int)==0)=true:=by rw[beq_iff_eq];omega
    clear hm0;go_wp2_with fail;go_roundw
    case rel =>
     obtain⟨q1,q2,q3,q4,q5⟩:=HQ.out;exact⟨k+1,T3,s3,by go_num,by omega,HTx.out,HMx.out,q1,q2,by omega,by omega,q5⟩
    case measure=>simp[intOf];omega
   ·have e3:((m:Int)==0)=false:=by rw[beq_eq_false_iff_ne];omega
    have hm1:0<m:=by omega
    clear hm0;have Hhas:=hqd (mul_has HMx.out.hd HMx.out.tr hbr (fun y hy=>(HMx.out.ok.brs y hy).1) Hsp.out.rp);unfold ptrV at *;go_wp2_with fail;refine Hhas.out.mono ?_;rintro e w6 ⟨⟨r,rfl⟩,e6⟩;cases r with
    | true =>
     go_wp2_with fail;go_roundw
     case rel =>
      obtain⟨q1,q2,q3,q4,q5⟩:=HQ.out;exact⟨k+1,T3,s3,by go_num,by omega,HTx.out.ext e6,HMx.out.ext e6,q1,q2,by omega,by omega,q5⟩
     case measure=>simp[intOf];omega
    | false =>
     have hu:Unborn w6 T3:=HTx.out.unborn.ext e6;have hH6:=HMx.out.hd.ext e6;have c4:=hH6.cell (i:=4) rfl;have c7:=hH6.cell (i:=7) rfl;have c8:=hH6.cell (i:=8) rfl;have hnb:¬ (fun j=>j=t+12∨j=t+12+1∨In (t+7) 5 j) (T3 b):=by rw[hH6.1];unfold In;omega
     have HAdd:∀ W,Ext w6 W→Calls prog 296 #[ptrV x.tb,.int .i64 (s3.fr:Nat),.int .i64 (s3.base:Nat),.slice B m d] W (Gives (fun j=>j=t+12∨j=t+12+1∨In (t+7) 5 j) W T3 (AddP (t+12) x.tb x.sb cf.branches s3.tlast s3.epoch s3.fr (t+7) (4*cf.room) s3.free s3.last s3.bl s3.gs press (gameAt tp ops c.ls s3.fr))):=fun W e=>by
      have hM:=(HMx.out.ext e6).ext e;by_cases hno:cf.branches≤s3.bl.length
      ·refine(tree_add_no hM.tr hbr s3.fr s3.base B m d hno).mono ?_
       rintro e9 w9 ⟨rfl,x9⟩;exact⟨_,rfl,T3,Turn.of_ext _ (hu.ext e) x9,.inl ⟨rfl,hM.tr.ext x9,hM.st.ext x9⟩⟩
      ·exact tree_add hM.tr hbr hM.st (hu.ext e) (by omega) (by omega) (by omega) (by omega) (by omega) (by omega) hM.ok.base_ ((Hsp.out.ext e6).ext e) Hps.out hm1 (by omega)
     have hgA:Grow (AddP (t+12) x.tb x.sb cf.branches s3.tlast s3.epoch s3.fr (t+7) (4*cf.room) s3.free s3.last s3.bl s3.gs press (gameAt tp ops c.ls s3.fr)):=by
      rintro v w T w' h e;rcases h with ⟨h1,h2,h3⟩|⟨h1,h2,h3,h4⟩
      ·exact .inl ⟨h1,h2.ext e,h3.ext e⟩
      ·exact .inr ⟨h1,h2,h3.ext e,h4.ext e⟩
     have HAdd:=hqd HAdd;unfold ptrV at *;clear hH6;go_wp2_with fail;apply wrG (oR (fun j=>j=t+12∨j=t+12+1∨In (t+7) 5 j) T3) (oRs 13 (fun j=>j=t+12∨j=t+12+1∨In (t+7) 5 j) T3) (oJ 13 _) (oJ.start _ _);repeat apply lxG (fun _ h _ _=>aj (h.cell c4 hnb) (aj (h.cell c8 hnb) (h.cell c7 hnb)))
     apply lexG_call (p:=oP _ _ _ _) (by decide) (by decide) (oP.stab hgA _)
     ·rfl
     ·intro W
      go_simp;exact⟨rfl,rfl⟩
     ·intro W hR hJ hΦ
      exact one_call hu (hJ rfl) ((HAdd.out) W (hJ rfl))
     intro v13;simp only[pu];refine lexG_nil ?_;intro Wy hR hap hΦ;obtain⟨T1,hT1,hA1⟩:=hΦ.1 rfl;clear hΦ hap;have hS4:=(HMx.out.ext e6).added hok hl8 hT1 hA1 Hps.out Hjn.out;have HS4:=hqd hS4;have HT4:=hqd ((HTx.out.ext e6).trans (hT1.mono (S':=In (t+7) 7) fun j hj=>by unfold In at *;omega));clear hS4 hT1 hA1 hR;go_wp2_with fail;go_roundw
     case rel =>
      obtain⟨q1,q2,q3,q4,q5⟩:=HQ.out;obtain⟨s4,h1,h2,h3,h4,h5,h6⟩:=HS4.out;exact⟨k+1,T1,s4,by go_num,by omega,HT4.out,h1,by omega,by omega,by omega,by omega,by omega⟩
     case measure=>simp[intOf];omega
  ·obtain rfl:k=cf.branches:=by omega
   have hd1:decide (cf.branches<cf.branches)=false:=decide_eq_false (by omega);have HQ:=hqd (show s3.fr=s.fr∧s3.last≤s.last+8∧s3.tlast≤s.tlast+8∧s3.epoch=s.epoch from⟨q2,by omega,by omega,q5⟩);clear q1 q2 q3 q4 q5;have HM3:=hqd hM3;have HT3:=hqd hT3;have hu:Unborn wr T3:=hT3.unborn;have c4:=hM3.hd.cell (i:=4) rfl;have c5:=hM3.hd.cell (i:=5) rfl;have hnb:¬ In (t+14) 2 (T3 b):=by rw[hM3.hd.1];unfold In;omega
   have Hep:=hqd fun W (hR:oR (In (t+14) 2) T3 wr W)=>tree_epoch (hM3.tr.turn (hR.turn hu) (by unfold In;omega) (by unfold In;omega) (by unfold In;omega));have Hca:=hqd fun W (e:Ext wr W)=>job_cancel (hM3.jo.ext e) (hu.ext e) (by omega) (s3.epoch:Nat);have hgC:Grow (fun v w' T'=>(∃ r:Int,v = .int .i64 r)∧JobsAt w' T' (t+14) x.jb):=by
    rintro v w T w' ⟨h1,h2⟩ e;exact⟨h1,h2.ext e⟩
   unfold ptrV at *;clear hM3 hT3;go_wp2_with fail;apply wrG (oR (In (t+14) 2) T3) (oRs 9 (In (t+14) 2) T3) (oJ 9 _) (oJ.start _ _);repeat apply lxG (fun _ h _ _=>aj (h.cell c5 hnb) (h.cell c4 hnb))
   apply lexG_callx (by decide) (by decide)
   ·rfl
   ·intro W
    go_simp;exact⟨rfl,rfl⟩
   ·intro W hR hJ hΦ
    refine((fun W hR=>Hep.out W hR) W hR).mono ?_;rintro e w' ⟨rfl,ee⟩;have ex:Ext W w':=by first|exact ee|(subst ee;exact Ext.refl _)
    exact⟨rfl,oR.of_ext ex,.inr ex⟩
   simp only[pu];apply lexG_call (p:=oP _ _ _ _) (by decide) (by decide) (oP.stab hgC _)
   ·rfl
   ·intro W
    go_simp;exact⟨rfl,rfl⟩
   ·intro W hR hJ hΦ
    exact one_call hu (hJ rfl) ((Hca.out) W (hJ rfl))
   intro v9;simp only[pu];refine lexG_nil ?_;intro Wy hR hap hΦ;obtain⟨T1,hT1,_,hJ1⟩:=hΦ.1 rfl;clear hΦ hap;have hM4:=HM3.out.jobs hok hl8 ht hT1 hJ1;have HT4:=hqd (HT3.out.mono (S':=In (t+7) 9) (fun j hj=>by unfold In at *;omega) |>.trans (hT1.mono (S':=In (t+7) 9) fun j hj=>by unfold In at *;omega));have HM4:=hqd hM4;have c4:=hM4.hd.cell (i:=4) rfl;have Hall:=hqd (tree_all hM4.tr hbr fun y hy=>(hM4.ok.brs y hy).1);have hbl8:s3.bl.length≤8:=Nat.le_trans hM4.tr.most8 hbr;unfold ptrV at *;clear hM4 hJ1 hT1 hR;go_wp2_with fail;refine Hall.out.mono ?_;rintro e w8 ⟨BA,bd,rfl,e8,hB⟩;have hu8:Unborn w8 T1:=HT4.out.unborn.ext e8;have hBs:=hB T1 HT4.out.unborn;have hdm:s3.bl.length≤bd:=by
    obtain⟨_,hs,_,h2,_⟩:=hBs;exact h2.2.1
   have HBs:=hqd hBs;have HM8:=hqd (HM4.out.ext e8);have HT8:=hqd (HT4.out.ext e8);obtain⟨N,hN⟩:∃ N,N=s3.bl.length:=⟨_,rfl⟩;rw[← hN]at hbl8 hdm ⊢;have HN:=hqd hN;clear hB hBs hN c4 c5;go_wp2_with fail;go_loopw [74] (fun iv wx=>putsRel w8 T1 t b cf me tp ops x c s3 BA bd iv wx) (fun iv _=>N-(intOf iv).toNat)
   case atStart=>exact⟨0,T1,rfl,Nat.zero_le _,Turn.refl _ hu8,HM8.out,HBs.out⟩
   case round =>
    obtain⟨j,T5,rfl,hj,hT5,hM5,hB5⟩:=hrel;rw[← HN.out]at hj;by_cases hjn:j<N
    ·have hd2:decide (j<N)=true:=decide_eq_true hjn
     obtain⟨y,hy⟩:∃ y,s3.bl[j]?=some y:=⟨_,List.getElem?_eq_getElem (by rw[← HN.out];exact hjn)⟩;obtain⟨g9,o9,⟨A1,c1⟩,hBe,hv,hsp⟩:=hB5.elem hy;subst hBe;have k0:=hv 0 _ rfl;have k1:=hv 1 _ rfl;have k2:=hv 2 _ rfl;have k3:=hv 3 _ rfl;have k4:=hv 4 _ rfl;rw[Nat.add_zero]at k0;dsimp only at *
     have HM5:=hqd hM5;have HT5:=hqd hT5;have HB5:=hqd hB5;clear hv hsp hy hM5 hT5 hB5;generalize y.press.length=pl at *;generalize y.id=i1 at *;generalize y.done=i3 at *;generalize y.pic=i4 at *;clear y;go_upto_region 11 with fail
     have b9:=Has.new wr (fun _=>0) [.int .i64 (i1:Nat),.int .i64 (s3.fr:Nat),.slice A1 pl c1,.int .i64 (i3:Nat),.int .i64 (i4:Nat)] 136 rfl;have ex1:=Ext.alloc wr (.cells #[.int .i64 (i1:Nat),.int .i64 (s3.fr:Nat),.slice A1 pl c1,.int .i64 (i3:Nat),.int .i64 (i4:Nat)] 136);generalize hW:World.alloc wr _=W at *;obtain⟨gv,hgv⟩:∃ gv,gv=wr.heap.size:=⟨_,rfl⟩;rw[← hgv]at b9 ⊢;have hgT:T5 gv=0:=by rw[hgv];exact HT5.out.unborn _ (Nat.le_refl _)
     clear hW hgv k0 k1 k2 k3 k4;have j0:=b9.cell (i:=0) rfl;have j2:=b9.cell (i:=2) rfl;have j3:=b9.cell (i:=3) rfl;have HMW:=hqd (HM5.out.ext ex1);have HTW:=hqd (HT5.out.ext ex1);have HBW:=hqd (HB5.out.ext ex1);clear b9 ex1 HM5 HT5 HB5;by_cases hC:i3<pl
     ·have d1:decide (i3<pl)=true:=decide_eq_true hC
      have d2:decide ((i3:Int)<(pl:Int))=true:=decide_eq_true (by omega);have hu:Unborn W T5:=HTW.out.unborn;have c4:=HMW.out.hd.cell (i:=4) rfl;have c5:=HMW.out.hd.cell (i:=5) rfl;have hnb:¬ In (t+14) 2 (T5 b):=by rw[HMW.out.hd.1];unfold In;omega
      have hng:¬ In (t+14) 2 (T5 gv):=by rw[hgT];unfold In;omega
      have Hep5:=hqd fun W' (hR:oR (In (t+14) 2) T5 W W')=>tree_epoch (HMW.out.tr.turn (hR.turn hu) (by unfold In;omega) (by unfold In;omega) (by unfold In;omega));have Hpu:=hqd fun W' (e:Ext W W')=>job_put (HMW.out.jo.ext e) (hu.ext e) (by omega) (i1:Nat) (s3.epoch:Nat);have hgP:Grow (fun v w' T'=>(∃ r:Bool,v = .bool r)∧JobsAt w' T' (t+14) x.jb):=by
       rintro v w T w' ⟨h1,h2⟩ e;exact⟨h1,h2.ext e⟩
      unfold ptrV at *;go_wp2_with fail;apply wrG (oR (In (t+14) 2) T5) (oRs 12 (In (t+14) 2) T5) (oJ 12 _) (oJ.start _ _);repeat apply lxG (fun _ h _ _=>aj (h.cell c5 hnb) (aj (h.cell c4 hnb) (h.cell j0 hng)))
      apply lexG_callx (by decide) (by decide)
      ·rfl
      ·intro W
       go_simp;exact⟨rfl,rfl⟩
      ·intro W hR hJ hΦ
       refine((fun W' hR=>Hep5.out W' hR) W hR).mono ?_;rintro e w' ⟨rfl,ee⟩;have ex:Ext W w':=by first|exact ee|(subst ee;exact Ext.refl _)
       exact⟨rfl,oR.of_ext ex,.inr ex⟩
      simp only[pu];repeat apply lxG (fun _ h _ _=>h.cell c5 hnb)
      apply lexG_call (p:=oP _ _ _ _) (by decide) (by decide) (oP.stab hgP _)
      ·rfl
      ·intro W
       go_simp;exact⟨rfl,rfl⟩
      ·intro W hR hJ hΦ
       exact one_call hu (hJ rfl) ((Hpu.out) W (hJ rfl))
      intro v12;simp only[pu];refine lexG_nil ?_;intro Wy hR hap hΦ;obtain⟨T6,hT6,_,hJ6⟩:=hΦ.1 rfl;clear hΦ hap;have HM6:=hqd (HMW.out.jobs hok hl8 ht hT6 hJ6);have HT6:=hqd (HTW.out.trans hT6);have HB6:=hqd (HBW.out.turn hT6 (by unfold In;omega));clear hT6 hJ6 hR;go_wp2_with fail;go_roundw
      case rel=>exact⟨j+1,T6,by go_num,by rw[← HN.out];omega,HT6.out,HM6.out,HB6.out⟩
      case measure=>simp[intOf];omega
     ·have d1:decide (i3<pl)=false:=decide_eq_false hC
      have d2:decide ((i3:Int)<(pl:Int))=false:=decide_eq_false (by omega);go_wp2_with fail;go_roundw
      case rel=>exact⟨j+1,T5,by go_num,by rw[← HN.out];omega,HTW.out,HMW.out,HBW.out⟩
      case measure=>simp[intOf];omega
    ·obtain rfl:j=N:=by omega
     have hd2:decide (j<j)=false:=decide_eq_false (by omega);obtain⟨p1,p2,p3,p4⟩:=HQ.out;have HF:=hqd (show TryP t b cf me tp ops x c s (.tuple #[]) wr T5 from⟨rfl,s3,hM5,p1,p2,p3,p4⟩);have HTF:=hqd (HT8.out.trans (hT5.mono (S':=In (t+7) 9) fun j hj=>by unfold In at *;omega));clear p1 p2 p3 p4 hM5 hT5 hB5;go_wp2_with fail;go_end0
     exact⟨_,rfl,T5,HTF.out,HF.out⟩
end
section
variable {w w':World} {T T':Tg} {t b:Nat} {cf:Cf} {me:Nat} {tp:List UInt8} {ops:List OpT} {x:Mx} {c c':Cr} {s:Ms} {B:Nat}
def AhdP(t b:Nat)(cf:Cf)(me:Nat)(tp:List UInt8)(ops:List OpT)(x:Mx)(c:Cr)(s:Ms)(v:Value)(w':World)(T':Tg):Prop :=
 v = .tuple #[]∧∃ s',MIn w' T' t b cf me tp ops x c s'∧s'.fr=c.front∧s'.last≤s.last+9∧s'.tlast≤s.tlast+8∧s'.epoch≤s.epoch+3
theorem mul_ahead(h:MIn w T t b cf me tp ops x c s)(ht:0<t)(hk:CrOk cf me c [])(hu:Unborn w T)(hcl:c.closed=true→s.fr=c.front)(hN:s.last≤800000000∧s.tlast≤800000000∧s.epoch≤800000000):Calls prog 261 #[ptrV b] w (Gives (In t 16) w T (AhdP t b cf me tp ops x c s)):=by
 have hok:=hk.ok;have hl8:c.ls.length≤8:=by have:=hok.n8;have:=hk.len;omega
 have hfr:=hk.front_le;have HC:=hqd (mul_closed h);have HU:=hqd hu;have hmf:∀ fn first cap w,(Instr.makeFunc fn first cap).run prog w = .ok (.func fn first cap) w:=fun _ _ _ _=>rfl;cases hcd:c.closed with
 | true =>
  have HF:=hqd (show AhdP t b cf me tp ops x c s (.tuple #[]) w T from⟨rfl,s,h,hcl hcd,by omega,by omega,by omega⟩);rw[hcd]at HC;unfold ptrV at *;clear h hcl hcd;go_enter func261,ntmps261;go_wp2_with fail;refine HC.out.mono ?_;rintro e w1 ⟨rfl,hw⟩;subst hw;go_wp2_with fail;go_end0
  exact⟨_,rfl,T,Turn.refl _ HU.out,HF.out⟩
 | false =>
  rw[hcd]at HC;have HMv:=hqd (mul_move h ht hk hu (by omega));unfold ptrV at *;clear h hcl hcd;go_enter func261,ntmps261;go_wp2_with fail;refine HC.out.mono ?_;rintro e w1 ⟨rfl,hw⟩;subst hw;go_wp2_with fail;refine HMv.out.mono ?_;rintro e w2 ⟨v,rfl,T2,hT2,rfl,s2,hM2,q1,q2,q3,q4⟩;have b4:=hM2.hd.cell (i:=4) rfl;have HK:=hqd (tree_keep_may b hM2.tr hok.branches hM2.st hT2.unborn (by omega) (by omega) (by omega) (by omega) (by omega) (by have:=hM2.small hok;omega) hM2.ok.pics_nd hM2.ok.pics_in fun W y h hT hy hsp=>mul_may (hM2.hd.turn hT (by unfold In;omega)) (hM2.pl.turn hT (fun k hk=>by unfold In at *;omega)) hk y h hsp (hM2.jn y hy) (hM2.ok.brs y hy).1 (by omega));have HD:=hqd fun w3 T3 v=>hM2.dropped (w':=w3) (T':=T3) (P:=fun _=>True) (v:=v) hok hl8;have HT2:=hqd hT2;unfold ptrV at *;clear hM2 hT2;go_wp2_with fail;refine HK.out.mono ?_;rintro e w3 ⟨v,rfl,T3,hT3,hP3⟩;obtain⟨fl,ep,free',p1,p2,p3,p4,hM3⟩:=HD.out w3 T3 v hT3 hP3;obtain⟨r,_,_,_,rfl,_⟩:=hP3;have HTr:=hqd (mul_try hM3 ht hk hT3.unborn q1 (by show s2.last≤_∧s2.tlast≤_;omega));have HT3:=hqd (HT2.out.mono (S':=In t 16) (fun j hj=>by unfold In at *;omega) |>.trans (hT3.mono (S':=In t 16) fun j hj=>by unfold In at *;omega));unfold ptrV at *;clear hM3 hT3;go_wp2_with fail;refine HTr.out.mono ?_;rintro e w4 ⟨v,rfl,T4,hT4,rfl,s4,hM4,r1,r2,r3,r4⟩;have HF:=hqd (show AhdP t b cf me tp ops x c s (.tuple #[]) w4 T4 from⟨rfl,s4,hM4,by rw[r1];exact q1,by have:s4.last≤s2.last+8:=r2;omega,by have:s4.tlast≤s2.tlast+8:=r3;omega,by have:s4.epoch=ep:=r4;omega⟩);have HT4:=hqd (HT3.out.trans (hT4.mono (S':=In t 16) fun j hj=>by unfold In at *;omega));clear hM4 hT4;go_wp2_with fail;go_end0
  exact⟨_,rfl,T4,HT4.out,HF.out⟩
theorem MIn.on(h:MIn w T t b cf me tp ops x c s)(hf:s.fr=c.front∧s.last≤B∧s.tlast≤B∧s.epoch≤B)(hk:CrOk cf me c [])(hB:B≤700000000)(ht:0<t)(hk':CrOk cf me c' [])(hg:Grows c.ls c'.ls)(hcl:c'.closed=true→c'.ls=c.ls)(hT:Turn (In (t+16) 24) w T w' T')(hp:PlainAt w' T' (t+16) x.xb cf me tp ops x.cb x.qb x.ps c' c'.front) :
  Calls prog 261 #[ptrV b] w' (fun e w2=>e = .returned (.tuple #[])∧∃ T2,Turn (In t 40) w T w2 T2∧MultiAt w2 T2 t b cf me tp ops c' (B+20)):=by
 have hM:=h.plain hk.ok.workers hT hp (h.grows (by omega) hg);refine(mul_ahead hM ht hk' hT.unborn (fun hc=>by rw[hf.1];unfold Cr.front;rw[hcl hc]) (by omega)).mono ?_;rintro e w2 ⟨v,rfl,T2,hT2,rfl,s2,hM2,q1,q2,q3,q4⟩;exact⟨rfl,T2,(hT.mono (S':=In t 40) fun j hj=>by unfold In at *;omega).trans (hT2.mono (S':=In t 40) fun j hj=>by unfold In at *;omega),x,s2,hM2,q1,by omega,by omega,by omega⟩
theorem mul_press(h:MultiAt w T t b cf me tp ops c B)(u:UInt8)(hk:CrOk cf me c [])(hu:Unborn w T)(ht:0<t)(htp:tp.length≤1099511627776)(hQ:WordsOk tp ops cf (c.press me cf.window u))(hB:B≤700000000):Calls prog 257 #[ptrV b,.int .u8 (u.toNat:Nat)] w (Does (In t 40) w T (.int .i64 (c.pressE me cf.window:Nat)) fun w' T'=>MultiAt w' T' t b cf me tp ops (c.press me cf.window u) (B+20)):=by
 obtain⟨x,s,h,hf⟩:=h;have hk':=hk.press u;have hml:me<c.ls.length:=by rw[hk.len];exact hk.me
 have H1:=hqd (mul_plain h.hd);have H2:=hqd (plain_press h.pl u hk hk' hu (by omega) htp hQ);have HG:=hqd fun w' T' (hT:Turn (In (t+16) 24) w T w' T') (hp:PlainAt w' T' (t+16) x.xb cf me tp ops x.cb x.qb x.ps (c.press me cf.window u) (c.press me cf.window u).front)=>h.on hf hk hB ht hk' (press_grows me cf.window c u hml) (fun hc=>by
  have h9:c.closed=true:=by
   unfold Cr.press at hc;split at hc<;>exact hc
  unfold Cr.press;rw[if_neg];unfold Cr.pressE;rw[if_pos h9];decide) hT hp
 unfold ptrV at *;clear h hk hk' hQ;generalize c.press me cf.window u=cp at *;generalize c.pressE me cf.window=er at *;go_enter func257,ntmps257;go_wp2_with fail;refine H1.out.mono ?_;rintro e w1 ⟨rfl,hw⟩;subst hw;go_wp2_with fail;refine H2.out.mono ?_;rintro e w2 ⟨rfl,T2,hT2,hC2⟩;have HA:=hqd (HG.out w2 T2 hT2 hC2);clear hT2 hC2;go_wp2_with fail;refine HA.out.mono ?_;rintro e w3 ⟨rfl,T3,hT3,hC3⟩;have HT3:=hqd hT3;have HC3:=hqd hC3;clear hT3 hC3;go_wp2_with fail;go_ret;exact⟨rfl,T3,HT3.out,HC3.out⟩
theorem mul_recv(h:MultiAt w T t b cf me tp ops c B)(p:Pk)(hk:CrOk cf me c [])(hk':CrOk cf me (c.recv me p) [])(hu:Unborn w T)(ht:0<t)(htp:tp.length≤1099511627776){A:Option Addr}{n d:Nat}(hp:okPk p)(hdst:p.dst=me)(hsrc:p.src<cf.n)(hb:Rb w A n d (encPk cf.id p))
  (hf9:p.quit=false→p.first≤(c.ls.getD p.src []).length∧p.first+p.press.length≤1000) (hQ:WordsOk tp ops cf (c.recv me p)) (hB:B≤700000000) :
  Calls prog 259 #[ptrV b,.slice A n d] w (Does (In t 40) w T (.int .i64 (if c.closed then 6 else 0)) fun w' T'=>MultiAt w' T' t b cf me tp ops (c.recv me p) (B+20)):=by
 obtain⟨x,s,h,hf⟩:=h;have H1:=hqd (mul_plain h.hd);have H2:=hqd (plain_recv h.pl p hk hk' hu (by omega) htp hp hdst hsrc hb hf9 hQ);have HG:=hqd fun w' T' (hT:Turn (In (t+16) 24) w T w' T') (hp':PlainAt w' T' (t+16) x.xb cf me tp ops x.cb x.qb x.ps (c.recv me p) (c.recv me p).front)=>h.on hf hk hB ht hk' (recv_grows me c p) (fun hc=>by
  unfold Cr.recv at hc ⊢;split
  ·rfl
  ·split
   ·rfl
   ·rename_i h1 h2
    rw[if_neg h1,if_neg h2]at hc;exact absurd hc h1) hT hp'
 unfold ptrV at *;clear h hk hk' hQ hb hf9 hp hdst hsrc;generalize c.recv me p=cp at *;generalize (if c.closed=true then (6:Int) else 0)=er at *;go_enter func259,ntmps259;go_wp2_with fail;refine H1.out.mono ?_;rintro e w1 ⟨rfl,hw⟩;subst hw;go_wp2_with fail;refine H2.out.mono ?_;rintro e w2 ⟨rfl,T2,hT2,hC2⟩;have HA:=hqd (HG.out w2 T2 hT2 hC2);clear hT2 hC2;go_wp2_with fail;refine HA.out.mono ?_;rintro e w3 ⟨rfl,T3,hT3,hC3⟩;have HT3:=hqd hT3;have HC3:=hqd hC3;clear hT3 hC3;go_wp2_with fail;go_ret;exact⟨rfl,T3,HT3.out,HC3.out⟩
end
section
variable {w w':World} {T T':Tg} {t b:Nat} {cf:Cf} {me:Nat} {tp:List UInt8} {ops:List OpT} {x:Mx} {c c':Cr} {s:Ms} {B:Nat}
theorem mul_picture{n free last base fr:Nat}{gs:List (Nat×List Int)}{g:List Int}{q:Nat}(hH:Has w T t b (mulC x tp base fr))(hS:StoreAt w T (t+7) x.sb n free last gs)(hq:(q,g)∈gs)(hl:last<4611686018427387903) :
  Calls prog 264 #[ptrV b,.int .i64 (q:Nat)] w fun e w'=>e = .returned (.agg (gcs g))∧Ext w w':=by
 obtain⟨i,hi,hz⟩:∃ i,prog.info? 205=some i∧i.zero=some (.agg (List.replicate 32 (Value.int .i32 0)).toArray):=by
  have h9:=zero_state;cases hq:prog.info? 205 with
  | none=>rw[hq]at h9;cases h9
  | some i=>rw[hq]at h9;exact⟨i,rfl,by simpa using h9⟩
 have hg32:=hS.len_game _ hq;have HSt:=hqd fun W (e:Ext w W)=>at_state (hS.ext e) hq hl;have b3:=hH.cell (i:=3) rfl;have hl1:(g.map (Value.int .i32)).length=32:=by rw[List.length_map,hg32]
 have hone:∀ u∈g.map (Value.int .i32),u.oneCell'=true:=by
  intro u hu;obtain⟨x,_,rfl⟩:=List.mem_map.1 hu;rfl
 have hzl:(List.replicate 32 (Value.int .i32 0)).length=32:=by simp
 unfold ptrV gcs at *;clear hH hS hq hg32;generalize g.map (Value.int .i32)=g1 at *;generalize List.replicate 32 (Value.int .i32 0)=zs at *;go_enter func264,ntmps264;go_upto_region 1 with (with_reducible refine wpList_alloc_ar rfl 205 rfl hi hz ?_;intro W1 a1 x1 s1)
 replace b3:=x1.cell b3;go_wp2_with fail;refine(HSt.out W1 x1).mono ?_;rintro e w2 ⟨rfl,e2⟩;have hs2:=e2.size;have hgg:w.heap.size<w2.heap.size:=by omega
 go_wp2_with (first|(with_reducible refine wpList_alloc_ar rfl 205 rfl hi hz ?_;intro W3 a3 x3 s3)|(with_reducible refine wpList_store_ar rfl 205 (.tmp 5) (.tmp 14) rfl rfl rfl a3 hl1 hzl size_state hone ?_;intro W4 a4 g4 s4;have a14:=((a1.ext e2).ext x3).grown g4 (by simp;omega))|(with_reducible refine wpList_load_ar rfl 205 (.tmp 5) rfl rfl underlying205 size_state a4 hl1 ?_)|(with_reducible refine wpList_store_ar rfl 205 (.tmp 4) (.tmp 16) rfl rfl rfl a14 hl1 hzl size_state hone ?_;intro W5 a5 g5 s5))
 have e4:=Ext.own (B:=some ⟨w2.heap.size,0,none⟩) ((x1.trans e2).trans x3) g4 (fun k hk=>by have h9:w2.heap.size=k:=Option.some.inj hk;omega);have e5:=Ext.own (B:=some ⟨w.heap.size,0,none⟩) e4 g5 (fun k hk=>by have h9:w.heap.size=k:=Option.some.inj hk;omega);exact bodyPost_ret (result_ar rfl _ rfl a5 hl1 underlying205 size_state) rfl ⟨rfl,e5⟩
theorem mul_confirmed(h:MultiAt w T t b cf me tp ops c B)(hk:CrOk cf me c [])(hB:B≤700000000):Calls prog 254 #[ptrV b] w (Shown w (gameAt tp ops c.ls c.front) c.front):=by
 obtain⟨x,s,h,hfr,hla,_,_⟩:=h;have hlen:=hk.len;have hn8:=hk.ok.n8;have h2:=hk.ok.n2;have hG:=gameAt_ok tp ops c.ls c.front;have Hco:=hqd fun W (e:Ext w W)=>mul_core (h.ext e);have Hqu:=hqd fun W (e:Ext w W)=>core_queue (h.pl.core.ext e);have Hfr:=hqd fun W (e:Ext w W)=>queue_front (h.pl.core.que.ext e) (by rw[hlen];exact hn8) (by rw[hlen];omega) hk.short;rw[show frontL c.ls=c.front from rfl]at Hfr;have hbs:=h.ok.base_;rw[hfr]at hbs;have Hpi:=hqd fun W (e:Ext w W)=>mul_picture (h.hd.ext e) (h.st.ext e) hbs (by omega);have Henc:=hqd fun W=>sencode_any W (gameAt tp ops c.ls c.front) hG;have b7:=h.hd.cell (i:=7) rfl;have b8:=h.hd.cell (i:=8) rfl;rw[hfr]at b8;unfold ptrV gcs at *;clear h hbs hG hfr hk;generalize gameAt tp ops c.ls c.front=G at *;generalize hff:c.front=fr at *;clear hff;generalize hg2:G.map (Value.int .i32)=g2 at *;have Hg2:=hqd hg2;clear hg2;go_enter func254,ntmps254;go_wp2_with fail;apply wrA trivial;repeat first|apply lxA (fun _ h _=>h.cell b8)|apply lxK trivial
 apply lxC (fun W hR=>Hco.out W hR);apply lxC (fun W hR=>Hqu.out W hR);apply lxC (fun W hR=>Hfr.out W hR);repeat first|apply lxA (fun _ h _=>h.cell b8)|apply lxK trivial
 refine lex_nil ?_;intro Wx hWx hΦ;clear hΦ;replace b7:=hWx.cell b7;replace b8:=hWx.cell b8;have e1:=hWx;generalize hWZ:Wx=W1 at *;clear hWZ hWx;go_wp2_with fail;apply wrA trivial;repeat apply lxA (fun _ h _=>h.cell b7)
 apply lxC (fun W hR=>Hpi.out W (e1.trans hR));apply lex_call (p:=fun u W=>∃ B d,u = .slice B 128 d∧Rb W B 128 d (gameL G)) (fun _ _ _ ⟨B,bd,hv,h1⟩ he=>⟨B,bd,hv,h1.ext he⟩)
 ·rfl
 ·intro W
  go_simp;exact⟨rfl,rfl⟩
 ·intro W hR hΦ
  refine(Henc.out W).mono ?_;rintro e w' ⟨B,bd,rfl,ho,he⟩;exact⟨_,rfl,he,B,bd,rfl,ho⟩
 intro v2;simp only[pu];repeat apply lxA (fun _ h _=>h.cell b8)
 apply lex_new (p:=fun u W=>∃ B d,u = .slice B 128 d∧Rb W B 128 d (gameL G)) (fun _ _ _ ⟨B,bd,hv,h1⟩ he=>⟨B,bd,hv,h1.ext he⟩)
 ·rfl
 ·intro W hR hΦ
  obtain⟨B,bd,rfl,ho⟩:=hΦ.1 rfl;refine⟨_,W,?_,Ext.refl _,B,bd,rfl,ho⟩;go_simp;first|done|rfl
 intro v3;simp only[pu];repeat apply lxA (fun _ h _=>h.cell b8)
 refine lex_nil ?_;intro Wx hWx hΦ;obtain⟨B2,bd,rfl,hB2⟩:=hΦ.1 rfl;clear hΦ;go_wp2_with fail;go_ret2
 exact⟨B2,bd,rfl,hB2,e1.trans hWx⟩
end
end Go.Proofs.YtffcefoadaogbaaGreat
