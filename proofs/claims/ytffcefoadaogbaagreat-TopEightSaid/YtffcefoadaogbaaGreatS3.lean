/- A part of the proof. -/
import Derived.Test.YtffcefoadaogbaaGreatS1
import Derived.Test.YtffcefoadaogbaaGreatRows
import Derived.Laws.BitsAllLaws
import Derived.LoopTactic
import Derived.Laws.Rows
import Derived.Laws.StructEq
import Derived.ProofKit
namespace Go.Proofs.YtffcefoadaogbaaGreat
open Go.RowKit
open Go.Proofs.Tryz
set_option linter.unusedVariables false
set_option maxRecDepth 100000
set_option maxHeartbeats 16000000
open Go.IntKind renaming u64->lz,wrap_u64->LC,u8->qO,i64->cQ,u32->uK
open _root_.Nat renaming mod_eq_of_lt->Ie,and_one_is_mod->acI,pow_le_pow_right->RE,mul_le_mul_right->xO,zero_le->aM,mod_two_eq_zero_or_one->acJ
open _root_.UInt8 renaming ofNat->eB
open _root_.List renaming map_cons->mF,map_nil->tT,append_assoc->ic,drop_eq_getElem_cons->yo,drop_eq_nil_of_le->Jt,getElem?_eq_getElem->bf,take_length->sU,all_cons->Tk
open Go.World renaming grownBy->cX
open Go.IntWalk renaming u64_in->acK
open Go renaming World->κ,Value->ξ,Calls->τ,IntKind->oU
variable{A B C:aS}{Q base d d' id k m' n q:Nat}{Q':Exit->Act->κ->Prop}{l pre:aD}{w w' wr:κ}{x:Int}{α:Type}
theorem dX:(prog.info? 5).map (fun i=>(i.zero,i.size,i.bytes))=some (some (.int .u8 0),1,1):=ey
theorem ahv(n:Nat)(h:n<18446744073709551616):bits BinOp.xor lz lz.max (n:Int)=((18446744073709551615-n:Nat):Int):=by
 have e:BitVec.ofInt 64 lz.max=BitVec.allOnes 64:=Γ;show lz.wrap ((BitVec.ofInt 64 lz.max ^^^ BitVec.ofInt 64 (n:Int)).toNat:Int)=_
 rw[e,BitVec.xor_comm,BitVec.xor_allOnes,BitVec.toNat_not,BitVec.ofInt_natCast,BitVec.toNat_ofNat,Ie η,LC];omega
theorem abf(h:x<0)(h0:-9223372036854775808<=x):bits BinOp.xor lz lz.max (lz.wrap (lz.wrap x*2))=(Rj x:Int):=by
 have e:lz.wrap (lz.wrap x*2)=((18446744073709551616+2*x).toNat:Int):=by rw[LC,LC];omega
 rw[e,ahv _ η];unfold Rj;rw[if_pos h];omega
theorem abg(h:¬x<0):x*2=(Rj x:Int):=by unfold Rj;rw[if_neg h];omega
theorem LD(h0:-9223372036854775808<=x):(x<0/\bits BinOp.xor lz lz.max (lz.wrap (lz.wrap x*2))=(Rj x:Int))\/(¬x<0/\x*2=(Rj x:Int)):=by
 by_cases h:x<0
 .exact .inl ⟨h,abf h h0⟩
 .exact .inr ⟨h,abg h⟩
theorem Tv:∀n:Nat,n<256->bits BinOp.or qO (n:Int) 128=((n % 128+128:Nat):Int):=Γ
theorem ahw(u:Nat):bits BinOp.or qO (↑u % 256) 128=(↑u % 128+128:Int):=by have:=Tv (u % 256) η;have e:((u % 256:Nat):Int) = ↑u % 256:=η;rw[e]at this;rw[this];omega
theorem Ig:(128:Nat) ^ (9+1)=1180591620717411303424:=Γ
def OT(w:κ)(base:Nat)(A:aS)(l:aD)(x:Int)(v u:ξ)(wr:κ):Prop :=
 ∃B m d pre q k,v=.slice B m d/\u=.int .u64 (q:Nat)/\Own wr base 5 1 B m d (dK (l++pre))/\w.grownBy wr (bn A)/\oV w A B/\pre++tX (k+1) q=aV x/\q<128 ^ (k+1)/\pre.length+(k+1)=10/\q<18446744073709551616
theorem Ih(h:n<256):dK [eB n]=[.int .u8 (n:Int)]:=by simp only[dK,mF,tT];rw[aU h]
theorem Ii(hq:127<q)(hg:w.grownBy wr (bn A))(hw:oV w A B)(hp:pre++tX (k+1) q=aV x)(aX:q<128 ^ (k+1))(hk:pre.length+(k+1)=10)(afy:q<18446744073709551616)(ho:Own w' base 5 1 C m' d' (dK (l++pre)++[.int .u8 (↑q % 128+128)]))(lY:wr.grownBy w' (bn B))(hw':bn C=bn B\/∀k,bn C=some k->wr.heap.size<=k):OT w base A l x (.slice C m' d') (.int .u64 (↑q / 128)) w':=by
 have vq:k≠0:=by rintro rfl;simp at aX;omega
 obtain⟨k,rfl⟩:∃j,k=j+1:=⟨k-1,η⟩;refine⟨C,m',d',pre++[eB (q % 128+128)],q / 128,k,rfl,bT,?_,yD hg hw lY,hw.trans hg.size hw',?_,?_,dw,η⟩
 .have e:=Ih (n:=q % 128+128) η;rw[←ic,aJ,e];exact ho
 .rw[ic,←hp]
  conv=>rhs;rw[tX,if_pos hq]
  rfl
 .rw[JD]at aX;omega
theorem RF(hq:q<=127)(hg:w.grownBy wr (bn A))(hw:oV w A B)(hp:pre++tX (k+1) q=aV x)(ho:Own w' base 5 1 C m' d' (dK (l++pre)++[.int .u8 ↑q]))(lY:wr.grownBy w' (bn B))(hw':bn C=bn B\/∀k,bn C=some k->wr.heap.size<=k):zP w base 5 1 A (dK (l++aV x)) (.returned (.slice C m' d')) w':=by refine⟨C,m',d',rfl,?_,yD hg hw lY,hw.trans hg.size hw'⟩;have e:=Ih (n:=q) η;rw[←hp,tX,if_neg η,←ic,aJ,e];exact ho
theorem kg(base:Nat)(A:aS)(n c:Nat)(l:aD)(x:Int)(w:κ)(h0:-9223372036854775808<=x)(h1:x<=9223372036854775807)(fS:Own w base 5 1 A n c (dK l))(hn:n<=1099511627776)(hb:base<=w.heap.size):τ prog 198 #[.slice A n c,x] w (zP w base 5 1 A (dK (l++aV x))):=by
 obtain⟨i,hi,dx,dA,dN⟩:=info_parts dX;have DK:=OC h0 h1;have N4:l.length<=n:=by have:=fS.len;simp[ay]at this;omega
 rcases LD h0 with ⟨hx,hz⟩|⟨hx,hz⟩
 all_goals
  go_enter func198,ntmps198;go_wp2_with fail;clear hz;go_loopw [0,5] (fun v u wr=>OT w base A l x v u wr) (fun _ u _=>(intOf u).toNat)
  case atStart=>exact⟨A,n,c,[],Rj x,9,rfl,rfl,by simpa using fS,cX.refl w _,oV.refl w A,rfl,by rw[Ig];omega,rfl,DK⟩
  case round =>
   obtain⟨B,m,d,pre,q,k,rfl,rfl,ho,hg,hw,hp,hq,hk,afy⟩:=hrel;have hm:m<=n+10:=by have:=ho.len;simp[ay]at this;omega
   have hbw:base<=wr.heap.size:=Nat.le_trans hb hg.size;have Xt:=ahw q;have Hp:=θ hp;have Hk:=θ hk;clear hp hk;go_wp2_with (at_builtin;refine ag _ rfl _ _ 30 rfl base 5 i (.int .u8 0) 1 1 underlying30 hi dx dA dN rfl Γ B m d _ rfl ho 1 _ rfl rfl gA iQ η hbw ?_;intro B' d' w' wV lY hw')
   .go_roundw
    case rel=>exact Ii η hg hw Hp.o hq Hk.o afy wV lY hw'
    case measure=>exact dB
   .go_ret;exact RF η hg hw Hp.o wV lY hw'
section
variable {P:Program}{R:κ->κ->Prop}{w0:κ}{Rs:Nat->κ->κ->Prop}{J:Nat->κ->Prop}{F1 F2:Nat}{l:List Oper}{Q:Act->κ->Prop}{o:Oper}{os:List Oper}{qs:List m7}{i:Nat}{a a2:Act}{u1 u2:ξ}{Φ:(Nat->Bool)->κ->Prop}
theorem gF{F:World->Prop}{u:Value}(f:∀w,R w0 w->J i w->Φ (iK l i) w->F w)(h:kX P R w0 Rs J F1 F2 l Q qs os (i+1) a2 (if i=F1 then u else u1) (if i=F2 then u else u2) Φ)(h1:i≠F1:=by decide)(h2:i≠F2:=by decide)(hr:∀w,R w w:=by first|exact oR.refl _ _|exact gR.refl _|exact zR.refl|exact yR.refl _ _ _|exact fun w=>mC.ai _ _ _ _ (Ext.refl w))(hs:∀i w,Rs i w w:=by first|exact Bj.refl _ _ _|exact oM.refl _ _|exact fun _=>zR.refl|exact Dh.refl _ _ _|exact fun _ w=>mC.ai _ _ _ _ (Ext.refl w))(hw:Region.wanted o (yielded l.toArray a.tmps)=true:=by rfl)
 (bU:(∀w,R w0 w->J i w->Φ (iK l i) w->F w)->∀w,R w0 w->J i w->Φ (iK l i) w->(execOp a.eval o).run P w=.ok (.value u) w:=by intro F W hR hJ υ;have dd:=F W hR hJ υ;clear F;go_simp;first|done|with_reducible rfl) (ha:a.put o.dst u=a2:=by simp only[pu];rfl):kX P R w0 Rs J F1 F2 l Q (.inl u::qs) (o::os) i a u1 u2 Φ:=j7 h1 h2 hr hs hw (bU f) (ha▸h)
theorem GG{a:Act}(R:World->World->Prop)(Rs:Nat->World->World->Prop)(J:Nat->World->Prop)(WT:∀i,J i w0.drew)(qs:List m7)(h:kX P R w0 Rs J 99 99 l (fun a w=>Q' .normal a w) qs l 0 a undef undef (fun _ _=>True))(hm:P.follows .mixedOrders=true:=by kernel_rfl)(eH:stat l=true:=by kernel_rfl)(hrefl:∀w,R w w:=by first|exact oR.refl _ _|exact gR.refl _|exact zR.refl|exact yR.refl _ _ _|exact fun w=>mC.ai _ _ _ _ (Ext.refl w))(iy:∀i w,Rs i w w:=by first|exact Bj.refl _ _ _|exact oM.refl _ _|exact fun _=>zR.refl|exact Dh.refl _ _ _|exact fun _ w=>mC.ai _ _ _ _ (Ext.refl w))(dU:∀a b,R a b->a.heap.size<=b.heap.size:=by first|exact oR.sz _ _|exact gR.sz _|exact yR.sz _ _ _|exact fun _ _ h=>h.1.size)(yH:∀j i,i≠j->∀w w',J j w->Rs i w w'->J j w':=by first|exact oJ.aQ|exact BL.aQ|exact gJ.aQ _ _ _ _ _ _ _|exact gJj.aQ|exact yJ.aQ|exact fun _ _ _ _ _ _ _=>trivial)(jK:∀a b c,R a b->R b c->R a c:=by first|exact oR.trans _ _|exact gR.trans _|exact yR.trans _ _ _|exact fun _ _ _=>zR.trans|exact fun _ _ _=>mC.trans)(qI:R w0 w0.drew:=by first|exact oR.drew _ _ _|exact gR.drew _ _|exact yR.drew _ _ _ _|exact zR.ai (Ext.drew _)|exact mC.ai _ _ _ _ (Ext.drew _)):(Code.region id l.toArray true).wp P Q' a w0:=vF hm eH hrefl iy dU yH jK qI WT qs h
theorem Ar{a:Act}(n:Nat)(R:World->World->Prop)(Rs:Nat->World->World->Prop)(J:Nat->World->Prop)(WT:∀i,J i w0.drew)(qs:List m7)(h:kX P R w0 Rs J 99 99 l (fun a w=>wpList P l.toArray Q' (l.drop n) a w) qs (l.take n) 0 a undef undef (fun _ _=>True))(hlen:n<l.length:=by decide)(bW:((List.range l.length).all fun i=>decide (i<n) || (List.range i).all (fun j=>iK l i j))=true:=by kernel_rfl)(hm:P.follows .mixedOrders=true:=by kernel_rfl)(eH:stat l=true:=by kernel_rfl)(hrefl:∀w,R w w:=by first|exact oR.refl _ _|exact gR.refl _|exact zR.refl|exact yR.refl _ _ _|exact fun w=>mC.ai _ _ _ _ (Ext.refl w))(iy:∀i w,Rs i w w:=by first|exact Bj.refl _ _ _|exact oM.refl _ _|exact fun _=>zR.refl|exact Dh.refl _ _ _|exact fun _ w=>mC.ai _ _ _ _ (Ext.refl w))(dU:∀a b,R a b->a.heap.size<=b.heap.size:=by first|exact oR.sz _ _|exact gR.sz _|exact yR.sz _ _ _|exact fun _ _ h=>h.1.size)(yH:∀j i,i≠j->∀w w',J j w->Rs i w w'->J j w':=by first|exact oJ.aQ|exact BL.aQ|exact gJ.aQ _ _ _ _ _ _ _|exact gJj.aQ|exact yJ.aQ|exact fun _ _ _ _ _ _ _=>trivial)(jK:∀a b c,R a b->R b c->R a c:=by first|exact oR.trans _ _|exact gR.trans _|exact yR.trans _ _ _|exact fun _ _ _=>zR.trans|exact fun _ _ _=>mC.trans)(qI:R w0 w0.drew:=by first|exact oR.drew _ _ _|exact gR.drew _ _|exact yR.drew _ _ _ _|exact zR.ai (Ext.drew _)|exact mC.ai _ _ _ _ (Ext.drew _)):(Code.region id l.toArray true).wp P Q' a w0:=iW n hlen bW hm eH hrefl iy dU yH jK qI WT qs h
end
def aeb(l:aD)(u i:ξ):Prop:=∃k q:Nat,i=.int .i64 k/\u=.int .u64 q/\k<=l.length/\k<=9/\q<128 ^ k/\rK k q (l.drop k)=Ef l
theorem OU:∀n:Nat,n<256->bits BinOp.and qO (n:Int) 127=((n % 128:Nat):Int):=Γ
theorem Xu(a b:Nat)(ha:a<18446744073709551616)(hb:b<18446744073709551616):bits .or .u64 (a:Int) (b:Int)=((a ||| b:Nat):Int):=by
 have hx:a ||| b<2 ^ 64:=Nat.or_lt_two_pow η η
 show lz.wrap ((BitVec.ofInt 64 (a:Int) ||| BitVec.ofInt 64 (b:Int)).toNat:Int)=_
 rw[BitVec.toNat_or,BitVec.ofInt_natCast,BitVec.ofInt_natCast,BitVec.toNat_ofNat,BitVec.toNat_ofNat,Ie η,Ie η,LC];omega
theorem Tw(a:Nat)(ha:a<18446744073709551616):bits .and .u64 (a:Int) 1=((a % 2:Nat):Int):=by
 show lz.wrap ((BitVec.ofInt 64 (a:Int) &&& BitVec.ofInt 64 ((1:Nat):Int)).toNat:Int)=_
 rw[BitVec.toNat_and,BitVec.ofInt_natCast,BitVec.ofInt_natCast,BitVec.toNat_ofNat,BitVec.toNat_ofNat,Ie η,Ie η,acI,LC];omega
theorem Xv(q k x:Nat)(hk:k<=9)(hq:q<128 ^ k)(hx:x<256)(h9:k=9->x<=1):bits .or .u64 (q:Int) (lz.wrap (lz.wrap (bits .and .u8 (x:Int) 127)*2 ^ (7*k)))=((q+x % 128*2 ^ (7*k):Nat):Int)/\q+x % 128*2 ^ (7*k)<18446744073709551616/\(127<x->q+x % 128*2 ^ (7*k)<128 ^ (k+1)):=by
 have hp:2 ^ (7*k)=128 ^ k:=zS k;have LF:(128:Nat) ^ k<=128 ^ 9:=RE η hk;have e9:(128:Nat) ^ 9=9223372036854775808:=Γ;have aX:x % 128*128 ^ k<18446744073709551616:=by
  by_cases h:k=9
  .have:=h9 h;subst h;have:x % 128*128 ^ 9<=1*128 ^ 9:=xO _ η;omega
  .have LF:(128:Nat) ^ k<=128 ^ 8:=RE η η;have:x % 128*128 ^ k<=127*128 ^ k:=xO _ η;omega
 have Xt:q ||| x % 128*128 ^ k=q+x % 128*128 ^ k:=by rw[←hp]at hq⊢;rw[Nat.or_comm,Nat.mul_comm,←Nat.two_pow_add_eq_or_of_lt hq,Nat.add_comm]
 have akI:x % 128*128 ^ k+128 ^ k<=128*128 ^ k:=by rw[←Nat.succ_mul];exact xO _ η
 have BM:q+x % 128*128 ^ k<18446744073709551616:=by
  by_cases h:k=9
  .have:=h9 h;subst h;have:x % 128*128 ^ 9<=1*128 ^ 9:=xO _ η;omega
  .have LF:(128:Nat) ^ k<=128 ^ 8:=RE η η;omega
 refine⟨?_,by rw[hp];exact BM,fun _=>by rw[hp,JD];omega⟩;rw[OU x hx,hp];have ew:lz.wrap (lz.wrap ((x % 128:Nat):Int)*2 ^ (7*k))=((x % 128*128 ^ k:Nat):Int):=by
  rw[acK ((x % 128:Nat):Int) η];have e2:((x % 128:Nat):Int)*2 ^ (7*k)=((x % 128*128 ^ k:Nat):Int):=by rw[←hp];simp
  rw[e2];exact acK _ η
 rw[ew,Xu _ _ η aX,Xt]
theorem abh(n:Nat)(h:n<9223372036854775808):bits BinOp.xor cQ (-1) (n:Int) = -(n:Int)-1:=by
 have e:BitVec.ofInt 64 (-1)=BitVec.allOnes 64:=Γ;show cQ.wrap ((BitVec.ofInt 64 (-1) ^^^ BitVec.ofInt 64 (n:Int)).toNat:Int)=_
 rw[e,BitVec.xor_comm,BitVec.xor_allOnes,BitVec.toNat_not,BitVec.ofInt_natCast,BitVec.toNat_ofNat,Ie η,oU.wrap_i64];omega
theorem RG(hp:Q % 2=1)(aX:Q<18446744073709551616):bits BinOp.xor cQ (-1) ((Q:Int) / 2)=zag Q:=by have:=abh (Q / 2) η;have e:((Q / 2:Nat):Int)=(Q:Int) / 2:=η;rw[e]at this;rw[this,zag,if_pos hp,e]
theorem EJ(hp:Q % 2=0):(Q:Int) / 2=zag Q:=by rw[zag,if_neg η];omega
theorem drop_cons{l:List α}(h:k<l.length):l.drop k=l[k]::l.drop (k+1):=yo h
theorem RH(A:aS)(n c:Nat)(l:aD)(w:κ)(hr:Rb w A n c l):τ prog 329 #[.slice A n c] w fun e w'=>e=.returned (.tuple #[.int .i64 (Ef l).1,.int .i64 (Ef l).2.1,.int .i64 (Ef l).2.2])/\w=w':=by
 have hn:=hr.len;have hmx:=hr.max;unfold maxLen at hmx;subst hn;go_enter func329,ntmps329;go_wp2_with fail;go_loop [5,11] (fun u i=>aeb l u i) (fun _ i=>l.length-(intOf i).toNat)
 case atStart=>exact⟨0,0,rfl,rfl,aM _,η,bT,rfl⟩
 case round =>
  obtain⟨k,q,rfl,rfl,hk,EK,hq,hg⟩:=hrel;by_cases aX:k<l.length
  .rw[drop_cons aX]at hg
   obtain⟨b,o,rfl,hc⟩:=hr.at_ aX;have hb:=(l[k]).toNat_lt;clear hr;generalize l[k]=x at*;by_cases h9:k=9/\1<x.toNat
   .obtain⟨rfl,h91⟩:=h9
    rw[rK,if_pos ⟨rfl,h91⟩]at hg;have Hg:=θ hg;clear hg;go_wp2_with fail;go_ret3
    exact⟨Jz,rfl⟩
   .rw[rK,if_neg h9]at hg
    obtain⟨Xt,BM,Xw⟩:=Xv q k x.toNat EK hq hb η;obtain⟨Q,hQ⟩:∃Q,Q=q+x.toNat % 128*2 ^ (7*k):=⟨_,rfl⟩;rw[←hQ]at hg Xt BM Xw;have HQ:=θ hQ;clear hQ;have LG:=Tw Q BM;by_cases h1:127<x.toNat
    .rw[if_pos h1]at hg
     have Hg:=θ hg;have hne:((k:Int)==9)=false:=dw;clear hg LG;go_wp2;go_round
     case rel=>exact⟨k+1,Q,cR,rfl,η,η,Xw h1,Hg.o⟩
     case measure=>exact dB
    .rw[if_neg h1]at hg
     by_cases h2:0<k/\x.toNat=0
     .rw[if_pos h2]at hg
      have Hg:=θ hg;obtain⟨h3,h4⟩:=h2;clear hg LG h9;by_cases h6:k=9
      .subst h6
       have e9:(2:Int) ^ (7*9)=9223372036854775808:=Γ;rw[e9]at Xt;clear e9;go_wp2_with fail;go_ret3
       exact⟨Jz,rfl⟩
      .have hne:((k:Int)==9)=false:=by simp;omega
       go_wp2_with fail;go_ret3
       exact⟨Jz,rfl⟩
     .rw[if_neg h2]at hg
      have Hg:=θ hg;clear hg;by_cases h6:k=9
      .subst h6
       have e9:(2:Int) ^ (7*9)=9223372036854775808:=Γ;rw[e9]at Xt;have h5:((x.toNat:Int)==0)=false:=dw;have N5:x.toNat<=1:=η;clear e9 h9 h2;by_cases hp:Q % 2=1
       .rw[hp]at LG
        have hz:=RG hp BM;clear hp;go_wp2_with fail;go_ret3
        exact⟨Jz,rfl⟩
       .have hp0:Q % 2=0:=by omega
        have Hp:=θ hp0;rw[hp0]at LG;clear hp hp0;go_wp2_with fail;go_ret3
        exact⟨by rw[←Hg.o,EJ Hp.o];rfl,rfl⟩
      .have hne:((k:Int)==9)=false:=by simp;omega
       have h5:0<k->((x.toNat:Int)==0)=false:=by intro hk;simp;omega
       have e1:((k+1:Nat):Int)=(k:Int)+1:=η;have He:=θ e1;clear h9 h2 e1;by_cases hp:Q % 2=1
       .rw[hp]at LG
        have hz:=RG hp BM;clear hp;by_cases h7:0<k
        .go_wp2_with fail
         go_ret3
         exact⟨by rw[←Hg.o,He.o];rfl,rfl⟩
        .go_wp2_with fail
         go_ret3
         exact⟨by rw[←Hg.o,He.o];rfl,rfl⟩
       .have hp0:Q % 2=0:=by omega
        have Hp:=θ hp0;rw[hp0]at LG;clear hp hp0;by_cases h7:0<k
        .go_wp2_with fail
         go_ret3
         exact⟨by rw[←Hg.o,EJ Hp.o,He.o];rfl,rfl⟩
        .go_wp2_with fail
         go_ret3
         exact⟨by rw[←Hg.o,EJ Hp.o,He.o];rfl,rfl⟩
  .rw[Jt η,rK]at hg
   have Hg:=θ hg;clear hg;go_wp2_with fail;go_ret3
   exact⟨Jz,rfl⟩
def abi(l:aD)(u wt i:ξ):Prop:=∃k q W:Nat,i=.int .i64 k/\u=.int .u64 q/\wt=.int .u64 W/\W=128 ^ k/\k<=l.length/\k<=9/\q<128 ^ k/\rK k q (l.drop k)=Ef l
theorem EL(A:aS)(n c:Nat)(l:aD)(w:κ)(hr:Rb w A n c l):τ prog 213 #[.slice A n c] w fun e w'=>e=.returned (.tuple #[.int .i64 (Ef l).1,.int .i64 (Ef l).2.1,.int .i64 (Ef l).2.2])/\w=w':=by
 have hn:=hr.len;have hmx:=hr.max;unfold maxLen at hmx;subst hn;go_enter func213,ntmps213;go_wp2_with fail;go_loop [5,6,7] (fun u wt i=>abi l u wt i) (fun _ _ i=>l.length-(intOf i).toNat)
 case atStart=>exact⟨0,0,1,rfl,rfl,rfl,rfl,aM _,η,bT,rfl⟩
 case round =>
  obtain⟨k,q,W,rfl,rfl,rfl,hW,hk,EK,hq,hg⟩:=hrel;by_cases aX:k<l.length
  .rw[drop_cons aX]at hg
   obtain⟨b,o,rfl,hc⟩:=hr.at_ aX;have hb:=(l[k]).toNat_lt;have hkI:(k:Int)<(l.length:Int):=η;clear hr;generalize l[k]=x at*;by_cases h9:k=9/\1<x.toNat
   .obtain⟨rfl,h91⟩:=h9
    rw[rK,if_pos ⟨rfl,h91⟩]at hg;have Hg:=θ hg;clear hg hW;go_wp2_with fail;go_ret3
    exact⟨Jz,rfl⟩
   .rw[rK,if_neg h9]at hg
    obtain⟨_,BM,Xw⟩:=Xv q k x.toNat EK hq hb η;obtain⟨P,hP⟩:∃P,P=x.toNat % 128*2 ^ (7*k):=⟨_,rfl⟩;rw[←hP]at hg BM Xw;have hPW:(x.toNat:Int) % 128*(W:Int)=(P:Int):=by rw[hP,zS,←hW,Int.natCast_mul];rfl
    have HW:=θ hW;clear hP hW;have N5:k=9->x.toNat<=1:=η;by_cases h1:127<x.toNat
    .rw[if_pos h1]at hg
     have Hg:=θ hg;have hk8:k<=8:=η;have hne:((k:Int)==9)=false:=dw;have h5:((x.toNat:Int)==0)=false:=dw;have hWb:W<=72057594037927936:=by have:=HW.o;have LF:(128:Nat) ^ k<=128 ^ 8:=RE η η;omega
     clear hg h9 N5;by_cases h0:0<k
     all_goals
      go_wp2;go_round
      case rel=>exact⟨k+1,q+P,W*128,cR,bT,bT,by rw[HW.o,JD,Nat.mul_comm],η,η,Xw h1,Hg.o⟩
      case measure=>exact dB
    .rw[if_neg h1]at hg
     by_cases h2:0<k/\x.toNat=0
     .rw[if_pos h2]at hg
      have Hg:=θ hg;obtain⟨h3,h4⟩:=h2;clear hg h9 N5;by_cases h6:k=9
      .subst h6
       go_wp2_with fail;go_ret3
       exact⟨Jz,rfl⟩
      .have hne:((k:Int)==9)=false:=by simp;omega
       go_wp2_with fail;go_ret3
       exact⟨Jz,rfl⟩
     .rw[if_neg h2]at hg
      have Hg:=θ hg;have h5:0<k->((x.toNat:Int)==0)=false:=by intro hk;simp;omega
      clear hg h9 h2;have hz:zag (q+P)=if (q+P) % 2=1 then -(((q+P) / 2:Nat):Int)-1 else (((q+P) / 2:Nat):Int):=rfl
      have Hz:=θ hz;clear hz;by_cases hp:(q+P) % 2=1
      .have LG:(((q:Int)+(P:Int)) % 2==1)=true:=by simp;omega
       have Hp:=θ hp;clear hp;by_cases h6:k=9
       .subst h6
        have N5:=N5 rfl;go_wp2_with fail;go_ret3
        exact⟨af6,rfl⟩
       .have hne:((k:Int)==9)=false:=by simp;omega
        clear N5;by_cases h0:0<k
        .go_wp2_with fail
         go_ret3
         exact⟨af6,rfl⟩
        .clear h5
         go_wp2_with fail;go_ret3
         exact⟨af6,rfl⟩
      .have LG:(((q:Int)+(P:Int)) % 2==1)=false:=by simp;omega
       have Hp:=θ hp;clear hp;by_cases h6:k=9
       .subst h6
        have N5:=N5 rfl;go_wp2_with fail;go_ret3
        exact⟨af7,rfl⟩
       .have hne:((k:Int)==9)=false:=by simp;omega
        clear N5;by_cases h0:0<k
        .go_wp2_with fail
         go_ret3
         exact⟨af7,rfl⟩
        .clear h5
         go_wp2_with fail;go_ret3
         exact⟨af7,rfl⟩
  .rw[Jt η,rK]at hg
   have Hg:=θ hg;clear hg hW;go_wp2_with fail;go_ret3
   exact⟨Jz,rfl⟩
theorem LH(n:Nat)(h:n<4294967296):dK (eO n)=[.int .u8 (↑n / 16777216),.int .u8 (↑n / 65536 % 256),.int .u8 (↑n / 256 % 256),.int .u8 (↑n % 256)]:=by simp only[dK,eO,mF,tT];rw[aU η,aU η,aU η,aU η];simp
theorem EM(n:Nat)(w:κ)(h:n<4294967296):τ prog 327 #[.int .u32 (n:Nat)] w (Made w 5 1 (dK (eO n))):=by go_enter func327,ntmps327;go_wp2;go_ret;refine⟨_,_,_,rfl,?_,Ext.alloc _ _⟩;rw[LH n h];exact Own.made w _ _ 1 _ 4 (Nat.le_refl _) Γ rfl
theorem ou(x:Int)(w:κ)(h0:-9223372036854775808<=x)(h1:x<=9223372036854775807):τ prog 30 #[x] w (zP w w.heap.size 5 1 none (dK (aV x))):=by
 obtain⟨i,hi,dx,dA,dN⟩:=info_parts dX;have DK:=OC h0 h1;rcases LD h0 with ⟨hx,hz⟩|⟨hx,hz⟩
 all_goals
  go_enter func30,ntmps30;go_wp2_with fail;clear hz;go_loopw [4,3] (fun v u wr=>OT w w.heap.size none [] x v u wr) (fun _ u _=>(intOf u).toNat)
  case atStart=>exact⟨none,0,0,[],Rj x,9,rfl,rfl,Own.dR _ _ _ _,cX.refl w _,oV.refl w _,rfl,by rw[Ig];omega,rfl,DK⟩
  case round =>
   obtain⟨B,m,d,pre,q,k,rfl,rfl,ho,hg,hw,hp,hq,hk,afy⟩:=hrel;have hm:m<=10:=by have:=ho.len;simp[ay]at this;omega
   have hbw:w.heap.size<=wr.heap.size:=hg.size;have Hp:=θ hp;have Hk:=θ hk;clear hp hk;go_wp2_with (at_builtin;refine ag _ rfl _ _ 30 rfl w.heap.size 5 i (.int .u8 0) 1 1 underlying30 hi dx dA dN rfl Γ B m d _ rfl ho 1 _ rfl rfl gA iQ η hbw ?_;intro B' d' w' wV lY hw')
   .go_roundw
    case rel=>exact Ii η hg hw Hp.o hq Hk.o afy wV lY hw'
    case measure=>exact dB
   .go_ret;exact RF (l:=[]) η hg hw Hp.o wV lY hw'
def vO(x:Nat):Nat:=if x % 2=1 then (x / 2) ^^^ 3988292384 else x / 2
def BN:Nat->Nat->Nat
 |0,x=>x
 |k+1,x=>vO (BN k x)
def yS(x:Nat)(b:UInt8):Nat:=BN 8 (x ^^^ b.toNat)
def sn(l:aD):Nat:=4294967295 ^^^ l.foldl yS 4294967295
theorem vP{a b:Nat}(ha:a<4294967296)(hb:b<4294967296):a ^^^ b<4294967296:=Nat.xor_lt_two_pow (n:=32) ha hb
theorem abj{x:Nat}(h:x<4294967296):vO x<4294967296:=by
 unfold vO;split
 .exact vP η Γ
 .omega
theorem DL{x:Nat}(h:x<4294967296):∀k,BN k x<4294967296
 |0=>h
 |k+1=>abj (DL h k)
theorem abk{x:Nat}(h:x<4294967296)(b:UInt8):yS x b<4294967296:=by have hb:b.toNat<256:=b.toNat_lt;exact DL (vP h η) 8
theorem qh:∀(l:aD) {x:Nat},x<4294967296->l.foldl yS x<4294967296
 | [],_,h=>h
 |b::l,_,h=>qh l (abk h b)
theorem Au(l:aD):sn l<4294967296:=vP Γ (qh l Γ)
theorem acL(n:Nat)(h:n<4294967296):bits BinOp.xor uK uK.max (n:Int)=((4294967295 ^^^ n:Nat):Int):=u32_xor_nat 4294967295 n Γ h
theorem Xx(q:Nat)(h:q<4294967296):bits .xor .u32 ((q:Int) / 2) (bits .and .u32 3988292384 (-bits .and .u32 (q:Int) 1 % 4294967296))=((vO q:Nat):Int):=by
 have ha:=u32_and_nat q 1 h Γ;rw[acI]at ha;rw[show((1:Nat):Int)=1 from rfl]at ha;rw[ha];have hq:((q:Int) / 2)=((q / 2:Nat):Int):=η;rw[hq];rcases acJ q with h2|h2
 .have h4:=u32_xor_nat (q / 2) 0 η Γ
  rw[Nat.xor_zero]at h4;have ng:vO q=q / 2:=by unfold vO;rw[h2];rfl
  rw[h2,ng];exact h4
 .have h4:=u32_xor_nat (q / 2) 3988292384 η Γ
  have ng:vO q=(q / 2) ^^^ 3988292384:=by unfold vO;rw[h2];rfl
  rw[h2,ng];exact h4
theorem Tx(q:Nat)(h:q<4294967296)(h2:q % 2=1):bits .xor .u32 ((q:Int) / 2) 3988292384=((vO q:Nat):Int):=by
 have h4:=u32_xor_nat (q / 2) 3988292384 η Γ;have ng:vO q=(q / 2) ^^^ 3988292384:=by unfold vO;rw[h2];rfl
 rw[show((q:Int) / 2)=((q / 2:Nat):Int) by omega,ng];exact h4
theorem EN(f:Nat->α->Nat)(x:Nat)(l:List α){j:Nat}(h:j<l.length):(l.take (j+1)).foldl f x=f ((l.take j).foldl f x) l[j]:=by rw[List.take_add_one,bf h,List.foldl_append];rfl
section
variable(w:κ)(A:aS)(n c:Nat)(l:aD)(hb:Rb w A n c l)
include hb
theorem Xy:τ prog 216 #[.int .u32 0,.slice A n c] w fun e w'=>e=.returned (.int .u32 (sn l:Nat))/\w'=w:=by
 have hn:=hb.len;have hmx:=hb.max;unfold maxLen at hmx;obtain⟨r,hr⟩:∃r,sn l=r:=⟨_,rfl⟩;rw[hr];have HR:=θ hr;clear hr;have hi:bits BinOp.xor uK uK.max 0=4294967295:=Γ;go_enter func216,ntmps216;go_wp2_with fail;go_loop [5,12] (fun s i=>∃(j:Nat),i=.int .i64 (j:Nat)/\j<=n/\s=.int .u32 ((l.take j).foldl yS 4294967295:Nat)) (fun _ i=>n-(intOf i).toNat)
 case atStart=>exact⟨0,rfl,aM _,bT⟩
 case round =>
  obtain⟨j,rfl,hj,rfl⟩:=hrel;have hy:=qh (l.take j) (x:=4294967295) Γ;by_cases mX:j<n
  .have iY:j<l.length:=by omega
   obtain⟨b,o,rfl,hc⟩:=hb.at_ iY;have eH:=EN yS 4294967295 l iY;have hv:(l[j]).toNat<256:=(l[j]).toNat_lt;have kR:=θ eH;clear eH;obtain⟨u,hu⟩:∃u,l[j]=u:=⟨_,rfl⟩;rw[hu]at hc hv;have Hu:=θ hu;clear hu;obtain⟨y,hyy⟩:∃y,(l.take j).foldl yS 4294967295=y:=⟨_,rfl⟩;rw[hyy]at hy⊢;have Hyy:=θ hyy;clear hyy;have hx:=u32_xor_nat y u.toNat hy η;have hz:=vP hy (show u.toNat<4294967296 by omega);have hC:yS y u=BN 8 (y ^^^ u.toNat):=rfl;generalize y ^^^ u.toNat=z at*;have HC:=θ hC;clear hC;go_wp2_with fail;go_loop [5,20] (fun s i=>∃(k:Nat),i=.int .i64 (k:Nat)/\k<=8/\s=.int .u32 (BN k z:Nat)) (fun _ i=>8-(intOf i).toNat)
   case atStart=>exact⟨0,rfl,aM _,rfl⟩
   case round =>
    obtain⟨k,rfl,hk,rfl⟩:=hrel;have hq:=DL hz k;have hs:BN (k+1) z=vO (BN k z):=rfl;by_cases hk8:k<8
    .have Hs:=θ hs
     clear hs;obtain⟨q,V0⟩:∃q,BN k z=q:=⟨_,rfl⟩;rw[V0]at hq⊢;have Hqq:=θ V0;clear V0;have hB:=Xx q hq;have HB:=θ hB;clear hB;go_wp2;go_round
     case rel=>exact⟨k+1,cR,η,by rw[Hs.o,Hqq.o,←HB.o]⟩
     case measure=>exact dB
    .obtain rfl:k=8:=by omega
     clear hs;go_wp2;go_round
     case rel=>exact⟨j+1,cR,η,by rw[kR.o,Hyy.o,Hu.o,HC.o]⟩
     case measure=>exact dB
  .obtain rfl:j=n:=by omega
   rw[hn,sU]at hy⊢;have h9:=acL _ hy;have h8:4294967295 ^^^ l.foldl yS 4294967295=r:=HR.o;rw[h8]at h9;clear h8;generalize l.foldl yS 4294967295=y at*;go_wp2;go_ret;exact⟨rfl,rfl⟩
theorem JS:τ prog 195 #[.slice A n c] w fun e w'=>e=.returned (.int .u32 (sn l:Nat))/\w'=w:=by have hm:=Xy w A n c l hb;go_enter func195,ntmps195;go_wp2_with fail;refine hm.mono ?_;rintro e w1 ⟨rfl,rfl⟩;go_wp2;go_ret;exact⟨rfl,rfl⟩
theorem EO:τ prog 33 #[.slice A n c] w fun e w'=>e=.returned (.int .u32 (sn l:Nat))/\w'=w:=by
 have hn:=hb.len;have hmx:=hb.max;unfold maxLen at hmx;obtain⟨r,hr⟩:∃r,sn l=r:=⟨_,rfl⟩;rw[hr];have HR:=θ hr;clear hr;go_enter func33,ntmps33;go_wp2_with fail;go_loop [3,4] (fun s i=>∃(j:Nat),i=.int .i64 (j:Nat)/\j<=n/\s=.int .u32 ((l.take j).foldl yS 4294967295:Nat)) (fun _ i=>n-(intOf i).toNat)
 case atStart=>exact⟨0,rfl,aM _,bT⟩
 case round =>
  obtain⟨j,rfl,hj,rfl⟩:=hrel;have hy:=qh (l.take j) (x:=4294967295) Γ;by_cases mX:j<n
  .have iY:j<l.length:=by omega
   obtain⟨b,o,rfl,hc⟩:=hb.at_ iY;have eH:=EN yS 4294967295 l iY;have hv:(l[j]).toNat<256:=(l[j]).toNat_lt;have kR:=θ eH;clear eH;obtain⟨u,hu⟩:∃u,l[j]=u:=⟨_,rfl⟩;rw[hu]at hc hv;have Hu:=θ hu;clear hu;obtain⟨y,hyy⟩:∃y,(l.take j).foldl yS 4294967295=y:=⟨_,rfl⟩;rw[hyy]at hy⊢;have Hyy:=θ hyy;clear hyy;have hx:=u32_xor_nat y u.toNat hy η;have hz:=vP hy (show u.toNat<4294967296 by omega);have hC:yS y u=BN 8 (y ^^^ u.toNat):=rfl;generalize y ^^^ u.toNat=z at*;have HC:=θ hC;clear hC;go_wp2_with fail;go_loop [3,5] (fun s i=>∃(k:Nat),i=.int .i64 (k:Nat)/\k<=8/\s=.int .u32 (BN k z:Nat)) (fun _ i=>8-(intOf i).toNat)
   case atStart=>exact⟨0,rfl,aM _,rfl⟩
   case round =>
    obtain⟨k,rfl,hk,rfl⟩:=hrel;have hq:=DL hz k;have hs:BN (k+1) z=vO (BN k z):=rfl;by_cases hk8:k<8
    .have Hs:=θ hs
     clear hs;obtain⟨q,V0⟩:∃q,BN k z=q:=⟨_,rfl⟩;rw[V0]at hq⊢;have Hqq:=θ V0;clear V0;rcases acJ q with h2|h2
     .have ng:vO q=q / 2:=by unfold vO;rw[h2];rfl
      have h5:((q:Int) % 2==1)=false:=kO;have Hb1:=θ ng;clear ng h2;go_wp2;go_round
      case rel=>exact⟨k+1,cR,η,by rw[Hs.o,Hqq.o,Hb1.o];simp⟩
      case measure=>exact dB
     .have ng:vO q=(q / 2) ^^^ 3988292384:=by unfold vO;rw[h2];rfl
      have h4:=θ (Tx q hq h2);have h5:((q:Int) % 2==1)=true:=by rw[beq_iff_eq];omega
      clear ng h2;go_wp2;go_round
      case rel=>exact⟨k+1,cR,η,by rw[Hs.o,Hqq.o,←h4.o]⟩
      case measure=>exact dB
    .obtain rfl:k=8:=by omega
     clear hs;go_wp2;go_round
     case rel=>exact⟨j+1,cR,η,by rw[kR.o,Hyy.o,Hu.o,HC.o]⟩
     case measure=>exact dB
  .obtain rfl:j=n:=by omega
   rw[hn,sU]at hy⊢;have h9:=acL _ hy;have h8:4294967295 ^^^ l.foldl yS 4294967295=r:=HR.o;rw[h8]at h9;clear h8;generalize l.foldl yS 4294967295=y at*;go_wp2;go_ret;exact⟨rfl,rfl⟩
end
theorem Xz{P:Program}(w:κ)(t:TypeId)(ht:P.underlying t=some .string)(l:aD)(j:Nat)(h:j<l.length):(Instr.index t (.string (bs l)) (j:ξ)).run P w=.ok (.int .u8 (bt l j:Nat)) w:=by
 have hs:j<(bs l).size:=by rw[mJ];exact h
 rw[run_index_string w t (bs l) .i64 j ht,dif_pos ⟨η,η⟩];have e:((bs l)[((j:Nat):Int).toNat]' η).toNat=bt l j:=by unfold bt bs;rw[List.getD_eq_getElem?_getD,bf h];rfl
 rw[e]
def acc(l:aD)(m:Nat):Nat->Nat
 |0=>0
 |1=>bt l 0 % m
 |j+2=>acc l m (j+1)*64+bt l (j+1) % 64
theorem ahx(l:aD):acc l 32 2=c2 l:=rfl
theorem ahy(l:aD):acc l 16 3=c3 l:=by
 show(bt l 0 % 16*64+bt l 1 % 64)*64+bt l 2 % 64=_
 unfold c3;omega
theorem ahz(l:aD):acc l 8 4=c4 l:=by
 show((bt l 0 % 8*64+bt l 1 % 64)*64+bt l 2 % 64)*64+bt l 3 % 64=_
 unfold c4;omega
theorem aec(h:bt l 0 / 32=6):dec l=if lH l 1/\128<=c2 l then (c2 l,2) else (65533,1):=by
 unfold dec;rw[if_neg η];by_cases h1:lH l 1
 .rw[if_pos ⟨h,h1⟩];exact rM ⟨fun a=>⟨h1,a⟩,fun a=>a.2⟩ _ _
 .rw[if_neg (fun a=>h1 a.2),if_neg η,if_neg η,if_neg (fun a=>h1 a.1)]
theorem aed(h:bt l 0 / 16=14):dec l=if lH l 1/\lH l 2/\2048<=c3 l/\¬(55296<=c3 l/\c3 l<57344) then (c3 l,3) else (65533,1):=by
 unfold dec;rw[if_neg η,if_neg η];by_cases h1:lH l 1/\lH l 2
 .rw[if_pos ⟨h,h1⟩];exact rM ⟨fun a=>⟨h1.1,h1.2,a⟩,fun a=>a.2.2⟩ _ _
 .rw[if_neg (fun a=>h1 a.2),if_neg η,if_neg (fun a=>h1 ⟨a.1,a.2.1⟩)]
theorem aee(h:bt l 0 / 8=30):dec l=if lH l 1/\lH l 2/\lH l 3/\65536<=c4 l/\c4 l<=1114111 then (c4 l,4) else (65533,1):=by
 unfold dec;rw[if_neg η,if_neg η,if_neg η];by_cases h1:lH l 1/\lH l 2/\lH l 3
 .rw[if_pos ⟨h,h1⟩];exact rM ⟨fun a=>⟨h1.1,h1.2.1,h1.2.2,a⟩,fun a=>a.2.2.2⟩ _ _
 .rw[if_neg (fun a=>h1 a.2),if_neg (fun a=>h1 ⟨a.1,a.2.1,a.2.2.1⟩)]
theorem XB(h0:128<=bt l 0)(h:bt l 0<192\/248<=bt l 0):dec l=(65533,1):=by have:=G6 l 0;unfold dec;rw[if_neg η,if_neg η,if_neg η,if_neg η]
theorem qi(h:l.length<=k\/bt l k<128\/191<bt l k):¬lH l k:=fun hc=>by have h1:=hc.1;have h2:=hc.2;omega
def OV(l:aD)(m n:Nat)(r i:ξ):Prop :=
 ∃j:Nat,i=.int .i64 (j:Nat)/\r=.int .i32 (acc l m j:Nat)/\1<=j/\j<=n/\∀k,1<=k->k<j->lH l k
theorem OW(w:κ)(l:aD)(hl:l.length<=1099511627776)(hl0:0<l.length):τ prog 94 #[.string (bs l)] w fun e w'=>e=.returned (.tuple #[.int .i32 ((dec l).1:Nat),((dec l).2:Nat)])/\w=w':=by
 have fV:(bs l).size=l.length:=mJ l;have amW:=G6 l 0;have Ij:∀W,(Instr.index 9 (.string (bs l)) (.int .i64 0)).run prog W=.ok (.int .u8 (bt l 0:Nat)) W:=fun W=>Xz W _ underlying9 l 0 hl0;have hne:l.isEmpty=false:=by
  cases l
  .simp at hl0
  .rfl
 have Ik:∀j,j<l.length->∀W,(Instr.index 9 (.string (bs l)) ((j:Nat):ξ)).run prog W=.ok (.int .u8 (bt l j:Nat)) W:=fun j hj W=>Xz W _ underlying9 l j hj;have Hix:=θ Ik;clear Ik fV;by_cases h1:bt l 0<128
 .rw[aa6 h1]
  go_enter func94,ntmps94;go_wp2;go_ret2
  exact⟨rfl,rfl⟩
 by_cases h2:bt l 0<192
 .rw[XB η (.inl h2)]
  go_enter func94,ntmps94;go_wp2;go_ret2
  exact⟨rfl,rfl⟩
 by_cases h3:bt l 0<224
 .have hd:=aec (l:=l) η
  have lS:=ahx l;by_cases hn:l.length<2
  .rw[if_neg (fun a=>absurd (a.1) (qi (.inl η)))]at hd
   rw[hd];clear hd lS;go_enter func94,ntmps94;go_wp2;go_ret2
   exact⟨rfl,rfl⟩
  .have Hd:=θ hd
   have Ha:=θ lS;clear hd lS;go_enter func94,ntmps94;go_wp2_with fail;go_loop [7,8] (fun r i=>OV l 32 2 r i) (fun _ i=>2-(intOf i).toNat)
   case atStart=>exact⟨1,rfl,by rw[show((bt l 0:Nat):Int)-192=((acc l 32 1:Nat):Int) by simp only[acc];omega],Γ,Γ,η⟩
   case round =>
    obtain⟨j,rfl,rfl,Ty,mX,hc⟩:=hrel;have lS:acc l 32 j<2048:=by rcases(show j=1\/j=2 by omega) with rfl|rfl<;>simp only[acc]<;>omega
    by_cases hj:j<2
    .have Ik:=Hix.o j η
     have acM:=G6 l j;by_cases ng:bt l j<128
     .have hd:=Hd.o
      rw[if_neg (fun a=>absurd (show lH l j by rcases(show j=1 by omega) with rfl<;>first|exact a.1|exact a.2.1|exact a.2.2.1) (qi (.inr (.inl ng))))]at hd
      have Hr:=θ hd;clear hd hc lS;go_wp2;go_ret2
      exact⟨rD,rfl⟩
     by_cases sj:191<bt l j
     .have hd:=Hd.o
      rw[if_neg (fun a=>absurd (show lH l j by rcases(show j=1 by omega) with rfl<;>first|exact a.1|exact a.2.1|exact a.2.2.1) (qi (.inr (.inr sj))))]at hd
      have Hr:=θ hd;clear hd hc lS;go_wp2;go_ret2
      exact⟨rD,rfl⟩
     .have lp:acc l 32 (j+1)=acc l 32 j*64+bt l j % 64:=by obtain⟨j,rfl⟩:∃k,j=k+1:=⟨j-1,η⟩;rfl
      have acN:acc l 32 j<32:=by rcases(show j=1 by omega) with rfl<;>simp only[acc]<;>omega
      have Hc:=θ hc;clear hc lS;go_wp2;go_round
      case rel =>
       refine⟨_,_,_,_,⟨j+1,cR,?_,η,η,fun k k1 k2=>?_⟩,rfl,rfl,rfl,rfl⟩
       .rw[lp];congr 1;omega
       .by_cases hkj:k=j
        .subst hkj;exact⟨η,η⟩
        .exact Hc.o k k1 η
      case measure=>exact dB
    .obtain rfl:j=2:=by omega
     have xP:lH l 1:=hc 1 Γ Γ;have hd:dec l=if 128<=acc l 32 2/\¬(55296<=acc l 32 2/\acc l 32 2<57344)/\acc l 32 2<=1114111 then (acc l 32 2,2) else (65533,1):=by
      rw[Hd.o,←Ha.o];refine rM ?_ _ _;constructor
      .intro h;exact⟨h.2,η,η⟩
      .intro h;exact⟨xP,h.1⟩
     clear hc Hd Ha Hix xP;generalize acc l 32 2=x at*;by_cases x1:x<128
     .rw[if_neg η]at hd
      have Hr:=θ hd;clear hd;have q1:((x:Int)<128)=True:=eq_true η;clear x1;go_wp2;go_ret2
      exact⟨rD,rfl⟩
     have q1:((x:Int)<128)=False:=eq_false η;by_cases x2:1114111<x
     .rw[if_neg η]at hd
      have Hr:=θ hd;clear hd;have q2:((1114111:Int)<x)=True:=eq_true η;clear x1 x2;go_wp2;go_ret2
      exact⟨rD,rfl⟩
     have q2:((1114111:Int)<x)=False:=eq_false η;by_cases x3:x<55296
     .rw[if_pos η]at hd
      have Hr:=θ hd;clear hd;have q3:((55296:Int)<=x)=False:=eq_false η;clear x1 x2 x3;go_wp2;go_ret2
      exact⟨rD,rfl⟩
     have q3:((55296:Int)<=x)=True:=eq_true η;by_cases x4:x<57344
     .rw[if_neg η]at hd
      have Hr:=θ hd;clear hd;have q4:((x:Int)<57344)=True:=eq_true η;clear x1 x2 x3 x4;go_wp2;go_ret2
      exact⟨rD,rfl⟩
     .rw[if_pos η]at hd
      have Hr:=θ hd;clear hd;have q4:((x:Int)<57344)=False:=eq_false η;clear x1 x2 x3 x4;go_wp2;go_ret2
      exact⟨rD,rfl⟩
 by_cases h4:bt l 0<240
 .have hd:=aed (l:=l) η
  have lS:=ahy l;by_cases hn:l.length<3
  .rw[if_neg (fun a=>absurd (a.2.1) (qi (.inl η)))]at hd
   rw[hd];clear hd lS;go_enter func94,ntmps94;go_wp2;go_ret2
   exact⟨rfl,rfl⟩
  .have Hd:=θ hd
   have Ha:=θ lS;clear hd lS;go_enter func94,ntmps94;go_wp2_with fail;go_loop [7,8] (fun r i=>OV l 16 3 r i) (fun _ i=>3-(intOf i).toNat)
   case atStart=>exact⟨1,rfl,by rw[show((bt l 0:Nat):Int)-224=((acc l 16 1:Nat):Int) by simp only[acc];omega],Γ,Γ,η⟩
   case round =>
    obtain⟨j,rfl,rfl,Ty,mX,hc⟩:=hrel;have lS:acc l 16 j<65536:=by rcases(show j=1\/j=2\/j=3 by omega) with rfl|rfl|rfl<;>simp only[acc]<;>omega
    by_cases hj:j<3
    .have Ik:=Hix.o j η
     have acM:=G6 l j;by_cases ng:bt l j<128
     .have hd:=Hd.o
      rw[if_neg (fun a=>absurd (show lH l j by rcases(show j=1\/j=2 by omega) with rfl|rfl<;>first|exact a.1|exact a.2.1|exact a.2.2.1) (qi (.inr (.inl ng))))]at hd
      have Hr:=θ hd;clear hd hc lS;go_wp2;go_ret2
      exact⟨rD,rfl⟩
     by_cases sj:191<bt l j
     .have hd:=Hd.o
      rw[if_neg (fun a=>absurd (show lH l j by rcases(show j=1\/j=2 by omega) with rfl|rfl<;>first|exact a.1|exact a.2.1|exact a.2.2.1) (qi (.inr (.inr sj))))]at hd
      have Hr:=θ hd;clear hd hc lS;go_wp2;go_ret2
      exact⟨rD,rfl⟩
     .have lp:acc l 16 (j+1)=acc l 16 j*64+bt l j % 64:=by obtain⟨j,rfl⟩:∃k,j=k+1:=⟨j-1,η⟩;rfl
      have acN:acc l 16 j<1024:=by rcases(show j=1\/j=2 by omega) with rfl|rfl<;>simp only[acc]<;>omega
      have Hc:=θ hc;clear hc lS;go_wp2;go_round
      case rel =>
       refine⟨_,_,_,_,⟨j+1,cR,?_,η,η,fun k k1 k2=>?_⟩,rfl,rfl,rfl,rfl⟩
       .rw[lp];congr 1;omega
       .by_cases hkj:k=j
        .subst hkj;exact⟨η,η⟩
        .exact Hc.o k k1 η
      case measure=>exact dB
    .obtain rfl:j=3:=by omega
     have xP:lH l 1/\lH l 2:=⟨hc 1 Γ Γ,hc 2 Γ Γ⟩;have hd:dec l=if 2048<=acc l 16 3/\¬(55296<=acc l 16 3/\acc l 16 3<57344)/\acc l 16 3<=1114111 then (acc l 16 3,3) else (65533,1):=by
      rw[Hd.o,←Ha.o];refine rM ?_ _ _;constructor
      .intro h;exact⟨h.2.2.1,h.2.2.2,η⟩
      .intro h;exact⟨xP.1,xP.2,h.1,h.2.1⟩
     clear hc Hd Ha Hix xP;generalize acc l 16 3=x at*;by_cases x1:x<2048
     .rw[if_neg η]at hd
      have Hr:=θ hd;clear hd;have q1:((x:Int)<2048)=True:=eq_true η;clear x1;go_wp2;go_ret2
      exact⟨rD,rfl⟩
     have q1:((x:Int)<2048)=False:=eq_false η;by_cases x2:1114111<x
     .rw[if_neg η]at hd
      have Hr:=θ hd;clear hd;have q2:((1114111:Int)<x)=True:=eq_true η;clear x1 x2;go_wp2;go_ret2
      exact⟨rD,rfl⟩
     have q2:((1114111:Int)<x)=False:=eq_false η;by_cases x3:x<55296
     .rw[if_pos η]at hd
      have Hr:=θ hd;clear hd;have q3:((55296:Int)<=x)=False:=eq_false η;clear x1 x2 x3;go_wp2;go_ret2
      exact⟨rD,rfl⟩
     have q3:((55296:Int)<=x)=True:=eq_true η;by_cases x4:x<57344
     .rw[if_neg η]at hd
      have Hr:=θ hd;clear hd;have q4:((x:Int)<57344)=True:=eq_true η;clear x1 x2 x3 x4;go_wp2;go_ret2
      exact⟨rD,rfl⟩
     .rw[if_pos η]at hd
      have Hr:=θ hd;clear hd;have q4:((x:Int)<57344)=False:=eq_false η;clear x1 x2 x3 x4;go_wp2;go_ret2
      exact⟨rD,rfl⟩
 by_cases h5:bt l 0<248
 .have hd:=aee (l:=l) η
  have lS:=ahz l;by_cases hn:l.length<4
  .rw[if_neg (fun a=>absurd (a.2.2.1) (qi (.inl η)))]at hd
   rw[hd];clear hd lS;go_enter func94,ntmps94;go_wp2;go_ret2
   exact⟨rfl,rfl⟩
  .have Hd:=θ hd
   have Ha:=θ lS;clear hd lS;go_enter func94,ntmps94;go_wp2_with fail;go_loop [7,8] (fun r i=>OV l 8 4 r i) (fun _ i=>4-(intOf i).toNat)
   case atStart=>exact⟨1,rfl,by rw[show((bt l 0:Nat):Int)-240=((acc l 8 1:Nat):Int) by simp only[acc];omega],Γ,Γ,η⟩
   case round =>
    obtain⟨j,rfl,rfl,Ty,mX,hc⟩:=hrel;have lS:acc l 8 j<2097152:=by rcases(show j=1\/j=2\/j=3\/j=4 by omega) with rfl|rfl|rfl|rfl<;>simp only[acc]<;>omega
    by_cases hj:j<4
    .have Ik:=Hix.o j η
     have acM:=G6 l j;by_cases ng:bt l j<128
     .have hd:=Hd.o
      rw[if_neg (fun a=>absurd (show lH l j by rcases(show j=1\/j=2\/j=3 by omega) with rfl|rfl|rfl<;>first|exact a.1|exact a.2.1|exact a.2.2.1) (qi (.inr (.inl ng))))]at hd
      have Hr:=θ hd;clear hd hc lS;go_wp2;go_ret2
      exact⟨rD,rfl⟩
     by_cases sj:191<bt l j
     .have hd:=Hd.o
      rw[if_neg (fun a=>absurd (show lH l j by rcases(show j=1\/j=2\/j=3 by omega) with rfl|rfl|rfl<;>first|exact a.1|exact a.2.1|exact a.2.2.1) (qi (.inr (.inr sj))))]at hd
      have Hr:=θ hd;clear hd hc lS;go_wp2;go_ret2
      exact⟨rD,rfl⟩
     .have lp:acc l 8 (j+1)=acc l 8 j*64+bt l j % 64:=by obtain⟨j,rfl⟩:∃k,j=k+1:=⟨j-1,η⟩;rfl
      have acN:acc l 8 j<32768:=by rcases(show j=1\/j=2\/j=3 by omega) with rfl|rfl|rfl<;>simp only[acc]<;>omega
      have Hc:=θ hc;clear hc lS;go_wp2;go_round
      case rel =>
       refine⟨_,_,_,_,⟨j+1,cR,?_,η,η,fun k k1 k2=>?_⟩,rfl,rfl,rfl,rfl⟩
       .rw[lp];congr 1;omega
       .by_cases hkj:k=j
        .subst hkj;exact⟨η,η⟩
        .exact Hc.o k k1 η
      case measure=>exact dB
    .obtain rfl:j=4:=by omega
     have xP:lH l 1/\lH l 2/\lH l 3:=⟨hc 1 Γ Γ,hc 2 Γ Γ,hc 3 Γ Γ⟩;have hd:dec l=if 65536<=acc l 8 4/\¬(55296<=acc l 8 4/\acc l 8 4<57344)/\acc l 8 4<=1114111 then (acc l 8 4,4) else (65533,1):=by
      rw[Hd.o,←Ha.o];refine rM ?_ _ _;constructor
      .intro h;exact⟨h.2.2.2.1,η,h.2.2.2.2⟩
      .intro h;exact⟨xP.1,xP.2.1,xP.2.2,h.1,h.2.2⟩
     clear hc Hd Ha Hix xP;generalize acc l 8 4=x at*;by_cases x1:x<65536
     .rw[if_neg η]at hd
      have Hr:=θ hd;clear hd;have q1:((x:Int)<65536)=True:=eq_true η;clear x1;go_wp2;go_ret2
      exact⟨rD,rfl⟩
     have q1:((x:Int)<65536)=False:=eq_false η;by_cases x2:1114111<x
     .rw[if_neg η]at hd
      have Hr:=θ hd;clear hd;have q2:((1114111:Int)<x)=True:=eq_true η;clear x1 x2;go_wp2;go_ret2
      exact⟨rD,rfl⟩
     have q2:((1114111:Int)<x)=False:=eq_false η;by_cases x3:x<55296
     .rw[if_pos η]at hd
      have Hr:=θ hd;clear hd;have q3:((55296:Int)<=x)=False:=eq_false η;clear x1 x2 x3;go_wp2;go_ret2
      exact⟨rD,rfl⟩
     have q3:((55296:Int)<=x)=True:=eq_true η;by_cases x4:x<57344
     .rw[if_neg η]at hd
      have Hr:=θ hd;clear hd;have q4:((x:Int)<57344)=True:=eq_true η;clear x1 x2 x3 x4;go_wp2;go_ret2
      exact⟨rD,rfl⟩
     .rw[if_pos η]at hd
      have Hr:=θ hd;clear hd;have q4:((x:Int)<57344)=False:=eq_false η;clear x1 x2 x3 x4;go_wp2;go_ret2
      exact⟨rD,rfl⟩
 .rw[XB η (.inr η)]
  go_enter func94,ntmps94;go_wp2;go_ret2
  exact⟨rfl,rfl⟩
theorem XC:(prog.info? 21).map (fun i=>(i.zero,i.size,i.bytes))=some (some (.int .i32 0),1,4):=ey
@[go_sem] theorem acu (l:aD) (a:Nat):(bs l).extract a l.length=bs (l.drop a):=by
 have h:((bs l).extract a l.length).data.toList=l.drop a:=by rw[ByteArray.data_extract,Array.toList_extract,aa2,List.extract_eq_take_drop];exact List.take_of_length_le tU
 rw[←ahn ((bs l).extract a l.length),h]
def XD(l:List (Nat×Nat)):List ξ:=l.map fun x=>.int .i32 (x.1:Nat)
theorem OX(l):(XD l).length=l.length:=List.length_map _
theorem OY(a b):XD (a++b)=XD a++XD b:=List.map_append
def abl(w:κ)(l:aD)(r:Ending)(w':κ):Prop :=
 ∃B d,r=.returned (.tuple #[.slice B (rs l).length d,.bool (G7 l)])/\Own w' w.heap.size 21 1 B (rs l).length d (XD (rs l))/\Ext w w'
def XE(w:κ)(l:aD)(s b g:ξ)(w':κ):Prop :=
 ∃(t:aD) (done:List (Nat×Nat)) (B:aS) (d:Nat),s=.string (bs t)/\b=.slice B done.length d/\Own w' w.heap.size 21 1 B done.length d (XD done)/\Ext w w' /\
  rs l=done++rs t/\g=.bool (done.all rN)/\done.length+t.length<=l.length
def lenOf(v:ξ):Nat:=match v with|.string s=>s.size|_=>0
theorem wW{t:aD}{done:List (Nat×Nat)}{B':aS}(ho:Own wr w.heap.size 21 1 B done.length d (XD done))(he:Ext w wr)(hlen:done.length+t.length<=l.length)(h0:0<t.length)(Il:rs t=dec t::rs (t.drop (dec t).2))(hr:rs l=done++rs t)(wV:Own w' w.heap.size 21 1 B' (done.length+1) d' (XD done++[.int .i32 ((dec t).1:Nat)]))(lY:wr.grownBy w' (bn B))(q:Bool)(hq:(done.all rN&&rN (dec t))=q):XE w l (.string (bs (t.drop (dec t).2))) (.slice B' (done.length+1) d') (.bool q) w':=by
 have h1:=(wP t).1;have h2:=OL h0;refine⟨_,done++[dec t],B',d',rfl,bT,?_,?_,?_,?_,?_⟩
 .rw[OY];simpa [XD] using wV
 .exact Below.trans he (fW lY he.size fun k hk=>by
   rcases B with _|⟨b⟩
   .cases hk
   .cases hk;exact(ho.gU _ rfl).1)
 .rw[hr,Il];simp
 .rw[←hq];simp
 .rw[List.length_append,List.length_drop];simp;omega
theorem Im(w:κ)(l:aD)(hl:l.length<=1099511627776):τ prog 57 #[.string (bs l)] w (abl w l):=by
 obtain⟨i,hi,dx,dA,dN⟩:=info_parts XC;go_enter func57,ntmps57;go_wp2_with fail;go_loopw [0,4,5] (fun s b g w'=>XE w l s b g w') (fun s _ _ _=>lenOf s)
 case atStart=>exact⟨l,[],none,0,rfl,rfl,Own.dR _ _ _ _,Ext.refl _,rfl,rfl,bT⟩
 case round =>
  obtain⟨t,done,B,d,rfl,rfl,ho,he,hr,rfl,hlen⟩:=hrel;by_cases ht:t=[]
  .subst ht
   go_wp2;go_ret2
   rw[adZ,List.append_nil]at hr;subst hr;exact⟨_,_,rfl,ho,he⟩
  .have h0:0<t.length:=List.length_pos_iff.mpr ht
   have hp:=(wP t).1;have hd:=OL h0;have Il:=θ (Rt ht);have Hr:=θ hr;clear hr;go_wp2_with fail;refine(OW _ t η h0).mono ?_;rintro e w1 ⟨rfl,rfl⟩;cases bW:done.all rN
   .go_wp2_with (at_builtin;refine ag _ rfl _ _ 144 rfl w.heap.size 21 i (.int .i32 0) 1 4 underlying144 hi dx dA dN rfl Γ B done.length d _ rfl ho 1 _ rfl rfl gA iQ η he.size ?_;intro B' d' w' wV lY hw')
    go_roundw
    case rel=>exact wW ho he hlen h0 Il.o Hr.o wV lY false (by rw[bW];rfl)
    case measure=>simp[lenOf,mJ];omega
   .by_cases h1:(dec t).1=65533
    .by_cases h2:(dec t).2=3
     .have hq:rN (dec t)=true:=by simp[rN,h1,h2]
      go_wp2_with (at_builtin;refine ag _ rfl _ _ 144 rfl w.heap.size 21 i (.int .i32 0) 1 4 underlying144 hi dx dA dN rfl Γ B done.length d _ rfl ho 1 _ rfl rfl gA iQ η he.size ?_;intro B' d' w' wV lY hw')
      go_roundw
      case rel=>rw[←h2];exact wW ho he hlen h0 Il.o Hr.o (by rw[h1];exact wV) lY true (by rw[bW,hq];rfl)
      case measure=>simp[lenOf,mJ];omega
     .have hq:rN (dec t)=false:=by simp[rN,h1,h2]
      have hb:(((dec t).2:Int)==3)=false:=kO;go_wp2_with (at_builtin;refine ag _ rfl _ _ 144 rfl w.heap.size 21 i (.int .i32 0) 1 4 underlying144 hi dx dA dN rfl Γ B done.length d _ rfl ho 1 _ rfl rfl gA iQ η he.size ?_;intro B' d' w' wV lY hw');go_roundw
      case rel=>exact wW ho he hlen h0 Il.o Hr.o (by rw[h1];exact wV) lY false (by rw[bW,hq];rfl)
      case measure=>simp[lenOf,mJ];omega
    .have hq:rN (dec t)=true:=by simp[rN,h1]
     go_wp2_with (at_builtin;refine ag _ rfl _ _ 144 rfl w.heap.size 21 i (.int .i32 0) 1 4 underlying144 hi dx dA dN rfl Γ B done.length d _ rfl ho 1 _ rfl rfl gA iQ η he.size ?_;intro B' d' w' wV lY hw')
     go_roundw
     case rel=>exact wW ho he hlen h0 Il.o Hr.o wV lY true (by rw[bW,hq];rfl)
     case measure=>simp[lenOf,mJ];omega
theorem RI{e:TypeId}{xs:List (Nat×Nat)}(h:Own w base e 1 B n d (XD xs))(hk:k<xs.length):∃b o,B=some ⟨b,o,none⟩/\w.cell? ⟨b,o+k,none⟩=some (.int .i32 (xs[k].1:Nat)):=by
 have hn:n=xs.length:=by have:=h.rd.1;rw[OX]at this;omega
 obtain⟨b,o,e1,u,hu,hc⟩:=h.rd.at_ (k:=k) η;refine⟨b,o,e1,?_⟩;unfold XD at hu;rw[List.getElem?_map,bf hk]at hu;rw[hc,←hu];rfl
def ahA(l:aD)(i:ξ):Prop:=∃j:Nat,i=.int .i64 j/\j<=(rs l).length/\(rs l).all kA=((rs l).drop j).all kA
theorem OZ(w:κ)(l:aD)(hl:l.length<=1099511627776):τ prog 135 #[.string (bs l)] w fun e w'=>e=.returned (.bool (gY l))/\Ext w w':=by
 go_enter func135,ntmps135;go_wp2_with fail;refine(Im w l hl).mono ?_;rintro e w1 ⟨B,d,rfl,ho,e1⟩;cases hg:G7 l
 .go_wp2;go_ret;exact⟨by simp[gY,hg],e1⟩
 by_cases h1:(rs l).length<1
 .go_wp2;go_ret;exact⟨by simp[gY];omega,e1⟩
 by_cases h2:20<(rs l).length
 .go_wp2;go_ret;exact⟨by simp[gY];omega,e1⟩
 go_wp2_with fail;go_loop [5] (fun i=>ahA l i) (fun i=>20-(intOf i).toNat)
 case atStart=>exact⟨0,rfl,aM _,rfl⟩
 case round =>
  obtain⟨j,rfl,hj,ha⟩:=hrel;by_cases aX:j<(rs l).length
  .obtain⟨b,o,rfl,uL⟩:=RI ho aX
   rw[yo aX,Tk]at ha;have Ha:=θ ha;clear ha;generalize hx:(rs l)[j]=x at*;by_cases k1:x.1<32
   .go_wp2_with fail
    go_ret;have:kA x=false:=by simp[kA];omega
    exact⟨by simp[gY,Ha.o,this],e1⟩
   by_cases k2:x.1=127
   .go_wp2_with fail
    go_ret;have:kA x=false:=by simp[kA,k2]
    exact⟨by simp[gY,Ha.o,this],e1⟩
   .have hb:((x.1:Int)==127)=false:=by rw[beq_eq_false_iff_ne];omega
    have vQ:kA x=true:=by simp[kA,k2];omega
    go_wp2;go_round
    case rel=>exact⟨j+1,cR,aX,by rw[Ha.o,vQ];rfl⟩
    case measure=>exact dB
  .have ha':=ha;rw[Jt η]at ha';clear ha;go_wp2;go_ret;exact⟨by simp[gY,ha',hg];omega,e1⟩
theorem ow(w:κ)(n:Int){b:Bool}(hb:mH n=b):τ prog 136 #[n] w fun e w'=>e=.returned (.bool b)/\w=w':=by
 subst hb;unfold mH;by_cases h:-2147483648<=n
 .go_enter func136,ntmps136;go_wp2;go_ret;exact⟨by rw[zF h];rfl,rfl⟩
 .go_enter func136,ntmps136;go_wp2;go_ret;exact⟨by rw[zG (show ¬ -2147483648<=n by omega)];rfl,rfl⟩
def fX(t:aD)(A:aS)(n c:Nat):ξ:=.agg #[.string (bs t),.slice A n c]
def ahB(l:List dM)(w:κ)(i:ξ)(w':κ):Prop:=∃k:Nat,i=.int .i64 (k:Nat)/\k<=l.length/\l.all eT=(l.drop k).all eT/\Ext w w'
theorem XF(w:κ)(t:aD)(A:aS)(n c:Nat)(l:List dM)(ht:t.length<=1099511627776)(hl:Ro w A n c l):τ prog 92 #[fX t A n c] w fun e w'=>e=.returned (.bool (nu t l))/\Ext w w':=by
 unfold fX;have hn:=hl.len;have hmx:=hl.max;unfold maxLen at hmx;subst hn;go_enter func92,ntmps92;go_wp2_with fail;refine(OZ _ t ht).mono ?_;rintro e w1 ⟨rfl,e1⟩;have e2:=(Ext.alloc w _).trans e1;have c0:=e1.cell (show(w.alloc (.cells #[.string (bs t),.slice A l.length c] 65)).cell? w.heap.size=some (.string (bs t)) by go_simp);have c1:=e1.cell (show(w.alloc (.cells #[.string (bs t),.slice A l.length c] 65)).cell? (w.heap.size,1)=some (.slice A l.length c) by go_simp);by_cases aX:gY t=false\/l.length<1\/64<l.length
 .have Hf:Hq (nu t l=false):=θ (by
   unfold nu;rcases aX with h|h|h
   .rw[h];rfl
   .rw[zG (show ¬ 1<=l.length by omega)];simp
   .rw[zG (show ¬l.length<=64 by omega)];simp)
  cases JT:gY t
  .clear aX;go_wp2;go_ret;exact⟨by rw[Hf.o];rfl,e2⟩
  .rw[JT]at aX
   by_cases h1:l.length<1
   .go_wp2;go_ret;exact⟨by rw[Hf.o];rfl,e2⟩
   .have h2:64<l.length:=by rcases aX with h|h|h<;>first|cases h|omega
    clear aX;go_wp2;go_ret;exact⟨by rw[Hf.o];rfl,e2⟩
 have JT:gY t=true:=by cases h:gY t<;>simp[h]at aX⊢
 have h1:1<=l.length:=η;have h2:l.length<=64:=η;have Hf:Hq (nu t l=l.all eT):=θ (by unfold nu;rw[JT,zF h1,zF h2];rfl);rw[JT];clear aX JT;go_wp2_with fail;go_loopw [3] (fun i w'=>ahB l w1 i w') (fun i _=>l.length-(intOf i).toNat)
 case atStart=>exact⟨0,rfl,aM _,rfl,Ext.refl _⟩
 case round =>
  obtain⟨k,rfl,hk,ha,he⟩:=hrel;have d1:=he.cell c1;have Ha:=θ ha;clear ha;by_cases aX:k<l.length
  .obtain⟨b,o,rfl,g0,g1,g2,g3⟩:=(hl.ext (e2.trans he)).at_ aX
   have Hs:=θ (show(l.drop k).all eT=(eT l[k]&&(l.drop (k+1)).all eT) by rw[yo aX,Tk]);generalize l[k]=op at*;obtain⟨x,a,b',c'⟩:=op;dsimp only at g0 g1 g2 g3
   cases q0:mH x
   .go_wp2_with fail;refine(ow _ x q0).mono ?_;rintro e w2 ⟨rfl,rfl⟩;have Q0:=θ q0;clear q0;go_wp2;go_ret;exact⟨by rw[Hf.o,Ha.o,Hs.o];simp[eT,Q0.o],e2.trans (he.trans (Ext.alloc _ _))⟩
   go_wp2_with fail;refine(ow _ x q0).mono ?_;rintro e w2 ⟨rfl,rfl⟩;have Q0:=θ q0;clear q0;cases q1:mH a
   .go_wp2_with fail;refine(ow _ a q1).mono ?_;rintro e w2 ⟨rfl,rfl⟩;have Q1:=θ q1;clear q1;go_wp2;go_ret;exact⟨by rw[Hf.o,Ha.o,Hs.o];simp[eT,Q1.o],e2.trans (he.trans (Ext.alloc _ _))⟩
   go_wp2_with fail;refine(ow _ a q1).mono ?_;rintro e w2 ⟨rfl,rfl⟩;have Q1:=θ q1;clear q1;cases q2:mH b'
   .go_wp2_with fail;refine(ow _ b' q2).mono ?_;rintro e w2 ⟨rfl,rfl⟩;have Q2:=θ q2;clear q2;go_wp2;go_ret;exact⟨by rw[Hf.o,Ha.o,Hs.o];simp[eT,Q2.o],e2.trans (he.trans (Ext.alloc _ _))⟩
   go_wp2_with fail;refine(ow _ b' q2).mono ?_;rintro e w2 ⟨rfl,rfl⟩;have Q2:=θ q2;clear q2;cases q3:mH c'
   .go_wp2_with fail;refine(ow _ c' q3).mono ?_;rintro e w2 ⟨rfl,rfl⟩;have Q3:=θ q3;clear q3;go_wp2;go_ret;exact⟨by rw[Hf.o,Ha.o,Hs.o];simp[eT,Q3.o],e2.trans (he.trans (Ext.alloc _ _))⟩
   go_wp2_with fail;refine(ow _ c' q3).mono ?_;rintro e w2 ⟨rfl,rfl⟩;have Q3:=θ q3;clear q3;go_wp2;go_roundw
   case rel=>exact⟨k+1,cR,aX,by rw[Ha.o,Hs.o];simp[eT,Q0.o,Q1.o,Q2.o,Q3.o],he.trans (Ext.alloc _ _)⟩
   case measure=>exact dB
  .obtain rfl:k=l.length:=by omega
   go_wp2;go_ret;exact⟨by rw[Hf.o,Ha.o,List.drop_length];rfl,e2.trans he⟩

end Go.Proofs.YtffcefoadaogbaaGreat
