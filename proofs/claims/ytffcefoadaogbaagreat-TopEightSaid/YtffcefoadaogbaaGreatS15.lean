/- A part of the proof. -/
import Derived.Test.YtffcefoadaogbaaGreatS10
namespace Go.Proofs.YtffcefoadaogbaaGreat
open Go.RowKit
open Go.Proofs.Tryz
set_option linter.all false
set_option maxRecDepth 100000
set_option maxHeartbeats 16000000
section
variable {w w' w1:World}{g n c1 c2 c3 c4:Nat}
def agX(w0:World)(g n c c1 c2 c3 c4 k:Nat):Prop:=∀W a m b,Sw g n w0 W->b-a<=k->a<m->m<b->b<=n->Calls prog 331 #[.slice g n c,(a:Nat),(m:Nat),(b:Nat),vX c1 c2 c3 c4] W fun e w'=>e=.returned (.tuple #[])/\Sw g n W w'
theorem Qt(w:World)(c:Nat)(h:Zs w g n)(hn:n<=256)(a m b k:Nat)(ha:a+1<m)(hm:m+1<b)(hb:b<=n)(hk:b-a<=k+1)(hC:Cmp w g c1 c2 c3 c4)(hR:agX w g n c c1 c2 c3 c4 k):Calls prog 331 #[.slice g n c,a,m,b,vX c1 c2 c3 c4] w fun e w'=>e=.returned (.tuple #[])/\Sw g n w w':=by
 have HZ0:=θ h;have HC:=θ fun W (hs:Sw g n w W)=>hC.grown hs.1;have ajo:=θ fun W (hs:Sw g n w W) a m b h1 h2 h3=>MD W c hs.2 hn a m b h1 h2 h3 (vX c1 c2 c3 c4);have HR:=θ hR;have pz:=ej ((m:Int)-(a:Int));have he1:((m:Int)-(a:Int)==1)=false:=kO;have xZ:=ej ((b:Int)-(m:Int));have he2:((b:Int)-(m:Int)==1)=false:=kO;obtain⟨d,hd,Di,Gj⟩:∃d:Nat,((a:Int)+(b:Int)) / 2=(d:Nat)/\2*d<=a+b/\a+b<=2*d+1:=⟨(a+b) / 2,η,η,η⟩;have Uj:=ej ((d:Int)+(m:Int));unfold agX vX at HR;unfold vX at ajo;unfold vX;clear h hC hR;go_enter func331,ntmps331;go_upto_if 140 with fail
 go_cut [20,21] (fun sv rv wx=>∃s r:Nat,sv=.int .i64 (s:Nat)/\rv=.int .i64 (r:Nat)/\wx=w/\((d<m/\s+b=d+m/\r=d)\/(m<=d/\s=a/\r=m)))
 case first =>
  as_aux_lemma =>
  by_cases hdm:d<m
  .have Sd:=ej ((d:Int)+(m:Int)-(b:Int))
   go_wp2_with fail;go_meet
   exact⟨d+m-b,d,OB,rfl,rfl,.inl ⟨hdm,η,rfl⟩⟩
  .go_wp2_with fail
   go_meet
   exact⟨a,m,rfl,rfl,rfl,.inr ⟨η,rfl,rfl⟩⟩
 case rest =>
  as_aux_lemma =>
  obtain⟨s,r,rfl,rfl,hwc,hsr⟩:=hcut;have hwc:=hwc.symm;subst hwc;have anv:a<=s/\s<=r/\r<=m/\r<=d/\d+m<=s+b:=η;have hw5:=ej ((d:Int)+(m:Int)-1);go_wp2_with fail;go_loopw [20,21] (fun iv jv wr=>∃i j:Nat,iv=.int .i64 (i:Nat)/\jv=.int .i64 (j:Nat)/\s<=i/\i<=j/\j<=r/\Sw g n w wr) (fun iv jv _=>(intOf jv).toNat-(intOf iv).toNat)
  case atStart=>exact⟨s,r,rfl,rfl,η,η,η,Sw.refl HZ0.o⟩
  case round =>
   as_aux_lemma =>
   obtain⟨i,j,rfl,rfl,hi1,yh,hjb,hS⟩:=hrel;have HS:=θ hS;have HZ:=θ hS.2;have HCx:=θ (HC.o wr hS);clear hS;by_cases aX:i<j
   .obtain⟨q,hh,hih,hhj⟩:∃q:Nat,((i:Int)+(j:Int)) / 2=(q:Nat)/\i<=q/\q<j:=⟨(i+j) / 2,η,η,η⟩
    obtain⟨pc,Km⟩:∃pc:Nat,(d:Int)+(m:Int)-1-(q:Int)=(pc:Nat):=⟨d+m-1-q,η⟩;have Md:pc<n:=η;have anw:=dQ (pc<n) Md;have hw6:=ej (pc:Int);have hnh:(q<n)=True:=eq_true η;have ai8:=dQ (q<n);have hwh:=ej ((q:Int)+1);go_wp2_with fail;clear hh;apply Ar 12 (zR g n) (fun _=>zR g n) (fun _ _=>True) (fun _=>trivial);simp only[tk];repeat apply gF (fun _ _ _ _=>trivial)
    apply aE (p:=vW) Γ Γ vW.aQ
    .rfl
    .intro W hR hJ υ;obtain⟨x,h1,_⟩:=hR.2 HZ.o (pc) η;refine⟨_,W,?_,zR.refl _,zR.refl _,x,rfl⟩;go_simp;first|done|rfl
    intro v6;simp only[pu];repeat apply gF (fun _ _ _ _=>trivial)
    apply aE (p:=vW) Γ Γ vW.aQ
    .rfl
    .intro W hR hJ υ;obtain⟨x,h1,_⟩:=hR.2 HZ.o (q) η;refine⟨_,W,?_,zR.refl _,zR.refl _,x,rfl⟩;go_simp;first|done|rfl
    intro v10;simp only[pu];apply uI (p:=zi) Γ Γ zi.aQ
    .intro W hR hJ υ;obtain⟨x1,rfl⟩:=υ.2.1 rfl;obtain⟨x2,rfl⟩:=υ.1 rfl;refine(HCx.o W x1 x2 hR.1).mono ?_;rintro e w' ⟨⟨q,rfl⟩,ee⟩;exact⟨_,rfl,zR.ai ee,zR.ai ee,q,rfl⟩
    intro v11;simp only[pu];refine aP ?_;intro Wx zm gT υ;obtain⟨u,rfl⟩:=υ.1 rfl;clear υ gT;simp only[dk];have MQ:=θ (HS.o.trans (zm.sw HZ.o));clear zm;by_cases hq:u<0
    .go_wp2_with fail
     go_roundw
     case rel=>exact⟨i,q,rfl,rfl,η,η,η,MQ.o⟩
     exact dB
    .go_wp2_with fail
     go_roundw
     case rel=>exact⟨q+1,j,cR,rfl,η,η,η,MQ.o⟩
     exact dB
   .have hd9:=dh (i<j) aX
    obtain rfl:i=j:=η;obtain⟨e,hee⟩:∃e:Nat,(d:Int)+(m:Int)-(i:Int)=(e:Nat):=⟨d+m-i,η⟩;have hw7:=ej (e:Int);have anx:e+i<=d+m/\d+m<=e+i:=η;go_upto_region 39 with fail
    clear hee;go_cut [185] (fun bv wx=>∃bo:Bool,bv=.bool bo/\(bo=true↔i<m/\m<e)/\wx=wr)
    case first =>
     as_aux_lemma =>
     by_cases p1:i<m
     .by_cases p2:m<e
      .go_wp2_with fail
       go_meet
       exact⟨true,rfl,⟨fun _=>⟨p1,p2⟩,fun _=>rfl⟩,rfl⟩
      .go_wp2_with fail
       go_meet
       exact⟨false,rfl,⟨fun h=>absurd h Γ,fun h=>absurd h.2 p2⟩,rfl⟩
     .go_wp2_with fail
      go_meet
      exact⟨false,rfl,⟨fun h=>absurd h Γ,fun h=>absurd h.1 p1⟩,rfl⟩
    case rest =>
     as_aux_lemma =>
     obtain⟨bo,rfl,hbo,FF⟩:=hcut;have FF:=FF.symm;subst FF;go_upto_if 185 with fail
     go_cut [] (fun wx=>Sw g n w wx)
     case first =>
      as_aux_lemma =>
      cases bo with
      |true =>
       obtain⟨p1,p2⟩:=hbo.1 rfl;have HX:=θ (ajo.o _ HS.o i m e p1 p2 η);go_wp2_with fail;refine HX.o.mono ?_;rintro e5 w5 ⟨rfl,Qu⟩;have hS6:=HS.o.trans Qu;go_wp2_with fail;go_meet
       exact hS6
      |false =>
       go_wp2_with fail;go_meet
       exact HS.o
     case rest =>
      as_aux_lemma =>
      obtain⟨wb,hwb⟩:∃wb,wb=wc:=⟨_,rfl⟩;subst hwb;have Oo:=θ hcut;clear hcut hbo;go_upto_region 41 with fail
      go_cut [199] (fun bv wx=>∃bo:Bool,bv=.bool bo/\(bo=true↔a<i/\i<d)/\wx=wb)
      case first =>
       as_aux_lemma =>
       by_cases p1:a<i
       .by_cases p2:i<d
        .go_wp2_with fail
         go_meet
         exact⟨true,rfl,⟨fun _=>⟨p1,p2⟩,fun _=>rfl⟩,rfl⟩
        .go_wp2_with fail
         go_meet
         exact⟨false,rfl,⟨fun h=>absurd h Γ,fun h=>absurd h.2 p2⟩,rfl⟩
       .go_wp2_with fail
        go_meet
        exact⟨false,rfl,⟨fun h=>absurd h Γ,fun h=>absurd h.1 p1⟩,rfl⟩
      case rest =>
       as_aux_lemma =>
       obtain⟨bo,rfl,hbo,FF⟩:=hcut;have FF:=FF.symm;subst FF;go_upto_if 199 with fail
       go_cut [] (fun wx=>Sw g n w wx)
       case first =>
        as_aux_lemma =>
        cases bo with
        |true =>
         obtain⟨p1,p2⟩:=hbo.1 rfl;have HX:=θ (HR.o _ a i d Oo.o η p1 p2 η);go_wp2_with fail;refine HX.o.mono ?_;rintro e5 w5 ⟨rfl,Qu⟩;have hS6:=Oo.o.trans Qu;go_wp2_with fail;go_meet
         exact hS6
        |false =>
         go_wp2_with fail;go_meet
         exact Oo.o
       case rest =>
        as_aux_lemma =>
        obtain⟨wd,N6⟩:∃wd,wd=wc:=⟨_,rfl⟩;subst N6;have HSd:=θ hcut;clear hcut hbo;go_upto_region 43 with fail
        go_cut [213] (fun bv wx=>∃bo:Bool,bv=.bool bo/\(bo=true↔d<e/\e<b)/\wx=wd)
        case first =>
         as_aux_lemma =>
         by_cases p1:d<e
         .by_cases p2:e<b
          .go_wp2_with fail
           go_meet
           exact⟨true,rfl,⟨fun _=>⟨p1,p2⟩,fun _=>rfl⟩,rfl⟩
          .go_wp2_with fail
           go_meet
           exact⟨false,rfl,⟨fun h=>absurd h Γ,fun h=>absurd h.2 p2⟩,rfl⟩
         .go_wp2_with fail
          go_meet
          exact⟨false,rfl,⟨fun h=>absurd h Γ,fun h=>absurd h.1 p1⟩,rfl⟩
        case rest =>
         as_aux_lemma =>
         obtain⟨bo,rfl,hbo,FF⟩:=hcut;have FF:=FF.symm;subst FF;cases bo with
         |true =>
          obtain⟨p1,p2⟩:=hbo.1 rfl;have HX:=θ (HR.o _ d e b HSd.o η p1 p2 η);go_wp2_with fail;refine HX.o.mono ?_;rintro e5 w5 ⟨rfl,Qu⟩;have hS6:=HSd.o.trans Qu;go_wp2_with fail;go_end0
          exact⟨rfl,hS6⟩
         |false =>
          go_wp2_with fail;go_end0
          exact⟨rfl,HSd.o⟩
end
end Go.Proofs.YtffcefoadaogbaaGreat
