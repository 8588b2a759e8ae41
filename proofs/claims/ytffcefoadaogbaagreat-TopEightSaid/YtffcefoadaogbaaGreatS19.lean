/- A part of the proof. -/
import Derived.Test.YtffcefoadaogbaaGreatS11
import Derived.Test.YtffcefoadaogbaaGreatS12
namespace Go.Proofs.YtffcefoadaogbaaGreat
open Go.RowKit
open Go.Proofs.Tryz
set_option linter.all false
set_option maxRecDepth 100000
set_option maxHeartbeats 16000000
open _root_.Nat renaming le_trans->aF,lt_of_lt_of_le->eM
open _root_.List renaming getElem_append_left->adH,getElem?_eq_getElem->bf,length_append->eU
open Go.IntKind renaming i64->cQ,u32->uK
open Go.IntWalk renaming i64_in->pS,u32_in->aaT
open Go.World renaming alloc->aB
open Go.Value renaming oneCell'->Zq1
open _root_.Option renaming some->kI
open Go.Act renaming put->rC
open Go renaming World->κ,Value->ξ,IntKind->oU
variable{T:Tg}{w wr:κ}
theorem Ext.QO{t g:Nat}{vs:List ξ}(e:Ext w wr)(h:Has wr T t g vs)(hg:w.heap.size<=g)(i:Nat)(v:ξ):Ext w (wr.setCell (g,i) v) :=
 Ext.own (B:=some ⟨g,0,none⟩) e (aI _ _ _) (fun k hk=>af3)
theorem Ext.amh{wx:κ}{gP gL gR:Nat}{ks:List Nat}(e:Ext w wr)(h:mC (zh gP gL gR) 1 gP ks wr wx)(h1:gP<gL)(h2:gR<gP)(hg:w.heap.size<=gR):Ext w wx :=
 ⟨h.1.os.trans e.os,h.1.tape.trans e.tape,h.1.output.trans e.output,aF e.size h.1.size,fun k hk=>(h.1.block k (eM hk e.size) (by rw[Yz h1 h2 (.inl η)];decide)).trans (e.block k hk)⟩
theorem Rb.mh{w':κ}{S:Nat->Prop}{A:aS}{n c:Nat}{l:aD}(h:Rb w A n c l)(hR:oR S T w w')(hn:∀a,A=some a->¬S (T a.block)):Rb w' A n c l :=
 Rb.uw h fun h0 k hk=>hR.block k (Rd.Gf h η hk) (by obtain⟨a,ha,rfl⟩:=Option.map_eq_some_iff.1 hk;exact hn a ha)
def aaU(w:κ)(gP gL gR:Nat)(K:Int)(id:Int)(p:Pk)(wx:κ):Prop :=
 ∃B d,Has wx (zh gP gL gR) 1 gP (IG K (id:ξ) (p.first:ξ) (p.dP:ξ) (p.frame:ξ) p (.slice B p.ν.length d) p.sum)/\Has wx (zh gP gL gR) 3 gR zPk/\Rb wx B p.ν.length d p.ν /\
  (∀a,B=some a->gR<a.block)/\(∀a,B=some a->a.block≠gP)/\Ext w wx
def aaO(w:κ)(gP gL gR:Nat)(K:Int)(id:Int)(p:Pk)(iv:ξ)(wr:κ):Prop :=
 ∃j:Nat,iv=.int .i64 (j:Nat)/\j<=4/\Has wr (zh gP gL gR) 1 gP (IG K (id:ξ) (p.first:ξ) (p.dP:ξ) (p.frame:ξ) p (.slice none 0 0) (p.sum / 256 ^ (4-j)))/\Has wr (zh gP gL gR) 3 gR zPk/\Ext w wr
theorem aaj(w:κ)(id:Int)(p:Pk)(A:aS)(n c:Nat)(hp:mw p)(hid:vb id)(hb:Rb w A n c (aG id p)):Calls prog 186 #[.slice A n c] w fun e w'=>∃A' d,e=.returned (.tuple #[lB id p A' p.ν.length d,.bool true])/\Rb w' A' p.ν.length d p.ν/\(∀a,A'=some a->w.heap.size<=a.block)/\Ext w w':=by
 have hn:=hb.len;have hmx:=hb.max;unfold maxLen at hmx;obtain⟨lD,hmd⟩:=Su id p;have vQ:=AE hp;have Sx:=Sv id p vQ;have Bk:=MR id p;obtain⟨b,o,rfl,vi⟩:=hb.at_ (k:=0) η;obtain⟨b',o',e',uR⟩:=hb.at_ (k:=1) η;cases e'
 obtain⟨b',o',e',sW⟩:=hb.at_ (k:=2) η;cases e'
 have hx:=hb.aja (i:=3) (j:=n-4) η η;rw[hn,hmd]at hx;have hh:∀k (hk:k<3),(aG id p)[k]' η=(oF p)[k]'(by rw[xD];exact hk):=fun k hk=>by simp only[Cj];rw[adH]
 rw[hh 0 Γ]at vi;rw[hh 1 Γ]at uR;rw[hh 2 Γ]at sW;obtain⟨hs,hd,hne,hw⟩:=uo hp;simp only[oF,List.getElem_cons_zero,List.getElem_cons_succ,Nat.add_zero]at vi uR sW;rw[aU η]at uR sW;rw[aU (by split<;>decide)]at vi
 have hbw:b<w.heap.size:=κ.block_lt_of_cell? _ _ vi;rw[←hn,show n-4-3=(nN id p).length by omega]at hx;rw[Un]at hx lD Sx Bk;obtain⟨m,hm⟩:∃m,((iq id p).flatMap aV++AG p).length=m:=⟨_,rfl⟩;rw[hm]at hx lD Sx Bk;have hnm:n=m+7:=η;have i0:(0:Int)<(n:Int):=η;have i1:(1:Int)<(n:Int):=η;have i2:(2:Int)<(n:Int):=η;have j0:0<n:=η;have j1:1<n:=η;have j2:2<n:=η;have hd8:=dh ((n:Int)<8);have anI:=dh (n<8);obtain⟨E,hE⟩:∃E,n-4=E:=⟨_,rfl⟩;have hEw:cQ.wrap ((n:Int)-4)=((E:Nat):Int):=by rw[pS _ η];omega
 have hEm:E-3=m:=η;have KA:3<=E/\E<=n:=η;have Hnm:=θ hnm;have nK:=θ (fun W B d h=>(Mg W id p B p.ν.length d hp hid h));have Hb:=θ hb;have Hns:=θ (Yx id p);have Dp:((if p.iA=true then 2 else 1:Nat):Int)=fM p:=by unfold fM;split<;>rfl
 rw[Dp]at vi;have UY:=hid;unfold vb at UY;have jI:∀x∈iq id p,0<=x/\x<=1099511627776:=by
  intro x hx;unfold iq at hx;rcases hw with ⟨hq,_⟩|⟨hq,h1,h2,h3,_⟩
  .rw[if_pos hq]at hx;simp at hx;omega
  .rw[if_neg (by rw[hq];simp)]at hx;simp at hx;omega
 have Hin:=θ jI;have ajH:fM p=1/\p.iA=false\/fM p=2/\p.iA=true:=by unfold fM;cases p.iA<;>simp
 have hkr:0<=fM p/\fM p<=2:=η;have Ss:=ej (fM p);have hws:=ej ((p.src:Nat):Int);have N6:=ej ((p.dst:Nat):Int);have Hx:=θ hx;have Hm:=θ hm;have Hw:=θ hw;have Hk:=θ ajH;clear hb hh hmd lD hm hn hnm hE Dp jI hw hx ajH UY hne;generalize hK:fM p=K at*;go_enter func186,ntmps186;go_upto_region 4 with fail
 generalize hV:aB w _=V;have eV:Ext w V:=by subst hV;exact Ext.alloc _ _
 have bV:Has V (fun _=>0) 0 w.heap.size zPk:=by subst hV;exact⟨rfl,_,heap_alloc_new w _⟩
 have hwV:w.heap.size<V.heap.size:=bV.lt;have vi:=eV.cell vi;have uR:=eV.cell uR;have sW:=eV.cell sW;clear hV;apply lG 14;simp only[tk];repeat apply DH vi uR sW
 apply dL (p:=fun u W=>∃g0,u=.pointer (some ⟨g0,0,none⟩)/\V.heap.size<=g0/\Has W (fun _=>0) 0 g0 zPk) (fun _ _ _ ⟨g0,h1,h2,h3⟩ hR=>⟨g0,h1,h2,h3.ext hR⟩)
 .rfl
 .intro W hR υ;refine⟨.pointer W.heap.size,W.alloc (.cells zPk.toArray 34),?_,Ext.alloc _ _,W.heap.size,rfl,hR.size,⟨rfl,_,heap_alloc_new W _⟩⟩;unfold zPk;go_simp;first|done|rfl
 intro v2;simp only[pu];refine lex_nil ?_;intro W hR υ;obtain⟨gP,rfl,Je,hB⟩:=υ.1 rfl;simp only[dk];clear υ vi uR sW;have bV:=bV.ext hR;have eW:=eV.trans hR;have K2:(IG K (.int .i64 0) (.int .i64 0) (.int .i64 0) (.int .i64 0) p (.slice none 0 0) 0).length=9:=rfl;have hv9:zPk.length=9:=rfl;have h19:∀u∈IG K (.int .i64 0) (.int .i64 0) (.int .i64 0) (.int .i64 0) p (.slice none 0 0) 0,u.oneCell'=true:=by simp[IG,Zq1]
 go_upto_region 5 with (first|(refine bE rfl 34 (.tmp 5) (.tmp 40) rfl rfl (us:=IG K (.int .i64 0) (.int .i64 0) (.int .i64 0) (.int .i64 0) p (.slice none 0 0) 0) rfl hB K2 hv9 mR h19 ?_;intro W2 oQ kL xE))
 have Oc:gP<W.heap.size:=hB.lt;have eW2:=Ext.own (B:=some ⟨gP,0,none⟩) eW kL (fun k hk=>by have h9:gP=k:=kI.inj hk;omega);have bV2:=bV.grown kL dw;clear hB kL eW bV h19 K2 hv9;go_upto_region 8 with fail
 obtain⟨gL,hgL⟩:∃gL,gL=W2.heap.size:=⟨_,rfl⟩;have hL0:=Has.new W2 (fun _=>0) [(0:Int),(0:Int),(0:Int),(0:Int)] 338 hgL;have Wp:=Ext.alloc W2 (.cells #[(0:Int),(0:Int),(0:Int),(0:Int)] 338);rw[←xE,←hgL];generalize hX:aB W2 _=X at*;have Jj:=bV2.ext Wp;have ry:=oQ.ext Wp;have eX:=eW2.trans Wp;have hL3:Has X (fun _=>0) 0 gL [(0:Int),(0:Int),(0:Int),(0:Int)]:=hL0;generalize hgR:w.heap.size=gR at*;have acw:gP<gL/\gR<gP:=η;have hP4:Has X (zh gP gL gR) 1 gP (IG K (.int .i64 0) (.int .i64 0) (.int .i64 0) (.int .i64 0) p (.slice none 0 0) 0):=⟨ah5 _ _ _,ry.2⟩;have K6:Has X (zh gP gL gR) 2 gL (lC (iq id p) 0):=⟨ac9 acw.1,by rw[abE];exact hL3.2⟩;have hR4:Has X (zh gP gL gR) 3 gR zPk:=⟨ada acw.1 acw.2,Jj.2⟩;have p0:=hP4.zc 0;have HP4:=θ hP4;have HL4:=θ K6;have HR4:=θ hR4;have HX:=θ eX;have NF:=θ acw;have HgR:=θ hgR;clear Jj ry hL3 hL0 Wp hX eX hP4 K6 hR4 acw hgR hgL bV2 bV xE Oc hwV Je eW2 oQ hR eV;have ajI:K=1\/K=2:=by rcases Hk.o with h|h<;>simp[h.1]
 go_upto_if 43 with fail
 go_cut [8] (fun nv wx=>nv=.int .i64 ((iq id p).length:Nat)/\wx=X)
 case first =>
  rcases ajI with rfl|rfl
  .have hN:(iq id p).length=4:=by unfold iq;rcases Hk.o with h|h;rw[if_neg (by rw[h.2];simp)];rfl;exact absurd h.1 Γ
   go_wp2_with fail;go_meet
   exact⟨by rw[hN];rfl,rfl⟩
  .have hN:(iq id p).length=1:=by unfold iq;rcases Hk.o with h|h;exact absurd h.1 Γ;rw[if_pos h.2];rfl
   go_wp2_with fail;go_meet
   exact⟨by rw[hN];rfl,rfl⟩
 case rest =>
  obtain⟨rfl,FF⟩:=hcut;have FF:=FF.symm;subst FF;clear p0;obtain⟨N,hN⟩:∃N,(iq id p).length=N:=⟨_,rfl⟩;have HN:=θ hN;have hN4:N<=4/\0<N:=by rw[←hN];exact Hns.o
  rw[hN];clear hN;go_wp2_with fail;go_loopw [9,7] (fun iv av wr=>adb w gP gL gR K (iq id p) p iv av wr) (fun iv _ _=>N-(intOf iv).toNat)
  case atStart=>exact⟨0,rfl,Nat.zero_le _,by rw[Uo];rfl,HP4.o,HL4.o,HR4.o,HX.o⟩
  case round =>
   obtain⟨k,rfl,hk,rfl,hP,hL,hR,hX⟩:=hrel;rw[HN.o]at hk;by_cases hkN:k<N
   .have jF:=dQ ((k:Int)<(N:Int))
    have jk:k<(iq id p).length:=by rw[HN.o];exact hkN
    have aX:=abD (AG p) jk;rw[Hm.o]at aX;have qc:=zQ (iq id p)[k];obtain⟨hv0,yG⟩:=Hin.o _ (List.getElem_mem jk);have hxr:=(Hx.o.ext hX).AF (k:=AH (iq id p) k) η;rw[R1 (AG p) jk]at hxr;have hG:=EL _ _ _ _ wr hxr;rw[zT η η]at hG;have hsc:=Up jk;have hLs:=aeu jk (by rw[HN.o];exact hN4.1);have K6:=aet (k:=k) (η:k<=(iq id p).length) (by rw[HN.o];exact hN4.1);generalize AH (iq id p) k=a at*;generalize N4:(aV (iq id p)[k]).length=ln at*;generalize hvv:(iq id p)[k]=v at*;have HG:=θ hG;have Hsc:=θ hsc;have HLs:=θ hLs;have Od:k<4:=η;obtain⟨u0,jU⟩:∃u,(lC (iq id p) k)[k]?=some u:=⟨_,bf η⟩;have cL:=hL.cell jU;have fL:=hL.free k;have anJ:=dh (v<0);have anK:=dh ((1099511627776:Int)<v);have hwv:cQ.wrap ((a:Int)+(ln:Int))=((a+ln:Nat):Int):=by rw[pS _ η];omega
    have anL:cQ.wrap ((k:Int)+1)=((k+1:Nat):Int):=by rw[pS _ η];omega
    have ham:a<=m:=η;have K0:a<c-3:=by have:=Hx.o.max;omega
    have HP:=θ hP;have HL:=θ hL;have HR:=θ hR;have QS:=θ hX;clear hP hL hR hX aX hsc hLs hG hxr N4 hvv jU qc;go_wp2_with fail;refine HG.o.mono ?_;rintro ev w9 ⟨rfl,h9⟩;subst h9;go_wp2_with fail;have hX9:=QS.o.QO HL.o (by have:=NF.o;have:=HgR.o;omega) k (v:ξ);have hL9:=HL.o.set k (v:ξ);rw[HLs.o]at hL9;have hP9:=HP.o.grown (aI wr ⟨gL,k,none⟩ (v:ξ)) (by have:=NF.o;simp;omega);have PI:=HR.o.grown (aI wr ⟨gL,k,none⟩ (v:ξ)) (by have:=NF.o;simp;omega);have HF:=θ (show adb w gP gL gR K (iq id p) p (.int .i64 ((k+1:Nat):Int)) (.int .i64 ((a+ln:Nat):Int)) (wr.setCell (gL,k) (v:ξ)) from⟨k+1,rfl,by rw[HN.o];omega,by rw[Hsc.o],hP9,hL9,PI,hX9⟩);clear hX9 hL9 hP9 PI;go_roundw
    case rel=>exact HF.o
    exact dB
   .obtain rfl:k=N:=by omega
    have HP:=θ hP;have HL:=θ hL;have HR:=θ hR;have QS:=θ hX;clear hP hL hR hX;obtain⟨a,ha⟩:∃a,AH (iq id p) k=a:=⟨_,rfl⟩;rw[ha];have Ha:=θ ha;clear ha;go_upto_region 18 with fail
    have aX:=HL.o.lt;have hu:Θ wr (zh gP gL gR):=fun q hq=>Yz NF.o.1 NF.o.2 (.inr η);have K6:=HL.o;have Uu:lC (iq id p) k=[.int .i64 id,.int .i64 (p.first:Nat),.int .i64 (p.dP:Nat),.int .i64 (p.frame:Nat)]:=by
     have:=aev id p (fun hq=>by rcases Hw.o with ⟨_,h1,_,h2,h3,_⟩|⟨h,_⟩;exact⟨h1,h2,h3⟩;rw[hq]at h;cases h)
     rw[HN.o]at this;exact this
    rw[Uu]at K6;have l0:=K6.zc 0;have l1:=K6.zc 1;have l2:=K6.zc 2;have l3:=K6.zc 3;have hnL:¬zh gP gL gR gL=1:=by rw[ac9 NF.o.1];decide
    have Zt:cQ.wrap ((p.first:Nat):Int)=((p.first:Nat):Int):=pS _ agb;have hwa:cQ.wrap ((p.dP:Nat):Int)=((p.dP:Nat):Int):=pS _ agb;have hwr:cQ.wrap ((p.frame:Nat):Int)=((p.frame:Nat):Int):=pS _ agb;have HL4:=θ K6;clear K6 Uu;generalize hU:zh gP gL gR=U at*;apply GG (mC U 1 gP [3,4,6,7]) (fun i=>mC U 1 gP (upF i)) (fun _ _=>True) (fun _=>trivial);repeat apply gF (fun _ h _ _=>aj (h.1.cell l0 hnL) (aj (h.1.cell l1 hnL) (aj (h.1.cell l2 hnL) (h.1.cell l3 hnL))))
    apply gQ (p:=fun _ W=>mP U 1 gP [(3,.int .i64 id)] W) Γ Γ (fun j hj v w w' h hR=>h.keep hR (by
     intro q hq;simp at hq
     subst hq;dsimp only
     unfold upF;repeat' split
     all_goals simp_all))
    .rfl
    .intro W hR hJ υ;obtain⟨vs,hv,hlen,_⟩:=hR.2 _ HP.o;have hlv:vs.length=9:=hlen;obtain⟨ua,hua⟩:∃u,vs[3]?=some u:=⟨_,bf η⟩;have uL:=hv.cell hua;have Nr:=hv.free 3;obtain⟨k1,k2⟩:=mC.put (fun j hj=>hu j (aF hR.1.size hj)) hv (i:=3) η (.int .i64 id);have K:=θ (And.intro k1 k2);clear k1 k2 hv hlen;refine⟨W.setCell ⟨gP,3,none⟩ (id:ξ),?_,K.o.1.mono (Kg 9),K.o.1,K.o.2⟩;go_simp
    intro v9;simp only[rC];repeat apply gF (fun _ _ _ _=>trivial)
    apply gQ (p:=fun _ W=>mP U 1 gP [(4,.int .i64 (p.first:Nat))] W) Γ Γ (fun j hj v w w' h hR=>h.keep hR (by
     intro q hq;simp at hq
     subst hq;dsimp only
     unfold upF;repeat' split
     all_goals simp_all))
    .rfl
    .intro W hR hJ υ;obtain⟨vs,hv,hlen,_⟩:=hR.2 _ HP.o;have hlv:vs.length=9:=hlen;obtain⟨ua,hua⟩:∃u,vs[4]?=some u:=⟨_,bf η⟩;have uL:=hv.cell hua;have Nr:=hv.free 4;obtain⟨k1,k2⟩:=mC.put (fun j hj=>hu j (aF hR.1.size hj)) hv (i:=4) η (.int .i64 (p.first:Nat));have K:=θ (And.intro k1 k2);clear k1 k2 hv hlen;refine⟨W.setCell ⟨gP,4,none⟩ (p.first:ξ),?_,K.o.1.mono (Kg 11),K.o.1,K.o.2⟩;go_simp
    intro v11;simp only[rC];repeat apply gF (fun _ _ _ _=>trivial)
    apply gQ (p:=fun _ W=>mP U 1 gP [(6,.int .i64 (p.dP:Nat))] W) Γ Γ (fun j hj v w w' h hR=>h.keep hR (by
     intro q hq;simp at hq
     subst hq;dsimp only
     unfold upF;repeat' split
     all_goals simp_all))
    .rfl
    .intro W hR hJ υ;obtain⟨vs,hv,hlen,_⟩:=hR.2 _ HP.o;have hlv:vs.length=9:=hlen;obtain⟨ua,hua⟩:∃u,vs[6]?=some u:=⟨_,bf η⟩;have uL:=hv.cell hua;have Nr:=hv.free 6;obtain⟨k1,k2⟩:=mC.put (fun j hj=>hu j (aF hR.1.size hj)) hv (i:=6) η (.int .i64 (p.dP:Nat));have K:=θ (And.intro k1 k2);clear k1 k2 hv hlen;refine⟨W.setCell ⟨gP,6,none⟩ (p.dP:ξ),?_,K.o.1.mono (Kg 13),K.o.1,K.o.2⟩;go_simp
    intro YQ;simp only[rC];repeat apply gF (fun _ _ _ _=>trivial)
    apply gQ (p:=fun _ W=>mP U 1 gP [(7,.int .i64 (p.frame:Nat))] W) Γ Γ (fun j hj v w w' h hR=>h.keep hR (by
     intro q hq;simp at hq
     subst hq;dsimp only
     unfold upF;repeat' split
     all_goals simp_all))
    .rfl
    .intro W hR hJ υ;obtain⟨vs,hv,hlen,_⟩:=hR.2 _ HP.o;have hlv:vs.length=9:=hlen;obtain⟨ua,hua⟩:∃u,vs[7]?=some u:=⟨_,bf η⟩;have uL:=hv.cell hua;have Nr:=hv.free 7;obtain⟨k1,k2⟩:=mC.put (fun j hj=>hu j (aF hR.1.size hj)) hv (i:=7) η (.int .i64 (p.frame:Nat));have K:=θ (And.intro k1 k2);clear k1 k2 hv hlen;refine⟨W.setCell ⟨gP,7,none⟩ (p.frame:ξ),?_,K.o.1.mono (Kg 15),K.o.1,K.o.2⟩;go_simp
    intro v15;simp only[rC];refine aP ?_;intro Wx zm gT υ;obtain⟨p15,p13,p11,p9,_⟩:=υ;have p15:=p15 rfl;have p13:=p13 rfl;have p11:=p11 rfl;have p9:=p9 rfl;obtain⟨vs,hv,hlen,adI⟩:=zm.2 _ HP.o;have hP:=ah6 hlen adI hv p9 p11 p13 p15;subst hU;have hX:=QS.o.amh zm NF.o.1 NF.o.2 (by have:=HgR.o;omega);have hR:=HR.o.dD (zm.1.block gR HR.o.lt (by rw[ada NF.o.1 NF.o.2];decide)) rfl
    have Gr:=θ hP;have Wg:=θ hR;have ZM:=θ hX;have p0:=hP.zc 0;clear gT p15 p13 p11 p9 hv hlen adI zm hP hR hX hu hnL l0 l1 l2 l3 Zt hwa hwr HP HL HR QS HL4 aX;go_upto_if 88 with fail
    go_cut [] (fun wx=>aaU w gP gL gR K id p wx)
    case first =>
     rcases ajI with rfl|rfl
     .have hq:p.iA=false:=by rcases Hk.o with h|h;exact h.2;exact absurd h.1 Γ
      have tP:p.sum<4294967296:=by rcases Hw.o with h|h;rw[hq]at h;cases h.1;exact h.2.2.2.2.2
      have htl:AG p=eO p.sum++(aV (p.ν.length:Nat)++eF p.ν):=by unfold AG;rw[if_neg (by rw[hq];simp)]
      have hdr:=IF (iq id p) (AG p) (iq id p).length;rw[List.drop_length,HN.o,Ha.o,List.flatMap_nil,List.nil_append]at hdr;have hlen:m-a=(AG p).length:=by rw[←Hm.o,←List.length_drop,hdr]
      obtain⟨L1,hL1⟩:∃L1,(aV ((p.ν.length:Nat):Int)).length=L1:=⟨_,rfl⟩;obtain⟨L2,hL2⟩:∃L2,(eF p.ν).length=L2:=⟨_,rfl⟩;have anM:0<L1/\L1<=10:=by rw[←hL1];exact⟨zQ _,wN _⟩
      have adj:m=a+4+L1+L2:=by rw[htl,eU,eU,eN,hL1,hL2]at hlen;omega
      have hcm:m+4<=c-3:=by have:=Hnm.o;omega
      have hwm:cQ.wrap ((m:Int)-(a:Int))=((m-a:Nat):Int):=by rw[pS _ η];omega
      have hd4:=dh (((m-a:Nat):Int)<4);have ami:=dh (m-a<4);have hXt:=(Hx.o.AF (k:=a) η);rw[hdr,htl]at hXt;have HXt:=θ hXt;have PF:=θ tP;have HL1:=θ hL1;have amP:a+4+L1+L2<=m:=η;clear hq htl hdr hlen hXt hL1 hL2 adj;go_wp2_with fail;go_loopw [13] (fun iv wr=>aaO w gP gL gR 1 id p iv wr) (fun iv _=>4-(intOf iv).toNat)
      case atStart=>exact⟨0,rfl,Nat.zero_le _,by rw[show p.sum / 256 ^ (4-0)=0 from Nat.div_eq_of_lt (by have:=PF.o;simpa using this)];exact Gr.o,Wg.o,ZM.o⟩
      case round =>
       obtain⟨j,rfl,hj,hP,hR,hX⟩:=hrel;have p8:=hP.zc 8;have f8:=hP.free 8;by_cases hj4:j<4
       .have Di:=dQ (j<4) hj4
        have jF:=dQ ((j:Int)<4);have eH:=Yy p.sum PF.o hj4;obtain⟨b',o',e',V5⟩:=(HXt.o.ext hX).at_ (k:=j) af2;cases e'
        rw[adH (by rw[eN];exact hj4),Nat.add_assoc]at V5;generalize hxx:(eO p.sum)[j]'(by rw[eN];exact hj4)=x at*;have hx8:=x.toNat_lt;have hS1:p.sum / 256 ^ (4-j)<16777216:=by
         have:=PF.o;match j,hj4 with
         |0,_=>simp;omega
         |1,_=>simp;omega
         |2,_=>simp;omega
         |3,_=>simp;omega
        obtain⟨S',hS'⟩:∃S',p.sum / 256 ^ (4-(j+1))=S':=⟨_,rfl⟩;rw[hS']at eH;generalize hSS:p.sum / 256 ^ (4-j)=S at*;have pz:uK.wrap (((S:Nat):Int)*256)=((S*256:Nat):Int):=by rw[aaT _ η];omega
        have xZ:uK.wrap (((S*256:Nat):Int)+(x.toNat:Nat))=((S':Nat):Int):=by rw[aaT _ η];omega
        have Uj:uK.wrap (x.toNat:Nat)=(x.toNat:Nat):=aaT _ η;have hwa:cQ.wrap ((a:Int)+(j:Int))=((a+j:Nat):Int):=by rw[pS _ η];omega
        have hwj:cQ.wrap ((j:Int)+1)=((j+1:Nat):Int):=by rw[pS _ η];omega
        have q3:((a:Int)+(j:Int)<(m:Int))=True:=eq_true η;have q4:((0:Int)<=(a:Int)+(j:Int))=True:=eq_true η;have q5:((a:Int)+(j:Int)).toNat=a+j:=η;have HS':=θ (show((p.sum / 256 ^ (4-(j+1)):Nat):Int)=((S:Nat):Int)*256+(x.toNat:Nat) by rw[hS'];omega);have HP:=θ hP;have HR:=θ hR;have QS:=θ hX;clear hP hR hX eH hxx hS' hSS;go_upto_region 25 with fail
        apply lG 11;simp only[tk];repeat apply kZ p8 V5
        refine jq fun Wx ak=>?_;simp only[dk];have Nj:=HP.o.ext ak;have p8:=Nj.zc 8;have f8:=Nj.free 8;have hP9:=Nj.set 8 (.int .u32 (((S:Nat):Int)*256+(x.toNat:Nat)));have hX9:=(QS.o.trans ak).QO Nj (by have:=NF.o;have:=HgR.o;omega) 8 (.int .u32 (((S:Nat):Int)*256+(x.toNat:Nat)));have PI:=(HR.o.ext ak).grown (aI Wx ⟨gP,8,none⟩ (.int .u32 (((S:Nat):Int)*256+(x.toNat:Nat)))) (by have:=NF.o;simp;omega);have HF:=θ (show aaO w gP gL gR 1 id p (.int .i64 ((j+1:Nat):Int)) (Wx.setCell (gP,8) (.int .u32 (((S:Nat):Int)*256+(x.toNat:Nat)))) from⟨j+1,rfl,hj4,hP9.is (by unfold IG;rw[HS'.o];rfl),PI,hX9⟩);clear Nj hP9 hX9 PI ak;go_wp2;go_roundw
        case rel=>exact HF.o
        exact dB
       .obtain rfl:j=4:=by omega
        have HP:=θ hP;have HR:=θ hR;have QS:=θ hX;obtain⟨pl,ag7⟩:∃pl,p.ν.length=pl:=⟨_,rfl⟩;have hxr:=(HXt.o.ext hX).AF (k:=4) η;have e4:(eO p.sum++(aV ((p.ν.length:Nat):Int)++eF p.ν)).drop 4=aV ((p.ν.length:Nat):Int)++eF p.ν:=by rw[List.drop_append_of_le_length (by rw[eN];omega)];rfl
        rw[e4]at hxr;have hG:=EL _ _ _ _ wr hxr;have hdl:=hxr.drop (k:=L1) η;rw[if_neg η,List.drop_left' HL1.o]at hdl;simp only[Option.map_some,Addr.add_lit]at hdl;rw[zT η η,HL1.o]at hG;have ajJ:Rb wr (some ⟨b,o+3+(a+4+L1),none⟩) (m-(a+4+L1)) (c-3-(a+4+L1)) (eF p.ν):=by rw[show o+3+(a+4+L1)=o+3+a+4+L1 by omega,show m-(a+4+L1)=m-a-4-L1 by omega,show c-3-(a+4+L1)=c-3-a-4-L1 by omega];exact hdl
        have hU:=Mn wr _ _ _ p.ν ajJ vQ;have HU:=θ hU;have HG:=θ hG;rw[ag7]at HG HU vQ;have ajK:=θ ag7;have anN:=ej ((a:Int)+4);have anO:=ej ((a:Int)+4+(L1:Int));have q1:a+4<=m:=η;have q2:a+4+L1<=m:=η;have q3:a+4<c-3:=η;have q4:a+4+L1<c-3:=η;have anP:=dh ((pl:Int)<0);have anQ:=dh ((32:Int)<(pl:Int));clear hP hR hX hxr hG hdl ajJ hU ag7 e4 p8 f8;go_wp2_with fail;refine HG.o.mono ?_;rintro ev w9 ⟨rfl,h9⟩;subst h9;go_wp2_with fail;refine HU.o.mono ?_;rintro ev w9 ⟨B,d,rfl,hO,Qh⟩;have hPy:=HP.o.ext Qh;have p5:=hPy.zc 5;have f5:=hPy.free 5;have hP9:=hPy.set 5 (.slice B pl d);have hX9:=(QS.o.trans Qh).QO hPy (by have:=NF.o;have:=HgR.o;omega) 5 (.slice B pl d);have PI:=(HR.o.ext Qh).grown (aI w9 ⟨gP,5,none⟩ (.slice B pl d)) (by have:=NF.o;simp;omega);have j6:=hO.gU;have CI:=HP.o.lt;have U7:Rb (w9.setCell (gP,5) (.slice B pl d)) B pl d p.ν:=(Rb.of hO.rd rfl).grown (aI w9 ⟨gP,5,none⟩ (.slice B pl d)) (fun q hq e=>by have h1:=(j6 q hq).1;have h2:gP=q.block:=kI.inj e;omega);have hE:aaU w gP gL gR 1 id p (w9.setCell (gP,5) (.slice B pl d)):=by
         refine⟨B,d,hP9.is ?_,PI,by rw[ajK.o];exact U7,fun q hq=>?_,fun q hq=>?_,hX9⟩
         .unfold IG;rw[ajK.o,show p.sum / 256 ^ (4-4)=p.sum by simp];rfl
         .have h1:=(j6 q hq).1;have:=NF.o;omega
         .have h1:=(j6 q hq).1;omega
        have HE:=θ hE;clear hO hPy hP9 hX9 PI U7 hE j6;go_wp2_with fail;go_meet
        exact HE.o
     .have hq:p.iA=true:=by rcases Hk.o with h|h;exact absurd h.1 Γ;exact h.2
      obtain⟨_,_,tO,_,_,tP⟩:p.iA=true/\p.first=0/\p.ν=[]/\p.dP=0/\p.frame=0/\p.sum=0:=by rcases Hw.o with h|h;exact h;rw[hq]at h;cases h.1
      have HF:=θ (show aaU w gP gL gR 2 id p Wx from⟨none,0,by rw[tO,tP];exact Gr.o,Wg.o,by rw[tO];exact Rb.dR _,fun _ h=>(by cases h),fun _ h=>(by cases h),ZM.o⟩);clear tO tP hq;go_wp2_with fail;go_meet
      exact HF.o
    case rest =>
     obtain⟨B,d,hP,hR,hB,mo,oQ,hX⟩:=hcut;have zZ:∀q,q<gR->¬zh gP gL gR q=3:=fun q hq=>by rw[Yz NF.o.1 NF.o.2 (.inl hq)];decide
     have kS:w.heap.size<=gR:=by have:=HgR.o;omega
     have BR:∀q,gR<q->¬zh gP gL gR q=3:=fun q hq=>by
      unfold zh;split
      .decide
      .split
       .decide
       .rw[if_neg η];decide
     have hEn:=fun W (e:oR (· = 3) (zh gP gL gR) wc W)=>nK.o W B d (hB.mh e (fun q hq=>BR _ (mo q hq)));simp only[lB,hK]at hEn;have HEn:=θ hEn;have V5:=fun W (e:oR (· = 3) (zh gP gL gR) wc W)=>dS (P:=prog) W 30 9 5 underlying30 underlying5 underlying9 _ _ _ _ ((Hb.o.ext hX).mh e (fun q hq=>zZ _ (by cases hq;exact hbw)));have HP:=θ hP;have HR:=θ hR;have HB:=θ hB;have Kp:=θ mo;have QS:=θ hX;clear hP hR hB mo oQ hX hEn;generalize hPk:aG id p=Y at*;obtain⟨sY,hsY⟩:∃sY,bs Y=sY:=⟨_,rfl⟩;rw[hsY]at V5;go_upto_region 34 with fail
     apply GG (oR (· = 3) (zh gP gL gR)) (Bj 7 (· = 3) (zh gP gL gR)) (oJ 7 _) (oJ.start _ _);apply j7 (u:=.agg (IG K (id:ξ) (p.first:ξ) (p.dP:ξ) (p.frame:ξ) p (.slice B p.ν.length d) p.sum).toArray) Γ Γ (oR.refl _ _) (Bj.refl _ _ _)
     .rfl
     .intro W hR hJ υ;exact qg 34 (.tmp 5) rfl rfl underlying34 mR (HP.o.mh hR Γ).all
     simp only[pu];apply j7 (u:=.agg (IG K (id:ξ) (p.first:ξ) (p.dP:ξ) (p.frame:ξ) p (.slice B p.ν.length d) p.sum).toArray) Γ Γ (oR.refl _ _) (Bj.refl _ _ _)
     .rfl
     .intro W hR hJ υ;exact qg 34 (.tmp 5) rfl rfl underlying34 mR (HP.o.mh hR Γ).all
     simp only[pu];apply BB (p:=fun v W=>∃B q e,v=.slice B q e/\Rb W B q e Y/\∀a,B=some a->gR<a.block) Γ Γ (fun j hj v W W' h Da=>by
      obtain⟨B,q,e,h1,h2,h3⟩:=h;refine⟨B,q,e,h1,?_,h3⟩;rcases Da with ⟨_,h9⟩|h9
      .exact h2.mh h9 (fun q hq=>BR _ (h3 q hq))
      .exact h2.ext h9)
     .rfl
     .intro W;go_simp;exact⟨rfl,rfl⟩
     .intro W hR hJ υ;refine(HEn.o W hR).mono ?_;rintro e w' ⟨B,q,bd,rfl,ho,he⟩;exact⟨_,rfl,oR.ai he,.inr he,B,q,bd,rfl,Rb.of ho.rd rfl,fun q hq=>by have h1:=(ho.gU q hq).1;have h2:=HR.o.lt;have h3:=hR.size;omega⟩
     intro v1;simp only[pu];apply j7 (u:=.string sY) Γ Γ (oR.refl _ _) (Bj.refl _ _ _)
     .rfl
     .intro W hR hJ υ;obtain⟨B,q,e,rfl,hq,_⟩:=υ.1 rfl;have hcv:=dS (P:=prog) W 30 9 5 underlying30 underlying5 underlying9 _ _ _ _ hq;rw[hsY]at hcv;go_simp;first|done|rfl
     simp only[pu];repeat apply gF (fun _ _ _ _=>trivial)
     apply gQ (p:=fun _ W=>Has W (zh gP gL gR) 3 gR (IG K (id:ξ) (p.first:ξ) (p.dP:ξ) (p.frame:ξ) p (.slice B p.ν.length d) p.sum)) Γ Γ (fun j hj v w w' h hR=>by
      rcases hR with ⟨h9,_⟩|h9
      .exact absurd h9 hj
      .exact h.ext h9)
     .rfl
     .intro W hR hJ υ;obtain⟨W2,h2,h3,h1⟩:=sE (P:=prog) 34 (us:=IG K (.int .i64 id) (.int .i64 (p.first:Nat)) (.int .i64 (p.dP:Nat)) (.int .i64 (p.frame:Nat)) p (.slice B p.ν.length d) p.sum) (HR.o.ext (hJ rfl)) rfl rfl mR (by simp[IG,Zq1]);have hmv:oR (· = 3) (zh gP gL gR) W W2:=⟨h3.os,h3.tape,h3.output,h3.size,fun k hk hn=>h3.block k hk (fun e=>hn (by cases e;exact h2.1))⟩;exact⟨W2,h1 _ _ _ _ rfl rfl rfl,hmv,.inl ⟨rfl,hmv⟩,h2⟩
     intro v7;simp only[rC];repeat apply gF (fun _ _ _ _=>trivial)
     refine aP ?_;intro W hR gT υ;have hZ:=υ.1 rfl;clear υ gT;go_wp2_with fail;have yc:Ext w W:=⟨hR.os.trans QS.o.os,hR.tape.trans QS.o.tape,hR.output.trans QS.o.output,aF QS.o.size hR.size,fun k hk=>(hR.block k (eM hk QS.o.size) (zZ k η)).trans (QS.o.block k hk)⟩;refine bodyPost_ret (uf (q:=3) rfl _ rfl hZ underlying34 mR) rfl ⟨B,d,?_,HB.o.mh hR (fun q hq=>BR _ (Kp.o q hq)),fun q hq=>by have:=Kp.o q hq;omega,yc⟩;unfold lB IG;rw[hK];rfl
end Go.Proofs.YtffcefoadaogbaaGreat
