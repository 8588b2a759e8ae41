/- A part of the proof. -/
import Derived.Test.YtffcefoadaogbaaGreatS16
import Derived.Test.YtffcefoadaogbaaGreatS19
namespace Go.Proofs.YtffcefoadaogbaaGreat
open Go.RowKit
open Go.Proofs.Tryz
set_option linter.all false
set_option maxRecDepth 100000
set_option maxHeartbeats 16000000
open _root_.List renaming find?_append->MT,getElem?_map->iZ,getD_eq_getElem?_getD->cO,getElem?_eq_getElem->bf,getElem_mem->dH,length_map->xN,length_append->eU,length_singleton->iD,map_append->gS,range->dJ,range_succ->uP,flatMap_append->ny,flatMap_singleton->adJ,drop_of_length_le->CM,append_nil->Af,flatMap_def->MU,map_congr_left->rQ,mem_range->nB,getElem?_append_right->ij,replicate->cP,length_replicate->gO
open Go.IntKind renaming i64->cQ
open Go.IntWalk renaming i64_in->pS
open Go.World renaming setCell->dG,alloc->aB
open _root_.Nat renaming zero_le->aM,le_trans->aF,le_refl->aq,max_eq_right->adK,max_eq_left->adL,mul_one->pK,not_lt_zero->lF
open Go.Value renaming int->af,pointer->adM,slice->kD
open _root_.Option renaming some->kI
open _root_.Array renaming getElem?_eq_some_iff->gy,toList->aaV
open Go renaming World->κ,Value->ξ,Calls->τ,TypeId->aY
variable{A:aS}{S:Nat->Prop}{T T':Tg}{base c d g i k me n size t:Nat}{cs:List ξ}{e:aY}{f:Nat->Nat}{l:List Oper}{p:Nat->Bool}{w w':κ}{σ:Nat->ξ}
theorem wG{me k:Nat}(hne:k≠me):∀n,k<n->∃r,dZ me n=dZ me k++k::r
 |n+1,hk=>by
  rw[nW];by_cases e:k=n
  .subst e;rw[if_neg hne];exact⟨[],rfl⟩
  .obtain⟨r,hr⟩:=wG hne n η
   rw[hr];split
   .exact⟨r,rfl⟩
   .exact⟨r++[n],bT⟩
theorem aaP(h:(dZ me k).find? p=none)(hp:k=me\/p k=false):(dZ me (k+1)).find? p=none:=by
 rw[nW];split
 .exact h
 .rename_i e
  rw[MT,h,List.find?_cons_of_neg (by rw[hp.resolve_left e];decide)]
  rfl
theorem aeU(h:(dZ me k).find? p=none)(hk:k<n)(hne:k≠me)(hp:p k=true):(dZ me n).find? p=some k:=by obtain⟨r,hr⟩:=wG hne n hk;rw[hr,MT,h,List.find?_cons_of_pos hp];rfl
section
variable {w w' w0:κ}{T T':Tg}{t b:Nat}{cf:Cf}{me:Nat}{x:Rx}{c c':Cr}{mk:List Nat}
section
variable(h:oG w T t b cf me x c mk)(hu:Θ w T)
include h hu
theorem oG.Cl(m:Nat):Ξ (· = t) w T (w.setCell (b,11) (m:ξ)) T/\oG (w.setCell (b,11) (m:ξ)) T t b cf me x {c with now:=m} mk:=by obtain⟨hT,hH⟩:=h.hd.put (S:=(· = t)) hu 11 (.int .i64 (m:Nat)) rfl;exact⟨hT,hH.is rfl,h.ln.ο hT (fun k hk=>sL),h.heard.ο hT η,h.has.ο hT η,h.words.ο hT η,h.apart.ο hT η,h.marks.ο hT η,h.bx.ο hT η⟩
theorem oG.tJ:Ξ (· = t) w T (w.setCell (b,18) (.bool true)) T/\oG (w.setCell (b,18) (.bool true)) T t b cf me x {c with closed:=true} mk:=by obtain⟨hT,hH⟩:=h.hd.put (S:=(· = t)) hu 18 (.bool true) rfl;exact⟨hT,hH.is rfl,h.ln.ο hT (fun k hk=>sL),h.heard.ο hT η,h.has.ο hT η,h.words.ο hT η,h.apart.ο hT η,h.marks.ο hT η,h.bx.ο hT η⟩
end
theorem rq(h:Row w T t 3 1 A n d (qW n f))(hi:i<n):∃g,A=some ⟨g,0,none⟩/\w.cell? ⟨g,i,none⟩=some ((f i:Nat):ξ)/\w.frozen? ⟨g,i,none⟩=false/\T g=t :=
 h.at_ (by unfold qW;rw[iZ,List.getElem?_range hi];rfl)
theorem NG(h:c.closed=true):nR c me mk=[]/\c.tick me=c:=by unfold nR Cr.tick;rw[if_pos h,if_pos h];exact⟨rfl,rfl⟩
theorem VA(h:¬c.closed=true)(hl:c.late me=some k):nR c me mk=[]/\c.tick me={c with now:=c.now+1,bx:=c.bx++[(2,k)],closed:=true}:=by unfold nR Cr.tick;rw[if_neg h,if_neg h,hl];exact⟨rfl,rfl⟩
theorem VB(h:¬c.closed=true)(hl:c.late me=none):nR c me mk=(c.others me).map (eR c me mk)/\c.tick me={c with now:=c.now+1}:=by unfold nR Cr.tick;rw[if_neg h,if_neg h,hl];exact⟨rfl,rfl⟩
theorem VC{w:κ}{gp o:Nat}{y:Int}(h:Has w (fun _=>0) 0 gp [(0:Int),(0:Int),(0:Int),(0:Int),(0:Int),.slice none 0 0,(0:Int),(0:Int),.int .u32 0])(hc:w.cell? (gp,o)=some (.int .u8 y)):False:=by
 obtain⟨_,ty,hb⟩:=h;rw[cell_of_row _ _ _ _ _ _ hb]at hc;match o with
 |0|1|2|3|4|5|6|7|8=>cases hc
 |o+9=>simp at hc
def Jk(c:Cr)(i:Nat):Bool:=decide (40<=c.now+1-c.heard i)
theorem aak(h:kE w T t b cf me c mk)(hk:bz cf me c mk)(hu:Θ w T)(ht:0<t)(AV:c.now<1000000):τ prog 90 #[π b] w (cG (In t 17) w T fun v w' T'=>∃B d,v=.slice B (nR c me mk).length d/\Nn w' T' (t+16) cf.id B d (nR c me mk)/\kE w' T' t b cf me (c.tick me) mk):=by
 obtain⟨i0,hi,dx,dA,dN⟩:=info_parts uC;have jW:=hk.ok.n8;have hlen:=hk.len;have mj:c.ls.length<=8:=by rw[hk.len];exact jW
 have H:=θ h;obtain⟨x,hx⟩:=h;obtain⟨c0,c1,c2,c4,lK,oA,Dk,yp,ya,K1,Dw,YE,DU⟩:=fI hx.hd;have f11:=hx.hd.free 11;by_cases j5:c.closed=true
 .obtain⟨q1,q2⟩:=NG (me:=me) (mk:=mk) j5;rw[q1,q2];rw[j5]at DU;unfold π at*;clear hx hk q1 q2;go_enter func90,ntmps90;go_wp2;go_ret;exact⟨_,rfl,T,Ξ.refl _ hu,none,0,rfl,Nn.dR _ _ _ _,H.o⟩
 .have Pt:c.closed=false:=by simpa using j5
  rw[Pt]at DU;have Kf:c.others me=dZ me cf.n:=af8;have hla:c.late me=(dZ me cf.n).find? (Jk c):=by unfold Cr.late;rw[Kf];rfl
  have amj:=θ Kf;have Hla:=θ hla;have Gh:=θ j5;obtain⟨cw,Wp⟩:=hx.Cl hu (c.now+1);have Gn:=hk.Cl (m:=c.now+1) AV (Nat.le_succ _);have HX:=θ Wp;have l8:=θ cw;have hhe:∀i,c.heard i<=c.now:=hk.heard;have Hhe:=θ hhe;have V3:c.bx.length<=1000000:=hk.bx;have Hev:=θ V3;have hid:vb ((cf.id:Nat):Int):=⟨η,by have:=hk.ok.id;omega⟩;have Hid:=θ hid;have Hio:=θ fun i (hi:i<cf.n) (hne:i≠me)=>Cc hk hi hne;have Hk:=θ hk;have hw:cQ.wrap ((c.now:Int)+1)=((c.now+1:Nat):Int):=by rw[pS _ η];omega
  generalize hnw:c.now+1=nw at*;have Hnw:=θ hnw;unfold π at*;clear hx hk Gn Wp cw hhe V3 hid hnw Kf hla j5 c0 c1 c2 c4 lK Dk yp ya K1 Dw YE;go_enter func90,ntmps90;go_wp2_with fail;generalize hWs:dG w _ _=ws at*;clear hWs oA f11;go_loopw [3] (fun iv wr=>∃k:Nat,iv=.int .i64 (k:Nat)/\k<=cf.n/\(dZ me k).find? (Jk c)=none/\Ext ws wr) (fun iv _=>cf.n-(intOf iv).toNat)
  case atStart=>exact⟨0,rfl,aM _,rfl,Ext.refl _⟩
  case round =>
   obtain⟨k,rfl,jk,hfi,he⟩:=hrel;have hXr:=HX.o.ext he;obtain⟨d0,d1,_,_,_,d11,d12,_,_,_,_,_,_⟩:=fI hXr.hd;have hhc:=hXr.heard.rd.2;by_cases jm:k<cf.n
   .have jF:=dQ ((k:Int)<(cf.n:Int))
    obtain⟨g,hg,hh,_,_⟩:=rq hXr.heard jm;rw[hg]at d12;have q1:((k:Int)<(cf.n:Int))=True:=eq_true η;have hmx:=hhc.2.1;unfold maxLen at hmx;have HXr:=θ hXr;have Hfi:=θ hfi;have He:=θ he;clear hXr hfi hhc he;by_cases X5:k=me
    .subst X5
     go_wp2_with fail;apply iL trivial;repeat first|apply nh d1|apply lU trivial
     refine jq fun Wx ak=>?_;go_wp2;go_roundw
     case rel=>exact⟨k+1,cR,η,aaP Hfi.o (.inl rfl),He.o.trans ak⟩
     exact dB
    .have agG:((k:Int)==(me:Int))=false:=by rw[beq_eq_false_iff_ne];omega
     have anR:((k:Int) != (me:Int))=true:=by rw[bne_iff_ne];omega
     have hhk:=Hhe.o k;have SS:=Hnw.o;have hwr:=ej ((nw:Int)-(c.heard k:Int));by_cases aX:40<=nw-c.heard k
     .have e1:=dQ ((40:Int)<=(nw:Int)-(c.heard k:Int))
      have hlp:Jk c k=true:=by unfold Jk;rw[SS];exact zF aX
      have DQ:=θ (aeU Hfi.o jm X5 hlp);clear SS hhk;generalize c.heard k=EK at*;go_wp2_with fail;apply iL trivial;repeat first|apply VZ d1 d11 d12 hh|apply lU trivial
      refine jq fun Wx ak=>?_;have xe:=He.o.trans ak;have HEv:=θ (IQ (kE.ext ⟨x,HX.o⟩ xe) (by exact mj) (l8.o.Δ.ext xe) Hev.o 2 k);have Xe:=θ xe;clear xe ak d0 d1 d11 d12 hh;unfold π at*;go_wp2_with fail;refine HEv.o.mono ?_;rintro e w9 ⟨rfl,T9,II,x9,PI⟩;have d18:=(fI PI.hd).DU;have f18:=PI.hd.free 18;obtain⟨ajL,ajM⟩:=PI.tJ II.Δ;have amk:=θ ajL;have aml:=θ ajM;have GN:=θ II;clear PI ajL ajM II;go_wp2;go_ret;obtain⟨q1,q2⟩:=VA (me:=me) (mk:=mk) Gh.o (Hla.o.trans DQ.o);rw[q1,q2,Hnw.o];refine⟨_,rfl,T9,((l8.o.mono fun q hq=>afs).ext Xe.o).trans ((GN.o.mono fun q hq=>iw).trans (amk.o.mono fun q hq=>afs)),none,0,rfl,Nn.dR _ _ _ _,x9,aml.o⟩
     .have e1:=dh ((40:Int)<=(nw:Int)-(c.heard k:Int))
      have hlp:Jk c k=false:=by unfold Jk;rw[SS];exact zG aX
      clear SS hhk;generalize c.heard k=EK at*;go_wp2_with fail;apply iL trivial;repeat first|apply VZ d1 d11 d12 hh|apply lU trivial
      refine jq fun Wx ak=>?_;go_wp2;go_roundw
      case rel=>exact⟨k+1,cR,η,aaP Hfi.o (.inr hlp),He.o.trans ak⟩
      exact dB
   .obtain rfl:k=cf.n:=by omega
    have Hfi:=θ hfi;have ZM:=θ hXr;have jr:=θ (l8.o.ext he);clear hXr hfi he hhc d1 d11 d12;go_wp2_with fail;clear d0;generalize xZ:wr=w2 at*;go_loopw [4,5] (fun v iv wr=>aeG w2 T (t+16) cf.id me cf.n (eR c me mk) v iv wr) (fun _ iv _=>cf.n-(intOf iv).toNat)
    case atStart=>exact⟨0,T,none,0,0,rfl,aM _,rfl,rfl,Ξ.refl _ jr.o.Δ,Nn.dR _ _ _ _⟩
    case round =>
     obtain⟨k,T0,B,m,d,rfl,hk,rfl,hm,hT,hM⟩:=hrel;have jU:=hT.Δ;have Hm:=θ hm;have TA:m<=k:=by rw[hm];exact uu me k
     have hXk:=ZM.o.ο (by exact mj) hT (fun q hq e=>by subst e;unfold In at hq;omega);obtain⟨c0,c1,c2,_,lK,_,_,yp,_,_,Dw,_,DU⟩:=fI hXk.hd;have HXk:=θ hXk;have HT:=θ hT;clear hm;by_cases jm:k<cf.n
     .have jF:=dQ ((k:Int)<(cf.n:Int))
      have tP:=nW me k;by_cases X5:k=me
      .subst X5
       rw[if_pos rfl]at tP;have PF:=θ tP;have HM:=θ hM;clear tP hM hT hXk;go_wp2;go_roundw
       case rel=>exact⟨k+1,T0,B,m,d,cR,η,rfl,by rw[PF.o];exact Hm.o,HT.o,by rw[PF.o];exact HM.o⟩
       exact dB
      .rw[if_neg X5]at tP
       have PF:=θ tP;have agG:((k:Int)==(me:Int))=false:=kO;have HM:=θ hM;have DT:=Hk.o.me;have JQ:=HXk.o.ln;obtain⟨gl,CI,_,N1⟩:=JQ.at_ (by show 0<c.ls.length;omega);have lk:=(N1 k (by show k<c.ls.length;omega)).1;obtain⟨gh,hgh,sk,_,_⟩:=rq hXk.has jm;have aim:=JQ.cap;have adN:=hXk.has.rd.2;have aaW:=hXk.marks.rd.2;have K2:c.ls.length=cf.n:=hlen;have anS:=Hk.o.marks;have afI:=Hk.o.has k;have Zw:=θ (show(c.ls.getD me []).length<=1000 by rw[cO,bf η];exact Hk.o.short _ (dH η));have afK:(c.ls.getD k []).length<=1000:=by rw[cO,bf η];exact Hk.o.short _ (dH η)
       have sI:=θ fun W (e:Ext wr W)=>Uv (JQ.ext e) (i:=me) (g:=gl) (by show me<c.ls.length;omega) CI Zw.o (c.has k) afI;have q1:((k:Int)<(cf.n:Int))=True:=eq_true η;have q2:(k<cf.n)=True:=eq_true jm;have q3:(me<cf.n)=True:=eq_true DT;rw[CI]at lK;rw[hgh]at yp;obtain⟨anT,agI⟩:=aim;have amm:=adN.2.1;have anU:=aaW.1;have amn:=aaW.2.1;unfold maxLen at agI amm amn;obtain⟨dP,aaX⟩:∃dP,(c.ls.getD k []).length=dP:=⟨_,rfl⟩;obtain⟨YU,afV⟩:∃YU,c.has k=YU:=⟨_,rfl⟩;obtain⟨pr,ag8⟩:∃pr,((c.ls.getD me []).drop (c.has k)).take 32=pr:=⟨_,rfl⟩;rw[aaX]at lk afK;rw[afV]at sk;rw[ag8]at sI;rw[afV]at sI;have Hpk:=θ (show eR c me mk k={iA:=false,src:=me,dst:=k,first:=YU,ν:=pr,dP:=dP,frame:=mk.length,sum:=mk.getLastD 0} by rw[←aaX,←afV,←ag8];rfl);clear hXk JQ N1 CI hgh adN aaW aaX afV ag8 hM hT;go_upto_region 16 with fail
       apply lG 52;simp only[tk];repeat apply lx5 c1 c2 lK yp sk
       apply BC (p:=fun u W=>∃B n d,u=.slice B n d/\Rb W B n d pr/\∀q,bn B=some q->wr.heap.size<=q) (fun _ _ _ ⟨B,n,d,h1,h2,h3⟩ he=>⟨B,n,d,h1,h2.ext he,h3⟩)
       .intro W hR υ;refine(sI.o W hR).mono ?_;rintro e w' ⟨B,n,d,rfl,h1,h2,h3⟩;exact⟨_,rfl,h3,B,n,d,rfl,h1,fun q hq=>aF hR.size (h2 q hq)⟩
       intro v1;simp only[pu];repeat apply DH lK Dw lk
       apply dL (p:=fun u W=>∃B n d,u=.agg #[(1:Int),me,k,cf.id,YU,.slice B n d,dP,mk.length,.int .u32 0]/\Rb W B n d pr/\∀q,bn B=some q->wr.heap.size<=q) (fun _ _ _ ⟨B,n,d,h1,h2,h3⟩ he=>⟨B,n,d,h1,h2.ext he,h3⟩)
       .rfl
       .intro W hR υ;obtain⟨B9,n9,d9,rfl,h1,h2⟩:=υ.1 rfl;refine⟨_,W,?_,Ext.refl _,B9,n9,d9,rfl,h1,h2⟩;go_simp;first|done|rfl
       intro v2;simp only[pu];apply dL (p:=fun u W=>∃g0,u=.pointer (some ⟨g0,0,none⟩)/\wr.heap.size<=g0/\Has W (fun _=>0) 0 g0 [(0:Int),(0:Int),(0:Int),(0:Int),(0:Int),.slice none 0 0,(0:Int),(0:Int),.int .u32 0]) (fun _ _ _ ⟨g,hv,hg,h⟩ he=>⟨g,hv,hg,h.ext he⟩)
       .rfl
       .intro W hR υ;refine⟨.pointer W.heap.size,W.alloc (.cells #[(0:Int),(0:Int),(0:Int),(0:Int),(0:Int),.slice none 0 0,(0:Int),(0:Int),.int .u32 0] 34),?_,Ext.alloc _ _,W.heap.size,rfl,hR.size,rfl,_,heap_alloc_new W _⟩;go_simp;first|done|rfl
       intro v3;simp only[pu];refine lex_nil ?_;intro Wx ak υ;obtain⟨gp,rfl,tK,hB⟩:=υ.1 rfl;obtain⟨PB,pn,pd,rfl,hpb,hpq⟩:=υ.2.1 rfl;clear υ;simp only[dk];have ajN:[af .i64 1,.int .i64 (me:Nat),.int .i64 (k:Nat),.int .i64 (cf.id:Nat),.int .i64 (YU:Nat),.slice PB pn pd,.int .i64 (dP:Nat),.int .i64 (mk.length:Nat),.int .u32 0].length=9:=rfl;have ajO:[af .i64 0,.int .i64 0,.int .i64 0,.int .i64 0,.int .i64 0,.slice none 0 0,.int .i64 0,.int .i64 0,.int .u32 0].length=9:=rfl;have ajP:∀u∈[af .i64 1,.int .i64 (me:Nat),.int .i64 (k:Nat),.int .i64 (cf.id:Nat),.int .i64 (YU:Nat),.slice PB pn pd,.int .i64 (dP:Nat),.int .i64 (mk.length:Nat),.int .u32 0],u.oneCell'=true:=gA;go_upto_if 127 with (first|(refine bE rfl 34 (.tmp 6) (.tmp 121) rfl rfl (us:=[.int .i64 1,.int .i64 (me:Nat),.int .i64 (k:Nat),.int .i64 (cf.id:Nat),.int .i64 (YU:Nat),.slice PB pn pd,.int .i64 (dP:Nat),.int .i64 (mk.length:Nat),.int .u32 0]) rfl hB ajN ajO mR ajP ?_;intro W2 oQ kL xE;have x2:Ext wr W2:=Below.trans ak (fW kL ak.size (by intro q hq;cases hq;exact tK));have e16:=x2.cell Dw))
       have ag9:0<pn->∀q,bn PB=some q->q≠gp:=fun h0 q hq e=>by
        obtain⟨b9,o9,e9,hc9⟩:=hpb.at_ (k:=0) (by have:=hpb.len;omega);rw[e9]at hq;cases hq
        exact VC (e▸hB) (by simpa using hc9)
       have X2:=θ x2;have Kh:=θ oQ;have ZL:=θ tK;have Hpq:=θ hpq;have amo:=θ ag9;have Hpb:=θ (Rb.uw hpb fun h0 q hq=>kL.block q (Rd.Gf hpb η hq) (fun e=>ag9 h0 q hq (kI.inj e.symm).symm));clear x2 oQ tK kL xE ak hB ajN ajO ajP hpb hpq ag9;go_cut [] (fun wx=>Ext wr wx/\Has wx (fun _=>0) 0 gp [(1:Int),me,k,cf.id,YU,.slice PB pn pd,dP,mk.length,.int .u32 (mk.getLastD 0:Nat)]/\Rb wx PB pn pd pr)
       case first =>
        by_cases Bk:mk=[]
        .subst Bk
         go_wp2_with fail;go_meet
         exact⟨X2.o,Kh.o,Hpb.o⟩
        .have qc:0<mk.length:=List.length_pos_iff.2 Bk
         have e9':=dQ (0<mk.length) qc;obtain⟨ml,lD⟩:∃ml,ml=mk.length-1:=⟨_,rfl⟩;have hwm:cQ.wrap ((mk.length:Int)-1)=(ml:Int):=by rw[pS _ η];omega
         have anV:ml<mk.length:=η;obtain⟨gm,qT,cm,_,_⟩:=(HXk.o.marks.ext X2.o).at_ (i:=ml) (v:=.int .u32 ((mk.getLastD 0:Nat):Int)) (by unfold PO;rw[iZ,lD,List.getLastD_eq_getLast?,List.getLast?_eq_getElem?,bf η];rfl);rw[qT]at e16;have q5:((ml:Int)<(mk.length:Int))=True:=eq_true η;clear lD qT;generalize mk.getLastD 0=lst at*;go_wp2_with fail;apply lG 13;simp only[tk];repeat apply kZ e16 cm
         refine jq fun Wx ak=>?_;simp only[dk];have hBx:=Kh.o.ext ak;have p8:=hBx.zc 8;have f8:=hBx.free 8;obtain⟨MV,hH8⟩:=hBx.put (S:=fun _=>True) (fun _ _=>rfl) 8 (.int .u32 (lst:Nat)) trivial;have HH8:=θ hH8;have hx8:=R2 (X2.o.trans ak) (a:=⟨gp,8,none⟩) ZL.o (.int .u32 (lst:Nat));have ajQ:=Hpb.o.ext ak;have ajR:=Rb.uw (w':=Wx.setCell (gp,8) (.int .u32 (lst:Nat))) ajQ fun h0 q hq=>Below.heap_setCell Wx _ _ q (amo.o h0 q hq);have Hx8:=θ hx8;have amq:=θ ajR;clear hBx MV hH8 hx8 ajQ ajR ak;go_wp2_with fail;go_meet
         exact⟨Hx8.o,HH8.o.is rfl,amq.o⟩
       case rest =>
        obtain⟨hxc,hBc,Km⟩:=hcut;generalize mk.getLastD 0=lst at*;obtain⟨hs,a1,a2,a3⟩:=HM.o.ext hxc;rw[xN,←Hm.o]at a2;have A1:=θ a1;have A3:=θ a3;have fO:=a2;have Ea:bn B≠some gp:=fun e=>by have h1:=fO.2 gp e;have h2:=jU gp ZL.o;omega
        have vY:Sb wc T0 PB pn pd pr:=⟨Km,fun h0 q hq=>jU q (Hpq.o q hq)⟩;have yX:=jU.ext hxc;have hXc:=HXk.o.ext hxc;have pF:=hXc.hd.jY fO η;have c1:=hxc.cell c1;have p0:=hBc.zc 0;have p1:=hBc.zc 1;have p2:=hBc.zc 2;have p3:=hBc.zc 3;have p4:=hBc.zc 4;have p5:=hBc.zc 5;have p6:=hBc.zc 6;have p7:=hBc.zc 7;have p8:=hBc.zc 8;have aha:=Hio.o k jm X5;have HTc:=θ (HT.o.ext hxc);have HXc:=θ hXc;obtain⟨pk,LF⟩:∃pk:Pk,pk={iA:=false,src:=me,dst:=k,first:=YU,ν:=pr,dP:=dP,frame:=mk.length,sum:=lst}:=⟨_,rfl⟩;have ahb:eR c me mk k=pk:=by rw[LF];exact Hpk.o
        rw[ahb]at aha;have HC:=fun W (hR:gR B wc W)=>Qz (T:=T0) (fun j hj=>yX j (aF hR.size hj)) (id:=(cf.id:Nat)) (p:=pk) aha Hid.o (A:=PB) (n:=pn) (c:=pd) (by rw[LF];exact(vY.ο (Ξ.om (S:=(· = t+16)) yX hR (fun g hg=>fO.2 g hg)) η).rb);have ajS:=byP.aQ (t+16) η (aG cf.id pk);have mA:=zn.aQ (t+16) η me k (aG cf.id pk);have eo:=zn.one me k (aG cf.id pk);have HEP:=θ (show aG cf.id (eR c me mk k)=aG cf.id pk by rw[ahb]);generalize aG cf.id pk=EP at*;unfold lB at HC;subst LF;clear a1 a2 a3 hXc hxc hBc Km vY aha ahb HM c0 c2 lK yp Dw DU lk sk e16;have jU:=yX;generalize KZ:wc=w0 at*;go_upto_region 19 with fail
        have eL:=(fO).1;have cU:=(fO).cond;apply Ar 12 (gR B) (oM 11 B) (BL 11 76 3 B m d (cY cf.id ((dZ me k).map (eR c me mk)) hs)) (BL.start eL);simp only[tk];repeat apply gF (fun _ h _ _=>aj (h.cell c1 pF) (aj (h.cell p0 Ea) (aj (h.cell p1 Ea) (aj (h.cell p2 Ea) (aj (h.cell p3 Ea) (aj (h.cell p4 Ea) (aj (h.cell p5 Ea) (aj (h.cell p6 Ea) (aj (h.cell p7 Ea) (h.cell p8 Ea))))))))))
        apply uI (p:=uO T0 w0.heap.size (byP EP)) Γ Γ (uO.aQ ajS cU _)
        .intro W hR hJ υ;exact uO.call (fun k hk=>jU k (aF hR.size hk)) hR.size (HC W hR)
        intro v1;simp only[pu];apply aE (p:=uO T0 w0.heap.size (zn me k EP)) Γ Γ (uO.aQ mA cU _)
        .rfl
        .intro W hR hJ υ;obtain⟨T9,EK,yX,TL⟩:=υ.1 rfl;obtain⟨QB,qbd,rfl,D7⟩:=TL;refine⟨_,W,?_,gR.refl _ _,oM.refl _ _ _ _,T9,EK,yX,QB,qbd,rfl,D7⟩;go_simp;first|done|rfl
        intro v2;simp only[pu];apply aE (p:=dI T0 w0.heap.size (zn me k EP) 76) Γ Γ (dI.aQ mA cU _)
        .rfl
        .intro W hR hJ υ;have hF:=υ.1 rfl;have hB:=dI.made (e:=76) mA hR.size hF;obtain⟨T9,EK,yX,TL⟩:=hF;obtain⟨QB,qbd,rfl,D7⟩:=TL;refine⟨_,_,?_,(Ext.alloc _ _).grownBy _,.inr (Ext.alloc _ _),hB⟩;go_simp;first|done|rfl
        intro v3;simp only[pu];apply aE (p:=mO T0 w0.heap.size (zn me k EP) (t+16) B 76 3 (m+1) (cY cf.id ((dZ me k).map (eR c me mk)) hs)) Γ Γ (fun j hj v w w9 h hR=>mO.aQ j hj v w w9 h mA hR)
        .rfl
        .intro W hR hJ υ;exact dF W _ _ 43 rfl 76 i0 (.agg #[(0:Int),(0:Int),.slice none 0 0]) 3 40 underlying43 hi dx dA dN rfl Γ B m d ((cY cf.id ((dZ me k).map (eR c me mk)) hs)) rfl (hJ rfl) v3 rfl (υ.1 rfl) eo iQ η cU mA hR.size
        intro v4;simp only[pu];repeat apply gF (fun _ h _ _=>aj (h.cell c1 pF) (aj (h.cell p0 Ea) (aj (h.cell p1 Ea) (aj (h.cell p2 Ea) (aj (h.cell p3 Ea) (aj (h.cell p4 Ea) (aj (h.cell p5 Ea) (aj (h.cell p6 Ea) (aj (h.cell p7 Ea) (h.cell p8 Ea))))))))))
        refine aP ?_;intro W hR gT υ;obtain⟨u1,T1,E,Ed,rfl,cw,BU,ja,pJ⟩:=(υ.1 rfl).fin hR cU;clear υ gT;simp only[dk];obtain⟨QB,qbd,rfl,D7⟩:=BU;have lD:((dZ me k).map (eR c me mk)).length=m:=by rw[xN,Hm.o]
        have HMl:=θ (Nn.app (id:=cf.id) (k:=eR c me mk k) A1.o A3.o cw η (A:=QB) (bd:=qbd) (E:=E) (Ed:=Ed) (by rw[HEP.o];exact D7) (by rw[lD];unfold jR;rw[HEP.o];exact ja));have l8:=θ (HTc.o.trans cw);clear cw ja D7 lD fO jU pF mA ajS eo HC eL cU pJ;go_wp2;go_roundw
        case rel=>exact⟨k+1,T1,E,m+1,Ed,cR,η,rfl,by rw[PF.o,eU,iD,Hm.o],l8.o,by rw[PF.o,gS];exact HMl.o⟩
        exact dB
     .obtain rfl:k=cf.n:=by omega
      have HM:=θ hM;clear hXk hM hT c1 c2 lK yp Dw DU;go_wp2;go_ret;obtain⟨q1,q2⟩:=VB (me:=me) (mk:=mk) Gh.o (Hla.o.trans Hfi.o);rw[q1,q2,amj.o,Hnw.o];refine⟨_,rfl,T0,(jr.o.mono fun q hq=>afs).trans (HT.o.mono fun q hq=>afs),B,d,by rw[xN,←Hm.o];rfl,HM.o,x,HXk.o⟩
end
theorem Jl{g g':Nat->List ξ}{m i:Nat}(hl:∀i,(g i).length=m)(hne:∀j,j≠i->g' j=g j):∀n,i<n->((dJ n).flatMap g).take (i*m)++g' i++((dJ n).flatMap g).drop (i*m+m)=(dJ n).flatMap g'
 |n+1,hi=>by
  have hf:=tu g m hl n;rw[uP,ny,ny,adJ,adJ];by_cases e:i=n
  .subst e
   rw[←hf,List.take_left,CM (by rw[eU,hl];exact aq _),Af];congr 1
   rw[MU,MU,rQ fun j hj=>hne j (by have:=nB.1 hj;omega)]
  .have h1:i*m+m<=n*m:=by rw[←Nat.succ_mul];exact Nat.mul_le_mul_right m η
   rw[List.take_append_of_le_length η,List.drop_append_of_le_length η,←List.append_assoc,Jl hl hne n η,hne n (fun h=>e h.symm)]
theorem F0(f:Nat->Nat)(v:Nat):(qW n f).set i (v:ξ)=qW n (aW f i v):=by unfold qW;exact R9 n i _ _ _ (by show af .i64 (aW f i v i:Nat)=_;rw[aH]) fun j _ hne=>by show af .i64 (aW f i v j:Nat)=_;rw[az _ _ hne]
section
variable {w w' w0:κ}{T T':Tg}{t b:Nat}{cf:Cf}{me:Nat}{x:Rx}{c c':Cr}{mk:List Nat}
section
variable(h:oG w T t b cf me x c mk)(hn:c.ls.length<=8)(hu:Θ w T)
include h hn hu
theorem oG.aal(hg:x.HA=some ⟨g,0,none⟩)(v:Nat):Ξ (· = t+10) w T (w.setCell (g,i) (v:ξ)) T/\oG (w.setCell (g,i) (v:ξ)) T t b cf me x {c with heard:=aW c.heard i v} mk:=by obtain⟨hT,hR⟩:=h.heard.put hu (i:=i) hg (.int .i64 (v:Nat));rw[F0]at hR;exact⟨hT,h.hd.ο hT η,h.ln.ο hT (fun k hk=>sL),hR,h.has.ο hT η,h.words.ο hT η,h.apart.ο hT η,h.marks.ο hT η,h.bx.ο hT η⟩
theorem oG.aeV(hg:x.SA=some ⟨g,0,none⟩)(v:Nat):Ξ (· = t+11) w T (w.setCell (g,i) (v:ξ)) T/\oG (w.setCell (g,i) (v:ξ)) T t b cf me x {c with has:=aW c.has i v} mk:=by obtain⟨hT,hR⟩:=h.has.put hu (i:=i) hg (.int .i64 (v:Nat));rw[F0]at hR;exact⟨hT,h.hd.ο hT η,h.ln.ο hT (fun k hk=>sL),h.heard.ο hT η,hR,h.words.ο hT η,h.apart.ο hT η,h.marks.ο hT η,h.bx.ο hT η⟩
theorem oG.ab6(hi:i<cf.n)(hg:x.WA=some ⟨g,0,none⟩)(v s:Nat):Ξ (· = t+12) w T (w.setCells g (i*2) [v,.int .u32 (s:Nat)]) T/\oG (w.setCells g (i*2) [v,.int .u32 (s:Nat)]) T t b cf me x {c with words:=aW c.words i (v,s)} mk:=by have hl:(CK cf.n c.words).length=cf.n*2:=tu _ 2 (fun _=>rfl) _;obtain⟨hT,hR⟩:=Row.Kk hg [.int .i64 (v:Nat),.int .u32 (s:Nat)] (i*2) _ _ h.words hu (by rw[hl];simp;omega);have hR:=hR.to (show _=CK cf.n (aW c.words i (v,s)) from by have h9:=Jl (g:=fun j=>[af .i64 ((c.words j).1:Nat),.int .u32 ((c.words j).2:Nat)]) (g':=fun j=>[af .i64 ((aW c.words i (v,s) j).1:Nat),.int .u32 ((aW c.words i (v,s) j).2:Nat)]) (m:=2) (i:=i) (fun _=>rfl) (fun j hj=>by simp only[az _ _ hj]) cf.n hi;simp only[aH]at h9;exact h9);exact⟨hT,h.hd.ο hT η,h.ln.ο hT (fun k hk=>sL),h.heard.ο hT η,h.has.ο hT η,hR,h.apart.ο hT η,h.marks.ο hT η,h.bx.ο hT η⟩
end
theorem oG.ab7(h:oG w T t b cf me x c mk)(hi:i<8){uQ:Nat->Option Addr×Nat}{Dg:bH}(hT:Ξ (fun q=>q=t+1\/q=t+1+1+i) w T w' T')(hL:Cb w' T' (t+1) x.LA x.lc uQ Dg):oG w' T' t b cf me {x with hs:=uQ} {c with ls:=Dg} mk :=
 ⟨h.hd.ο hT η,hL,h.heard.ο hT η,h.has.ο hT η,h.words.ο hT η,h.apart.ο hT η,h.marks.ο hT η,h.bx.ο hT η⟩
theorem aam(c:Cr)(i a h:Nat):qW cf.n (aW c.has i (max (c.has i) a))=qW cf.n (if c.has i<a/\a<=h then aW c.has i a else c.has)\/h<a:=by
 by_cases h1:a<=h
 .refine .inl ?_
  unfold qW;apply rQ;intro j _;by_cases e:j=i
  .subst e
   rw[aH];split
   .rename_i h2;rw[aH,adK η]
   .rw[adL η]
  .rw[az _ _ e]
   split
   .rw[az _ _ e]
   .rfl
 .exact .inr η
theorem VD(h:kE w T t b cf me c mk)(hk:bz cf me c mk)(hu:Θ w T)(ht:0<t)(p:Pk)(hp:mw p)(kN:p.dst=me)(iF:p.src<cf.n)(hb:Rb w A n d (aG cf.id p))(hf:p.iA=false->p.first<=(c.ls.getD p.src []).length/\p.first+p.ν.length<=1000)(hkr:bz cf me (c.recv me p) mk)(hQ:Quiet cf (c.recv me p) mk):τ prog 160 #[π b,.slice A n d] w (Does (In t 16) w T (.int .i64 (if c.closed then 6 else 0)) fun w' T'=>kE w' T' t b cf me (c.recv me p) mk):=by
 have jW:=hk.ok.n8;have mj:c.ls.length<=8:=by rw[hk.len];exact jW
 obtain⟨x,hx⟩:=h;have DU:=(fI hx.hd).DU;by_cases j5:c.closed=true
 .have hr:c.recv me p=c:=by unfold Cr.recv;rw[if_pos j5]
  rw[hr,if_pos j5];rw[j5]at DU;have HX:=θ hx;unfold π at*;clear hx hk hb hp hf hkr hQ hr;go_enter func160,ntmps160;go_wp2;go_ret;exact⟨rfl,T,Ξ.refl _ hu,x,HX.o⟩
 have Pt:c.closed=false:=Lj;rw[if_neg j5];rw[Pt]at DU;have hid:vb (cf.id:Nat):=af5;have DT:=hk.me;have Qc:=aaj w (cf.id:Nat) p A n d hp hid hb;unfold lB at*;rw[kN]at Qc;have Zq:=θ Qc;have ain:=θ fun W T9 (h9:kE W T9 t b cf me (c.recv me p) mk)=>Mt h9 hkr hQ;have HX:=θ hx;have HK:=θ hk;have HP:=θ hp;have Hf:=θ hf;have Gh:=θ j5;unfold π at*;clear Qc kN hx hk hp hf hb hkr hQ hid j5;go_enter func160,ntmps160;go_wp2_with fail;refine Zq.o.mono ?_;rintro e w2 ⟨A',d',rfl,tO,Md,e2⟩;have bP:=(Has.new w2 (fun _=>0) [(fM p:Int),p.src,me,cf.id,p.first,.slice A' p.ν.length d',p.dP,p.frame,.int .u32 (p.sum:Nat)] 34 rfl).2;go_wp2_with fail;generalize hW:aB w2 _=W1 at*;have x1:Ext w W1:=by subst hW;exact e2.trans (Ext.alloc _ _)
 have x2:Ext w2 W1:=by subst hW;exact Ext.alloc _ _
 clear hW;generalize hg:w2.heap.size=g at*;have um:w.heap.size<=g:=by rw[←hg];exact e2.size
 have bP:Has W1 T 0 g _:=⟨hu g um,bP⟩;have MI:Sb W1 T A' p.ν.length d' p.ν:=⟨tO.ext x2,fun _ k hk=>by obtain⟨a,ha,rfl⟩:=Option.map_eq_some_iff.1 hk;exact hu _ (Md a ha)⟩;have cw:Ξ (In t 16) w T W1 T:=Ξ.ai _ hu x1;have Wp:=HX.o.ext x1;have GZ:=cw.Δ;obtain⟨c0,c1,c2,c4,lK,oA,Dk,yp,ya,K1,Dw,YE,_⟩:=fI Wp.hd;obtain⟨gh,hgh,ch,fh,_⟩:=rq Wp.heard iF;rw[hgh]at Dk;have k1:=bP.zc 1;have k2:=bP.zc 2;have k3:=bP.zc 3;have Di:=dh ((cf.n:Int)<=(p.src:Int));have jF:=dh (cf.n<=p.src);have HB:=θ bP;have HS:=θ MI;have HX1:=θ Wp;have HT:=θ cw;have Hhh:=θ hgh;clear bP MI Wp cw c4 lK yp ya K1 Dw YE DU HX Zq tO Md x1 x2 hg um hgh;apply iL trivial;repeat first|apply WV k1 k2 k3 c0 c1 c2|apply lU trivial
 refine jq fun Wx ak=>?_;go_wp2_with fail;have k1:=ak.cell k1;have oA:=ak.cell oA;have Dk:=ak.cell Dk;have xa:=ak;clear ak k2 k3 c0 c1 c2 Di jF;apply lG 11;simp only[tk];repeat apply DH Dk k1 oA
 refine jq fun Wx ak=>?_;simp only[dk];have xw:=xa.trans ak;have ch:=xw.cell ch;have hX2:=HX1.o.ext xw;obtain⟨gh',ahc,_,fh,_⟩:=rq hX2.heard iF;obtain rfl:gh'=gh:=by rw[Hhh.o]at ahc;cases ahc;rfl
 obtain⟨cT,hX3⟩:=hX2.aal mj (GZ.ext xw) (i:=p.src) Hhh.o c.now;have sC:=(HB.o.ext xw).ο cT η;have HS3:=θ ((HS.o.ext xw).ο cT η);have jH:=θ ((HT.o.ext xw).trans (cT.mono fun k hk=>(by subst hk;unfold In;omega:In t 16 k)));have CL:=θ hX3;clear hX2 cT hX3 HX1 HB HS HT xa k1 oA Dk Hhh ahc;go_upto_region 7 with fail
 generalize Ux:dG Wx _ _=W3 at*;have k0:=sC.zc 0;have V9:=θ sC;clear Ux xw ch fh ak sC;go_upto_if 61 with fail
 go_cut [] (fun wx=>∃T5,Ξ (In t 16) w T wx T5/\kE wx T5 t b cf me (c.recv me p) mk)
 case first =>
  have Of:=jH.o.Δ;by_cases hq:p.iA=true
  .have Dp:fM p=2:=by unfold fM;rw[if_pos hq]
   rw[Dp]at k0;have k1:=V9.o.zc 1;have Hev:=θ (IQ ⟨x,CL.o⟩ mj Of HK.o.bx 1 p.src);have hr:c.recv me p={c with heard:=aW c.heard p.src c.now,bx:=c.bx++[(1,p.src)],closed:=true}:=by unfold Cr.recv;rw[if_neg Gh.o,if_pos hq]
   have Hr:=θ hr;unfold π at*;clear hr;go_wp2_with fail;refine Hev.o.mono ?_;rintro e w7 ⟨rfl,T7,yA,x7,hX7⟩;have DU:=(fI hX7.hd).DU;have f18:=hX7.hd.free 18;obtain⟨MV,hX8⟩:=hX7.tJ yA.Δ;have Qg:=θ ((jH.o.trans yA).trans (MV.mono fun k hk=>(by subst hk;unfold In;omega:In t 16 k)));have HX8:=θ hX8;clear yA hX7 MV hX8;go_wp2_with fail;go_meet
   rw[Hr.o];exact⟨T7,Qg.o,x7,HX8.o⟩
  have hqf:p.iA=false:=Tc;have Dp:fM p=1:=by unfold fM;rw[if_neg hq]
  rw[Dp]at k0;have k1:=V9.o.zc 1;have k4:=V9.o.zc 4;have k5:=V9.o.zc 5;have qV:p.src<c.ls.length:=by rw[HK.o.len];exact iF
  obtain⟨GA,Ge⟩:=Hf.o hqf;obtain⟨gl,CI,_,_⟩:=CL.o.ln.at_ (by show 0<c.ls.length;omega);have lK:=(fI CL.o.hd).lK;rw[CI]at lK;have ME:=θ fun W (e:Ext W3 W)=>UG (CL.o.ln.ext e) (Of.ext e) η (i:=p.src) qV CI p.first p.ν (HS3.o.ext e) GA Ge (HK.o.short _ (by rw[cO,bf qV];exact dH qV));obtain⟨Dg,Lw⟩:∃Dg,c.ls.set p.src (j8 (c.ls.getD p.src []) p.first p.ν)=Dg:=⟨_,rfl⟩;have hrecv:c.recv me p={c with ls:=Dg,heard:=aW c.heard p.src c.now,has:=if c.has p.src<p.dP/\p.dP<=(Dg.getD me []).length then aW c.has p.src p.dP else c.has,words:=if 0<p.frame/\(c.words p.src).1<=p.frame then aW c.words p.src (p.frame,p.sum) else c.words}:=by unfold Cr.recv;rw[if_neg Gh.o,if_neg hq,Lw]
  have RB:Dg.length=cf.n:=by rw[←Lw,List.length_set];exact HK.o.len
  have uU:=θ hrecv;have Hls:=θ Lw;have hpw:p.frame<=1000/\p.dP<=1000:=by obtain⟨o1,o2,o3,o4⟩:=HP.o;rw[if_neg hq]at o4;exact⟨o4.2.2.1,o4.2.1⟩
  unfold π at*;clear hrecv Lw GA Ge CI;go_wp2_with fail;apply lG 11;simp only[tk];repeat apply VZ lK k1 k4 k5
  refine jq fun Wx ak=>?_;simp only[dk];go_wp2_with fail;refine(ME.o Wx ak).mono ?_;rintro e w4 ⟨v4,rfl,T4,mE,hs4,K6⟩;have ajT:Cb w4 T4 (t+1) x.LA x.lc hs4 Dg:=by rw[←Hls.o];exact K6
  have HX4:=θ ((CL.o.ext ak).ab7 (i:=p.src) η mE ajT);have Ur:=θ ((V9.o.ext ak).ο mE η);have Bo:=θ ((jH.o.ext ak).trans (mE.mono fun k hk=>(by unfold In;omega:In t 16 k)));clear K6 ajT mE CL V9 jH HS3 ME ak k0 k1 k4 k5 lK Of;have FD:=θ fun W (e:Ext w4 W)=>Fp (⟨_,HX4.o.ext e⟩:kE _ _ _ _ _ _ _ _) RB DT;have sS:({c with ls:=Dg,heard:=aW c.heard p.src c.now}:Cr).head me=(Dg.getD me []).length:=rfl;rw[sS]at FD;have k6:=Ur.o.zc 6;generalize hhl:(Dg.getD me []).length=hl at*;unfold π at*;clear hhl sS;go_wp2_with fail;apply iL trivial;repeat apply nh k6
  apply jD (fun W hR=>FD.o W hR);repeat apply iO (fun _ _ _=>trivial)
  refine jq fun Wx ak=>?_;have VE:=θ (HX4.o.ext ak);have Om:=θ (Ur.o.ext ak);have qZ:=θ (Bo.o.ext ak);clear HX4 Ur Bo FD k6 ak;go_upto_if 85 with fail
  go_cut [] (fun wx=>∃T6 hf,Ξ (In t 16) w T wx T6/\Has wx T6 0 g [(fM p:Int),p.src,me,cf.id,p.first,.slice A' p.ν.length d',p.dP,p.frame,.int .u32 (p.sum:Nat)]/\kE wx T6 t b cf me {c with ls:=Dg,heard:=aW c.heard p.src c.now,has:=hf} mk/\qW cf.n hf=qW cf.n (if c.has p.src<p.dP/\p.dP<=hl then aW c.has p.src p.dP else c.has))
  case first =>
   by_cases hle:p.dP<=hl
   .have Yg:=dQ ((p.dP:Int)<=(hl:Int))
    have k1:=Om.o.zc 1;have k6:=Om.o.zc 6;have yp:=(fI VE.o.hd).yp;obtain⟨gs,Nd,cs,fs,_⟩:=rq VE.o.has iF;rw[Nd]at yp;have Hgs:=θ Nd;have Hrh:=θ ((aam (cf:=cf) c p.src p.dP hl).resolve_right η);obtain⟨v,hv,hif,anW⟩:∃v,max (c.has p.src) p.dP=v/\(if (c.has p.src:Int)<(p.dP:Int) then (p.dP:Int) else (c.has p.src:Int))=(v:Int)/\(if c.has p.src<p.dP then (p.dP:Int) else (c.has p.src:Int))=(v:Int):=by
     rcases Nat.lt_or_ge (c.has p.src) p.dP with h9|h9
     .exact⟨_,adK (Nat.le_of_lt h9),if_pos η,if_pos h9⟩
     .exact⟨_,adL h9,if_neg η,if_neg η⟩
    rw[hv]at Hrh;clear Nd hv;go_wp2_with fail;apply lG 18;simp only[tk];repeat apply VZ yp k1 k6 cs
    refine jq fun Wx ak=>?_;simp only[dk];have hX6:=VE.o.ext ak;have cs:=ak.cell cs;obtain⟨K8,ajU,_,fs,_⟩:=rq hX6.has iF;obtain rfl:K8=gs:=by
     have h9:=ajU.symm.trans Hgs.o;cases h9
     rfl
    obtain⟨ri,hX7⟩:=hX6.aeV (by show Dg.length<=8;omega) (qZ.o.Δ.ext ak) (i:=p.src) Hgs.o v;have HX7:=θ hX7;have HB7:=θ ((Om.o.ext ak).ο ri η);have FE:=θ ((qZ.o.ext ak).trans (ri.mono fun k hk=>(by subst hk;unfold In;omega:In t 16 k)));clear hX6 hX7 ri ajU VE Om qZ k1 k6 yp;go_wp2_with fail;go_meet
    exact⟨_,_,FE.o,HB7.o,⟨_,HX7.o⟩,Hrh.o⟩
   .have Yg:=dh ((p.dP:Int)<=(hl:Int))
    go_wp2_with fail;go_meet
    exact⟨_,c.has,qZ.o,Om.o,⟨_,VE.o⟩,by rw[if_neg (fun h=>hle h.2)]⟩
  case rest =>
   obtain⟨T6,Qf,ri,hB6,⟨x6,hX6⟩,ajV⟩:=hcut;have k1:=hB6.zc 1;have k7:=hB6.zc 7;have k8:=hB6.zc 8;have ya:=(fI hX6.hd).ya;obtain⟨gw,hgw,q0,q1,_,z0,z1⟩:=zk hX6.words iF;rw[hgw]at ya;have q0:wc.cell? (gw,p.src*2)=some (((c.words p.src).1:Nat):ξ):=q0;have q1:wc.cell? (gw,p.src*2+1)=some (.int .u32 ((c.words p.src).2:Nat)):=q1;have gf:∀(w9:κ) (T9:Tg) (x9:Rx) (wf:Nat->Nat×Nat),oG w9 T9 t b cf me x9 {c with ls:=Dg,heard:=aW c.heard p.src c.now,has:=Qf,words:=wf} mk->wf=(if 0<p.frame/\(c.words p.src).1<=p.frame then aW c.words p.src (p.frame,p.sum) else c.words)->kE w9 T9 t b cf me (c.recv me p) mk:=by intro w9 T9 x9 wf h9 Zt;rw[uU.o];subst Zt;exact⟨x9,h9.hd,h9.ln,h9.heard,by have h8:=h9.has;rw[show qW cf.n ({c with ls:=Dg,heard:=aW c.heard p.src c.now,has:=Qf,words:=_}:Cr).has=_ from ajV]at h8;exact h8,h9.words,h9.apart,h9.marks,h9.bx⟩
   have AA:=θ gf;have HX6:=θ hX6;have Bp:=θ ri;have Hgw:=θ hgw;clear gf hX6 ri hB6 ajV hgw VE Om qZ;obtain⟨wf,Zt⟩:∃wf,(c.words p.src).1=wf:=⟨_,rfl⟩;obtain⟨wsm,ajW⟩:∃wsm,(c.words p.src).2=wsm:=⟨_,rfl⟩;rw[Zt]at q0;rw[ajW]at q1;clear ajW;by_cases h0:p.frame=0
   .have e0':=dh (0<p.frame)
    clear Zt;go_wp2_with fail;apply iL trivial;repeat first|apply nh k7|apply lU trivial
    refine jq fun Wx ak=>?_;have HX7:=θ (AA.o _ _ _ c.words (HX6.o.ext ak) (by rw[if_neg η]));have FE:=θ (Bp.o.ext ak);clear ak;go_wp2_with fail;go_meet
    exact⟨_,FE.o,HX7.o⟩
   have e0':=dQ (0<p.frame);by_cases h1:wf<=p.frame
   .have E7:=dQ ((wf:Int)<=(p.frame:Int))
    have aaY:=θ (show 0<p.frame/\(c.words p.src).1<=p.frame by omega);clear Zt;go_wp2_with fail;apply iL trivial;repeat first|apply VZ k1 k7 ya q0|apply lU trivial
    refine jq fun Wx ak=>?_;have k1:=ak.cell k1;have k7:=ak.cell k7;have k8:=ak.cell k8;have ya:=ak.cell ya;have xa:=ak;clear ak;go_wp2_with fail;apply lG 12;simp only[tk];repeat apply VZ k1 k7 k8 ya
    refine jq fun Wx ak=>?_;simp only[dk];have xw:=xa.trans ak;have hX7:=HX6.o.ext xw;obtain⟨MV,hX8⟩:=hX7.ab6 (by show Dg.length<=8;omega) (Bp.o.Δ.ext xw) iF Hgw.o p.frame p.sum;obtain⟨gw',ajX,y0,y1,_,y2,y3⟩:=zk hX7.words iF;obtain rfl:gw'=gw:=by
     have h9:=ajX.symm.trans Hgw.o;cases h9
     rfl
    have HX8:=θ (AA.o _ _ _ _ hX8 (by rw[if_pos aaY.o]));have Qg:=θ ((Bp.o.ext xw).trans (MV.mono fun k hk=>(by subst hk;unfold In;omega:In t 16 k)));clear hX7 hX8 MV ajX k1 k7 k8 ya q0 q1 z0 z1;go_wp2_with fail;go_meet
    exact⟨_,Qg.o,HX8.o⟩
   .have E7:=dh ((wf:Int)<=(p.frame:Int))
    have aaY:=θ (show ¬(0<p.frame/\(c.words p.src).1<=p.frame) by omega);clear Zt;go_wp2_with fail;apply iL trivial;repeat first|apply VZ k1 k7 ya q0|apply lU trivial
    refine jq fun Wx ak=>?_;have HX7:=θ (AA.o _ _ _ c.words (HX6.o.ext ak) (by rw[if_neg aaY.o]));have FE:=θ (Bp.o.ext ak);clear ak;go_wp2_with fail;go_meet
    exact⟨_,FE.o,HX7.o⟩
 case rest =>obtain⟨T5,kT,hX5⟩:=hcut;have VE:=θ hX5;have qZ:=θ kT;clear hX5 kT;go_wp2_with fail;refine(ain.o _ _ VE.o).mono ?_;rintro e w9 ⟨rfl,e9⟩;go_wp2;go_ret;exact⟨rfl,T5,qZ.o.ext e9,VE.o.ext e9⟩
end
theorem kH:(prog.info? 69).map (·.size)=some 32:=ey
def sF(T:Tg)(t i:Nat)(_:Nat->ξ)(w w':κ):Prop:=if i=25 then oR (· = t) T w w' else Ext w w'
def pyJ(w0:κ)(j:Nat)(w:κ):Prop:=j<26->j≠22->Ext w0 w
theorem sF.ext(h:Ext w w'):sF T t i σ w w':=by
 unfold sF;split
 .exact oR.ai h
 .exact h
theorem sF.other(h:sF T t i σ w w')(hi:i≠25):Ext w w':=by unfold sF at h;rwa[if_neg hi]at h
theorem pyJ.aQ{w0:κ}(bW:((dJ 25).all fun j=>j==22 || iK l 25 j)=true):∀j i σ,i≠j->iK l i j=false->∀w w',pyJ w0 j w->sF T t i σ w w'->pyJ w0 j w':=by
 intro j i σ yh hb w w' hJ hR h1 h2;by_cases e:i=25
 .subst e;have h3:=List.all_eq_true.1 bW j (nB.2 η);rw[hb,Bool.or_false,beq_iff_eq]at h3;exact absurd h3 h2
 .exact(hJ h1 h2).trans (hR.other e)
def pyP(T:Tg)(p:aD)(σ:Nat->ξ)(w:κ):Prop:=∃B bd,σ 18=.slice B p.length bd/\Rb w B p.length bd p/\∀a,B=some a->T a.block=0
theorem pyP.keeps{p:aD}(ht:0<t):oy (sF T t) 99 99 l 18 (pyP T p):=by
 refine⟨fun j σ v w hj _ h=>?_,fun j hj _ σ w w' _ h hR=>?_⟩
 .obtain⟨B,bd,h1,h2⟩:=h;exact⟨B,bd,by rw[nL (Ne.symm hj)];exact h1,h2⟩
 .obtain⟨B,bd,h1,h2,h3⟩:=h
  refine⟨B,bd,h1,?_,h3⟩;have h4:oR (· = t) T w w':=by
   by_cases e:j=25
   .unfold sF at hR;rwa[if_pos e]at hR
   .exact oR.ai (hR.other e)
  exact Rb.mh (S:=(· = t)) h2 h4 fun a ha e=>by have:=h3 a ha;omega
def pyS(T:Tg)(t q:Nat)(vs:List ξ)(_:Nat->ξ)(w:κ):Prop:=Has w T t q vs
theorem pyS.keeps{q:Nat}{vs:List ξ}:oy (sF T t) 99 99 l 25 (pyS T t q vs) :=
 ⟨fun _ _ _ _ _ _ h=>h,fun j hj _ _ _ _ _ h hR=>Has.ext h (hR.other hj)⟩
theorem F3{P:Program}{b:Nat}{o:Oper}{a:Act}(ty:aY)(x y:Operand)(ho:o.op=.store ty x y)(hx:a.eval x=.pointer (b,k)){us:List ξ}(hy:a.eval y=.agg us.toArray)(hn:us.length=n)(hi:(P.info? ty).map (·.size)=some n)(h1:∀u∈us,u.oneCell'=true)(hc:∀j,j<n->(w.cell? ⟨b,k+j,none⟩).isSome=true/\w.frozen? ⟨b,k+j,none⟩=false):(execOp a.eval o).run P w=.ok .skip (w.setCells b k us):=by
 subst hn;have eH:=run_storeCells_cells (P:=P) b k us 0 w (fun j hj=>by simpa using (hc j hj).1) (fun j hj=>by simpa using (hc j hj).2) h1;rw[Nat.add_zero]at eH;have hsv:(storeVar ty ⟨b,k,none⟩ (.agg us.toArray)).run P w=.ok () (w.setCells b k us):=by
  cases hq:P.info? ty with
  |none=>simp[hq]at hi
  |some i =>have hs:i.size=us.length:=S6;simp[storeVar,sizeOf,typeInfo,hq,ξ.cells,hs,eH]
 unfold execOp;simp only[ho,hx,hy,Instr.storeAt,Instr.sureAddr,Sem.run_bind,Sem.run_pure,Result.andThen_ok,hsv]
def Os(w:κ)(T:Tg)(A:aS)(n c:Nat)(l:List dM):Prop:=Ro w A n c l/\(0<n->∀k,bn A=some k->T k=0)
theorem Os.ο{l:List dM}(h:Os w T A n c l)(hT:Ξ S w T w' T')(hs:¬S 0):Os w' T' A n c l :=
 ⟨Rd.fc h.1 fun hn k hk=>hT.block k (Rd.Gf h.1 hn hk) (by rw[h.2 η k hk];exact hs),fun hn k hk=>(hT.tag k (Rd.Gf h.1 η hk)).trans (h.2 hn k hk)⟩
theorem Os.ext{l:List dM}(h:Os w T A n c l)(e:Ext w w'):Os w' T A n c l:=⟨h.1.ext e,h.2⟩
structure wH(w:κ)(T:Tg)(t q cb:Nat)(cf:Cf)(me:Nat)(tp:aD)(l:List dM)(c:Cr)(m:Nat):Prop where
 bn:∃A n d,Has w T t q (iH cb tp A n d cf (aC tp l c.ls m))/\Os w T A n d l
 core:kE w T (t+1) cb cf me c (bQ tp l c.ls m)
section
variable {w w':κ}{T T':Tg}{t q cb:Nat}{cf:Cf}{me:Nat}{tp:aD}{l:List dM}{c c':Cr}{m:Nat}
theorem wH.ext(h:wH w T t q cb cf me tp l c m)(e:Ext w w'):wH w' T t q cb cf me tp l c m:=by obtain⟨⟨A,n,d,h1,h2⟩,h3⟩:=h;exact⟨⟨A,n,d,h1.ext e,h2.ext e⟩,h3.ext e⟩
theorem wH.ο(h:wH w T t q cb cf me tp l c m)(hn:c.ls.length<=8)(hT:Ξ S w T w' T')(h0:¬S 0)(hs:∀k,In t 17 k->¬S k):wH w' T' t q cb cf me tp l c m:=by obtain⟨⟨A,n,d,h1,h2⟩,h3⟩:=h;exact⟨⟨A,n,d,h1.ο hT (hs _ cN),h2.ο hT h0⟩,h3.ο hn hT fun k hk=>hs k iw⟩
theorem wH.oL(h:wH w T t q cb cf me tp l c c.front)(ht:0<t)(hk:16<=k)(hT:Ξ (In (t+1) k) w T w' T')(hc:kE w' T' (t+1) cb cf me c' (bQ tp l c.ls c.front))(hg:nD c.ls c'.ls):wH w' T' t q cb cf me tp l c' c.front:=by
 obtain⟨⟨A,n,d,h1,h2⟩,h3⟩:=h;refine⟨⟨A,n,d,?_,h2.ο hT cN⟩,?_⟩
 .rw[qt (f:=c.front) tp l fun k hk=>hg.ym hk];exact h1.ο hT cN
 .rw[qu (f:=c.front) tp l fun k hk=>hg.ym hk];exact hc
theorem ab8(w:κ)(g:List Int)(aT:pI g):τ prog 100 #[.agg (jj g)] w fun e w'=>e=.returned (.int .u32 (sn (kC g):Nat))/\Ext w w':=by
 have rF:=aT.1;have hl:(g.map (af .i32)).length=32:=by rw[xN,rF]
 have nK:=θ fun W=>zg W g aT;unfold jj at*;generalize g.map (af .i32)=vs at*;go_enter func100,ntmps100;go_upto_region 1 with fail
 have hb:=heap_alloc_new w (.cells vs.toArray 69);have hx:=Ext.alloc w (.cells vs.toArray 69);generalize hW:aB w _=W0 at*;have hc:∀i v,vs[i]?=some v->W0.cell? ⟨w.heap.size,0+i,none⟩=some v:=fun i v hv=>by rw[cell_of_row _ _ _ _ _ _ hb];simpa using hv
 clear hb hW;generalize w.heap.size=gm at*;go_wp2_with (first|(with_reducible refine gI rfl 69 (.tmp 1) rfl rfl underlying69 kH hl hc ?_))
 refine(nK.o W0).mono ?_;rintro e w2 ⟨B,d,rfl,hB,e2⟩;go_wp2_with fail;refine(EO w2 B 128 d (kC g) hB).mono ?_;rintro e w3 ⟨rfl,rfl⟩;go_wp2;go_ret;exact⟨rfl,hx.trans e2⟩
theorem wH.ZC(h:wH w T t q cb cf me tp l c m):Co (w.cell? (cb,16))=m:=by obtain⟨x,hx⟩:=h.core;rw[(fI hx.hd).Dw,Co,gK]
theorem Cx(h:wH w T t q cb cf me tp l c m)(hk:bz cf me c [])(hu:Θ w T)(ht:0<t)(mY:tp.length<=1099511627776)(hm:m<=c.front)(hQ:eS tp l cf c):τ prog 68 #[π q] w (Does (In t 17) w T (.tuple #[]) fun w' T'=>wH w' T' t q cb cf me tp l c c.front):=by
 have jW:=hk.ok.n8;have h2:=hk.ok.n2;have hlen:=hk.len;have mj:c.ls.length<=8:=by rw[hlen];exact jW
 have iU:=hk.dW;have HK:=θ hk;have Hh:=θ h;have HQ:=θ hQ;unfold π;clear h hk hQ;go_enter func68,ntmps68;go_wp2_with fail;go_loopw [] (fun wr=>∃(k:Nat) (T1:Tg),k<=c.front/\Ξ (In t 17) w T wr T1/\wH wr T1 t q cb cf me tp l c k) (fun wr=>c.front-Co (wr.cell? (cb,16)))
 case atStart=>exact⟨m,T,hm,Ξ.refl _ hu,Hh.o⟩
 case round =>
  obtain⟨k,T1,U1,hT,hP⟩:=hrel;have Hml:=θ hP.ZC;have sI:=θ fun W (e:Ext wr W)=>l9 (hP.core.ext e) HK.o.len η jW;obtain⟨x,hx⟩:=hP.core;have C:=fI hx.hd;have lK:=C.lK;have Dw:=C.Dw;rw[gK]at Dw;have Hjo:=θ fun W (e:Ext wr W) (h:k<cn c.ls)=>zj (hx.ln.ext e) η mj h;rw[←hlen]at lK;rw[show cn c.ls=c.front from rfl]at Hjo;have HP:=θ hP;have HT:=θ hT;obtain⟨A,n,d,hH,hR⟩:=hP.bn;have b0:=hH.zc 0;have hHl:(iH cb tp A n d cf (aC tp l c.ls k)).length=38:=by simp[iH,(fA tp l c.ls k).1]
  clear hlen C hx;unfold π at*;by_cases aX:k<c.front
  .have jF:=dQ ((k:Int)<(c.front:Int))
   have HH:=θ hH;have HR:=θ hR;clear hH hR hP hT;go_wp2_with fail;apply iL trivial;repeat apply kZ b0 Dw
   apply jD (fun W hR=>sI.o W hR);repeat apply iO (fun _ _ _=>trivial)
   refine jq fun Wx ak=>?_;have b0:=ak.cell b0;have Dw:=ak.cell Dw;have lK:=ak.cell lK;have xa:=ak;have hG:=fA tp l c.ls k;have SC:=fA tp l c.ls (k+1);have Fc:=CS tp l c.ls k;have KV:zK tp l c.ls (k+1)=sn (kC (aC tp l c.ls (k+1))):=rfl;have ZD:=wg tp l c.ls k;have SD:=HH.o.ext ak;have sJ:Ro Wx A n d l:=(HR.o.ext ak).1;have kR:=θ fun W (e:Ext Wx W) B bd (U7:Rb W B c.ls.length bd (bp c.ls k))=>IB W tp A n d l (k:Nat) B c.ls.length bd (bp c.ls k) (aC tp l c.ls k) mY (sJ.ext e) U7 hG rfl rfl;have ZE:=θ fun W=>ab8 W (aC tp l c.ls (k+1)) SC;rw[←KV]at ZE;rw[←Fc]at kR;generalize (nx tp (bp c.ls k) (k:Nat) l (aC tp l c.ls k)).2=N at*;have ZF:=θ ZD;have amr:=θ fun W (e:Ext Wx W)=>Hjo.o W (xa.trans e) aX;have iY:(bp c.ls k).length=c.ls.length:=qN _ _;have Rh:=θ iY;have oh:((aC tp l c.ls k).map (af .i32)).length=32:=OA;have vp:((aC tp l c.ls (k+1)).map (af .i32)).length=32:=by rw[xN,SC.1]
   have ZG:∀u∈(aC tp l c.ls (k+1)).map (af .i32),u.oneCell'=true:=by intro u hu;obtain⟨x,_,rfl⟩:=List.mem_map.1 hu;rfl
   clear Fc KV ZD sJ ak iY Hjo;unfold RU fX jj at*;unfold iH at SD HH hHl;generalize um:(aC tp l c.ls k).map (af .i32)=g1 at*;generalize kL:(aC tp l c.ls (k+1)).map (af .i32)=g2 at*;have V4:=θ kL;clear um kL hG SC;have b1:=SD.zc 1;have b2:=SD.zc 2;have bg:∀i v,g1[i]?=some v->Wx.cell? ⟨q,6+i,none⟩=some v:=fun i v hv=>SD.cell (by rw[ij bT,show 6+i-_=i from by simp];exact hv);have HW:=θ SD;have HHl:=θ hHl;have hfk:k<=1000:=η;clear SD hHl;rename_i Wa;go_wp2_with fail;have GZ:Θ Wx T1:=HT.o.Δ.ext xa;have hty:T1 q=t:=HW.o.1;apply jx (F1:=99) (F2:=99) (R:=oR (· = t) T1) (Rs:=sF T1 t) (J:=pyJ Wx) ey ey (oR.refl _ _) (fun _ _ w=>sF.ext (Ext.refl w)) (oR.sz _ _) (pyJ.aQ ey) (oR.trans _ _) (oR.drew _ _ _) (fun _ _ _=>Ext.drew _);intro σ;repeat
    apply kj Γ Γ (oR.refl _ _) (fun _ _ w=>sF.ext (Ext.refl w))
    .rfl
    .intro W hR hJ υ;have dd1:=(hJ Γ Γ).cell b1;have dd2:=(hJ Γ Γ).cell b2;go_simp;first|done|with_reducible rfl
    simp only[pu]
   apply kj (u:=.agg g1.toArray) Γ Γ (oR.refl _ _) (fun _ _ w=>sF.ext (Ext.refl w))
   .rfl
   .intro W hR hJ υ;exact fU 69 (.tmp 33) rfl rfl underlying69 kH oh (fun i v h=>(hJ Γ Γ).cell (bg i v h))
   simp only[pu];repeat
    apply kj Γ Γ (oR.refl _ _) (fun _ _ w=>sF.ext (Ext.refl w))
    .rfl
    .intro W hR hJ υ;have dd0:=(hJ Γ Γ).cell b0;have dd1:=(hJ Γ Γ).cell lK;go_simp;first|done|with_reducible rfl
    simp only[pu]
   apply lcS (p:=pyP T1 (bp c.ls k)) Γ Γ (pyP.keeps ht)
   .intro W hR hJ υ;have hE:=hJ Γ Γ;refine(amr.o W hE).mono ?_;rintro e w' ⟨B,jn,bd,rfl,ho,he⟩;have mX:jn=(bp c.ls k).length:=Ld;subst mX;exact⟨_,rfl,oR.ai he,sF.ext he,B,bd,iS,ho.rd,fun a ha=>GZ _ (aF hE.size (ho.gU a ha).1)⟩
   simp only[pu];apply EY (u:=.tuple #[.agg g2.toArray,N]) Γ Γ
   .rfl
   .intro W;go_simp;exact⟨rfl,rfl⟩
   .intro W hR hJ υ;obtain⟨B,bd,e18,U7,_⟩:=υ.1 rfl;rw[e18,Rh.o];rw[Rh.o]at U7;refine(kR.o W (hJ Γ Γ) B bd U7).mono ?_;rintro e w' ⟨rfl,he⟩;exact⟨rfl,oR.ai he,sF.ext he⟩
   simp only[pu];repeat
    apply kj Γ Γ (oR.refl _ _) (fun _ _ w=>sF.ext (Ext.refl w))
    .rfl
    .intro W hR hJ υ;go_simp;first|done|with_reducible rfl
    simp only[pu]
   repeat
    apply kj Γ Γ (oR.refl _ _) (fun _ _ w=>sF.ext (Ext.refl w))
    .rfl
    .intro W hR hJ υ;go_simp;first|done|with_reducible rfl
    simp only[pu]
   repeat
    apply kj Γ Γ (oR.refl _ _) (fun _ _ w=>sF.ext (Ext.refl w))
    .rfl
    .intro W hR hJ υ;go_simp;first|done|with_reducible rfl
    simp only[pu]
   apply nM (p:=pyS T1 t q ([adM cb,.string (bs tp),.slice A n d,cf.bD,cf.order,.slice none 0 0]++g2)) Γ Γ pyS.keeps
   .rfl
   .intro W hR hJ υ
    have hHx:=HW.o.ext (hJ Γ Γ);have Qm:=HHl.o;obtain⟨kT,CT⟩:=Has.Kk g2 6 _ _ hHx (GZ.ext (hJ Γ Γ)) (by rw[vp,Qm];decide)
    have CT:=CT.is (show _=[adM cb,.string (bs tp),.slice A n d,.int .i64 (cf.bD:Nat),.int .i64 (cf.order:Nat),.slice none 0 0]++g2 from by
     rw[CM (by rw[Qm,vp];decide),Af]
     rfl)
    have hm:oR (· = t) T1 W (W.setCells q 6 g2):=fY.uk kT;exact⟨_,F3 69 (.tmp 49) (.tmp 46) rfl rfl rfl vp kH ZG (fun j hj=>hHx.spare (by rw[Qm];omega)),hm,by unfold sF;rw[if_pos rfl];exact hm,CT⟩
   simp only[Act.put];refine sX ?_;intro W5 hR gT υ;have CT:Has W5 T1 t q _:=υ.1 rfl;clear υ gT;have kT:Ξ (· = t) Wx T1 W5 T1:=⟨hR.os,hR.tape,hR.output,hR.size,hR.block,fun _ _=>rfl,fun k hk=>GZ k (aF hR.size hk)⟩;have qZ:=θ kT;have HX4:=θ xa;have ZH:=θ CT;clear kT hR b0 b1 b2 bg lK Dw CT;have CT:=ZH.o;have b0:=CT.zc 0;have bg:∀i v,g2[i]?=some v->W5.cell? ⟨q,6+i,none⟩=some v:=fun i v hv=>CT.cell (by rw[ij bT,show 6+i-_=i from by simp];exact hv);have HH6:=θ CT;have Bp:=θ ((HT.o.ext HX4.o).trans (qZ.o.mono fun k hk=>(by subst hk;unfold In;omega:In t 17 k)));have K7:=(HP.o.core.ext HX4.o).ο mj qZ.o (fun k hk=>sL);have M0:=(HR.o.ext HX4.o).ο qZ.o η;have I1:=HK.o.bQ tp l (m:=k) η;have hq6:=HQ.o.quiet tp l (m:=k+1) η;rw[ZF.o]at hq6;have M3:=θ fun W (e:Ext W5 W)=>YG (K7.ext e) I1 (Bp.o.Δ.ext e) (zK tp l c.ls (k+1)) (Qk _ _ _ _) (by rw[gK];omega) hq6;have ZI:=θ M0;unfold π at*;clear ZH qZ CT K7 M0 I1 hq6;go_wp2_with fail;apply lG 9;simp only[tk];repeat apply nh b0
   apply lT (u:=.agg g2.toArray) Ext.refl
   .rfl
   .intro W hR υ;exact fU 69 (.tmp 56) rfl rfl underlying69 kH vp (fun i v h=>hR.cell (bg i v h))
   simp only[pu];apply jD (fun W hR=>ZE.o W);refine jq fun Wx ak=>?_;simp only[dk];go_wp2_with fail;refine(M3.o Wx ak).mono ?_;rintro e w7 ⟨rfl,T7,yA,Gp⟩;rw[←ZF.o]at Gp;have hP7:wH w7 T7 t q cb cf me tp l c (k+1):=by refine⟨⟨A,n,d,?_,(ZI.o.ext ak).ο yA cN⟩,Gp⟩;refine((HH6.o.ext ak).ο yA cN).is ?_;unfold iH;rw[V4.o]
   have HP7:=θ hP7;have FE:=θ ((Bp.o.ext ak).trans (yA.mono fun k hk=>hk.sub η η));clear yA Gp hP7;go_wp2;go_roundw
   case rel=>exact⟨k+1,T7,η,FE.o,HP7.o⟩
   case measure=>rw[HP7.o.ZC,Hml.o];omega
  .obtain rfl:k=c.front:=by omega
   clear hH hR hP hT;go_wp2_with fail;apply iL trivial;repeat apply kZ b0 Dw
   apply jD (fun W hR=>sI.o W hR);repeat apply iO (fun _ _ _=>trivial)
   refine jq fun Wx ak=>?_;go_wp2_with fail;go_end0
   exact⟨rfl,T1,HT.o.ext ak,HP.o.ext ak⟩
theorem VF(h:wH w T t q cb cf me tp l c c.front)(hk:bz cf me c [])(hu:Θ w T)(ht:0<t)(mY:tp.length<=1099511627776)(u:UInt8)(hQ:eS tp l cf (c.ν me cf.χ u)):τ prog 88 #[π q,.int .u8 (u.toNat:Nat)] w (Does (In t 17) w T ((c.iB me cf.χ:Nat):ξ) fun w' T'=>wH w' T' t q cb cf me tp l (c.ν me cf.χ u) (c.ν me cf.χ u).front):=by
 have iU:=hk.dW;have lD:me<c.ls.length:=by rw[hk.len];exact hk.me
 have kS:=wj me cf.χ c u lD;have SE:c.front<=(c.ν me cf.χ u).front:=kS.front η;have js:=hk.ν u;obtain⟨⟨A,n,d,h1,_⟩,_⟩:=id h;have b0:=h1.zc 0;have H2:=θ (PR h.core (hk.bQ tp l iU) hu u);have H3:=θ fun w' T' (hT:Ξ (In (t+1) 16) w T w' T') (hc:kE w' T' (t+1) cb cf me (c.ν me cf.χ u) (bQ tp l c.ls c.front))=>Cx (h.oL ht (aq _) hT hc kS) js hT.Δ ht mY SE hQ;unfold π at*;clear h hk h1;go_enter func88,ntmps88;go_wp2_with fail;refine H2.o.mono ?_;rintro e w2 ⟨rfl,T2,bq,sW⟩;have Hp:=θ (H3.o _ _ bq sW);have jr:=θ (bq.mono fun k hk=>(hk.sub η η:In t 17 k));clear bq sW;go_wp2_with fail;refine Hp.o.mono ?_;rintro e w3 ⟨rfl,T3,cT,ry⟩;have ZJ:=θ ry;have jH:=θ (jr.o.trans cT);clear cT ry;go_wp2;go_ret;exact⟨rfl,T3,jH.o,ZJ.o⟩
theorem aan(h:wH w T t q cb cf me tp l c c.front)(p:Pk)(hk:bz cf me c [])(js:bz cf me (c.recv me p) [])(hu:Θ w T)(ht:0<t)(mY:tp.length<=1099511627776)(hp:mw p)(kN:p.dst=me)(iF:p.src<cf.n)(hb:Rb w A n d (aG cf.id p))(hf:p.iA=false->p.first<=(c.ls.getD p.src []).length/\p.first+p.ν.length<=1000)(hQ:eS tp l cf (c.recv me p)):τ prog 131 #[π q,.slice A n d] w (Does (In t 17) w T (.int .i64 (if c.closed then 6 else 0)) fun w' T'=>wH w' T' t q cb cf me tp l (c.recv me p) (c.recv me p).front):=by
 have iU:=hk.dW;have kS:=zw me c p;have lD:me<c.ls.length:=by rw[hk.len];exact hk.me
 have SE:c.front<=(c.recv me p).front:=kS.front η;have V0:Quiet cf (c.recv me p) (bQ tp l c.ls c.front):=by rw[qu (f:=c.front) tp l fun k hk=>(kS.ym hk).symm];exact hQ.quiet tp l SE
 obtain⟨⟨A1,n1,d1,h1,_⟩,_⟩:=id h;have b0:=h1.zc 0;have H2:=θ (VD h.core (hk.bQ tp l iU) hu η p hp kN iF hb hf (js.mk' (by rw[gK];exact iU) (hk.bQ tp l iU).yI) V0);generalize (if c.closed=true then (6:Int) else 0)=ee at H2⊢;have H3:=θ fun w' T' (hT:Ξ (In (t+1) 16) w T w' T') (hc:kE w' T' (t+1) cb cf me (c.recv me p) (bQ tp l c.ls c.front))=>Cx (h.oL ht (aq _) hT hc kS) js hT.Δ ht mY SE hQ;unfold π at*;clear h hk js h1 hb hp hf;go_enter func131,ntmps131;go_wp2_with fail;refine H2.o.mono ?_;rintro e w2 ⟨rfl,T2,bq,sW⟩;have Hp:=θ (H3.o _ _ bq sW);have jr:=θ (bq.mono fun k hk=>(hk.sub η η:In t 17 k));clear bq sW;go_wp2_with fail;refine Hp.o.mono ?_;rintro e w3 ⟨rfl,T3,cT,ry⟩;have ZJ:=θ ry;have jH:=θ (jr.o.trans cT);clear cT ry;go_wp2;go_ret;exact⟨rfl,T3,jH.o,ZJ.o⟩
end
theorem VG:∀n,n<=8->(madeCells #[af .i64 0,.int .u32 0] (n*2)).toList=CK n fun _=>(0,0)
 |0,_|1,_|2,_|3,_|4,_|5,_|6,_|7,_|8,_=>by kernel_rfl
 |n+9,h=>absurd h η
theorem F4{s:aY}{z:ξ}{bytes:Nat}{i:TypeInfo}(hs:prog.underlying s=some (.slice e))(hi:prog.info? e=some i)(h0:i.zero=some z)(h1:i.size=size)(h2:i.bytes=bytes)(h24:bytes<=24)(hn:n<=8)(xP:(madeCells z.cells (n*size)).toList=cs):∀W:κ,(Instr.makeSlice s (n:ξ) (n:ξ)).run prog W=.ok (.slice (some ⟨W.heap.size,0,none⟩) n n) (W.alloc (.cells cs.toArray e)):=fun W=>by have hm:bytes*n<=24*8:=Nat.mul_le_mul h24 hn;have h:=run_make (P:=prog) W s e i _ hs hi h0 .i64 .i64 (n:Nat) (n:Nat) η (Int.le_refl _) (by rw[h2,←Int.natCast_mul];omega) η;rw[h1]at h;rw[←xP];exact h
theorem Own.of_heap(h:w.heap[g]?=some (.cells cs.toArray e))(hl:cs.length=n*size)(hm:n<=maxLen):Own w 0 e size (some ⟨g,0,none⟩) n n cs :=
 ⟨hl,.inr ⟨g,n,cs.toArray,rfl,aM _,h,aq _,hm,by simpa using hl,by rw[←hl];simp⟩⟩
def VH(base:Nat)(n:Nat)(cs:List ξ)(e:aY)(v:ξ)(w:κ):Prop:=∃g,v=.slice (some ⟨g,0,none⟩) n n/\base<=g/\w.heap[g]?=some (.cells cs.toArray e)
theorem VH.ext{v:ξ}(h:VH base n cs e v w)(x:Ext w w'):VH base n cs e v w':=by obtain⟨g,h1,h2,h3⟩:=h;exact⟨g,h1,h2,(x.block g (gy.1 h3).1).trans h3⟩
theorem VH.made(h:base<=w.heap.size):VH base n cs e (.slice w.heap.size n n) (w.alloc (.cells cs.toArray e)):=⟨_,rfl,h,heap_alloc_new w _⟩
theorem wI{g':Nat}{a b:Array ξ}{e':aY}(h:w.heap[g]?=some (.cells a e))(h':w.heap[g']?=some (.cells b e'))(hne:e≠e'):g≠g':=by
 rintro rfl;rw[h]at h';injection h' with h'
 injection h' with _ h'
 exact hne h'
theorem Jm(n:Nat):qW n (fun _=>0)=cP n (.int .i64 0):=by unfold qW;rw[List.map_const',List.length_range];rfl
theorem zD{g:Nat->Nat}(h:∀i,i<n->f i=g i):qW n f=qW n g:=by unfold qW;exact rQ fun i hi=>by rw[h i (nB.1 hi)]
theorem Cb.snoc{lc:Nat}{hs:Nat->Option Addr×Nat}{ls:bH}(h:Cb w T t A lc hs ls)(hT:Ξ (· = t) w T w' T'){E B:aS}{bd:Nat}{l:aD}(hR:Row w' T' t 122 1 E (ls.length+1) d (((dJ ls.length).map fun i=>kD (hs i).1 (ls.getD i []).length (hs i).2)++[.slice B l.length bd]))(hl:Row w' T' (t+1+ls.length) 5 1 B l.length bd (dK l)):Cb w' T' t E d (aW hs ls.length (B,bd)) (ls++[l]):=by
 have h1:∀i,i<ls.length->(ls++[l]).getD i []=ls.getD i []:=fun i hi=>by rw[cO,List.getElem?_append_left hi,←cO]
 have h2:(ls++[l]).getD ls.length []=l:=by rw[cO,ij (aq _),Nat.sub_self];rfl
 refine⟨?_,fun i hi=>?_⟩
 .rw[eU,iD]
  refine hR.to ?_;rw[uP,gS,List.map_singleton,aH,h2];congr 1
  exact rQ fun i hi=>by rw[az _ _ (by have:=nB.1 hi;omega),h1 i (nB.1 hi)]
 .rw[eU,iD]at hi
  by_cases e:i=ls.length
  .subst e;rw[aH,h2];exact hl
  .rw[az _ _ e,h1 i η];exact(h.ln i η).ο hT η
def QT(T:Tg)(t cb gh gs gw ga:Nat):Tg:=fun k=>if k=cb then t else if k=gh then t+10 else if k=gs then t+11 else if k=gw then t+12 else if k=ga then t+13 else T k
def rnS(t k:Nat):Prop:=k=t\/(t+1<=k/\k<=t+9)\/k=t+11
def rnC(cf:Cf)(me gh gs gw ga:Nat)(LA:aS)(k lc:Nat):List ξ:=aA cf me++[.slice LA k lc,.int .i64 0,.slice gh cf.n cf.n,.slice gs cf.n cf.n,.slice gw cf.n cf.n,.slice ga cf.n cf.n,.slice none 0 0,.slice none 0 0,.bool false]
def rnQ(d tt:Nat)(v:ξ)(w:κ)(T:Tg):Prop:=∃g,v=.slice (some ⟨g,0,none⟩) d d/\Row w T tt 5 1 (some ⟨g,0,none⟩) d d (dK (cP d 0))
def rnP(d tt:Nat)(v:ξ)(w:κ)(T:Tg):Prop:=∃g,v=.agg #[.slice (some ⟨g,0,none⟩) d d]/\Row w T tt 5 1 (some ⟨g,0,none⟩) d d (dK (cP d 0))
def aeW(w:κ)(T:Tg)(t gc cb gh gs gw ga:Nat)(cf:Cf)(me:Nat)(iv:ξ)(wr:κ):Prop :=
 ∃(k:Nat) (T':Tg) (LA:aS) (lc:Nat) (hs:Nat->Option Addr×Nat),iv=.int .i64 (k:Nat)/\k<=cf.n/\Ξ (rnS t) w T wr T'/\Has wr T' t cb (rnC cf me gh gs gw ga LA k lc)/\Cb wr T' (t+1) LA lc hs (cP k (cP cf.Ω 0))/\Row wr T' (t+11) 3 1 (some ⟨gs,0,none⟩) cf.n cf.n (qW cf.n fun i=>if i<k then cf.Ω else 0)/\Has wr T' 0 gc (aA cf me)
theorem ab9(w:κ)(T:Tg)(hu:Θ w T)(t:Nat)(ht:0<t)(ru:∀k,k<w.heap.size->¬In t 16 (T k))(cf:Cf)(me:Nat)(aT:jA cf):τ prog 67 #[iC cf me] w (cG (fun _=>False) w T fun v w' T'=>∃cb,v=π cb/\kE w' T' t cb cf me (Cr.new cf.n cf.Ω) []):=by
 have BR:=aT.n2;have jW:=aT.n8;have hd8:=aT.Ω;obtain⟨i1,hi1,ajY,ajZ,aj0⟩:=info_parts Us;have hmi:=F4 (s:=22) underlying22 hi1 ajY ajZ aj0 Γ jW (cs:=cP cf.n (.int .i64 0)) (by rw[pK];exact congrArg aaV (sV _ _));obtain⟨i2,CG,aj1,aj2,aj3⟩:=info_parts PM;have hmw:=F4 (s:=78) underlying78 CG aj1 aj2 aj3 Γ jW (VG cf.n jW);obtain⟨i3,hi3,aj4,aj5,aj6⟩:=info_parts PN;have hmb:=F4 (s:=73) underlying73 hi3 aj4 aj5 aj6 Γ jW (cs:=cP cf.n (.bool false)) (by rw[pK];exact congrArg aaV (sV _ _));obtain⟨i4,hi4,aj7,aj8,aj9⟩:=info_parts dX;have hmu:=F4 (s:=30) underlying30 hi4 aj7 aj8 aj9 Γ hd8 (cs:=dK (cP cf.Ω 0)) (by rw[pK];exact(congrArg aaV (sV (af .u8 0) cf.Ω)).trans (by simp[dK,List.map_replicate]));clear hi1 ajY ajZ aj0 CG aj1 aj2 aj3 hi3 aj4 aj5 aj6 hi4 aj7 aj8 aj9;obtain⟨i0,hi,dx,dA,dN⟩:=info_parts PL;unfold iC;have x0:=Ext.alloc w (.cells (aA cf me).toArray 26);have hb:=(Has.new w T (aA cf me) 26 rfl);rw[hu _ (aq _)]at hb;unfold aA at hb x0;go_enter func67,ntmps67;go_upto_region 1 with fail
 generalize hW:aB w _=W0 at*;obtain⟨gc,oN⟩:∃gc,gc=w.heap.size:=⟨_,rfl⟩;rw[←oN]at hb⊢;have jU:=hu.ext x0;have o6:=θ ru;have V7:=θ (Ξ.ai (fun _=>False) hu x0);clear hW oN x0 ru;have k0:=hb.zc 0;have k1:=hb.zc 1;have k2:=hb.zc 2;have k3:=hb.zc 3;have k4:=hb.zc 4;have k5:=hb.zc 5;have k6:=hb.zc 6;have k7:=hb.zc 7;have k8:=hb.zc 8;have k9:=hb.zc 9;go_wp2_with fail;apply iW (F1:=3) (F2:=6) 13 (R:=Ext) (Rs:=fun _=>Ext) (J:=fun _ _=>True) Γ ey ey ey Ext.refl (fun _=>Ext.refl) (fun _ _ h=>h.size) (fun _ _ _ _ _ _ _=>trivial) (fun _ _ _=>Ext.trans) (Ext.drew _) (fun _=>trivial);simp only[tk];repeat
  apply j7 Γ Γ Ext.refl (fun _=>Ext.refl)
  .rfl
  .intro W hR hJ υ;have dd0:=Ext.cell hR k0;have dd1:=Ext.cell hR k1;have dd2:=Ext.cell hR k2;have dd3:=Ext.cell hR k3;have dd4:=Ext.cell hR k4;have dd5:=Ext.cell hR k5;have dd6:=Ext.cell hR k6;have dd7:=Ext.cell hR k7;have dd8:=Ext.cell hR k8;have dd9:=Ext.cell hR k9;go_simp;first|done|with_reducible rfl
  simp only[pu]
 apply Eo (p:=VH W0.heap.size cf.n (cP cf.n (.int .i64 0)) 3) (fun _ _ _ _ _ h x=>h.ext x)
 .rfl
 .intro W hR hJ υ
  refine⟨_,_,?_,⟨_,rfl,aq _,?_⟩,Ext.alloc _ _,Ext.alloc _ _,VH.made hR.size⟩
  .go_simp;first|done|rfl
  .simp
 intro v1;simp only[pu];repeat
  apply j7 Γ Γ Ext.refl (fun _=>Ext.refl)
  .rfl
  .intro W hR hJ υ;have dd0:=Ext.cell hR k0;go_simp;first|done|with_reducible rfl
  simp only[pu]
 apply Eo (p:=VH W0.heap.size cf.n (cP cf.n (.int .i64 0)) 3) (fun _ _ _ _ _ h x=>h.ext x)
 .rfl
 .intro W hR hJ υ
  refine⟨_,_,?_,⟨_,rfl,aq _,?_⟩,Ext.alloc _ _,Ext.alloc _ _,VH.made hR.size⟩
  .go_simp;first|done|rfl
  .simp
 intro v2;simp only[pu];repeat
  apply j7 Γ Γ Ext.refl (fun _=>Ext.refl)
  .rfl
  .intro W hR hJ υ;have dd0:=Ext.cell hR k0;go_simp;first|done|with_reducible rfl
  simp only[pu]
 apply aE (p:=VH W0.heap.size cf.n (CK cf.n fun _=>(0,0)) 304) Γ Γ (fun _ _ _ _ _ h x=>h.ext x)
 .rfl
 .intro W hR hJ υ;refine⟨_,_,?_,Ext.alloc _ _,Ext.alloc _ _,VH.made hR.size⟩;go_simp;first|done|rfl
 intro v3;simp only[pu];repeat
  apply j7 Γ Γ Ext.refl (fun _=>Ext.refl)
  .rfl
  .intro W hR hJ υ;have dd0:=Ext.cell hR k0;go_simp;first|done|with_reducible rfl
  simp only[pu]
 apply aE (p:=VH W0.heap.size cf.n (cP cf.n (.bool false)) 4) Γ Γ (fun _ _ _ _ _ h x=>h.ext x)
 .rfl
 .intro W hR hJ υ;refine⟨_,_,?_,Ext.alloc _ _,Ext.alloc _ _,VH.made hR.size⟩;go_simp;first|done|rfl
 intro v4;simp only[pu];refine aP ?_;intro Wx ak gT υ;obtain⟨⟨ga,rfl,ba,ha⟩,⟨gw,rfl,bw,hw⟩,⟨gs,rfl,bs_,hs⟩,⟨gh,rfl,bh,hh⟩,_⟩:=(show _/\_/\_/\_/\_ from⟨υ.1 rfl,υ.2.1 rfl,υ.2.2.1 rfl,υ.2.2.2.1 rfl,trivial⟩);have hne:gh≠gs:=fun e=>gT Γ Γ Γ (by rw[e];rfl);clear υ gT;simp only[dk];have hWs:=ak.size;have lh:=(gy.1 hh).1;have ls_:=(gy.1 hs).1;have lw:=(gy.1 hw).1;have la:=(gy.1 ha).1;have n1:=wI hw hh Γ;have n2:=wI hw hs Γ;have n3:=wI ha hh Γ;have n4:=wI ha hs Γ;have n5:=wI ha hw Γ;have vt:=hb.ext ak;have De:=hb.1;have aka:=hb.lt;have GZ:=jU.ext ak;clear k0 k1 k2 k3 k4 k5 k6 k7 k8 k9 hb;go_upto_region 2 with fail
 have En:=heap_alloc_new Wx (.cells (rnC cf me gh gs gw ga none 0 0).toArray 82);have x1:=Ext.alloc Wx (.cells (rnC cf me gh gs gw ga none 0 0).toArray 82);have fV:(Wx.alloc (.cells (rnC cf me gh gs gw ga none 0 0).toArray 82)).heap.size=Wx.heap.size+1:=bT;obtain⟨W1,wL⟩:∃W1,Wx.alloc (.cells (rnC cf me gh gs gw ga none 0 0).toArray 82)=W1:=⟨_,rfl⟩;have DC:=wL;unfold rnC aA at DC;simp only[List.cons_append,List.nil_append]at DC;rw[DC];rw[wL]at En x1 fV;obtain⟨cb,V5⟩:∃cb,cb=Wx.heap.size:=⟨_,rfl⟩;rw[←V5]at En fV lh ls_ lw la⊢;have x2:=ak.trans x1;have xP:W0.heap.size<=cb:=by rw[V5];exact hWs
 have cw:Ξ (fun _=>False) W0 T W1 (QT T t cb gh gs gw ga):=by
  refine⟨x2.os,x2.tape,x2.output,x2.size,fun k hk _=>x2.block k hk,fun k hk=>?_,fun k hk=>?_⟩
  .unfold QT;rw[if_neg η,if_neg η,if_neg η,if_neg η,if_neg η]
  .unfold QT;rw[if_neg η,if_neg η,if_neg η,if_neg η,if_neg η];exact GZ k η
 have hC1:Has W1 (QT T t cb gh gs gw ga) t cb (rnC cf me gh gs gw ga none 0 0):=⟨by unfold QT;rw[if_pos rfl],_,En⟩;have hmx:cf.n<=maxLen:=iQ;have hRh:Row W1 (QT T t cb gh gs gw ga) (t+10) 3 1 (some ⟨gh,0,none⟩) cf.n cf.n (qW cf.n fun _=>0):=by rw[Jm];refine⟨Own.of_heap ((x1.block gh η).trans hh) bT hmx,fun k hk=>?_⟩;obtain rfl:gh=k:=kI.inj hk;unfold QT;rw[if_neg η,if_pos rfl]
 have Da:Row W1 (QT T t cb gh gs gw ga) (t+11) 3 1 (some ⟨gs,0,none⟩) cf.n cf.n (qW cf.n fun i=>if i<0 then cf.Ω else 0):=by rw[zD (g:=fun _=>0) fun i _=>if_neg (lF i),Jm];refine⟨Own.of_heap ((x1.block gs η).trans hs) bT hmx,fun k hk=>?_⟩;obtain rfl:gs=k:=kI.inj hk;unfold QT;rw[if_neg η,if_neg η,if_pos rfl]
 have fO:Row W1 (QT T t cb gh gs gw ga) (t+12) 304 2 (some ⟨gw,0,none⟩) cf.n cf.n (CK cf.n fun _=>(0,0)):=by refine⟨Own.of_heap ((x1.block gw η).trans hw) (tu _ 2 (fun _=>rfl) _) hmx,fun k hk=>?_⟩;obtain rfl:gw=k:=kI.inj hk;unfold QT;rw[if_neg η,if_neg η,if_neg η,if_pos rfl]
 have QL:Row W1 (QT T t cb gh gs gw ga) (t+13) 4 1 (some ⟨ga,0,none⟩) cf.n cf.n (cP cf.n (.bool false)):=by refine⟨Own.of_heap ((x1.block ga η).trans ha) bT hmx,fun k hk=>?_⟩;obtain rfl:ga=k:=kI.inj hk;unfold QT;rw[if_neg η,if_neg η,if_neg η,if_neg η,if_pos rfl]
 have hbt:T gc=0:=De;have ng:Has W1 (QT T t cb gh gs gw ga) 0 gc (aA cf me):=by refine⟨?_,(vt.ext x1).2⟩;rw[cw.tag gc aka];exact hbt
 generalize QT T t cb gh gs gw ga=T1 at*;have l8:=θ cw;have PW:=θ hC1;have HRh:=θ hRh;have HRs:=θ Da;have HRw:=θ fO;have HRa:=θ QL;have Kp:=θ ng;clear cw hC1 hRh Da fO QL ng En x1 x2 fV V5 wL DC xP lh ls_ lw la n1 n2 n3 n4 n5 hne hh hs hw ha bh bs_ bw ba vt hWs ak GZ jU aka hbt De;go_wp2_with fail;go_loopw [4] (fun iv wr=>aeW W1 T1 t gc cb gh gs gw ga cf me iv wr) (fun iv _=>cf.n-(intOf iv).toNat)
 case atStart=>exact⟨0,T1,none,0,fun _=>(none,0),rfl,aM _,Ξ.refl _ l8.o.Δ,PW.o,⟨Row.dR _ _ _ _ _,fun i hi=>absurd hi (lF _)⟩,HRs.o,Kp.o⟩
 case round =>
  obtain⟨k,T0,LA,lc,hs,rfl,hk,hT,hC,hL,hR,hB⟩:=hrel;have jU:=hT.Δ;by_cases jk:k<cf.n
  .have Di:=dQ (k<cf.n) jk
   have jF:=dQ ((k:Int)<(cf.n:Int));have k0:wr.cell? gc=some (cf.n:ξ):=hB.zc 0;have k3:wr.cell? (gc,3)=some (cf.Ω:ξ):=hB.zc 3;have lK:wr.cell? (cb,10)=some (.slice LA k lc):=hC.zc 10;have fO:=hL.row;rw[gO]at fO;have hne:=hC.jY fO η;have hnk:=hB.jY fO η;have HL:=θ hL;have HC:=θ hC;have HB:=θ hB;have HR:=θ hR;have HT:=θ hT;clear hL hC hB hR hT;obtain⟨xs,BK⟩:∃xs,(dJ k).map (fun i=>kD (hs i).1 ((cP k (cP cf.Ω (0:UInt8))).getD i []).length (hs i).2)=xs:=⟨_,rfl⟩;rw[BK]at fO;have Hxs:=θ BK;clear BK;have mA:sA (t+1) (rnP cf.Ω (t+1+1+k)):=fun v w T w' T' ⟨g,h1,h2⟩ hT=>⟨g,h1,h2.ο hT η⟩;have akb:sA (t+1) (rnQ cf.Ω (t+1+1+k)):=fun v w T w' T' ⟨g,h1,h2⟩ hT=>⟨g,h1,h2.ο hT η⟩;have eo:∀(v:ξ) (w:κ) (T:Tg),rnP cf.Ω (t+1+1+k) v w T->v.cells.toList.length=1/\∀y∈v.cells.toList,y.oneCell'=true:=by rintro v w T ⟨g,rfl,_⟩;exact⟨rfl,Gu⟩
   go_wp2_with fail;generalize KZ:wr=w0 at*;have eL:=fO.1;have cU:=fO.cond;apply Ar 11 (gR LA) (oM 10 LA) (BL 10 122 1 LA k lc xs) (BL.start eL);simp only[tk];repeat apply gF (fun _ h _ _=>aj (h.cell lK hne) (h.cell k3 hnk))
   apply aE (p:=uO T0 w0.heap.size (rnQ cf.Ω (t+1+1+k))) Γ Γ (uO.aQ akb cU _)
   .rfl
   .intro W hR hJ υ;obtain⟨hTf,hRf⟩:=Row.fresh (A:=some ⟨W.heap.size,0,none⟩) (fun q hq=>jU q (aF hR.size hq)) (Own.made W W.heap.size 5 1 (dK (cP cf.Ω 0)) cf.Ω (aq _) iQ (by rw[ay,gO];omega)) (Ext.alloc _ _) (t+1+1+k);refine⟨_,_,?_,(Ext.alloc _ _).grownBy _,.inr (Ext.alloc _ _),_,fun q hq=>hTf.tag q (Nat.lt_of_lt_of_le hq hR.size),hTf.Δ,W.heap.size,rfl,hRf⟩;go_simp;first|done|rfl
   intro v7;simp only[pu];apply aE (p:=uO T0 w0.heap.size (rnP cf.Ω (t+1+1+k))) Γ Γ (uO.aQ mA cU _)
   .rfl
   .intro W hR hJ υ;obtain⟨T9,h1,h2,g,h7,hr⟩:=υ.1 rfl;refine⟨.agg #[.slice g cf.Ω cf.Ω],W,?_,gR.refl _ _,oM.refl _ _ _ _,T9,h1,h2,g,rfl,hr⟩;simp only[h7];go_simp;first|done|rfl
   intro v8;simp only[pu];apply aE (p:=dI T0 w0.heap.size (rnP cf.Ω (t+1+1+k)) 122) Γ Γ (dI.aQ mA cU _)
   .rfl
   .intro W hR hJ υ;have hF:=υ.1 rfl;have hB:=dI.made (e:=122) mA hR.size hF;obtain⟨T9,EK,yX,TL⟩:=hF;obtain⟨a,rfl,_⟩:=TL;refine⟨_,_,?_,(Ext.alloc _ _).grownBy _,.inr (Ext.alloc _ _),hB⟩;go_simp;first|done|rfl
   intro v2;simp only[pu];apply aE (p:=mO T0 w0.heap.size (rnP cf.Ω (t+1+1+k)) (t+1) LA 122 1 (k+1) xs) Γ Γ (fun j hj v w w9 h hR=>mO.aQ j hj v w w9 h mA hR)
   .rfl
   .intro W hR hJ υ;exact dF W _ _ 77 rfl 122 i0 (.agg #[.slice none 0 0]) 1 24 underlying77 hi dx dA dN rfl Γ LA k lc xs rfl (hJ rfl) v2 rfl (υ.1 rfl) eo iQ η cU mA hR.size
   intro v3;simp only[pu];refine aP ?_;intro W hR gT υ;obtain⟨u1,T2,E,Ed,rfl,bq,Gq,adO,pJ⟩:=(υ.1 rfl).fin hR cU;clear υ gT;simp only[dk];obtain⟨g1,rfl,yq⟩:=Gq;have hL2:=HL.o.snoc bq (B:=some ⟨g1,0,none⟩) (bd:=cf.Ω) (l:=cP cf.Ω 0) (E:=E) (d:=Ed) (by rw[gO,gO,Hxs.o];exact adO) (by rw[gO,gO];exact yq);rw[←List.replicate_succ',gO]at hL2;have uT:=HC.o.ο bq η;have lK:W.cell? (cb,10)=some (.slice LA k lc):=uT.zc 10;have f10:=uT.free 10;obtain⟨kq,hCs⟩:=uT.put (S:=(· = t)) bq.Δ 10 (.slice E (k+1) Ed) rfl;have hLs:=hL2.ο kq (fun q hq=>WB);have hTt:Ξ (rnS t) w0 T0 _ T2:=(bq.mono (S':=rnS t) fun q hq=>S8).trans (kq.mono fun q hq=>S8);have HTt:=θ (HT.o.trans hTt);have Da:=HR.o.ο bq η |>.ο kq η
   have Sq:=(HB.o.ο bq η).ο kq η;have HCs:=θ hCs;have HLs:=θ hLs;have HRs:=θ Da;have HBs:=θ Sq;clear bq adO pJ yq hL2 uT kq hCs hLs hTt Da Sq hR fO jU eL cU hne hnk mA akb eo k0 k3;go_upto_region 6 with fail
   generalize hWa:dG W _ _=wa at*;clear hWa lK f10;have yp:wa.cell? (cb,13)=some (.slice gs cf.n cf.n):=HCs.o.zc 13;have k3:wa.cell? (gc,3)=some (cf.Ω:ξ):=HBs.o.zc 3;apply lG 8;simp only[tk];repeat apply kZ yp k3
   refine jq fun Wx ak=>?_;simp only[dk];have Jj:=HRs.o.ext ak;obtain⟨g9,Ko,dd,ff,_⟩:=rq Jj jk;cases Ko
   have Of:=HTt.o.Δ.ext ak;obtain⟨ye,hRr⟩:=Jj.put Of (i:=k) rfl (.int .i64 (cf.Ω:Nat));rw[F0,zD (g:=fun i=>if i<k+1 then cf.Ω else 0) fun i hi=>by
    by_cases e:i=k
    .subst e;rw[aH,if_pos (Nat.lt_succ_self _)]
    .rw[az _ _ e]
     by_cases e2:i<k
     .rw[if_pos e2,if_pos η]
     .rw[if_neg e2,if_neg η]]at hRr
   have GN:=θ ((HTt.o.ext ak).trans (ye.mono (S':=rnS t) fun q hq=>S8));have HC9:=θ ((HCs.o.ext ak).ο ye η);have HL9:=θ ((HLs.o.ext ak).ο ye (fun q hq=>by unfold In at hq;rw[gO]at hq;omega));have HB9:=θ ((HBs.o.ext ak).ο ye η);have HR9:=θ hRr;clear ye hRr Jj Of ak;go_wp2;go_roundw
   case rel=>exact⟨k+1,T2,E,Ed,_,cR,η,GN.o,HC9.o,HL9.o,HR9.o,HB9.o⟩
   exact dB
  .obtain rfl:k=cf.n:=by omega
   have k0:wr.cell? gc=some (cf.n:ξ):=hB.zc 0;have HL:=θ hL;have HC:=θ hC;have HR:=θ (hR.to (zD (g:=fun _=>cf.Ω) fun i hi=>if_pos hi));have HT:=θ hT;clear hL hC hB hR hT;go_wp2;go_ret;refine⟨_,rfl,T0,(V7.o.trans l8.o).fresh HT.o (fun q hq e=>o6.o q hq (by unfold rnS at e;unfold In;omega)),cb,rfl,⟨LA,lc,hs,some ⟨gh,0,none⟩,cf.n,some ⟨gs,0,none⟩,cf.n,some ⟨gw,0,none⟩,cf.n,some ⟨ga,0,none⟩,cf.n,none,0,none,0⟩,HC.o,HL.o,HRh.o.ο HT.o S8,HR.o,HRw.o.ο HT.o S8,HRa.o.ο HT.o S8,Row.dR _ _ _ _ _,Row.dR _ _ _ _ _⟩
end Go.Proofs.YtffcefoadaogbaaGreat
