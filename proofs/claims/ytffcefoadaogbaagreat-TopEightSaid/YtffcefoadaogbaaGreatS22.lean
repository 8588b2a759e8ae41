/- A part of the proof. -/
import Derived.Test.YtffcefoadaogbaaGreatS21
namespace Go.Proofs.YtffcefoadaogbaaGreat
open Go.RowKit
open Go.Proofs.Tryz
set_option linter.all false
set_option maxRecDepth 100000
set_option maxHeartbeats 16000000
open _root_.List renaming getElem?_eq_getElem->bf,length_eraseIdx->A7,mem_singleton->sP
open _root_.Nat renaming le_refl->aq,le_trans->aF,zero_le->aM
open Go.World renaming alloc->aB
open Go.Value renaming int->af,slice->kD
open Go renaming World->κ,Value->ξ,Calls->τ
variable{T':Tg}{W:Wd}{c:Cr}{cf:Cf}{i p:Nat}{tp:aD}{w w':κ}
theorem aau:(prog.info? 60).map (fun i=>(i.zero,i.size,i.bytes))=some (some (.pointer none),1,8):=ey
theorem VM:(prog.info? 80).map (fun i=>(i.zero,i.size,i.bytes))=some (some (.slice none 0 0),1,24):=ey
theorem ef.ο{S:Nat->Prop}{ah:Bool}{T:Tg}{b:Nat}{ops:List dM}{m:Mb}{B:Nat}(h:ef w T b cf tp ops ah m W B)(aT:jA cf)(hl:∀i,i<cf.n->(W.ps i).ls.length<=8)(hT:Ξ S w T w' T')(hs:∀k,k<14->¬S k)(hp:∀i,i<cf.n->∀k,In (m.ts i) 40 k->¬S k):ef w' T' b cf tp ops ah m W B:=by have jW:=aT.n8;exact⟨h.hd.ο hT (hs _ η),h.row.ο hT (hs _ η),h.bx.ο hT (hs _ η),fun i hi=>(h.ev i hi).ο hT (hs _ η),h.au.ο hT (hs _ η) (hs _ η) (hs _ η),h.tk,h.tsd,fun i hi=>(h.ps i hi).ο aT.workers (hl i hi) hT (hs _ η) (hp i hi)⟩
section
variable {ah:Bool}{w w' w0:κ}{T T':Tg}{b:Nat}{cf:Cf}{tp:aD}{ops:List dM}{W W':Wd}{B:Nat}{m:Mb}
theorem ef.mono(h:ef w T b cf tp ops ah m W B){B':Nat}(hB:B<=B'):ef w T b cf tp ops ah m W B':=⟨h.hd,h.row,h.bx,h.ev,h.au,h.tk,h.tsd,fun i hi=>(h.ps i hi).mono hB⟩
end
theorem F6:(prog.info? 76).map (·.size)=some 3:=ey
section
variable {w w':κ}{T T':Tg}{q mb:Nat}{cf:Cf}{tp:aD}{ops:List dM}{r:Rf}{W W':Wd}{B:Nat}
section
variable(h:iP w T q mb cf tp ops r W)(aT:jA cf)
include h aT
theorem Q5(Lb:∀i,i<cf.n->bz cf i (W.ps i) [])(mY:tp.length<=1099511627776)(hu:Θ w T)(hi:i<W.au.length)(hn:W.au.length<=300)(NI:mw W.au[i])(kN:W.au[i].dst<cf.n)(iF:W.au[i].src<cf.n)(js:bz cf W.au[i].dst ((W.ps W.au[i].dst).recv W.au[i].dst W.au[i]) [])(IP:W.au[i].iA=false->W.au[i].first<=((W.ps W.au[i].dst).ls.getD W.au[i].src []).length/\W.au[i].first+W.au[i].ν.length<=1000)(hQ:eS tp ops cf ((W.ps W.au[i].dst).recv W.au[i].dst W.au[i]))(fn x y:Int){kK:List Pk}(JU:(fn=3/\kK=W.au.eraseIdx i)\/(fn=5/\kK=W.au)):τ prog 87 #[π q,dy fn x y (i:Nat)] w (Does wS w T ((wK (W.ps W.au[i].dst):Nat):ξ) fun w' T'=>∃r',iP w' T' q mb cf tp ops r' {W with ps:=aW W.ps W.au[i].dst ((W.ps W.au[i].dst).recv W.au[i].dst W.au[i]),au:=kK}):=by
 obtain⟨i0,Ij,dx,dA,dN⟩:=info_parts uC;have HM:=θ h;have Hk':=θ js;have HQ:=θ hQ;have Hf9:=θ IP;have amy:=θ NI;have Hcr:=θ Lb;have HU:=θ hu;have c2:=h.hd.zc 2;obtain⟨ns,a1,a2,a3⟩:=h.au;obtain⟨g,D8,htg,m0,m1,m2⟩:=wC a2 a1 hi;have vY:=a3 i W.au[i] (ns[i]' η) (bf hi) (bf η);have Hns:=θ a1;have hns:ns[i]' η=ns[i]' η:=rfl;generalize I1:W.au[i]=k at*;have Hkk:=θ I1;generalize hhh:ns[i]' η=hh at m2 vY;generalize BX:aG cf.id k=el at*;have x0:=Ext.alloc w (.cells #[fn,x,y,i] 59);have hb:=(Has.new w T [fn,x,y,i] 59 rfl);rw[hu _ (aq _)]at hb;have qY:T q=14:=h.hd.1;have hmx:=a2.1.rd.2.1;unfold dy π at*;clear h js hQ IP NI hu Lb I1 hns hhh a1;go_enter func87,ntmps87;go_upto_region 1 with fail
 generalize hW:aB w _=W0 at*;generalize w.heap.size=gs at*;clear hW;rw[D8]at c2;replace c2:=x0.cell c2;replace m0:=x0.cell m0;replace m1:=x0.cell m1;replace m2:=x0.cell m2;have k0:=hb.zc 0;have k3:=hb.zc 3;have d1:=dh ((i:Int)<0);have d2':=dh (W.au.length<=i);apply iL trivial;repeat first|apply kZ k3 c2|apply lU trivial
 refine jq fun Wx ak=>?_;have x1:=x0.trans ak;replace c2:=ak.cell c2;replace m0:=ak.cell m0;replace m1:=ak.cell m1;replace m2:=ak.cell m2;replace k0:=ak.cell k0;replace k3:=ak.cell k3;replace hb:=hb.ext ak;clear ak x0;go_wp2_with fail;apply lG 9;simp only[tk];repeat apply lx5 c2 k3 m0 m1 m2
 apply dL (p:=fun u W=>∃gm,u=.pointer (some ⟨gm,0,none⟩)/\Wx.heap.size<=gm/\Has W T 0 gm [(0:Int),(0:Int),.slice none 0 0]) (fun _ _ _ ⟨g,h1,h2,h3⟩ he=>⟨g,h1,h2,h3.ext he⟩)
 .rfl
 .intro W hR υ;have hh:=(Has.new W T [(0:Int),(0:Int),.slice none 0 0] 76 rfl);rw[HU.o _ (aF x1.size hR.size)]at hh;refine⟨_,_,?_,Ext.alloc _ _,W.heap.size,rfl,hR.size,hh⟩;go_simp;first|done|rfl
 intro v9;simp only[pu];refine lex_nil ?_;intro Wy ak υ;obtain⟨gm,rfl,qT,hm⟩:=υ.1 rfl;clear υ;simp only[dk];have CJ:[af .i64 (k.src:Nat),.int .i64 (k.dst:Nat),.slice hh.1 el.length hh.2].length=3:=rfl;have DS:[af .i64 0,.int .i64 0,.slice none 0 0].length=3:=rfl;have zI:∀u∈[af .i64 (k.src:Nat),.int .i64 (k.dst:Nat),.slice hh.1 el.length hh.2],u.oneCell'=true:=gA;refine bE rfl 76 (.tmp 5) (.tmp 27) rfl rfl (us:=[af .i64 (k.src:Nat),.int .i64 (k.dst:Nat),.slice hh.1 el.length hh.2]) rfl hm CJ DS F6 zI ?_;intro Z bZ gZ sZ;have eZ:=Ext.own (B:=some ⟨gm,0,none⟩) ak gZ (fun k hk=>Ww);replace c2:=eZ.cell c2;replace m0:=eZ.cell m0;replace m1:=eZ.cell m1;replace m2:=eZ.cell m2;replace k0:=eZ.cell k0;replace k3:=eZ.cell k3;have x3:=x1.trans eZ;have HRf:=θ (HM.o.ext x3);have Hsb:=θ (vY.ext x3);have HTu:=θ (Ξ.ai wS HU.o x3);have K5:=θ (a2.ext x3);have Oh:=θ fun i k h hk hh=>(a3 i k h hk hh).ext x3;have HBz:=θ bZ;have HGs:=θ (hb.ext eZ);have QG:=θ (show ∀i,i<cf.n->(W.ps i).ls.length<=8 from fun i hi=>by rw[(Hcr.o i hi).len];exact aT.n8);have Hu3:=θ (show Θ Z T from fun j hj=>HU.o j (aF x3.size hj));clear hb hm CJ DS zI gZ sZ ak eZ bZ qT vY a2 a3 x1 x3;rcases JU with ⟨rfl,F5⟩|⟨rfl,F5⟩
 case' inl =>
  go_upto_region 12 with fail
  have l1:(i<=r.nc)=True:=eq_true η;have l4:=ej ((i:Int)+1);have l5:((i:Int)+1<=(W.au.length:Int))=True:=eq_true η;have l6:((i:Int)+1).toNat=i+1:=η;have l7:((0:Int)<=(i:Int)+1)=True:=eq_true η;apply lG 19;simp only[tk];repeat apply kZ c2 k3
  apply dL (p:=Vl Z T 16 76 3 (W.au.length-1) ((cY cf.id W.au ns).take (i*3)++(cY cf.id W.au ns).drop (i*3+3))) (fun _ _ _ h he=>h.ext he)
  .rfl
  .intro W' hR υ;have hA:=K5.o.ext hR;rw[D8]at hA;exact Nq (P:=prog) hR (.tmp 77) (.tmp 85) 43 rfl 76 i0 (.agg #[(0:Int),(0:Int),.slice none 0 0]) 3 40 underlying43 Ij dx dA dN rfl Γ hA Hu3.o hi (uy _ _ _) η rfl rfl
  intro v12;simp only[pu];refine lex_nil ?_;intro Wz hWz υ;obtain⟨T2,NB,nd,rfl,bq,jO⟩:=υ.1 rfl;clear υ;simp only[dk];have QD:rI Wz T2 16 cf.id NB nd (W.au.eraseIdx i):=rI.cut Hns.o hi Oh.o bq (fun e=>e) jO;have qw:=HRf.o.hd.ο bq (fun e=>e);have f2:=qw.free 2;have c2:=qw.zc 2;obtain⟨kq,FY⟩:=qw.put (S:=(· = 14)) bq.Δ 2 (.slice NB (W.au.length-1) nd) rfl;have hTz:Ξ (fun k=>k=14\/k=16) Z T (Wz.setCell (q,2) (.slice NB (W.au.length-1) nd)) T2:=(bq.mono fun _ e=>e.elim).trans (kq.mono fun k e=>.inl e);have nE:iP (Wz.setCell (q,2) (.slice NB (W.au.length-1) nd)) T2 q mb cf tp ops {r with NA:=NB,nc:=nd} {W with au:=kK}:=by rw[F5];exact HRf.o.aaZ aT QG.o hTz (by rw[A7,if_pos hi];exact FY) (QD.ο kq η η)
  have hB9:=(HBz.o.ο bq (fun e=>e)).ο kq η;have vY:=(Hsb.o.ο bq (fun e=>e)).ο kq η;have Nd:=(HGs.o.ο bq (fun e=>e)).ο kq η;have k0:=Nd.zc 0;have rG:=θ nE;have jr:=θ (HTu.o.trans (hTz.mono (S':=wS) fun k e=>QY e));have HB9:=θ hB9;have Oo:=θ vY;clear F5 kq FY hTz nE hB9 vY Nd QD qw jO bq hWz m0 m1 m2 k3;go_upto_region 15 with fail
  generalize Uz:κ.setCell Wz _ _=W4;have akk:Wz.setCell (q,2) (.slice NB (W.au.length-1) nd)=W4:=by rw[←Uz]
  rw[akk]at rG jr HB9 Oo;obtain⟨r2,uH⟩:∃r2,({r with NA:=NB,nc:=nd}:Rf)=r2:=⟨_,rfl⟩;have hqs:r2.qs=r.qs:=by rw[←uH]
  rw[uH]at rG;clear Uz akk f2 c2 k0 uH
 case' inr =>
  have rG:Hq (iP Z T q mb cf tp ops r {W with au:=kK}):=θ (by rw[F5];exact HRf.o);clear F5;have HB9:=HBz;have Oo:=Hsb;clear m0 m1 m2 k3;go_upto_region 15 with fail
  obtain⟨r2,uH⟩:∃r2,r=r2:=⟨_,rfl⟩;have hqs:r2.qs=r.qs:=by rw[←uH]
  rw[uH]at rG;clear c2 k0 uH D8 hmx;obtain⟨T2,bq⟩:∃T1,T=T1:=⟨_,rfl⟩;obtain⟨W4,Uz⟩:∃W4,Z=W4:=⟨_,rfl⟩;rw[bq]at rG HB9 Oo;have jr:Hq (Ξ wS w T Z T2):=by rw[←bq];exact HTu
  clear bq;rw[Uz]at rG jr HB9 Oo⊢;clear Uz
 all_goals
  have hu:=jr.o.Δ;have hM:=rG.o;have jW:=aT.n8;have c1:=hM.hd.zc 1;obtain⟨gp,tK,cq,_,tgp⟩:=hM.row.at_ (aO cf.n _ kN);rw[tK]at c1;have g1:=HB9.o.zc 1;have g2:=HB9.o.zc 2;have KX:¬In (30+20*k.dst) 17 (T2 q):=by rw[hM.hd.1];unfold In;omega
  have BR:¬In (30+20*k.dst) 17 (T2 gp):=by rw[tgp];unfold In;omega
  have hn3:¬In (30+20*k.dst) 17 (T2 gm):=by rw[HB9.o.1];unfold In;omega
  have hP:=hM.ps k.dst kN;generalize an8:r2.qs k.dst=qd at*;generalize hcd:r2.cs k.dst=cd at*;have Hqd:=θ an8;have Hcd:=θ hcd;clear an8 hcd;have Hrc:∀W3,Ext W4 W3->τ prog 131 #[.pointer qd,.slice hh.1 el.length hh.2] W3 (cG (In (30+20*k.dst) 17) W3 T2 fun v w' T'=>v=.int .i64 (wK (W.ps k.dst):Nat)/\wH w' T' (30+20*k.dst) qd cd cf k.dst tp ops ((W.ps k.dst).recv k.dst k) ((W.ps k.dst).recv k.dst k).front):=fun W3 e=>by refine(aan (hP.ext e) k (Hcr.o _ kN) Hk'.o (hu.ext e) η mY amy.o rfl iF (by rw[BX];exact(Oo.o.rb.ext e)) Hf9.o HQ.o).mono ?_;rintro e9 w' ⟨rfl,T',hT,hP⟩;refine⟨_,rfl,T',hT,?_,hP⟩;unfold wK;split<;>rfl
  have Hrc:=θ Hrc;have hgR:Grow (fun v w' T'=>v=.int .i64 (wK (W.ps k.dst):Nat)/\wH w' T' (30+20*k.dst) qd cd cf k.dst tp ops ((W.ps k.dst).recv k.dst k) ((W.ps k.dst).recv k.dst k).front):=by rintro v w T w' ⟨h1,h2⟩ e;exact⟨h1,h2.ext e⟩
  unfold π at*;clear hM hP;apply GG (oR (In (30+20*k.dst) 17) T2) (Bj 10 (In (30+20*k.dst) 17) T2) (oJ 10 _) (oJ.start _ _);repeat apply gF (fun _ h _ _=>aj (h.cell c1 KX) (aj (h.cell cq BR) (aj (h.cell g1 hn3) (h.cell g2 hn3))))
  apply uI (p:=oP _ _ _ _) Γ Γ (oP.aQ hgR _)
  .intro W hR hJ υ;exact jz hu (hJ rfl) ((Hrc.o) W (hJ rfl))
  intro v10;simp only[pu];repeat apply gF (fun _ _ _ υ=>JX (υ.1 rfl))
  refine aP ?_;intro Wy hR gT υ;obtain⟨T3,cT,rfl,ry⟩:=υ.1 rfl;have AI:=θ (rG.o.zC aT Hcr.o kN (cT.mono fun j hj=>hj.sub η η) (by rw[Hqd.o,Hcd.o];exact ry));have jH:=θ (jr.o.trans (cT.mono (S':=wS) fun j hj=>aa0 (p:=k.dst) η (hj.sub η η)));clear cT ry υ gT hR;go_wp2_with fail;all_goals
   go_ret;exact⟨rfl,T3,jH.o,r2,AI.o⟩
theorem NR(mj:∀i,i<cf.n->(W.ps i).ls.length<=8)(hu:Θ w T)(hi:i<W.au.length)(hn:W.au.length<=300)(x y:Int):τ prog 87 #[π q,dy 4 x y (i:Nat)] w (Does wS w T (.int .i64 ((0:Nat):Int)) fun w' T'=>∃r',iP w' T' q mb cf tp ops r' {W with au:=W.au.eraseIdx i}):=by
 obtain⟨i0,Ij,dx,dA,dN⟩:=info_parts uC;have HM:=θ h;have HU:=θ hu;have c2:=h.hd.zc 2;obtain⟨ns,a1,a2,a3⟩:=h.au;obtain⟨g,D8,htg,m0,m1,m2⟩:=wC a2 a1 hi;have vY:=a3 i W.au[i] (ns[i]' η) (bf hi) (bf η);have Hns:=θ a1;have hns:ns[i]' η=ns[i]' η:=rfl;generalize I1:W.au[i]=k at*;have Hkk:=θ I1;generalize hhh:ns[i]' η=hh at m2 vY;generalize BX:aG cf.id k=el at*;have x0:=Ext.alloc w (.cells #[(4:Int),x,y,i] 59);have hb:=(Has.new w T [(4:Int),x,y,i] 59 rfl);rw[hu _ (aq _)]at hb;have qY:T q=14:=h.hd.1;have hmx:=a2.1.rd.2.1;unfold dy π at*;clear h hu I1 hns hhh a1;go_enter func87,ntmps87;go_upto_region 1 with fail
 generalize hW:aB w _=W0 at*;generalize w.heap.size=gs at*;clear hW;rw[D8]at c2;replace c2:=x0.cell c2;replace m0:=x0.cell m0;replace m1:=x0.cell m1;replace m2:=x0.cell m2;have k0:=hb.zc 0;have k3:=hb.zc 3;have d1:=dh ((i:Int)<0);have d2':=dh (W.au.length<=i);apply iL trivial;repeat first|apply kZ k3 c2|apply lU trivial
 refine jq fun Wx ak=>?_;have x1:=x0.trans ak;replace c2:=ak.cell c2;replace m0:=ak.cell m0;replace m1:=ak.cell m1;replace m2:=ak.cell m2;replace k0:=ak.cell k0;replace k3:=ak.cell k3;replace hb:=hb.ext ak;clear ak x0;go_wp2_with fail;apply lG 9;simp only[tk];repeat apply lx5 c2 k3 m0 m1 m2
 apply dL (p:=fun u W=>∃gm,u=.pointer (some ⟨gm,0,none⟩)/\Wx.heap.size<=gm/\Has W T 0 gm [(0:Int),(0:Int),.slice none 0 0]) (fun _ _ _ ⟨g,h1,h2,h3⟩ he=>⟨g,h1,h2,h3.ext he⟩)
 .rfl
 .intro W hR υ;have hh:=(Has.new W T [(0:Int),(0:Int),.slice none 0 0] 76 rfl);rw[HU.o _ (aF x1.size hR.size)]at hh;refine⟨_,_,?_,Ext.alloc _ _,W.heap.size,rfl,hR.size,hh⟩;go_simp;first|done|rfl
 intro v9;simp only[pu];refine lex_nil ?_;intro Wy ak υ;obtain⟨gm,rfl,qT,hm⟩:=υ.1 rfl;clear υ;simp only[dk];have CJ:[af .i64 (k.src:Nat),.int .i64 (k.dst:Nat),.slice hh.1 el.length hh.2].length=3:=rfl;have DS:[af .i64 0,.int .i64 0,.slice none 0 0].length=3:=rfl;have zI:∀u∈[af .i64 (k.src:Nat),.int .i64 (k.dst:Nat),.slice hh.1 el.length hh.2],u.oneCell'=true:=gA;refine bE rfl 76 (.tmp 5) (.tmp 27) rfl rfl (us:=[af .i64 (k.src:Nat),.int .i64 (k.dst:Nat),.slice hh.1 el.length hh.2]) rfl hm CJ DS F6 zI ?_;intro Z bZ gZ sZ;have eZ:=Ext.own (B:=some ⟨gm,0,none⟩) ak gZ (fun k hk=>Ww);replace c2:=eZ.cell c2;replace m0:=eZ.cell m0;replace m1:=eZ.cell m1;replace m2:=eZ.cell m2;replace k0:=eZ.cell k0;replace k3:=eZ.cell k3;have x3:=x1.trans eZ;have HRf:=θ (HM.o.ext x3);have Hsb:=θ (vY.ext x3);have HTu:=θ (Ξ.ai wS HU.o x3);have K5:=θ (a2.ext x3);have Oh:=θ fun i k h hk hh=>(a3 i k h hk hh).ext x3;have HBz:=θ bZ;have HGs:=θ (hb.ext eZ);have QG:=θ mj;have Hu3:=θ (show Θ Z T from fun j hj=>HU.o j (aF x3.size hj));clear hb hm CJ DS zI gZ sZ ak eZ bZ qT vY a2 a3 x1 x3;go_upto_region 12 with fail
 have l1:(i<=r.nc)=True:=eq_true η;have l4:=ej ((i:Int)+1);have l5:((i:Int)+1<=(W.au.length:Int))=True:=eq_true η;have l6:((i:Int)+1).toNat=i+1:=η;have l7:((0:Int)<=(i:Int)+1)=True:=eq_true η;apply lG 19;simp only[tk];repeat apply kZ c2 k3
 apply dL (p:=Vl Z T 16 76 3 (W.au.length-1) ((cY cf.id W.au ns).take (i*3)++(cY cf.id W.au ns).drop (i*3+3))) (fun _ _ _ h he=>h.ext he)
 .rfl
 .intro W' hR υ;have hA:=K5.o.ext hR;rw[D8]at hA;exact Nq (P:=prog) hR (.tmp 77) (.tmp 85) 43 rfl 76 i0 (.agg #[(0:Int),(0:Int),.slice none 0 0]) 3 40 underlying43 Ij dx dA dN rfl Γ hA Hu3.o hi (uy _ _ _) η rfl rfl
 intro v12;simp only[pu];refine lex_nil ?_;intro Wz hWz υ;obtain⟨T2,NB,nd,rfl,bq,jO⟩:=υ.1 rfl;clear υ;simp only[dk];have QD:rI Wz T2 16 cf.id NB nd (W.au.eraseIdx i):=rI.cut Hns.o hi Oh.o bq (fun e=>e) jO;have qw:=HRf.o.hd.ο bq (fun e=>e);have f2:=qw.free 2;have c2:=qw.zc 2;obtain⟨kq,FY⟩:=qw.put (S:=(· = 14)) bq.Δ 2 (.slice NB (W.au.length-1) nd) rfl;have hTz:Ξ (fun k=>k=14\/k=16) Z T (Wz.setCell (q,2) (.slice NB (W.au.length-1) nd)) T2:=(bq.mono fun _ e=>e.elim).trans (kq.mono fun k e=>.inl e);have nE:iP (Wz.setCell (q,2) (.slice NB (W.au.length-1) nd)) T2 q mb cf tp ops {r with NA:=NB,nc:=nd} {W with au:=W.au.eraseIdx i}:=by exact HRf.o.aaZ aT QG.o hTz (by rw[A7,if_pos hi];exact FY) (QD.ο kq η η)
 have hB9:=(HBz.o.ο bq (fun e=>e)).ο kq η;have vY:=(Hsb.o.ο bq (fun e=>e)).ο kq η;have Nd:=(HGs.o.ο bq (fun e=>e)).ο kq η;have k0:=Nd.zc 0;have rG:=θ nE;have jr:=θ (HTu.o.trans (hTz.mono (S':=wS) fun k e=>QY e));clear kq FY hTz nE hB9 vY Nd QD qw jO bq hWz m0 m1 m2 k3;go_wp2_with fail;all_goals
  go_ret;exact⟨rfl,T2,jr.o,_,rG.o⟩
end
end
section
variable {w w':κ}{T T':Tg}{q mb:Nat}{cf:Cf}{tp:aD}{ops:List dM}{r:Rf}{W W':Wd}{B:Nat}
section
variable(h:iP w T q mb cf tp ops r W)(aT:jA cf)(Lb:∀i,i<cf.n->bz cf i (W.ps i) [])(mY:tp.length<=1099511627776)(hu:Θ w T)(hp:p<cf.n)
include h aT Lb mY hu hp
theorem KR(u:UInt8)(x n:Int)(hx:bits BinOp.and IntKind.i64 x 255 % 256=(u.toNat:Int))(hQ:eS tp ops cf ((W.ps p).ν p cf.χ u)):τ prog 54 #[π q,dy 1 (p:Nat) x n] w (Does wS w T (((W.ps p).iB p cf.χ:Nat):ξ) fun w' T'=>iP w' T' q mb cf tp ops r {W with ps:=aW W.ps p ((W.ps p).ν p cf.χ u)}):=by
 have jW:=aT.n8;have HM:=θ h;have Hpr:=θ fun W3 (e:Ext w W3)=>VF ((h.ps p hp).ext e) (Lb p hp) (hu.ext e) η mY u hQ;have Hcr:=θ Lb;have HU:=θ hu;have c1:=h.hd.zc 1;obtain⟨gp,tK,cq,_,_⟩:=h.row.at_ (aO cf.n _ hp);have KY:=h.row.rd.2.1;rw[tK]at c1;have x0:=Ext.alloc w (.cells #[(1:Int),p,x,n] 59);have hb:=(Has.new w T [(1:Int),p,x,n] 59 rfl);unfold dy π at*;clear h hu Lb;go_enter func54,ntmps54;go_upto_region 1 with fail
 generalize hW:aB w _=W0 at*;generalize w.heap.size=gs at*;clear hW;replace c1:=x0.cell c1;replace cq:=x0.cell cq;have k0:=hb.zc 0;have k1:=hb.zc 1;have k2:=hb.zc 2;have k3:=hb.zc 3;clear hb;have e2:=dh ((p:Int)<0);have e3':=dh (cf.n<=p);go_upto_region 5 with fail
 apply iL trivial;repeat first|apply kZ k1 c1|apply lU trivial
 refine jq fun Wx ak=>?_;replace c1:=ak.cell c1;replace cq:=ak.cell cq;replace k0:=ak.cell k0;replace k1:=ak.cell k1;replace k2:=ak.cell k2;replace k3:=ak.cell k3;have x1:=x0.trans ak;clear ak;go_upto_region 7 with fail
 apply iL trivial;repeat first|apply DH k1 c1 cq|apply lU trivial
 refine jq fun Wx ak=>?_;have x2:=x1.trans ak;replace k0:=ak.cell k0;replace k1:=ak.cell k1;replace k2:=ak.cell k2;replace k3:=ak.cell k3;clear ak;go_wp2_with fail;rw[hx];refine(Hpr.o _ x2).mono ?_;rintro e w3 ⟨rfl,T3,cT,ry⟩;have AI:=θ ((HM.o.ext x2).zC aT Hcr.o hp (cT.mono fun j hj=>hj.sub η η) ry);have jH:=θ ((Ξ.ai wS HU.o x2).trans (cT.mono (S':=wS) fun j hj=>aa0 (p:=p) η (hj.sub η η)));clear cT ry;go_wp2;go_ret;exact⟨rfl,T3,jH.o,AI.o⟩
theorem NS(AV:(W.ps p).now<1000000)(Ul:W.au.length<=300)(js:bz cf p ((W.ps p).tick p) [])(x n:Int):τ prog 54 #[π q,dy 2 (p:Nat) x n] w (Does wS w T (.int .i64 ((0:Nat):Int)) fun w' T'=>∃r',iP w' T' q mb cf tp ops r' {W with ps:=aW W.ps p ((W.ps p).tick p),au:=jd W.au ((W.ps p).kP (zK tp ops) p)}):=by
 have jW:=aT.n8;have HM:=θ h;have hck:=(Lb p hp).bQ tp ops (Lb p hp).dW;have Rq:=(h.ps p hp).core;have Hpr:=θ fun W3 (e:Ext w W3)=>aak (Rq.ext e) hck (hu.ext e) η AV;rw[Cp tp ops (W.ps p) p]at Hpr;obtain⟨A9,n9,d9,Qa,_⟩:=(h.ps p hp).bn;have cp:=Qa.zc 0;have Hk':=θ js;have Hcr:=θ Lb;have HU:=θ hu;have c1:=h.hd.zc 1;obtain⟨gp,tK,cq,_,_⟩:=h.row.at_ (aO cf.n _ hp);have KY:=h.row.rd.2.1;rw[tK]at c1;have x0:=Ext.alloc w (.cells #[(2:Int),p,x,n] 59);have hb:=(Has.new w T [(2:Int),p,x,n] 59 rfl);unfold dy π at*;clear h hu Lb;go_enter func54,ntmps54;go_upto_region 1 with fail
 generalize hW:aB w _=W0 at*;generalize w.heap.size=gs at*;clear hW;replace c1:=x0.cell c1;replace cp:=x0.cell cp;replace cq:=x0.cell cq;have k0:=hb.zc 0;have k1:=hb.zc 1;have k2:=hb.zc 2;have k3:=hb.zc 3;clear hb;have e1:=dQ (p<cf.n) hp;have e2:=dh ((p:Int)<0);have e3:=dh ((cf.n:Int)<=(p:Int));have e3':=dh (cf.n<=p);go_upto_region 5 with fail
 apply iL trivial;repeat first|apply kZ k1 c1|apply lU trivial
 refine jq fun Wx ak=>?_;replace c1:=ak.cell c1;replace cq:=ak.cell cq;replace cp:=ak.cell cp;replace k0:=ak.cell k0;replace k1:=ak.cell k1;replace k2:=ak.cell k2;replace k3:=ak.cell k3;have x1:=x0.trans ak;clear ak;go_upto_region 7 with fail
 apply iL trivial;repeat first|apply DH k1 c1 cq|apply lU trivial
 refine jq fun Wx ak=>?_;have x2:=x1.trans ak;replace cp:=ak.cell cp;replace k0:=ak.cell k0;replace k1:=ak.cell k1;replace k2:=ak.cell k2;replace k3:=ak.cell k3;clear ak;go_wp2_with fail;refine(Hpr.o _ x2).mono ?_;rintro e w3 ⟨v,rfl,T3,cT,ML,md,rfl,hML,FC⟩;have anY:In (30+20*p) 18 (30+20*p+1):=cN;have sq:∀j,In (30+20*p+1) 17 j->In (30+20*p) 18 j:=fun j hj=>hj.sub η η;have ry:wH w3 T3 (30+20*p) (r.qs p) (r.cs p) cf p tp ops ((W.ps p).tick p) ((W.ps p).tick p).front:=by rw[FI];exact((HM.o.ext x2).ps p hp).oL η (k:=17) Γ cT FC (by rw[DZ];exact nD.refl _)
 have pP:=(HM.o.ext x2).zC aT Hcr.o hp (cT.mono sq) ry;have mj:∀i,i<cf.n->(aW W.ps p ((W.ps p).tick p) i).ls.length<=8:=fun i hi=>by
  by_cases e:i=p
  .subst e;rw[aH,Hk'.o.len];exact jW
  .rw[az _ _ e,(Hcr.o i hi).len];exact jW
 have QG:=θ mj;have Hsd:=θ (acd pP.hd pP.au hML η η cT.Δ Ul);have AI:=θ pP;have jH:=θ ((Ξ.ai wS HU.o x2).trans (cT.mono (S':=wS) fun j hj=>aa0 (p:=p) η (sq j hj)));unfold π at Hsd;clear cT ry FC hML pP mj c1 cq;go_wp2_with fail;refine Hsd.o.mono ?_;rintro e w4 ⟨rfl,T4,mE,NA,nc,Wm,hN4⟩;have YK:=θ (AI.o.aaZ aT QG.o mE Wm hN4);have Bo:=θ (jH.o.trans (mE.mono (S':=wS) fun j e=>QY e));clear mE Wm hN4;go_wp2;go_ret;exact⟨rfl,T4,Bo.o,_,YK.o⟩
end
theorem CY(hu:Θ w T)(fn a x n:Int)(hf:fn=3\/fn=4\/fn=5){E:Nat}{Q:κ->Tg->Prop}(hC:∀w0,Ext w w0->τ prog 87 #[π q,dy fn a x n] w0 (Does wS w0 T (.int .i64 ((E:Nat):Int)) Q)):τ prog 54 #[π q,dy fn a x n] w (Does wS w T (.int .i64 ((E:Nat):Int)) Q):=by
 have HC:=θ hC;have HU:=θ hu;have x0:=Ext.alloc w (.cells #[fn,a,x,n] 59);have hb:=(Has.new w T [fn,a,x,n] 59 rfl);have e1:=dh (fn<1);have e2:=dh (8<fn);have e3:=dQ (3<=fn);have e4:=dQ (fn<=6);unfold dy π at*;clear hC hu hf;go_enter func54,ntmps54;go_upto_region 1 with fail
 generalize hW:aB w _=W0 at*;generalize w.heap.size=gs at*;clear hW;have k0:=hb.zc 0;have k1:=hb.zc 1;have k2:=hb.zc 2;have k3:=hb.zc 3;clear hb;go_wp2_with fail;refine(HC.o _ x0).mono ?_;rintro e w3 ⟨rfl,T3,cT,hQ3⟩;have HQ3:=θ hQ3;have jH:=θ ((Ξ.ai wS HU.o x0).trans cT);clear cT hQ3;go_wp2;go_ret;exact⟨rfl,T3,jH.o,HQ3.o⟩
end
def tS(k:Nat):Prop:=wS k\/mS 400 k
section
variable {ah:Bool}{w w' w0:κ}{T T':Tg}{q mb:Nat}{cf:Cf}{tp:aD}{ops:List dM}{r:Rf}{m:Mb}{W W1:Wd}{B B1:Nat}
theorem iP.byM(h:iP w T q mb cf tp ops r W)(aT:jA cf)(hl:∀i,i<cf.n->(W.ps i).ls.length<=8)(hT:Ξ (mS 400) w T w' T'):iP w' T' q mb cf tp ops r W :=
 h.ο aT hl hT (by unfold mS;omega) fun k hk=>by unfold wS at hk;unfold mS;omega
theorem ef.byW(h:ef w T mb cf tp ops ah m W B)(vq:m.k0=400)(aT:jA cf)(hl:∀i,i<cf.n->(W.ps i).ls.length<=8)(hT:Ξ wS w T w' T'):ef w' T' mb cf tp ops ah m W B :=
 h.ο aT hl hT (fun k hk=>Jx) fun i hi k hk=>by have:=(h.at_ hi).2;unfold In at hk;unfold wS;omega
def ait(w:κ)(T:Tg)(q mb:Nat)(cf:Cf)(tp:aD)(ops:List dM)(r:Rf)(W:Wd)(iv:ξ)(wr:κ):Prop :=
 ∃(j:Nat) (T':Tg) (uQ:Nat->Option Addr×Nat),iv=.int .i64 (j:Nat)/\j<=cf.n/\Ξ wS w T wr T'/\iP wr T' q mb cf tp ops {r with hs:=uQ} (fZ W j)
theorem aeX(h:iP w T q mb cf tp ops r W)(vq:m.k0=400)(aT:jA cf)(hu:Θ w T)(Gn:∀i,i<cf.n->bz cf i (W1.ps i) [])(GV:∀i,i<cf.n->(W1.log i).length<=1000000000)(fn a x n:Int)(JU:fn≠7)(err:Nat)(hS:∀wb,Ext w wb->τ prog 54 #[π q,dy fn a x n] wb (Does wS wb T (err:ξ) fun w' T'=>∃r',iP w' T' q mb cf tp ops r' W1))(hM:∀wb Tb,Ξ wS w T wb Tb->τ prog 52 #[π mb,dy fn a x n] wb (cG (mS 400) wb Tb fun v w' T'=>v=.int .i64 (err:Nat)/\∃uQ,ef w' T' mb cf tp ops ah {m with hs:=uQ} W1.told B1))(hSm:∀wb Tb r' m',m'.k0=400->Θ wb Tb->iP wb Tb q mb cf tp ops r' W1.told->ef wb Tb mb cf tp ops ah m' W1.told B1->τ prog 53 #[π q] wb fun e w'=>e=.returned (.bool true)/\Ext wb w'):τ prog 36 #[π q,dy fn a x n] w (Does tS w T (.bool true) fun w' T'=>∃r' m',m'.k0=400/\iP w' T' q mb cf tp ops r' W1.told/\ef w' T' mb cf tp ops ah m' W1.told B1):=by
 have jW:=aT.n8;have oh:∀i,i<cf.n->(W1.ps i).ls.length<=8:=fun i hi=>by rw[(Gn i hi).len];exact jW
 have HS:=θ hS;have HM:=θ hM;have HSm:=θ hSm;have Hk1:=θ Gn;have Hl1:=θ oh;have acy:=θ GV;have Hk0:=θ vq;have hfe:(fn==7)=false:=by rw[beq_eq_false_iff_ne];exact JU
 have x0:=Ext.alloc w (.cells #[fn,a,x,n] 59);have hb:=(Has.new w T [fn,a,x,n] 59 rfl);rw[hu _ (aq _)]at hb;have o6:=θ (Ξ.ai wS hu x0);unfold dy π at*;clear h hS hM hSm Gn oh GV hu vq;go_enter func36,ntmps36;go_upto_region 1 with fail
 generalize hW:aB w _=W0 at*;generalize w.heap.size=gs at*;clear hW;have k0:=hb.zc 0;have k1:=hb.zc 1;have k2:=hb.zc 2;have k3:=hb.zc 3;go_wp2_with fail;refine(HS.o _ x0).mono ?_;rintro e w1 ⟨rfl,T1,cw,r1,jN⟩;have ng:=hb.ο cw Jx;have HR1:=θ jN;have l8:=θ (o6.o.trans cw);clear cw k0 k1 k2 k3 jN hb;have k0:=ng.zc 0;have k1:=ng.zc 1;have k2:=ng.zc 2;have k3:=ng.zc 3;have c0:=HR1.o.hd.zc 0;have hu:=l8.o.Δ;have hnq:¬mS 400 (T1 q):=by rw[HR1.o.hd.1];unfold mS;omega
 have uA:¬mS 400 (T1 gs):=by rw[ng.1];unfold mS;omega
 have kR:∀W3,Ext w1 W3->τ prog 52 #[.pointer mb,.agg #[fn,a,x,n]] W3 (cG (mS 400) W3 T1 fun v w' T'=>v=.int .i64 (err:Nat)/\∃uQ,ef w' T' mb cf tp ops ah {m with hs:=uQ} W1.told B1):=fun W3 e=>HM.o W3 T1 (l8.o.ext e);have kR:=θ kR;have Je:Grow (fun v w' T'=>v=.int .i64 (err:Nat)/\∃uQ,ef w' T' mb cf tp ops ah {m with hs:=uQ} W1.told B1):=by rintro v w T w' ⟨h1,uQ,h2⟩ e;exact⟨h1,uQ,h2.ext e⟩
 unfold π at*;clear ng;go_upto_region 5 with fail
 apply GG (oR (mS 400) T1) (Bj 5 (mS 400) T1) (oJ 5 _) (oJ.start _ _);repeat apply gF (fun _ h _ _=>aj (h.cell c0 hnq) (aj (h.cell k0 uA) (aj (h.cell k1 uA) (aj (h.cell k2 uA) (h.cell k3 uA)))))
 apply uI (p:=oP _ _ _ _) Γ Γ (oP.aQ Je _)
 .intro W hR hJ υ;exact jz hu (hJ rfl) ((kR.o) W (hJ rfl))
 intro v5;simp only[pu];repeat apply gF (fun _ _ _ _=>trivial)
 repeat apply gF (fun _ _ _ υ=>JX (υ.1 rfl))
 refine aP ?_;intro Wy hR gT υ;obtain⟨T2,bq,rfl,xE,nE⟩:=υ.1 rfl;have Wg:=θ (HR1.o.byM aT Hl1.o bq);have rG:=θ nE;have jr:=θ ((l8.o.mono (S':=tS) fun k e=>.inl e).trans (bq.mono fun k e=>.inr e));have JH:=bq.Δ;clear bq nE υ gT hR c0 k0 k1 k2 k3 hnq uA Je kR hu;obtain⟨gE,fN,_⟩:=Wg.o.bx.at_ (aO cf.n _ (show 0<cf.n by have:=aT.n2;omega));obtain⟨gp,tK,_⟩:=Wg.o.row.at_ (aO cf.n _ (show 0<cf.n by have:=aT.n2;omega));have HgE:=θ fN;have ZL:=θ tK;have Hu2:=θ JH;clear fN tK JH;go_wp2_with fail;go_loopw [6] (fun iv wr=>ait Wy T2 q mb cf tp ops r1 W1 iv wr) (fun iv _=>cf.n-(intOf iv).toNat)
 case atStart=>exact⟨0,T2,r1.hs,rfl,aM _,Ξ.refl _ Hu2.o,Wg.o.start⟩
 case round =>
  obtain⟨j,T3,Sn,rfl,hj,cT,Jj⟩:=hrel;have hu:=cT.Δ;have c1:wr.cell? (q,1)=some (.slice gp cf.n r1.pc):=by
   have h9:=Jj.hd.zc 1;rw[h9];show some (kD r1.PA cf.n r1.pc)=_
   rw[ZL.o]
  have c3:wr.cell? (q,3)=some (.slice gE cf.n r1.ec):=by
   have h9:=Jj.hd.zc 3;rw[h9];show some (kD r1.EA cf.n r1.ec)=_
   rw[HgE.o]
  by_cases mX:j<cf.n
  .have jF:=dQ ((j:Int)<(cf.n:Int))
   obtain⟨g',lY,cA,_,tA⟩:=Jj.row.at_ (aO cf.n _ mX);have Oa:g'=gp:=by
    have h9:r1.PA=some ⟨g',0,none⟩:=lY;rw[ZL.o]at h9;cases h9
    rfl
   rw[Oa]at cA tA;replace cA:wr.cell? (gp,j)=some (.pointer (r1.qs j,0)):=cA;obtain⟨gE',acz,cE0,fE,tE⟩:=Jj.bx.at_ (aO cf.n _ mX);have acA:gE'=gE:=by
    have h9:r1.EA=some ⟨gE',0,none⟩:=acz;rw[HgE.o]at h9;cases h9
    rfl
   rw[acA]at cE0 tE;have cE:wr.cell? (gE,j)=some (.slice (Sn j).1 (W1.log j).length (Sn j).2):=by rw[cE0];show some (kD (Sn j).1 ((fZ W1 j).log j).length (Sn j).2)=_;rw[xJ]
   have mz:Row wr T3 (18+j) 118 3 (Sn j).1 (W1.log j).length (Sn j).2 (iu (W1.log j)):=by have h9:=Jj.ev j mX;rw[xJ]at h9;exact h9
   have La:=Jj.ps j mX;rw[wF]at La;obtain⟨A9,n9,d9,Qa,_⟩:=La.bn;have cq:wr.cell? (r1.qs j,0)=some (.pointer (r1.cs j,0)):=Qa.zc 0;have tq:T3 (r1.qs j)=30+20*j:=Qa.1;have hco:=La.core;have hCr:=Hk1.o j mX;have mj:=Hl1.o j mX;have acB:∀i,i<cf.n->((fZ W1 j).ps i).ls.length<=8:=fun i hi=>by
    have h9:((fZ W1 j).ps i).ls=(W1.ps i).ls:=by
     show(if i<j then {W1.ps i with bx:=[]} else W1.ps i).ls=_
     split<;>rfl
    rw[h9];exact Hl1.o i hi
   have V3:=hCr.bx;have VJ:=acy.o j mX;have HR3:=θ Jj;have jH:=θ cT;have ahd:=θ mz;have I2:=θ hco;have ahe:=θ acB;have D8:SV T3 j ⟨gp,j,none⟩:=.inr (.inl tA);have hgQ:SV T3 j ⟨r1.qs j,0,none⟩:=.inr (.inr (.inr tq));have um:SV T3 j ⟨q,1,none⟩:=.inl Jj.hd.1;have Mu:SV T3 j ⟨q,3,none⟩:=.inl Jj.hd.1;have fN:SV T3 j ⟨gE,j,none⟩:=.inr (.inr (.inl tE));have HgA:=θ D8;have HgQ:=θ hgQ;have Hg1:=θ um;have Hg3:=θ Mu;have amz:=θ fN;have aiu:=θ (wtP.aQ (cf:=cf) (cb:=r1.cs j) (c:=W1.ps j) (mk:=bQ tp ops (W1.ps j).ls (W1.ps j).front) (show j<8 by omega) mj hu);have aiv:=θ (wtQ.aQ (j:=j) (cf:=cf) (cb:=r1.cs j) (n:=(W1.log j).length+(W1.ps j).bx.length) (xs:=iu (W1.log j)++iu (W1.ps j).bx) (c:=W1.ps j) (mk:=bQ tp ops (W1.ps j).ls (W1.ps j).front) mj hu);clear Jj cT mz La Qa hco hCr acB cE0 fE lY acz Oa acA D8 hgQ um Mu fN tA tE tq;generalize an8:r1.qs j=qd at*;clear an8;go_upto_region 10 with fail
   apply Ar 24 (yR (NL j) (SV T3 j) T3) (Dh (NL j) (SV T3 j) T3) (yJ (NL j) T3 _) (yJ.start _ _ _);simp only[tk];repeat apply gF (fun _ h _ _=>aj (h.cell Hg1.o c1) (aj (h.cell Hg3.o c3) (aj (h.cell amz.o cE) (aj (h.cell HgA.o cA) (h.cell HgQ.o cq)))))
   apply uI (p:=yP wr T3 (wtP j (r1.cs j) cf (W1.ps j) (bQ tp ops (W1.ps j).ls (W1.ps j).front))) Γ Γ aiu.o
   .intro W hR hJ υ
    have hTJ:=oR.ο hJ hu;have pN:∀k,In (30+20*j+1) 16 k->¬ ∃i,i≠22/\NL j i k:=fun k hk ⟨i,h1,h2⟩=>by
     rcases h2 with e|e
     .exact h1 e.1
     .have:=e.2;unfold In at hk;omega
    exact IJ hu (fun k hk=>.inl ⟨rfl,hk⟩) (fun p hp hk=>by unfold SV at hp;unfold In at hk;omega) hR (YF (I2.o.ο mj hTJ pN) mj hTJ.Δ)
   intro v22;simp only[pu];apply G5 (p:=yP wr T3 (wtQ j (r1.cs j) cf (W1.ps j) (bQ tp ops (W1.ps j).ls (W1.ps j).front) ((W1.log j).length+(W1.ps j).bx.length) (iu (W1.log j)++iu (W1.ps j).bx))) Γ Γ (fun i hi hb=>aiv.o i (by rintro rfl;exact absurd hb Γ) hi)
   .rfl
   .intro W hR hJ υ;exact QZ _ _ rfl η mj rfl (xv:=v22) rfl hR.1.size (υ.1 rfl) hu ahd.o hJ VJ V3
   intro v23;simp only[pu];refine aP ?_;intro Wx hR gT υ;obtain⟨T4,ht4,hu4,E,Ed,rfl,afQ,Wi⟩:=υ.1 rfl;clear υ gT;simp only[dk];have mE:Ξ (fun k=>∃i,NL j i k) wr T3 Wx T4:=⟨hR.1.os,hR.1.tape,hR.1.output,hR.1.size,hR.1.block,ht4,hu4⟩;have akl:=HR3.o.bx.ο mE (fun⟨i,h⟩=>KQ cN η h);obtain⟨gx,N0,cx,fx,_⟩:=akl.at_ (aO cf.n _ mX);have acC:gx=gE:=by
    have h9:r1.EA=some ⟨gx,0,none⟩:=N0;rw[HgE.o]at h9;cases h9
    rfl
   rw[acC]at cx fx;have hRt:=θ (HR3.o.tell aT ahe.o mX HgE.o mE afQ Wi);clear hR mE akl N0 afQ Wi acC c1 c3 cE cA cq ht4 hu4;go_wp2;go_roundw
   case rel=>exact⟨j+1,T4,aW Sn j (E,Ed),cR,η,jH.o.trans hRt.o.1,hRt.o.2⟩
   exact dB
  .obtain rfl:j=cf.n:=by omega
   have pP:=rG.o.byW (m:={m with hs:=xE}) Hk0.o aT (fun i hi=>by
    show(W1.ps i).ls.length<=8
    exact Hl1.o i hi) cT
   have aiw:=θ (HSm.o wr T3 _ {m with hs:=xE} Hk0.o hu Jj.told pP);have HR3:=θ Jj.told;have AI:=θ pP;have jH:=θ (jr.o.trans (cT.mono (S':=tS) fun k e=>.inl e));clear Jj cT pP;go_wp2_with fail;refine aiw.o.mono ?_;rintro e w9 ⟨rfl,e9⟩;have HR9:=θ (HR3.o.ext e9);have HM9:=θ (AI.o.ext e9);have GN:=θ (jH.o.ext e9);clear e9;go_wp2;go_ret;exact⟨rfl,T3,GN.o,_,{m with hs:=xE},Hk0.o,HR9.o,HM9.o⟩
end
def je:Cf:=⟨2,0,0,4,1,0,2,1,5⟩
theorem mV:jA je:=⟨Γ,Γ,Γ,Γ,Γ,Γ,Γ,Γ,Γ,Γ,Γ⟩
theorem Bh{f:Nat->Cr}(h:∀i,i<cf.n->bz cf i (f i) [])(hc:bz cf p c []):∀i,i<cf.n->bz cf i (aW f p c i) []:=fun i hi=>by
 unfold aW;split
 .rename_i e;rw[e];exact hc
 .exact h i hi
theorem xL(h:∀i,i<cf.n->bz cf i (W.ps i) []):∀i,i<cf.n->bz cf i (W.told.ps i) []:=fun i hi=>(h i hi).told
def bW0:Wd:=Wd.new 2 0
def Wq:Wd:={bW0 with ps:=aW bW0.ps 0 ((bW0.ps 0).ν 0 je.χ 5)}
def Q6:Wd:={Wq.told with ps:=aW Wq.told.ps 1 ((Wq.told.ps 1).ν 1 je.χ 6)}
def SW:Wd:={Q6.told with ps:=aW Q6.told.ps 0 ((Q6.told.ps 0).tick 0),au:=jd Q6.told.au ((Q6.told.ps 0).kP (zK iT eC) 0)}
def bK:Pk:={iA:=false,src:=0,dst:=1,first:=0,ν:=[5],dP:=0,frame:=0,sum:=0}
theorem KS:SW.told.au=[bK]:=rfl
def bP4:Wd:=adP SW.told 0 bK
theorem bC0:∀i,i<je.n->bz je i (bW0.ps i) []:=fun i hi=>bz.new mV hi
theorem bC1:∀i,i<je.n->bz je i (Wq.ps i) []:=Bh bC0 ((bC0 0 Γ).ν 5)
theorem ahh:∀i,i<je.n->bz je i (Wq.told.ps i) []:=xL bC1
theorem bC2:∀i,i<je.n->bz je i (Q6.ps i) []:=Bh ahh ((ahh 1 Γ).ν 6)
theorem ahi:∀i,i<je.n->bz je i (Q6.told.ps i) []:=xL bC2
theorem akm:bz je 0 ((Q6.told.ps 0).tick 0) []:=(ahi 0 Γ).tick Γ Γ
theorem bC3:∀i,i<je.n->bz je i (SW.ps i) []:=Bh ahi akm
theorem ahj:∀i,i<je.n->bz je i (SW.told.ps i) []:=xL bC3
theorem aa1:mw bK:=by unfold mw bK;simp
theorem akn:bz je 1 ((SW.told.ps 1).recv 1 bK) []:=(ahj 1 Γ).KH aa1 Γ
theorem bC4:∀i,i<je.n->bz je i (bP4.ps i) []:=Bh ahj akn
theorem ako:∀i,i<je.n->bz je i (bP4.told.ps i) []:=xL bC4
theorem Q7{l:List dM}(h:∀i,i<cf.n->(c.words i).1=0):eS tp l cf c:=fun i hi h0=>by have:=h i hi;omega
theorem bQ1:eS iT eC je ((bW0.ps 0).ν 0 je.χ 5):=Q7 fun _ _=>rfl
theorem bQ2:eS iT eC je ((Wq.told.ps 1).ν 1 je.χ 6):=Q7 fun _ _=>rfl
theorem bQ4:eS iT eC je ((SW.told.ps 1).recv 1 bK):=Q7 fun _ _=>rfl
theorem bT3:(Q6.told.ps 0).kP (zK iT eC) 0=[bK]:=rfl
theorem bF4:(bP4.told.ps 1).front=1:=rfl
theorem bN4:bP4.told.au=[]:=rfl
theorem bL(i:Nat):bW0.log i=[]/\Wq.told.log i=[]/\Q6.told.log i=[]/\SW.told.log i=[]:=by
 refine⟨rfl,?_,?_,?_⟩
 .match i with
  |0=>rfl
  |i+1=>rfl
 .match i with
  |0=>rfl
  |1=>rfl
  |i+2=>rfl
 .match i with
  |0=>rfl
  |1=>rfl
  |i+2=>rfl
theorem bH4:bK.iA=false->bK.first<=((SW.told.ps 1).ls.getD bK.src []).length/\bK.first+bK.ν.length<=1000:=fun _=>⟨aM _,Γ⟩
theorem bM0:FZ je iT eC bW0 10:=⟨mV,Γ,bC0,Γ⟩
theorem bM1:FZ je iT eC Wq.told 30:=⟨mV,Γ,ahh,Γ⟩
theorem bM2:FZ je iT eC Q6.told 50:=⟨mV,Γ,ahi,Γ⟩
theorem bM3:FZ je iT eC SW.told 50:=⟨mV,Γ,ahj,Γ⟩
theorem Ξ.ach(h:Ξ (0 < ·) w (fun _=>0) w' T'):Ext w w':=⟨h.os,h.tape,h.output,h.size,fun k hk=>h.block k hk (Nat.lt_irrefl 0)⟩
section
variable {w:κ}{T:Tg}{b:Nat}{m:Mb}
theorem bS1(h:ef w T b je iT eC true m bW0 10)(hu:Θ w T):τ prog 52 #[π b,dy 1 0 5 0] w (Does (0 < ·) w T (.int .i64 0) fun w' T'=>xI w' T' b je iT eC true Wq.told 30) :=
 wJ h hu mV (W1:=Wq) (B1:=30) bC1 (fun i _=>aM _) 1 0 5 0 0 (.inl ⟨.inl rfl,fun wb e=>Cw (h.ext e) bM0 (hu.ext e) (p:=0) Γ 5 5 0 rfl bQ1⟩)
theorem bS2(h:ef w T b je iT eC true m Wq.told 30)(hu:Θ w T):τ prog 52 #[π b,dy 1 1 6 0] w (Does (0 < ·) w T (.int .i64 0) fun w' T'=>xI w' T' b je iT eC true Q6.told 50) :=
 wJ h hu mV (W1:=Q6) (B1:=50) bC2 (fun i _=>by show(Wq.told.log i).length<=_;rw[(bL i).2.1];exact aM _) 1 1 6 0 0 (.inl ⟨.inl rfl,fun wb e=>Cw (h.ext e) bM1 (hu.ext e) (p:=1) Γ 6 6 0 rfl bQ2⟩)
theorem bS3(h:ef w T b je iT eC true m Q6.told 50)(hu:Θ w T):τ prog 52 #[π b,dy 2 0 0 0] w (Does (0 < ·) w T (.int .i64 0) fun w' T'=>xI w' T' b je iT eC true SW.told 50) :=
 wJ h hu mV (W1:=SW) (B1:=50) bC3 (fun i _=>by show(Q6.told.log i).length<=_;rw[(bL i).2.2.1];exact aM _) 2 0 0 0 0 (.inl ⟨.inr (.inl rfl),fun wb e=>NC (h.ext e) bM2 (hu.ext e) (p:=0) Γ 0 0 Γ Γ (by rw[bT3];intro k hk;rw[sP.1 hk];exact aa1) akm⟩)
theorem bS4(h:ef w T b je iT eC true m SW.told 50)(hu:Θ w T):τ prog 52 #[π b,dy 3 0 0 0] w (Does (0 < ·) w T (.int .i64 0) fun w' T'=>xI w' T' b je iT eC true bP4.told 70) :=
 wJ h hu mV (W1:=bP4) (B1:=70) bC4 (fun i _=>by show(SW.told.log i).length<=_;rw[(bL i).2.2.2];exact aM _) 3 0 0 0 0 (.inr (.inl ⟨.inl rfl,fun wb e=>VL (h.ext e) bM3 (hu.ext e) (i:=0) (show 0<SW.told.au.length by rw[KS];decide) (by rw[KS];decide) (by rw[KS];intro k hk;rw[sP.1 hk];exact aa1) (show bK.dst<2 by decide) (show bK.src<2 by decide) akn bH4 bQ4 0 0⟩))
theorem bS5(h:ef w T b je iT eC true m bP4.told 70)(hu:Θ w T):τ prog 52 #[π b,dy 0 0 0 0] w (Does (0 < ·) w T (.int .i64 1) fun w' T'=>xI w' T' b je iT eC true bP4.told.told 70) :=
 wJ h hu mV (W1:=bP4.told) (B1:=70) ako (fun i _=>by
  have:bP4.told.log i=[]:=by
   match i with
   |0=>rfl
   |1=>rfl
   |i+2=>rfl
  rw[this];exact aM _) 0 0 0 0 1 (.inr (.inr ⟨.inl Γ,rfl,rfl,rfl⟩))
end
theorem VN(w:κ):τ prog 40 #[] w fun e w'=>e=.returned (.bool true)/\Ext w w':=by have HP:=θ fun W=>Fo W;have HN:=θ fun W A (sJ:Ro W A 12 12 eC)=>aaQ W (fun _=>0) (fun _ _=>rfl) (fun _ _=>.inl rfl) je mV iT eC sJ Γ Mp Γ true;go_enter func40,ntmps40;go_wp2_with fail;refine(HP.o _).mono ?_;rintro e w1 ⟨A,rfl,sJ,x1⟩;go_wp2_with fail;refine(HN.o w1 A sJ).mono ?_;rintro e w2 ⟨v,rfl,T2,bq,b,m,rfl,hM,_⟩;have HM0:=θ (show ef w2 T2 b je iT eC true m bW0 10 from hM);have o6:=θ (bq.mono (S':=(0 < ·)) (fun _ h=>h.elim));have X1:=θ x1;clear hM bq sJ x1;unfold π at*;go_wp2_with fail;refine(qD HM0.o (p:=0) Γ).mono ?_;rintro e w3 ⟨rfl,hw⟩;have hw:=hw.symm;subst hw;rw[Bd];go_wp2_with fail;refine(Ny HM0.o (p:=1) Γ).mono ?_;rintro e w3 ⟨rfl,hw⟩;have hw:=hw.symm;subst hw;rw[if_pos rfl];unfold π at*;go_wp2_with fail;refine(QJ HM0.o).mono ?_;rintro e w3 ⟨rfl,hw⟩;have hw:=hw.symm;subst hw;unfold π at*;go_wp2_with fail;refine(bS1 HM0.o o6.o.Δ).mono ?_;rintro e w3 ⟨rfl,T3,cT,m3,pP⟩;have jH:=θ (o6.o.trans cT);have AI:=θ pP;clear cT pP;go_wp2_with fail;refine(bS2 AI.o jH.o.Δ).mono ?_;rintro e w4 ⟨rfl,T4,mE,m4,QE⟩;have Bo:=θ (jH.o.trans mE);have YK:=θ QE;clear mE QE jH AI;go_wp2_with fail;refine(bS3 YK.o Bo.o.Δ).mono ?_;rintro e w5 ⟨rfl,T5,kT,m5,hM5⟩;have qZ:=θ (Bo.o.trans kT);have HM5:=θ hM5;clear kT hM5 Bo YK;go_wp2_with fail;refine(bS4 HM5.o qZ.o.Δ).mono ?_;rintro e w6 ⟨rfl,T6,ri,m6,hM6⟩;have Bp:=θ (qZ.o.trans ri);have HM6:=θ hM6;clear ri hM6 qZ HM5;go_wp2_with fail;refine(qD HM6.o (p:=1) Γ).mono ?_;rintro e w7 ⟨rfl,hw⟩;have hw:=hw.symm;subst hw;rw[Bd];have mm:=aaM true (m6.bs 1);have ee:=aaN true (m6.bs 1);go_wp2_with fail;refine(wE (HM6.o.ps 1 Γ) (ako 1 Γ) Γ).mono ?_;rintro e w7 ⟨B7,d7,rfl,_,x7⟩;rw[bF4];have HM7:=θ (HM6.o.ext x7);have FE:=θ (Bp.o.ext x7);have HL:=θ (Kq HM7.o.au);rw[bN4]at HL;clear x7 HM6 Bp;go_wp2_with fail;refine(QJ HM7.o).mono ?_;rintro e w8 ⟨rfl,hw⟩;have hw:=hw.symm;subst hw;unfold π at*;go_wp2_with fail;refine HL.o.mono ?_;rintro e w8 ⟨rfl,hw⟩;have hw:=hw.symm;subst hw;go_wp2_with fail;refine(bS5 HM7.o FE.o.Δ).mono ?_;rintro e w8 ⟨rfl,T8,MV,m8,hM8⟩;have Qg:=θ (FE.o.trans MV);have HM8:=θ hM8;clear MV hM8 FE HM7;have hl0:bP4.told.told.log 0=[]:=rfl;have HE:=θ (Ji HM8.o (p:=0) Γ (by rw[hl0];exact aM _));rw[hl0]at HE;clear hl0;go_wp2_with fail;refine HE.o.mono ?_;rintro e w9 ⟨B9,d9,rfl,_,x9⟩;go_wp2;go_ret;exact⟨rfl,X1.o.trans (Qg.o.ach.trans x9)⟩
def gW(c:Cr):Wd:=⟨aW (fun _=>Cr.new 2 0) 0 c,[],fun _=>[]⟩
theorem VO(w:κ):τ prog 9 #[] w fun e w'=>e=.returned (.bool true)/\Ext w w':=by
 have H2:∀W,τ prog 26 #[] W fun e w'=>e=.returned (.bool true)/\Ext W w':=by intro W;go_enter func26,ntmps26;go_wp2_with fail;refine(VN _).mono ?_;rintro e w1 ⟨rfl,x1⟩;go_wp2;go_ret;exact⟨rfl,x1⟩
 have H2:=θ H2;go_enter func9,ntmps9;go_wp2_with fail;refine(H2.o _).mono ?_;rintro e w1 ⟨rfl,x1⟩;go_wp2;go_ret;exact⟨rfl,x1⟩
end Go.Proofs.YtffcefoadaogbaaGreat
