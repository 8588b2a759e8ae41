/- A part of the proof. -/
import Derived.Test.YtffcefoadaogbaaGreatS17
namespace Go.Proofs.YtffcefoadaogbaaGreat
open Go.RowKit
open Go.Proofs.Tryz
set_option linter.all false
set_option maxRecDepth 100000
set_option maxHeartbeats 16000000
open _root_.List renaming getElem?_eq_some_iff->iN,mem_map->fK,getD_eq_getElem?_getD->cO,getElem_mem->dH,getElem?_eq_getElem->bf,length_take->tN,replicate->cP,length_map->xN,map->u9,take_zero->CW,length_append->eU,replicate_succ->aaR,length_replicate->gO,map_append->gS,range->dJ,take_of_length_le->jL,take_take->MF,eq_nil_of_length_eq_zero->rz
open _root_.Nat renaming le_succ->CH,le_trans->aF,le_refl->aq,zero_le->aM,not_lt_zero->lF,min_eq_left->IW,lt_irrefl->Ov,lt_succ_self->adC,eq_zero_or_pos->rA
open Go.World renaming alloc->aB,setCell->dG
open Go.Value renaming int->af,slice->kD
open _root_.Option renaming some->kI
open Go.RowKit.Below renaming refl->nV,trans->Wt
open Go.Act renaming put->rC
open _root_.Array renaming getElem?_eq_some_iff->gy
open Go renaming World->κ,Value->ξ,Calls->τ,Addr->cJ,FuncId->Jd
open Go.RowKit renaming Below->fC
variable{A:aS}{B' d free i j jb k last n p q t:Nat}{S:Nat->Prop}{c:Cr}{gs:List (Nat×List Int)}
section
variable {w w':κ}{T T':Tg}{t b:Nat}{cf:Cf}{me:Nat}{tp:aD}{ops:List dM}{x:Mx}{c c':Cr}{s:Ms}{B:Nat}
def adD(t b:Nat)(cf:Cf)(me:Nat)(tp:aD)(ops:List dM)(x:Mx)(c:Cr)(s:Ms)(v:ξ)(w':κ)(T':Tg):Prop :=
 v=.tuple #[]/\∃s',pO w' T' t b cf me tp ops x c s'/\s'.fr=c.front/\s'.last<=s.last+1/\s'.cM=s.cM/\s'.aL<=s.aL+2
def ag2(t b:Nat)(cf:Cf)(me:Nat)(tp:aD)(ops:List dM)(x:Mx)(c:Cr)(s:Ms)(k:Nat)(w':κ)(T':Tg)(s':Ms):Prop :=
 pO w' T' t b cf me tp ops x c s'/\s'.base=s.base/\s'.fr=s.fr/\s'.last=s.last/\s'.cM=s.cM/\s'.aL<=s.aL+k/\s'.bl=[]
theorem pO.mh(h:pO w T t b cf me tp ops x c s)(ht:0<t)(aT:jA cf)(hl:c.ls.length<=8)(DR:s.bl=[]){w1 w2 w3:κ}{T1:Tg}{cZ:Nat}(cw:Ξ (In (t+7) 5) w T w1 T1)(bq:Ξ (In (t+7) 5) w1 T1 w2 T1)(hS:aZ w2 T1 (t+7) x.sb (4*cf.room) cZ (s.last+1) (nS (s.gs++[(s.last+1,aC tp ops c.ls c.front)]) s.base))(cT:Ξ (· = t) w2 T1 w3 T1)(hH:Has w3 T1 t b (mulC x tp (s.last+1) c.front)):pO w3 T1 t b cf me tp ops x c {s with base:=s.last+1,fr:=c.front,free:=cZ,last:=s.last+1,gs:=nS (s.gs++[(s.last+1,aC tp ops c.ls c.front)]) s.base}:=by
 have hT:=(cw.trans bq).mono (S':=fun j=>j=t\/In (t+7) 5 j) fun j hj=>.inr hj;have hT:=hT.trans (cT.mono (S':=fun j=>j=t\/In (t+7) 5 j) fun j hj=>.inl hj);have htr:=h.tr;have hM:=h.ok;rw[DR]at htr hM;refine⟨hH,h.op.ο hT cN,h.row.ο hT cN,h.nw,h.nk,fun j wb2 k2 h1 h2=>?_,hS.ο cT (fun k hk=>sL),?_,h.jo.ο hT cN cN,h.pl.ο hT (fun k hk=>iw),?_,?_⟩
 .have iY:=(iN.1 h1).1;have:=h.nw;have:=aT.workers;exact(h.wk j wb2 k2 h1 h2).ο hT cN
 .show fB w3 T1 (t+12) x.tb x.sb cf.aR s.cM s.aL c.front s.bl
  rw[DR];exact(htr.ο hT cN cN cN).re c.front
 .show Ba tp ops c.front (s.last+1) (aC tp ops c.ls c.front) _ s.cM s.bl s.ks
  rw[DR];exact hM.mh h.st.KL c.front (fA tp ops c.ls c.front)
 .show ∀y∈s.bl,_
  rw[DR];exact fun y hy=>by simp at hy
theorem aad(h:pO w T t b cf me tp ops x c s)(ht:0<t)(hk:bz cf me c [])(hu:Θ w T)(hN:s.last<=900000000/\s.aL<=900000000):τ prog 276 #[π b] w (cG (In t 14) w T (adD t b cf me tp ops x c s)):=by
 have aT:=hk.ok;have hlen:=hk.len;have mj:c.ls.length<=8:=by have:=aT.n8;omega
 have b0:=h.hd.zc 0;have b8:=h.hd.zc 8;have b4:=h.hd.zc 4;have I2:=θ (iI h.pl);have GR:=θ (jf h.pl.core);have sI:=θ (ie h.pl.core.BW mj (by have:=aT.n2;omega) hk.short);rw[show cn c.ls=c.front from rfl]at sI;have HU:=θ hu;have HM:=θ h;by_cases hfe:c.front=s.fr
 .have e1:((c.front:Int)==(s.fr:Int))=true:=by rw[beq_iff_eq,hfe]
  have HF:=θ (show adD t b cf me tp ops x c s (.tuple #[]) w T from⟨rfl,s,h,hfe.symm,CH _,rfl,η⟩);unfold π at*;clear h hfe;go_enter func276,ntmps276;go_wp2_with fail;refine I2.o.mono ?_;rintro e w1 ⟨rfl,hw⟩;subst hw;go_wp2_with fail;refine GR.o.mono ?_;rintro e w1 ⟨rfl,hw⟩;subst hw;go_wp2_with fail;refine sI.o.mono ?_;rintro e w1 ⟨rfl,hw⟩;subst hw;go_wp2_with fail;go_end0
  exact⟨_,rfl,T,Ξ.refl _ HU.o,HF.o⟩
 .have e1:((c.front:Int)==(s.fr:Int))=false:=by rw[beq_eq_false_iff_ne];omega
  have HK:=θ (FQ h.tr aT.aR h.st hu η η η η η (by have:=h.small aT;omega) h.ok.KJ h.ok.KK);have HD:=θ (show ∀w3 T3 v,Ξ (fun j=>j=t+12\/j=t+12+1\/In (t+7) 5 j) w T w3 T3->AZ (t+12) x.tb x.sb cf.aR s.cM s.aL s.fr (t+7) (4*cf.room) s.free s.last s.bl s.gs (· = true) v w3 T3->Ξ (In (t+3) 11) w T w3 T3/\∃s1,ag2 t b cf me tp ops x c s 1 w3 T3 s1 from fun w3 T3 v cT hP=>by obtain⟨fl,ep,cZ,q1,q2,q3,q4,q5⟩:=h.dropped aT mj cT hP;exact⟨cT.mono fun j hj=>iw,_,q5,rfl,rfl,rfl,rfl,q3,AY _ _ (all_false q2)⟩);unfold π at*;clear h hfe hu;go_enter func276,ntmps276;go_wp2_with fail;refine I2.o.mono ?_;rintro e w1 ⟨rfl,hw⟩;subst hw;go_wp2_with fail;refine GR.o.mono ?_;rintro e w1 ⟨rfl,hw⟩;subst hw;go_wp2_with fail;refine sI.o.mono ?_;rintro e w1 ⟨rfl,hw⟩;subst hw;go_wp2_with fail;refine HK.o.mono ?_;rintro e w2 ⟨v,rfl,T2,bq,Gq⟩;obtain⟨bq,s1,rH⟩:=HD.o w2 T2 v bq Gq;obtain⟨r,fl,ep,cZ,rfl,_⟩:=Gq;have jr:=θ bq;have Mv:=θ rH;have b3:=rH.1.hd.zc 3;have b7:=rH.1.hd.zc 7;have Hpg:=θ fun W (e:Ext w2 W)=>ZW (rH.1.st.ext e) (fK.2 ⟨_,rH.1.ok.wA,rfl⟩) (by have:=rH.2.2.2.1;omega);have GQ:=θ fun W (e:Ext w2 W)=>aeE (rH.1.st.ext e) 4;obtain⟨fb,hfb⟩:∃fb,decide (4<=s1.free)=fb:=⟨_,rfl⟩;have Hfb:=θ hfb;rw[hfb]at GQ;unfold π at*;clear bq rH b0 b8 b4 hfb;go_wp2_with fail;apply iL trivial;repeat apply kZ b3 b7
  apply BC (p:=fun u W=>∃B d,u=.slice B 4 d) (fun _ _ _ h he=>h)
  .intro W hR υ;refine(Hpg.o W hR).mono ?_;rintro e w' ⟨⟨B,d,rfl⟩,he⟩;exact⟨_,rfl,he,B,d,rfl⟩
  intro v1;simp only[pu];apply lT (u:=.int .i64 4) Ext.refl
  .rfl
  .intro W hR υ;obtain⟨B,d,rfl⟩:=υ.1 rfl;go_simp;first|done|with_reducible rfl
  simp only[pu];apply jD (fun W hR=>GQ.o W hR);repeat apply iO (fun _ _ _=>trivial)
  refine jq fun Wx ak=>?_;have rG:=θ (show ag2 t b cf me tp ops x c s 1 Wx T2 s1 from⟨Mv.o.1.ext ak,Mv.o.2⟩);have jH:=θ (jr.o.ext ak);clear ak b3 b7;go_upto_if 38 with fail
  go_cut [2] (fun fv wx=>∃T3 s2,fv=.int .i64 (c.front:Nat)/\Ξ (In (t+3) 11) w1 T wx T3/\ag2 t b cf me tp ops x c s 2 wx T3 s2/\4<=s2.free)
  case first =>
   cases fb with
   |true =>
    have hf:4<=s1.free:=of_decide_eq_true Hfb.o;go_wp2_with fail;go_meet
    exact⟨T2,s1,rfl,jH.o,⟨rG.o.1,rG.o.2.1,rG.o.2.2.1,rG.o.2.2.2.1,rG.o.2.2.2.2.1,by have:=rG.o.2.2.2.2.2.1;omega,rG.o.2.2.2.2.2.2⟩,hf⟩
   |false =>
    have HR:=θ (aab rG.o.1 aT mj jH.o.Δ (by have:=rG.o.2.2.2.1;have:=rG.o.2.2.2.2.2.1;omega));unfold π at*;go_wp2_with fail;refine HR.o.mono ?_;rintro e w4 ⟨v,rfl,T4,mE,rfl,s2,q1,q2,q3,q4,q5,q6,q7,q8⟩;obtain⟨_,p1,p2,p3,p4,p5,p6⟩:=rG.o;go_wp2_with fail;go_meet
    exact⟨T4,s2,rfl,jH.o.trans mE,⟨q1,by rw[q2,p1],by rw[q3,p2],by rw[q4,p3],by rw[q5,p4],η,q7⟩,q8⟩
  case rest =>
   obtain⟨T3,s2,rfl,cT,⟨pP,p1,p2,p3,p4,p5,p6⟩,Nr⟩:=hcut;have QD:s2.last<=s.last/\s2.aL<=s.aL+2:=η;have P4:=θ p4;have P6:=θ p6;clear p1 p2 p3 p4 p5 p6;have hu:Θ wc T3:=cT.Δ;have jH:=θ cT;have c0:=pP.hd.zc 0;have c3:=pP.hd.zc 3;have qY:T3 b=t:=pP.hd.1;have zZ:¬In (t+7) 5 (T3 b):=by rw[qY];unfold In;omega
   obtain⟨PA,pn,pd,hPh,_⟩:=pP.pl.bn;have hPT:¬In (t+7) 5 (t+16):=cN;have Hg:=θ fun W (hR:oR (In (t+7) 5) T3 wc W)=>wm (hPh.mh hR hPT);have Hmk:=θ fun W (e:Ext wc W)=>at_make (pP.st.ext e) Nr (fA tp ops c.ls c.front).1 (hu.ext e) η η (by have:=pP.small aT;omega);have Je:Grow (fun v w' T'=>v=.tuple #[((s2.last+1:Nat):Int),.bool true]/\aZ w' T' (t+7) x.sb (4*cf.room) (s2.free-4) (s2.last+1) (s2.gs++[(s2.last+1,aC tp ops c.ls c.front)])):=by rintro v w T w' ⟨h1,h2⟩ e;exact⟨h1,h2.ext e⟩
   have AI:=θ pP;have j6:s2.base∈(s2.gs++[(s2.last+1,aC tp ops c.ls c.front)]).map Prod.fst:=fK.2 ⟨_,List.mem_append_left _ pP.ok.wA,rfl⟩;have KV:=pP.small aT;unfold π at*;clear pP cT hPh;go_wp2_with fail;apply GG (oR (In (t+7) 5) T3) (Bj 9 (In (t+7) 5) T3) (oJ 9 _) (oJ.start _ _);repeat apply gF (fun _ h _ _=>aj (h.cell c0 zZ) (h.cell c3 zZ))
   apply nF Γ Γ
   .rfl
   .intro W;go_simp;exact⟨rfl,rfl⟩
   .intro W hR hJ υ
    refine((fun W hR=>Hg.o W hR) W hR).mono ?_;rintro e w' ⟨rfl,ee⟩;have ex:Ext W w':=by first|exact ee|(subst ee;exact Ext.refl _)
    exact⟨rfl,oR.ai ex,.inr ex⟩
   simp only[pu];apply uI (p:=oP _ _ _ _) Γ Γ (oP.aQ Je _)
   .intro W hR hJ υ;exact jz hu (hJ rfl) ((Hmk.o) W (hJ rfl))
   intro v9;simp only[pu];repeat apply gF (fun _ _ _ υ=>JX (υ.1 rfl))
   refine aP ?_;intro Wx hR gT υ;obtain⟨T1,cw,rfl,hS1⟩:=υ.1 rfl;clear υ gT;have hu:=cw.Δ;have lJ:=AI.o.hd.ο cw cN;have c3:=lJ.zc 3;have c7:=lJ.zc 7;have KX:¬In (t+7) 5 (T1 b):=by rw[lJ.1];unfold In;omega
   have Hdr:∀W,Ext Wx W->τ prog 77 #[π x.sb,s2.base] W (cG (In (t+7) 5) W T1 (fun v w' T'=>v=.bool true/\T'=T1/\∃cZ,aZ w' T1 (t+7) x.sb (4*cf.room) cZ (s2.last+1) (nS (s2.gs++[(s2.last+1,aC tp ops c.ls c.front)]) s2.base))):=fun W e=>by refine(D4 (hS1.ext e) j6 (hu.ext e) η η dw).mono ?_;rintro e w' ⟨rfl,hT,cZ,_,hS⟩;exact⟨_,rfl,T1,hT,rfl,rfl,cZ,hS⟩
   have hgD:Grow (fun v w' T'=>v=ξ.bool true/\T'=T1/\∃cZ,aZ w' T1 (t+7) x.sb (4*cf.room) cZ (s2.last+1) (nS (s2.gs++[(s2.last+1,aC tp ops c.ls c.front)]) s2.base)):=by rintro v w T w' ⟨h1,h2,cZ,h3⟩ e;exact⟨h1,h2,cZ,h3.ext e⟩
   have Hdr:=θ Hdr;have HH1:=θ lJ;have l8:=θ cw;unfold π at*;clear cw lJ hS1;go_wp2_with fail;apply GG (oR (In (t+7) 5) T1) (Bj 8 (In (t+7) 5) T1) (oJ 8 _) (oJ.start _ _);repeat apply gF (fun _ h _ _=>aj (h.cell c3 KX) (h.cell c7 KX))
   apply uI (p:=oP _ _ _ _) Γ Γ (oP.aQ hgD _)
   .intro W hR hJ υ;exact jz hu (hJ rfl) ((Hdr.o) W (hJ rfl))
   intro v8;simp only[pu];refine aP ?_;intro Wy hRy gT υ;obtain⟨T5,kT,rfl,hTe,cZ,K3⟩:=υ.1 rfl;clear υ gT;rw[hTe]at kT;have oZ:=HH1.o.ο kT cN;have c7:=oZ.zc 7;have c8:=oZ.zc 8;have f7:=oZ.free 7;have f8:=oZ.free 8;obtain⟨ri,Vm⟩:=oZ.put (S:=(· = t)) kT.Δ 7 (.int .i64 ((s2.last+1:Nat):Int)) rfl;obtain⟨yA,hH7⟩:=Vm.put (S:=(· = t)) ri.Δ 8 (.int .i64 (c.front:Nat)) rfl;have HF:=θ (show pO _ T1 t b cf me tp ops x c _ from AI.o.mh ht aT mj P6.o l8.o kT K3 (ri.trans yA) (hH7.is rfl));have HTT:=θ (show Ξ (In t 14) w1 T _ T1 from(((jH.o.mono (S':=In t 14) fun j hj=>iw).trans (l8.o.mono (S':=In t 14) fun j hj=>iw)).trans (kT.mono (S':=In t 14) fun j hj=>iw)).trans ((ri.trans yA).mono (S':=In t 14) fun j hj=>cN));clear kT oZ ri Vm yA hH7 K3;go_wp2_with fail;go_end0
   exact⟨_,rfl,T1,HTT.o,rfl,_,HF.o,rfl,by show s2.last+1<=_;omega,P4.o,by show s2.aL<=_;omega⟩
end
section
variable {w w':κ}{T T':Tg}{t b:Nat}{cf:Cf}{me:Nat}{tp:aD}{ops:List dM}{x:Mx}{c c':Cr}{s:Ms}{B:Nat}
theorem oR.ο(h:oR S T w w')(hu:Θ w T):Ξ S w T w' T:=⟨h.os,h.tape,h.output,h.size,fun k hk hn=>h.block k hk hn,fun _ _=>rfl,fun k hk=>hu k (aF h.size hk)⟩
theorem pO.added(h:pO w T t b cf me tp ops x c s)(aT:jA cf)(hl:c.ls.length<=8){ν:vo}{v:ξ}(hT:Ξ (fun j=>j=t+12\/j=t+12+1\/In (t+7) 5 j) w T w' T')(hA:Zg (t+12) x.tb x.sb cf.aR s.cM s.aL s.fr (t+7) (4*cf.room) s.free s.last s.bl s.gs ν (aC tp ops c.ls s.fr) v w' T')(hp:Kw ν)(hj:∀p∈ν,p.length=cf.n):∃s',pO w' T' t b cf me tp ops x c s'/\s'.base=s.base/\s'.fr=s.fr/\s'.last<=s.last+1/\s'.cM<=s.cM+1/\s'.aL=s.aL:=by
 have Ss:∀(i:Nat) wb k,x.wb[i]?=some wb->s.ks[i]?=some k->Has w' T' (t+3+i) wb (Nl tp x.A x.an x.ad x.tb x.jb x.sb k):=fun j wb2 k2 h1 h2=>by have iY:=(iN.1 h1).1;have:=h.nw;have:=aT.workers;exact(h.wk j wb2 k2 h1 h2).ο hT cN
 rcases hA with ⟨_,ye,hS⟩|⟨_,_,ye,hS⟩
 .exact⟨s,⟨h.hd.ο hT cN,h.op.ο hT cN,h.row.ο hT cN,h.nw,h.nk,Ss,hS,ye,h.jo.ο hT cN cN,h.pl.ο hT (fun k hk=>iw),h.ok,h.jn⟩,rfl,rfl,CH _,CH _,rfl⟩
 .refine⟨{s with last:=s.last+1,cM:=s.cM+1,gs:=s.gs++[(s.last+1,aC tp ops c.ls s.fr)],bl:=s.bl++[⟨s.cM+1,ν,0,s.last+1⟩]},⟨h.hd.ο hT cN,h.op.ο hT cN,h.row.ο hT cN,h.nw,h.nk,Ss,hS,ye,h.jo.ο hT cN cN,h.pl.ο hT (fun k hk=>iw),h.ok.add h.st.KL hp,fun y hy=>?_⟩,rfl,rfl,aq _,aq _,rfl⟩
  rcases List.mem_append.1 hy with hy|hy
  .exact h.jn y hy
  .simp at hy
   subst hy;exact hj
def aeI(w:κ)(T:Tg)(t b:Nat)(cf:Cf)(me:Nat)(tp:aD)(ops:List dM)(x:Mx)(c:Cr)(s:Ms)(iv:ξ)(wr:κ):Prop :=
 ∃(k:Nat) (T':Tg) (s':Ms),iv=.int .i64 (k:Nat)/\k<=cf.aR/\Ξ (In (t+7) 7) w T wr T'/\pO wr T' t b cf me tp ops x c s'/\s'.base=s.base/\s'.fr=s.fr/\s'.last<=s.last+k/\s'.cM<=s.cM+k/\s'.aL=s.aL
def ab0(w:κ)(T:Tg)(t b:Nat)(cf:Cf)(me:Nat)(tp:aD)(ops:List dM)(x:Mx)(c:Cr)(s:Ms)(A:aS)(d:Nat)(iv:ξ)(wr:κ):Prop :=
 ∃(k:Nat) (T':Tg),iv=.int .i64 (k:Nat)/\k<=s.bl.length/\Ξ (In (t+14) 2) w T wr T'/\pO wr T' t b cf me tp ops x c s/\Bs wr T' A s.bl.length d s.fr s.bl
theorem pO.ajz(h:pO w T t b cf me tp ops x c s)(aT:jA cf)(hl:c.ls.length<=8)(ht:0<t)(hT:Ξ (In (t+14) 2) w T w' T')(hJ:jh w' T' (t+14) x.jb):pO w' T' t b cf me tp ops x c s :=
 ⟨h.hd.ο hT cN,h.op.ο hT cN,h.row.ο hT cN,h.nw,h.nk,fun j wb2 k2 h1 h2=>by have iY:=(iN.1 h1).1;have:=h.nw;have:=aT.workers;exact(h.wk j wb2 k2 h1 h2).ο hT cN,h.st.ο hT (fun k hk=>iw),h.tr.ο hT cN cN cN,hJ,h.pl.ο hT (fun k hk=>iw),h.ok,h.jn⟩
theorem aeJ(a0 a1 a2 a3 a4 a5 a6 a7 a8 a9:Int)(w:κ):(Instr.field 26 (.agg #[a0,a1,a2,a3,a4,a5,a6,a7,a8,a9]) 7).run prog w=.ok (a7:ξ) w:=ey
def ajA(t b:Nat)(cf:Cf)(me:Nat)(tp:aD)(ops:List dM)(x:Mx)(c:Cr)(s:Ms)(v:ξ)(w':κ)(T':Tg):Prop :=
 v=.tuple #[]/\∃s',pO w' T' t b cf me tp ops x c s'/\s'.fr=s.fr/\s'.last<=s.last+8/\s'.cM<=s.cM+8/\s'.aL=s.aL
theorem ab1(h:pO w T t b cf me tp ops x c s)(ht:0<t)(hk:bz cf me c [])(hu:Θ w T)(hf:s.fr=c.front)(hN:s.last<=900000000/\s.cM<=900000000):τ prog 279 #[π b] w (cG (In (t+7) 9) w T (ajA t b cf me tp ops x c s)):=by
 have aT:=hk.ok;have hlen:=hk.len;have jW:=aT.n8;have Bl:=aT.aR;have mj:c.ls.length<=8:=η;have b0:=h.hd.zc 0;have I2:=θ (iI h.pl);have Hcf:=θ (Iw h.pl.core);have HU:=θ hu;have HM:=θ h;have akV:=aeJ;unfold π iC at*;clear h hu;go_enter func279,ntmps279;go_wp2_with fail;refine I2.o.mono ?_;rintro e w1 ⟨rfl,hw⟩;subst hw;go_wp2_with fail;refine Hcf.o.mono ?_;rintro e w2 ⟨rfl,e2⟩;have zJ:=hk;have sS:c.head me<=1000:=by
  have lD:me<c.ls.length:=by rw[hk.len];exact hk.me
  have:(c.head me)=c.ls[me].length:=by simp[Cr.head,Cr.nr,cO,lD]
  rw[this];exact hk.short _ (dH lD)
 have og:vl cf.bD cf.order:=aT.by_;clear hk;go_wp2_with fail;go_loopw [13] (fun iv wr=>aeI w1 T t b cf me tp ops x c s iv wr) (fun iv _=>cf.aR-(intOf iv).toNat)
 case atStart=>exact⟨0,T,s,rfl,aM _,Ξ.ai _ HU.o e2,HM.o.ext e2,rfl,rfl,aq _,aq _,rfl⟩
 case round =>
  obtain⟨k,T3,s3,rfl,hk,cT,pP,q1,q2,q3,q4,q5⟩:=hrel;by_cases jk:k<cf.aR
  .have jF:=dQ ((k:Int)<(cf.aR:Int))
   have HQ:=θ (show s3.base=s.base/\s3.fr=s.fr/\s3.last<=s.last+k/\s3.cM<=s.cM+k/\s3.aL=s.aL from⟨q1,q2,q3,q4,q5⟩);have hN3:s3.last<=900000010/\s3.cM<=900000010:=η;have KV:=pP.small aT;clear q1 q2 q3 q4 q5;have AI:=θ pP;have jH:=θ cT;have b0:=pP.hd.zc 0;have ajB:=θ fun W (e:Ext wr W)=>iI (pP.pl.ext e);have alZ:=θ fun W (e:Ext wr W)=>jf (pP.pl.core.ext e);have al0:=θ fun W (e:Ext wr W)=>M7 (pP.pl.ext e);have al1:=θ fun W (e:Ext wr W)=>qy (pP.pl.core.ext e) (zJ.bQ tp ops zJ.dW);have al2:=θ fun W (e:Ext wr W)=>I0 (pP.pl.core.BW.ext e) mj (by rw[hlen];have:=aT.n2;omega) zJ.short og k (c.head me) η sS fun W rr hrr A n c aa hb hl=>Vk W og A n c aa hb rr η _ sS hl;unfold π tR at*;clear pP cT;go_wp2_with fail;apply iL trivial;repeat apply nh b0
   apply jD (fun W hR=>ajB.o W hR);apply jD (fun W hR=>alZ.o W hR);repeat apply nh b0
   apply jD (fun W hR=>al0.o W hR);repeat apply nh b0
   apply jD (fun W hR=>ajB.o W hR);apply jD (fun W hR=>al1.o W hR);apply BC (p:=fun u W=>∃B m d full,u=.slice B m d/\zq cf.bD cf.order c.ls k (c.head me) full/\∃base,wr.heap.size<=base/\tQ W base B m d (lR full (cn c.ls) (c.head me))) (fun _ _ _ ⟨B,m,d,full,hv,h1,base,h2,h3⟩ he=>⟨B,m,d,full,hv,h1,base,h2,h3.ext he⟩)
   .intro W hR υ;refine(al2.o W hR).mono ?_;rintro e w' ⟨B,m,d,full,rfl,h1,⟨base,h2,h3⟩,he⟩;exact⟨_,rfl,he,B,m,d,full,rfl,h1,base,aF hR.size h2,h3⟩
   intro v1;simp only[pu];apply dL (p:=fun u W=>∃B m d full,u=.slice B m d/\zq cf.bD cf.order c.ls k (c.head me) full/\∃base,wr.heap.size<=base/\tQ W base B m d (lR full (cn c.ls) (c.head me))) (fun _ _ _ ⟨B,m,d,full,hv,h1,base,h2,h3⟩ he=>⟨B,m,d,full,hv,h1,base,h2,h3.ext he⟩)
   .rfl
   .intro W hR υ;obtain⟨B,m,d,full,rfl,h1,base,h2,h3⟩:=υ.1 rfl;refine⟨_,W,?_,Ext.refl _,B,m,d,full,rfl,h1,base,h2,h3⟩;go_simp;first|done|rfl
   intro v2;simp only[pu];refine lex_nil ?_;intro Wx ak υ;obtain⟨B,m,d,full,rfl,oC,base,j6,fO⟩:=υ.1 rfl;clear υ;have mX:∀p∈lR full (cn c.ls) (c.head me),p.length=cf.n:=fun p hp=>by obtain⟨j,_,rfl⟩:=fK.1 hp;rw[qN,oC.1,hlen]
   have qx:Kw (lR full (cn c.ls) (c.head me)):=⟨by simp[lR];omega,fun p hp=>by rw[mX p hp];omega⟩;have lD:m=(lR full (cn c.ls) (c.head me)).length:=fO.len;have vk:Sp Wx T3 B m d (lR full (cn c.ls) (c.head me)):=fO.sp fun q hq=>jH.o.Δ q (aF j6 hq);have HMx:=θ (AI.o.ext ak);have HTx:=θ (jH.o.ext ak);clear oC fO AI jH;generalize lR full (cn c.ls) (c.head me)=ν at*;have Hps:=θ qx;have Hjn:=θ mX;have Hsp:=θ vk;have hmx:=vk.rp.max;unfold maxLen at hmx;clear lD qx mX vk b0 j6;generalize hWZ:Wx=W5 at*;clear hWZ ak;by_cases Bk:m=0
   .have e3:((m:Int)==0)=true:=by rw[beq_iff_eq];omega
    clear Bk;go_wp2;go_roundw
    case rel =>obtain⟨q1,q2,q3,q4,q5⟩:=HQ.o;exact⟨k+1,T3,s3,cR,η,HTx.o,HMx.o,q1,q2,η,η,q5⟩
    case measure=>exact dB
   .have e3:((m:Int)==0)=false:=by rw[beq_eq_false_iff_ne];omega
    have Ir:0<m:=η;clear Bk;have GQ:=θ (abZ HMx.o.hd HMx.o.tr Bl (fun y hy=>(HMx.o.ok.K9 y hy).1) Hsp.o.rp);unfold π at*;go_wp2_with fail;refine GQ.o.mono ?_;rintro e w6 ⟨⟨r,rfl⟩,e6⟩;cases r with
    |true =>
     go_wp2;go_roundw
     case rel =>obtain⟨q1,q2,q3,q4,q5⟩:=HQ.o;exact⟨k+1,T3,s3,cR,η,HTx.o.ext e6,HMx.o.ext e6,q1,q2,η,η,q5⟩
     case measure=>exact dB
    |false =>
     have hu:Θ w6 T3:=HTx.o.Δ.ext e6;have Vm:=HMx.o.hd.ext e6;have c4:=Vm.zc 4;have c7:=Vm.zc 7;have c8:=Vm.zc 8;have pF:¬(fun j=>j=t+12\/j=t+12+1\/In (t+7) 5 j) (T3 b):=by rw[Vm.1];unfold In;omega
     have HAdd:∀W,Ext w6 W->τ prog 296 #[π x.tb,s3.fr,s3.base,.slice B m d] W (cG (fun j=>j=t+12\/j=t+12+1\/In (t+7) 5 j) W T3 (Zg (t+12) x.tb x.sb cf.aR s3.cM s3.aL s3.fr (t+7) (4*cf.room) s3.free s3.last s3.bl s3.gs ν (aC tp ops c.ls s3.fr))):=fun W e=>by
      have hM:=(HMx.o.ext e6).ext e;by_cases pN:cf.aR<=s3.bl.length
      .refine(MM hM.tr Bl s3.fr s3.base B m d pN).mono ?_;rintro e9 w9 ⟨rfl,x9⟩;exact⟨_,rfl,T3,Ξ.ai _ (hu.ext e) x9,.inl ⟨rfl,hM.tr.ext x9,hM.st.ext x9⟩⟩
      .exact Z7 hM.tr Bl hM.st (hu.ext e) η η η η η η hM.ok.wA ((Hsp.o.ext e6).ext e) Hps.o Ir η
     have D8:Grow (Zg (t+12) x.tb x.sb cf.aR s3.cM s3.aL s3.fr (t+7) (4*cf.room) s3.free s3.last s3.bl s3.gs ν (aC tp ops c.ls s3.fr)):=by
      rintro v w T w' h e;rcases h with ⟨h1,h2,h3⟩|⟨h1,h2,h3,h4⟩
      .exact .inl ⟨h1,h2.ext e,h3.ext e⟩
      .exact .inr ⟨h1,h2,h3.ext e,h4.ext e⟩
     have HAdd:=θ HAdd;unfold π at*;clear Vm;go_wp2_with fail;apply GG (oR (fun j=>j=t+12\/j=t+12+1\/In (t+7) 5 j) T3) (Bj 13 (fun j=>j=t+12\/j=t+12+1\/In (t+7) 5 j) T3) (oJ 13 _) (oJ.start _ _);repeat apply gF (fun _ h _ _=>aj (h.cell c4 pF) (aj (h.cell c8 pF) (h.cell c7 pF)))
     apply uI (p:=oP _ _ _ _) Γ Γ (oP.aQ D8 _)
     .intro W hR hJ υ;exact jz hu (hJ rfl) ((HAdd.o) W (hJ rfl))
     intro YQ;simp only[pu];refine aP ?_;intro Wy hR gT υ;obtain⟨T1,cw,FA⟩:=υ.1 rfl;clear υ gT;have hS4:=(HMx.o.ext e6).added aT mj cw FA Hps.o Hjn.o;have HS4:=θ hS4;have Bo:=θ ((HTx.o.ext e6).trans (cw.mono (S':=In (t+7) 7) fun j hj=>iw));clear hS4 cw FA hR;go_wp2;go_roundw
     case rel =>obtain⟨q1,q2,q3,q4,q5⟩:=HQ.o;obtain⟨s4,h1,h2,h3,h4,h5,h6⟩:=HS4.o;exact⟨k+1,T1,s4,cR,η,Bo.o,h1,η,η,η,η,η⟩
     case measure=>exact dB
  .obtain rfl:k=cf.aR:=by omega
   have HQ:=θ (show s3.fr=s.fr/\s3.last<=s.last+8/\s3.cM<=s.cM+8/\s3.aL=s.aL from⟨q2,η,η,q5⟩);clear q1 q2 q3 q4 q5;have AI:=θ pP;have jH:=θ cT;have hu:Θ wr T3:=cT.Δ;have c4:=pP.hd.zc 4;have c5:=pP.hd.zc 5;have pF:¬In (t+14) 2 (T3 b):=by rw[pP.hd.1];unfold In;omega
   have Hep:=θ fun W (hR:oR (In (t+14) 2) T3 wr W)=>Fz (pP.tr.ο (hR.ο hu) cN cN cN);have Hca:=θ fun W (e:Ext wr W)=>P3 (pP.jo.ext e) (hu.ext e) η (s3.aL:Nat);have hgC:Grow (fun v w' T'=>(∃r:Int,v=.int .i64 r)/\jh w' T' (t+14) x.jb):=by rintro v w T w' ⟨h1,h2⟩ e;exact⟨h1,h2.ext e⟩
   unfold π at*;clear pP cT;go_wp2_with fail;apply GG (oR (In (t+14) 2) T3) (Bj 9 (In (t+14) 2) T3) (oJ 9 _) (oJ.start _ _);repeat apply gF (fun _ h _ _=>aj (h.cell c5 pF) (h.cell c4 pF))
   apply nF Γ Γ
   .rfl
   .intro W;go_simp;exact⟨rfl,rfl⟩
   .intro W hR hJ υ
    refine((fun W hR=>Hep.o W hR) W hR).mono ?_;rintro e w' ⟨rfl,ee⟩;have ex:Ext W w':=by first|exact ee|(subst ee;exact Ext.refl _)
    exact⟨rfl,oR.ai ex,.inr ex⟩
   simp only[pu];apply uI (p:=oP _ _ _ _) Γ Γ (oP.aQ hgC _)
   .intro W hR hJ υ;exact jz hu (hJ rfl) ((Hca.o) W (hJ rfl))
   intro v9;simp only[pu];refine aP ?_;intro Wy hR gT υ;obtain⟨T1,cw,_,hJ1⟩:=υ.1 rfl;clear υ gT;have QE:=AI.o.ajz aT mj ht cw hJ1;have Bo:=θ (jH.o.mono (S':=In (t+7) 9) (fun j hj=>iw) |>.trans (cw.mono (S':=In (t+7) 9) fun j hj=>iw));have YK:=θ QE;have c4:=QE.hd.zc 4;have oc:=θ (AU QE.tr Bl fun y hy=>(QE.ok.K9 y hy).1);have ag1:s3.bl.length<=8:=aF QE.tr.tH Bl;unfold π at*;clear QE hJ1 cw hR;go_wp2_with fail;refine oc.o.mono ?_;rintro e w8 ⟨BA,bd,rfl,e8,hB⟩;have hu8:Θ w8 T1:=Bo.o.Δ.ext e8;have Sq:=hB T1 Bo.o.Δ;have hdm:s3.bl.length<=bd:=by obtain⟨_,hs,_,h2,_⟩:=Sq;exact h2.2.1
   have HBs:=θ Sq;have HM8:=θ (YK.o.ext e8);have Qg:=θ (Bo.o.ext e8);obtain⟨N,hN⟩:∃N,N=s3.bl.length:=⟨_,rfl⟩;rw[←hN]at ag1 hdm⊢;have HN:=θ hN;clear hB Sq hN c4 c5;go_wp2_with fail;go_loopw [74] (fun iv wx=>ab0 w8 T1 t b cf me tp ops x c s3 BA bd iv wx) (fun iv _=>N-(intOf iv).toNat)
   case atStart=>exact⟨0,T1,rfl,aM _,Ξ.refl _ hu8,HM8.o,HBs.o⟩
   case round =>
    obtain⟨j,T5,rfl,hj,kT,hM5,Dy⟩:=hrel;rw[←HN.o]at hj;by_cases mX:j<N
    .obtain⟨y,hy⟩:∃y,s3.bl[j]?=some y:=⟨_,bf (by rw[←HN.o];exact mX)⟩
     obtain⟨g9,o9,⟨A1,c1⟩,hBe,hv,vk⟩:=Dy.elem hy;subst hBe;have k0:=hv 0 _ rfl;have k1:=hv 1 _ rfl;have k2:=hv 2 _ rfl;have k3:=hv 3 _ rfl;have k4:=hv 4 _ rfl;rw[Nat.add_zero]at k0;dsimp only at*
     have HM5:=θ hM5;have qZ:=θ kT;have Om:=θ Dy;clear hv vk hy hM5 kT Dy;generalize y.ν.length=pl at*;generalize y.id=i1 at*;generalize y.done=i3 at*;generalize y.jP=i4 at*;clear y;go_upto_region 11 with fail
     have b9:=Has.new wr (fun _=>0) [i1,s3.fr,.slice A1 pl c1,i3,i4] 136 rfl;have vZ:=Ext.alloc wr (.cells #[i1,s3.fr,.slice A1 pl c1,i3,i4] 136);generalize hW:aB wr _=W at*;obtain⟨gv,DV⟩:∃gv,gv=wr.heap.size:=⟨_,rfl⟩;rw[←DV]at b9⊢;have hgT:T5 gv=0:=by rw[DV];exact qZ.o.Δ _ (aq _)
     clear hW DV k0 k1 k2 k3 k4;have j0:=b9.zc 0;have j2:=b9.zc 2;have j3:=b9.zc 3;have HMW:=θ (HM5.o.ext vZ);have HTW:=θ (qZ.o.ext vZ);have HBW:=θ (Om.o.ext vZ);clear b9 vZ HM5 qZ Om;by_cases hC:i3<pl
     .have hu:Θ W T5:=HTW.o.Δ
      have c4:=HMW.o.hd.zc 4;have c5:=HMW.o.hd.zc 5;have pF:¬In (t+14) 2 (T5 b):=by rw[HMW.o.hd.1];unfold In;omega
      have uA:¬In (t+14) 2 (T5 gv):=by rw[hgT];unfold In;omega
      have al3:=θ fun W' (hR:oR (In (t+14) 2) T5 W W')=>Fz (HMW.o.tr.ο (hR.ο hu) cN cN cN);have Hpu:=θ fun W' (e:Ext W W')=>abN (HMW.o.jo.ext e) (hu.ext e) η (i1:Nat) (s3.aL:Nat);have Je:Grow (fun v w' T'=>(∃r:Bool,v=.bool r)/\jh w' T' (t+14) x.jb):=by rintro v w T w' ⟨h1,h2⟩ e;exact⟨h1,h2.ext e⟩
      unfold π at*;go_wp2_with fail;apply GG (oR (In (t+14) 2) T5) (Bj 12 (In (t+14) 2) T5) (oJ 12 _) (oJ.start _ _);repeat apply gF (fun _ h _ _=>aj (h.cell c5 pF) (aj (h.cell c4 pF) (h.cell j0 uA)))
      apply nF Γ Γ
      .rfl
      .intro W;go_simp;exact⟨rfl,rfl⟩
      .intro W hR hJ υ
       refine((fun W' hR=>al3.o W' hR) W hR).mono ?_;rintro e w' ⟨rfl,ee⟩;have ex:Ext W w':=by first|exact ee|(subst ee;exact Ext.refl _)
       exact⟨rfl,oR.ai ex,.inr ex⟩
      simp only[pu];repeat apply gF (fun _ _ _ _=>trivial)
      apply uI (p:=oP _ _ _ _) Γ Γ (oP.aQ Je _)
      .intro W hR hJ υ;exact jz hu (hJ rfl) ((Hpu.o) W (hJ rfl))
      intro v12;simp only[pu];refine aP ?_;intro Wy hR gT υ;obtain⟨T6,ri,_,hJ6⟩:=υ.1 rfl;clear υ gT;have HM6:=θ (HMW.o.ajz aT mj ht ri hJ6);have Bp:=θ (HTW.o.trans ri);have HB6:=θ (HBW.o.ο ri cN);clear ri hJ6 hR;go_wp2;go_roundw
      case rel=>exact⟨j+1,T6,cR,by rw[←HN.o];omega,Bp.o,HM6.o,HB6.o⟩
      exact dB
     .go_wp2_with fail
      go_roundw
      case rel=>exact⟨j+1,T5,cR,by rw[←HN.o];omega,HTW.o,HMW.o,HBW.o⟩
      exact dB
    .obtain rfl:j=N:=by omega
     obtain⟨p1,p2,p3,p4⟩:=HQ.o;have HF:=θ (show ajA t b cf me tp ops x c s (.tuple #[]) wr T5 from⟨rfl,s3,hM5,p1,p2,p3,p4⟩);have HTF:=θ (Qg.o.trans (kT.mono (S':=In (t+7) 9) fun j hj=>iw));clear p1 p2 p3 p4 hM5 kT Dy;go_wp2_with fail;go_end0
     exact⟨_,rfl,T5,HTF.o,HF.o⟩
end
section
variable {w w':κ}{T T':Tg}{t b:Nat}{cf:Cf}{me:Nat}{tp:aD}{ops:List dM}{x:Mx}{c c':Cr}{s:Ms}{B:Nat}
def ag3(t b:Nat)(cf:Cf)(me:Nat)(tp:aD)(ops:List dM)(x:Mx)(c:Cr)(s:Ms)(v:ξ)(w':κ)(T':Tg):Prop :=
 v=.tuple #[]/\∃s',pO w' T' t b cf me tp ops x c s'/\s'.fr=c.front/\s'.last<=s.last+9/\s'.cM<=s.cM+8/\s'.aL<=s.aL+3
theorem Vn(h:pO w T t b cf me tp ops x c s)(ht:0<t)(hk:bz cf me c [])(hu:Θ w T)(j5:c.closed=true->s.fr=c.front)(hN:s.last<=800000000/\s.cM<=800000000/\s.aL<=800000000):τ prog 261 #[π b] w (cG (In t 16) w T (ag3 t b cf me tp ops x c s)):=by
 have aT:=hk.ok;have mj:c.ls.length<=8:=by have:=aT.n8;have:=hk.len;omega
 have iU:=hk.dW;have HC:=θ (FW h);have HU:=θ hu;have hmf:∀fn first cap w,(Instr.makeFunc fn first cap).run prog w=.ok (.func fn first cap) w:=fun _ _ _ _=>rfl;cases hcd:c.closed with
 |true =>
  have HF:=θ (show ag3 t b cf me tp ops x c s (.tuple #[]) w T from⟨rfl,s,h,j5 hcd,η,η,η⟩);rw[hcd]at HC;unfold π at*;clear h j5 hcd;go_enter func261,ntmps261;go_wp2_with fail;refine HC.o.mono ?_;rintro e w1 ⟨rfl,hw⟩;subst hw;go_wp2_with fail;go_end0
  exact⟨_,rfl,T,Ξ.refl _ HU.o,HF.o⟩
 |false =>
  rw[hcd]at HC;have HMv:=θ (aad h ht hk hu η);unfold π at*;clear h j5 hcd;go_enter func261,ntmps261;go_wp2_with fail;refine HC.o.mono ?_;rintro e w1 ⟨rfl,hw⟩;subst hw;go_wp2_with fail;refine HMv.o.mono ?_;rintro e w2 ⟨v,rfl,T2,bq,rfl,s2,nE,q1,q2,q3,q4⟩;have b4:=nE.hd.zc 4;have HK:=θ (GS b nE.tr aT.aR nE.st bq.Δ η η η η η (by have:=nE.small aT;omega) nE.ok.KJ nE.ok.KK fun W y h hT hy vk=>abY (nE.hd.ο hT cN) (nE.pl.ο hT (fun k hk=>iw)) hk y h vk (nE.jn y hy) (nE.ok.K9 y hy).1 η);have HD:=θ fun w3 T3 v=>nE.dropped (w':=w3) (T':=T3) (P:=fun _=>True) (v:=v) aT mj;have jr:=θ bq;unfold π at*;clear nE bq;go_wp2_with fail;refine HK.o.mono ?_;rintro e w3 ⟨v,rfl,T3,cT,ry⟩;obtain⟨fl,ep,cZ,p1,p2,p3,p4,pP⟩:=HD.o w3 T3 v cT ry;obtain⟨r,_,_,_,rfl,_⟩:=ry;have HTr:=θ (ab1 pP ht hk cT.Δ q1 (by show s2.last<=_/\s2.cM<=_;omega));have jH:=θ (jr.o.mono (S':=In t 16) (fun j hj=>iw) |>.trans (cT.mono (S':=In t 16) fun j hj=>iw));unfold π at*;clear pP cT;go_wp2_with fail;refine HTr.o.mono ?_;rintro e w4 ⟨v,rfl,T4,mE,rfl,s4,QE,r1,r2,r3,r4⟩;have HF:=θ (show ag3 t b cf me tp ops x c s (.tuple #[]) w4 T4 from⟨rfl,s4,QE,by rw[r1];exact q1,by have:s4.last<=s2.last+8:=r2;omega,by have:s4.cM<=s2.cM+8:=r3;omega,by have:s4.aL=ep:=r4;omega⟩);have Bo:=θ (jH.o.trans (mE.mono (S':=In t 16) fun j hj=>iw));clear QE mE;go_wp2_with fail;go_end0
  exact⟨_,rfl,T4,Bo.o,HF.o⟩
theorem pO.on(h:pO w T t b cf me tp ops x c s)(hf:s.fr=c.front/\s.last<=B/\s.cM<=B/\s.aL<=B)(hk:bz cf me c [])(hB:B<=700000000)(ht:0<t)(js:bz cf me c' [])(hg:nD c.ls c'.ls)(j5:c'.closed=true->c'.ls=c.ls)(hT:Ξ (In (t+16) 24) w T w' T')(hp:bN w' T' (t+16) x.xb cf me tp ops x.cb x.qb x.ps c' c'.front):τ prog 261 #[π b] w' (fun e w2=>e=.returned (.tuple #[])/\∃T2,Ξ (In t 40) w T w2 T2/\fJ w2 T2 t b cf me tp ops c' (B+20)):=by have hM:=h.plain hk.ok.workers hT hp (h.aii η hg);refine(Vn hM ht js hT.Δ (fun hc=>by rw[hf.1];unfold Cr.front;rw[j5 hc]) η).mono ?_;rintro e w2 ⟨v,rfl,T2,bq,rfl,s2,nE,q1,q2,q3,q4⟩;exact⟨rfl,T2,(hT.mono (S':=In t 40) fun j hj=>iw).trans (bq.mono (S':=In t 40) fun j hj=>iw),x,s2,nE,q1,η,η,η⟩
theorem Vo(h:fJ w T t b cf me tp ops c B)(u:UInt8)(hk:bz cf me c [])(hu:Θ w T)(ht:0<t)(mY:tp.length<=1099511627776)(hQ:eS tp ops cf (c.ν me cf.χ u))(hB:B<=700000000):τ prog 257 #[π b,.int .u8 (u.toNat:Nat)] w (Does (In t 40) w T ((c.iB me cf.χ:Nat):ξ) fun w' T'=>fJ w' T' t b cf me tp ops (c.ν me cf.χ u) (B+20)):=by
 obtain⟨x,s,h,hf⟩:=h;have js:=hk.ν u;have lD:me<c.ls.length:=by rw[hk.len];exact hk.me
 have H1:=θ (nT h.hd);have H2:=θ (CU h.pl u hk js hu η mY hQ);have HG:=θ fun w' T' (hT:Ξ (In (t+16) 24) w T w' T') (hp:bN w' T' (t+16) x.xb cf me tp ops x.cb x.qb x.ps (c.ν me cf.χ u) (c.ν me cf.χ u).front)=>h.on hf hk hB ht js (wj me cf.χ c u lD) (fun hc=>by
  have h9:c.closed=true:=by unfold Cr.ν at hc;split at hc<;>exact hc
  unfold Cr.ν;rw[if_neg];unfold Cr.iB;rw[if_pos h9];decide) hT hp
 unfold π at*;clear h hk js hQ;generalize c.ν me cf.χ u=cp at*;generalize c.iB me cf.χ=er at*;go_enter func257,ntmps257;go_wp2_with fail;refine H1.o.mono ?_;rintro e w1 ⟨rfl,hw⟩;subst hw;go_wp2_with fail;refine H2.o.mono ?_;rintro e w2 ⟨rfl,T2,bq,uT⟩;have HA:=θ (HG.o w2 T2 bq uT);clear bq uT;go_wp2_with fail;refine HA.o.mono ?_;rintro e w3 ⟨rfl,T3,cT,FC⟩;have jH:=θ cT;have Qd:=θ FC;clear cT FC;go_wp2;go_ret;exact⟨rfl,T3,jH.o,Qd.o⟩
theorem aae(h:fJ w T t b cf me tp ops c B)(p:Pk)(hk:bz cf me c [])(js:bz cf me (c.recv me p) [])(hu:Θ w T)(ht:0<t)(mY:tp.length<=1099511627776)(hp:mw p)(kN:p.dst=me)(iF:p.src<cf.n)(hb:Rb w A n d (aG cf.id p))(IP:p.iA=false->p.first<=(c.ls.getD p.src []).length/\p.first+p.ν.length<=1000)(hQ:eS tp ops cf (c.recv me p))(hB:B<=700000000):τ prog 259 #[π b,.slice A n d] w (Does (In t 40) w T (.int .i64 (if c.closed then 6 else 0)) fun w' T'=>fJ w' T' t b cf me tp ops (c.recv me p) (B+20)):=by
 obtain⟨x,s,h,hf⟩:=h;have H1:=θ (nT h.hd);have H2:=θ (FJ h.pl p hk js hu η mY hp kN iF hb IP hQ);have HG:=θ fun w' T' (hT:Ξ (In (t+16) 24) w T w' T') (JP:bN w' T' (t+16) x.xb cf me tp ops x.cb x.qb x.ps (c.recv me p) (c.recv me p).front)=>h.on hf hk hB ht js (zw me c p) (fun hc=>by
  unfold Cr.recv at hc⊢;split
  .rfl
  .split
   .rfl
   .rename_i h1 h2;rw[if_neg h1,if_neg h2]at hc;exact absurd hc h1) hT JP
 unfold π at*;clear h hk js hQ hb IP hp kN iF;generalize c.recv me p=cp at*;generalize (if c.closed=true then (6:Int) else 0)=er at*;go_enter func259,ntmps259;go_wp2_with fail;refine H1.o.mono ?_;rintro e w1 ⟨rfl,hw⟩;subst hw;go_wp2_with fail;refine H2.o.mono ?_;rintro e w2 ⟨rfl,T2,bq,uT⟩;have HA:=θ (HG.o w2 T2 bq uT);clear bq uT;go_wp2_with fail;refine HA.o.mono ?_;rintro e w3 ⟨rfl,T3,cT,FC⟩;have jH:=θ cT;have Qd:=θ FC;clear cT FC;go_wp2;go_ret;exact⟨rfl,T3,jH.o,Qd.o⟩
end
def Wo(fr:Nat)(y:Br)(us:List ξ)(w:κ):Prop:=∃h,us=we fr y h
theorem Wo.aQ(fr m:Nat)(y:Br):MO m 136 (Wo fr y):=⟨fun us w ⟨h,e⟩=>by subst e;exact⟨_,_,_,_,_,_,_,rfl⟩,fun _ _ _ h _=>h,fun _ _ _ _ _ _ _ h=>h⟩
theorem wD{l:List Br}{ν:vo}:∀{k:Nat}{x:Br},iG l ν k=some x->eP l ν x
 |0,x,h=>by cases h
 |k+1,x,h=>by
  rw[iG]at h;split at h
  .rename_i y hy
   split at h
   .rename_i hc
    cases h
    exact⟨List.mem_of_getElem? hy,η,hc.2.1,hc.2.2⟩
   .exact wD h
  .exact wD h
theorem Ns{w:κ}{T:Tg}(hu:Θ w T):∃M,∀k,T k<=M:=by
 have key:∀n:Nat,∃M,∀k,k<n->T k<=M:=fun n=>by
  induction n with
  |zero=>exact⟨0,fun k hk=>absurd hk (lF _)⟩
  |succ n ih =>
   obtain⟨M,hM⟩:=ih;refine⟨max M (T n),fun k hk=>?_⟩;by_cases e:k=n
   .subst e;exact Nat.le_max_right _ _
   .exact aF (hM k η) (Nat.le_max_left _ _)
 obtain⟨M,hM⟩:=key w.heap.size;refine⟨M,fun k=>?_⟩;by_cases h:k<w.heap.size
 .exact hM k h
 .rw[hu k η];exact aM _
section
variable {w w':κ}{T T':Tg}{t b:Nat}{cf:Cf}{me:Nat}{tp:aD}{ops:List dM}{x:Mx}{c c':Cr}{s:Ms}{B:Nat}
theorem DB(h:pO w T t b cf me tp ops x c s)(hf:s.fr=c.front)(hk:bz cf me c [])(mY:tp.length<=1099511627776)(hle:c.head me<=c.front):τ prog 255 #[π b] w (Shown w (aC tp ops c.ls c.front) c.front):=by
 have hlen:=hk.len;have jW:=hk.ok.n8;have h2:=hk.ok.n2;have iU:=hk.dW;have I2:=θ fun W (e:Ext w W)=>FX (h.ext e);have Qn:=θ fun W (e:Ext w W)=>qy (h.pl.core.ext e) (hk.bQ tp ops iU);have GR:=θ fun W (e:Ext w W)=>jf (h.pl.core.ext e);have sI:=θ fun W (e:Ext w W)=>ie (h.pl.core.BW.ext e) (by rw[hlen];exact jW) Bu hk.short;rw[show cn c.ls=c.front from rfl]at sI;have DX:=θ fun W (e:Ext w W)=>nT (h.hd.ext e);have HDi:=θ fun W (e:Ext w W)=>yB (h.pl.ext e) hk mY;simp only[if_pos hle]at HDi;have b8:=h.hd.zc 8;rw[hf]at b8;have e1:=dQ (c.head me<=c.front) hle;have E7:=dQ ((c.head me:Int)<=(c.front:Int));unfold π at*;clear h hf hk hle hlen;generalize aC tp ops c.ls c.front=G at*;generalize c.head me=hd at*;generalize U2:c.front=fr at*;clear U2;go_enter func255,ntmps255;go_wp2_with fail;refine(I2.o _ (Ext.refl _)).mono ?_;rintro e w1 ⟨rfl,hw⟩;subst hw;go_wp2_with fail;refine(Qn.o _ (Ext.refl _)).mono ?_;rintro e w2 ⟨rfl,e2⟩;replace b8:=e2.cell b8;go_wp2_with fail;apply iL trivial;repeat first|apply nh b8|apply lU trivial
 apply jD (fun W hR=>I2.o W (e2.trans hR));apply jD (fun W hR=>GR.o W (e2.trans hR));apply jD (fun W hR=>sI.o W (e2.trans hR));repeat first|apply nh b8|apply lU trivial
 refine jq fun Wx ak=>?_;have e3:=e2.trans ak;go_wp2_with fail;refine(DX.o _ e3).mono ?_;rintro e w4 ⟨rfl,hw⟩;have hw:=hw.symm;subst hw;go_wp2_with fail;refine(HDi.o _ e3).mono ?_;rintro e w5 ⟨B2,bd,rfl,oQ,e5⟩;go_wp2;go_ret2
 exact⟨B2,bd,rfl,oQ,e3.trans e5⟩
theorem Vp(tp:aD)(ops:List dM)(fr:Nat)(G0:List Int)(al:vo)(k:Nat)(hk:k<=al.length):eG tp ops ((fr:Int)+(k:Int)) (eG tp ops (fr:Nat) G0 (al.take k)) (al.drop k)=eG tp ops (fr:Nat) G0 al:=by
 conv=>rhs;rw[←List.take_append_drop k al]
 rw[xl,tN,IW hk]
theorem Cu(h:pO w T t b cf me tp ops x c s)(ht:0<t)(hu:Θ w T)(hf:s.fr=c.front)(hB:s.last<=1000000000)(hk:bz cf me c [])(mY:tp.length<=1099511627776)(hgt:¬c.head me<=c.front):τ prog 255 #[π b] w (Shown w (mU tp ops cf.bD cf.order me c) (c.head me)):=by
 obtain⟨i,hi,hz⟩:∃i,prog.info? 205=some i/\i.zero=some (.agg (cP 32 (af .i32 0)).toArray):=by
  have h9:=uB;cases hq:prog.info? 205 with
  |none=>rw[hq]at h9;cases h9
  |some i=>rw[hq]at h9;exact⟨i,rfl,Ll⟩
 have hlen:=hk.len;have jW:=hk.ok.n8;have h2:=hk.ok.n2;have iU:=hk.dW;have Bl:=hk.ok.aR;have sS:c.head me<=1000:=by
  have lD:me<c.ls.length:=by rw[hk.len];exact hk.me
  have:(c.head me)=c.ls[me].length:=by simp[Cr.head,Cr.nr,cO,lD]
  rw[this];exact hk.short _ (dH lD)
 have og:vl cf.bD cf.order:=hk.ok.by_;have hG0:=fA tp ops c.ls c.front;have hGD:pI (mU tp ops cf.bD cf.order me c):=jc tp ops _ _ hG0;have hMk:=h.ok;have Wn:=hMk.wA;rw[hf]at Wn;have I2:=θ fun W (e:Ext w W)=>FX (h.ext e);have Qn:=θ fun W (e:Ext w W)=>qy (h.pl.core.ext e) (hk.bQ tp ops iU);have GR:=θ fun W (e:Ext w W)=>jf (h.pl.core.ext e);have sI:=θ fun W (e:Ext w W)=>ie (h.pl.core.BW.ext e) (by rw[hlen];exact jW) Bu hk.short;rw[show cn c.ls=c.front from rfl]at sI;have Hby:=θ fun W (e:Ext w W)=>M7 (h.pl.ext e);have Hah:Hq (∀W,Ext w W->τ prog 267 #[π x.qb,tR cf.bD cf.order,(0:Int),(c.head me:Nat)] W fun e w'=>∃B m d,e=.returned (.slice B m d)/\Rp w' B m d (gD cf.bD cf.order c.ls (c.head me))/\Ext W w'):=θ fun W e=>by refine(MW (h.pl.core.BW.ext e) (by rw[hlen];exact jW) Bu hk.short og 0 (c.head me) Γ sS (fun W rr hrr A n c aa hb hl=>by obtain rfl:rr=0:=η;exact zo W og A n c aa hb _ sS hl)).mono ?_;rintro e w' ⟨B,m,d,full,h1,h2,h3,h4⟩;rw[h2.zero]at h3;exact⟨B,m,d,h1,h3,h4⟩
 have Hpi:=θ fun W (e:Ext w W)=>wB (h.hd.ext e) (h.st.ext e) Wn η;have HBe:=θ fun W (e:Ext w W) PA pn pc (hp:Rp W PA pn pc (gD cf.bD cf.order c.ls (c.head me)))=>P9 (h.tr.ext e) Bl (fun y hy=>(hMk.K9 y hy).1) (fun y hy=>(hMk.K9 y hy).2.1) hp;have Hpy:=θ fun(y:Br) (hy:y∈s.bl) W T2 (hH:Has W T2 t b (mulC x tp s.base s.fr)) (hS:aZ W T2 (t+7) x.sb (4*cf.room) s.free s.last s.gs)=>wB hH hS (hMk.K9 y hy).2.2.2 η;have N1:(gD cf.bD cf.order c.ls (c.head me)).length<=1000:=by rw[yQ];omega
 have sJ:Ro w x.A x.an x.ad ops:=h.op.rd;have yu:=θ fun W (e:Ext w W) PA pn pc ps (hp:Rp W PA pn pc ps) (hl:ps.length<=1000) G (hG:pI G) (k:Nat) (hk:k<=1000)=>Mc W tp x.A x.an x.ad ops ((c.front:Int)+(k:Int)) PA pn pc ps G mY (sJ.ext e) hp hG η η hl;have nK:=θ fun W=>oD W (mU tp ops cf.bD cf.order me c) hGD;have HH:=θ h.hd;have HS:=θ h.st;have HU:=θ hu;have Hft:=θ hf;have HG0:=θ hG0;rw[hf]at HBe Hpy HH;have b0:=h.hd.zc 0;have b1:=h.hd.zc 1;have b2:=h.hd.zc 2;have b4:=h.hd.zc 4;have b7:=h.hd.zc 7;have b8:=h.hd.zc 8;rw[hf]at b8;have hbt:T b=t:=h.hd.1;have e1:=dh (c.head me<=c.front) hgt;have E7:=dh ((c.head me:Int)<=(c.front:Int));have oh:((aC tp ops c.ls c.front).map (af .i32)).length=32:=by rw[xN,hG0.1]
 have eo:∀u∈(aC tp ops c.ls c.front).map (af .i32),u.oneCell'=true:=by intro u hu;obtain⟨x,_,rfl⟩:=fK.1 hu;rfl
 have DK:(cP 32 (af .i32 0)).length=32:=bT;have adE:=θ (show ∀k,k<=(gD cf.bD cf.order c.ls (c.head me)).length->eG tp ops ((c.front:Int)+(k:Int)) (eG tp ops (c.front:Nat) (aC tp ops c.ls c.front) ((gD cf.bD cf.order c.ls (c.head me)).take k)) ((gD cf.bD cf.order c.ls (c.head me)).drop k)=mU tp ops cf.bD cf.order me c from fun k hk=>Vp tp ops c.front _ _ k hk);have aij:=fun y (hy:iG s.bl (gD cf.bD cf.order c.ls (c.head me)) s.bl.length=some y)=>hy;unfold π tR jj fX at*;clear h hk hgt hlen hMk Wn sJ hf og hG0 aij;generalize mU tp ops cf.bD cf.order me c=GD at*;generalize gD cf.bD cf.order c.ls (c.head me)=al at*;generalize hGG:aC tp ops c.ls c.front=G0 at*;generalize c.head me=hd at*;generalize c.front=fr at*;clear hGG;go_enter func255,ntmps255;go_wp2_with fail;refine(I2.o _ (Ext.refl _)).mono ?_;rintro e w1 ⟨rfl,hw⟩;have hw:=hw.symm;subst hw;go_wp2_with fail;refine(Qn.o _ (Ext.refl _)).mono ?_;rintro e w2 ⟨rfl,e2⟩;have B8:=θ b8;replace b0:=e2.cell b0;replace b8:=e2.cell b8;go_wp2_with fail;apply iL trivial;repeat first|apply nh b8|apply lU trivial
 apply jD (fun W hR=>I2.o W (e2.trans hR));apply jD (fun W hR=>GR.o W (e2.trans hR));apply jD (fun W hR=>sI.o W (e2.trans hR));repeat first|apply nh b8|apply lU trivial
 refine jq fun Wx ak=>?_;replace b0:=ak.cell b0;have e3:=e2.trans ak;clear e2 ak;generalize hWZ:Wx=W3 at*;clear hWZ;go_wp2_with fail;apply iL trivial;repeat apply iO (fun _ _ _=>trivial)
 apply jD (fun W hR=>I2.o W (e3.trans hR));apply jD (fun W hR=>GR.o W (e3.trans hR));repeat apply nh b0
 apply jD (fun W hR=>Hby.o W (e3.trans hR));repeat apply iO (fun _ _ _=>trivial)
 apply BC (p:=fun u W=>∃B m d,u=.slice B m d/\Rp W B m d al) (fun _ _ _ ⟨B,m,bd,hv,h1⟩ he=>⟨B,m,bd,hv,h1.ext he⟩)
 .intro W hR υ;refine(Hah.o W (e3.trans hR)).mono ?_;rintro e w' ⟨B,m,bd,rfl,ho,he⟩;exact⟨_,rfl,he,B,m,bd,rfl,ho⟩
 intro v1;simp only[pu];apply dL (p:=fun u W=>∃B m d,u=.slice B m d/\Rp W B m d al) (fun _ _ _ ⟨B,m,bd,hv,h1⟩ he=>⟨B,m,bd,hv,h1.ext he⟩)
 .rfl
 .intro W hR υ;obtain⟨B,m,bd,rfl,ho⟩:=υ.1 rfl;refine⟨_,W,?_,Ext.refl _,B,m,bd,rfl,ho⟩;go_simp;first|done|rfl
 intro v2;simp only[pu];refine lex_nil ?_;intro Wx ak υ;obtain⟨PA,pn,pc,rfl,Sz⟩:=υ.1 rfl;clear υ;have e4:=e3.trans ak;clear e3 ak b0;generalize hWZ:Wx=W4 at*;clear hWZ;replace b7:=e4.cell b7;go_wp2_with fail;refine(Hpi.o _ e4).mono ?_;rintro e w5 ⟨rfl,e5⟩;go_upto_region 6 with (first|(with_reducible refine bA rfl 205 rfl hi hz ?_;intro W6 a6 x6 s6)|(with_reducible refine bF rfl 205 (.tmp 6) (.tmp 54) rfl rfl rfl a6 oh DK bu eo ?_;intro W7 a7 g7 s7))
 have hs5:=e5.size;have e47:Ext W4 W7:=Ext.own (B:=some ⟨w5.heap.size,0,none⟩) (e5.trans x6) g7 (fun k hk=>by have h9:w5.heap.size=k:=kI.inj hk;omega);have e7:=e4.trans e47;have afS:=Sz.ext e47;have CI:=e4.size;have hg6:w.heap.size<=w5.heap.size:=η;have hg7:w5.heap.size<W7.heap.size:=a7.lt;obtain⟨g6,ajC⟩:∃g6,g6=w5.heap.size:=⟨_,rfl⟩;rw[←ajC]at a7 hg6 hg7⊢;have amO:pn<=al.length/\al.length<=pn:=by have:=afS.len;omega
 have al4:=θ Sz;have E47:=θ e47;have al5:W4.heap.size<=g6:=η;clear ajC g7 x6 a6 s6 s7 hs5 e5 e4 e47 Sz CI b7;have c4:=e7.cell b4;have c8:=e7.cell B8.o;cases Vq:iG s.bl al s.bl.length with
 |none =>
  have HC:Hq (∀W,Ext W7 W->τ prog 269 #[.pointer x.tb,fr,.slice PA pn pc] W fun e w'=>(∃us,e=.returned (.tuple #[.agg us.toArray,.bool false])/\Wh us w')/\Ext W w'):=θ fun W e=>by
   refine(HBe.o W (e7.trans e) PA pn pc (afS.ext e)).mono ?_;rintro e9 w9 ⟨x9,⟨_,rfl⟩|⟨y,q,h9,_⟩⟩
   .exact⟨⟨zB,rfl,rfl⟩,x9⟩
   .rw[Vq]at h9;cases h9
  clear Vq;go_wp2_with fail;apply jx (F1:=99) (F2:=99) (R:=fC W7.heap.size) (Rs:=UW 14 13 W7.heap.size 136) (J:=fun _ _=>True) ey ey (nV _) (fun _ _ W=>.inl (Ext.refl W)) (fun _ _ h=>h.size) (fun _ _ _ _ _ _ _ _ _=>trivial) (fun _ _ _=>Wt) (fC.lQ (Ext.drew _) (aq _)) (fun _=>trivial);intro σ;apply vS (fun _ _ _ _=>trivial);apply vS (fun _ _ _ _=>trivial);apply vS (fun _ _ _ _=>trivial);apply vS (fun _ h _ _=>(fC.jZ h).cell c4);apply vS (fun _ _ _ _=>trivial);apply vS (fun _ _ _ _=>trivial);apply vS (fun _ _ _ _=>trivial);apply vS (fun _ h _ _=>(fC.jZ h).cell c8);apply vS (fun _ _ _ _=>trivial);apply lcS (p:=Sr 9 (fun us=>.tuple #[.agg us.toArray,.bool false]) Wh) Γ Γ (Sr.keeps (Wh.aQ _ _))
  .intro W hR hJ υ;refine(HC.o W (fC.jZ hR)).mono ?_;rintro e w' ⟨⟨us,rfl,hg⟩,ee⟩;exact⟨_,rfl,fC.lQ ee hR.size,.inl ee,us,iS,hg⟩
  simp only[pu];apply jy (p:=Sr 10 (fun us=>.tuple #[.agg us.toArray,.bool false]) Wh) Γ Γ (Sr.keeps (Wh.aQ _ _))
  .rfl
  .intro W hR hJ υ;obtain⟨us,e1,hg⟩:=υ.1 rfl;refine⟨_,W,?_,nV _ _,.inl (Ext.refl _),us,iS,hg⟩;simp only[e1];go_simp;first|done|rfl
  simp only[pu];apply jy (p:=Sr 11 (fun us=>.agg us.toArray) Wh) Γ Γ (Sr.keeps (Wh.aQ _ _))
  .rfl
  .intro W hR hJ υ;obtain⟨us,e1,hg⟩:=υ.1 rfl;refine⟨_,W,?_,nV _ _,.inl (Ext.refl _),us,iS,hg⟩;simp only[e1];go_simp;first|done|rfl
  simp only[pu];apply kj (u:=.bool false) Γ Γ (nV _) (fun _ _ W=>.inl (Ext.refl W))
  .rfl
  .intro W hR hJ υ;obtain⟨us,e1,hg⟩:=υ.2.1 rfl;simp only[e1];go_simp;first|done|rfl
  simp only[pu];apply jy (p:=gsA W7.heap.size 13 136) Γ Γ gsA.keeps
  .rfl
  .intro W hR hJ υ;refine⟨.pointer W.heap.size,W.alloc (.cells zB.toArray 136),?_,fC.lQ (Ext.alloc _ _) hR.size,.inl (Ext.alloc _ _),W.heap.size,iS,hR.size,zB,⟨_,_,_,_,_,_,_,rfl⟩,heap_alloc_new W _⟩;unfold zB;go_simp;first|done|rfl
  simp only[pu];apply nM (p:=gsS W7.heap.size 13 136 Wh) Γ Γ (gsS.keeps (Wh.aQ _ _) ey)
  .rfl
  .intro W hR hJ υ;obtain⟨g8,e8,hm8,hs8⟩:=υ.1 rfl;obtain⟨us,e1,hg⟩:=υ.2.1 rfl;obtain⟨W2,r1,r2,r3,r4⟩:=MP (P:=prog) (K:=14) (al:=13) (m:=W7.heap.size) (σ:=σ) (Wh.aQ _ _) nX hm8 hs8 hg e8 Γ;exact⟨W2,r1 _ _ _ _ rfl e8 e1,r2 hR.size,r3,r4⟩
  simp only[rC];apply vS (fun _ _ _ _=>trivial);refine sX ?_;intro Wx hR gT υ;obtain⟨gx,us,e8,N0,hG8,Mf⟩:=υ.1 rfl;have ak:=fC.jZ hR;clear υ gT hR;rw[e8];generalize σ 9=s9 at*;generalize σ 10=s10 at*;generalize σ 11=s11 at*;generalize σ 13=s13 at*;generalize σ 14=s14 at*;clear e8;clear hG8 Mf;have e8:=e7.trans ak;have a8:=a7.ext ak;have ajD:=afS.ext ak;generalize hWZ:Wx=W8 at*;clear hWZ ak;go_wp2_with fail;have b1:=e8.cell b1;have b2:=e8.cell b2;have b8:=e8.cell B8.o;have afT:Hq (∀W,Ext W8 W->τ prog 270 #[.agg #[.string (bs tp),.slice x.A x.an x.ad],.agg (u9 (af .i32) G0).toArray,fr,.slice PA pn pc] W fun e w'=>e=.returned (.agg (u9 (af .i32) GD).toArray)/\Ext W w'):=θ fun W e=>by have h9:=yu.o W (e8.trans e) PA pn pc al (ajD.ext e) N1 G0 HG0.o 0 (aM _);have IP:=adE.o 0 (aM _);simp only[CW,List.drop_zero,Int.natCast_zero,Int.add_zero,eG]at h9 IP;rw[IP]at h9;exact h9
  have hlG:(u9 (af .i32) (G0)).length=32:=by rw[xN,(HG0.o).1]
  have J1:=ajD.max;unfold maxLen at J1;have hww:=ej ((fr:Int)+(0:Nat));have anE:=ej (fr:Int);apply iL trivial;repeat apply kZ b1 b2
  apply lT (u:=.agg (u9 (af .i32) (G0)).toArray) Ext.refl
  .rfl
  .intro W hR υ;exact mQ 205 (.tmp 6) rfl rfl underlying205 bu (a8.ext hR) hlG
  simp only[pu];repeat apply nh b8
  apply jD (fun W hR=>afT.o W hR);apply BC (p:=fun u W=>∃B d,u=.slice B 128 d/\Rb W B 128 d (kC GD)) (fun _ _ _ ⟨B,bd,hv,h1⟩ he=>⟨B,bd,hv,h1.ext he⟩)
  .intro W hR υ;refine(nK.o W).mono ?_;rintro e w' ⟨B,bd,rfl,ho,he⟩;exact⟨_,rfl,he,B,bd,rfl,ho⟩
  intro v12;simp only[pu];repeat apply iO (fun _ _ _=>trivial)
  apply dL (p:=fun u W=>∃B d,u=.slice B 128 d/\Rb W B 128 d (kC GD)) (fun _ _ _ ⟨B,bd,hv,h1⟩ he=>⟨B,bd,hv,h1.ext he⟩)
  .rfl
  .intro W hR υ;obtain⟨B,bd,rfl,ho⟩:=υ.1 rfl;refine⟨_,W,?_,Ext.refl _,B,bd,rfl,ho⟩;go_simp;first|done|rfl
  intro YQ;simp only[pu];repeat apply iO (fun _ _ _=>trivial)
  refine lex_nil ?_;intro Wx ak υ;obtain⟨B2,bd,rfl,oQ⟩:=υ.1 rfl;clear υ;go_wp2;go_ret2
  exact⟨B2,bd,rfl,oQ,e8.trans ak⟩
 |some y =>
  obtain⟨hym,hy0,hyl,hye⟩:=wD Vq;have HC:Hq (∀W,Ext W7 W->τ prog 269 #[.pointer x.tb,fr,.slice PA pn pc] W fun e w'=>(∃us,e=.returned (.tuple #[.agg us.toArray,.bool true])/\Wo fr y us w')/\Ext W w'):=θ fun W e=>by
   refine(HBe.o W (e7.trans e) PA pn pc (afS.ext e)).mono ?_;rintro e9 w9 ⟨x9,⟨h9,_⟩|⟨y9,q,h9,rfl,_⟩⟩
   .rw[Vq]at h9;cases h9
   .rw[Vq]at h9
    cases h9
    exact⟨⟨_,rfl,q,rfl⟩,x9⟩
  clear Vq;obtain⟨M,hM,hMt⟩:∃M,(∀k,T k<=M)/\t+20<=M:=by obtain⟨M,hM⟩:=Ns HU.o;exact⟨M+t+20,fun k=>aF (hM k) η,η⟩
  have SC:pI (eG tp ops (fr:Nat) G0 (al.take y.done)):=jc tp ops _ _ HG0.o;have al6:=adE.o y.done hyl;have afU:=Hpy.o y hym;rw[hye]at afU;have afU:=θ afU;generalize eG tp ops (fr:Nat) G0 (al.take y.done)=G1 at*;go_wp2_with fail;apply jx (F1:=99) (F2:=99) (R:=fC W7.heap.size) (Rs:=UW 14 13 W7.heap.size 136) (J:=fun _ _=>True) ey ey (nV _) (fun _ _ W=>.inl (Ext.refl W)) (fun _ _ h=>h.size) (fun _ _ _ _ _ _ _ _ _=>trivial) (fun _ _ _=>Wt) (fC.lQ (Ext.drew _) (aq _)) (fun _=>trivial);intro σ;apply vS (fun _ _ _ _=>trivial);apply vS (fun _ _ _ _=>trivial);apply vS (fun _ _ _ _=>trivial);apply vS (fun _ h _ _=>(fC.jZ h).cell c4);apply vS (fun _ _ _ _=>trivial);apply vS (fun _ _ _ _=>trivial);apply vS (fun _ _ _ _=>trivial);apply vS (fun _ h _ _=>(fC.jZ h).cell c8);apply vS (fun _ _ _ _=>trivial);apply lcS (p:=Sr 9 (fun us=>.tuple #[.agg us.toArray,.bool true]) (Wo fr y)) Γ Γ (Sr.keeps (Wo.aQ fr _ y))
  .intro W hR hJ υ;refine(HC.o W (fC.jZ hR)).mono ?_;rintro e w' ⟨⟨us,rfl,hg⟩,ee⟩;exact⟨_,rfl,fC.lQ ee hR.size,.inl ee,us,iS,hg⟩
  simp only[pu];apply jy (p:=Sr 10 (fun us=>.tuple #[.agg us.toArray,.bool true]) (Wo fr y)) Γ Γ (Sr.keeps (Wo.aQ fr _ y))
  .rfl
  .intro W hR hJ υ;obtain⟨us,e1,hg⟩:=υ.1 rfl;refine⟨_,W,?_,nV _ _,.inl (Ext.refl _),us,iS,hg⟩;simp only[e1];go_simp;first|done|rfl
  simp only[pu];apply jy (p:=Sr 11 (fun us=>.agg us.toArray) (Wo fr y)) Γ Γ (Sr.keeps (Wo.aQ fr _ y))
  .rfl
  .intro W hR hJ υ;obtain⟨us,e1,hg⟩:=υ.1 rfl;refine⟨_,W,?_,nV _ _,.inl (Ext.refl _),us,iS,hg⟩;simp only[e1];go_simp;first|done|rfl
  simp only[pu];apply kj (u:=.bool true) Γ Γ (nV _) (fun _ _ W=>.inl (Ext.refl W))
  .rfl
  .intro W hR hJ υ;obtain⟨us,e1,hg⟩:=υ.2.1 rfl;simp only[e1];go_simp;first|done|rfl
  simp only[pu];apply jy (p:=gsA W7.heap.size 13 136) Γ Γ gsA.keeps
  .rfl
  .intro W hR hJ υ;refine⟨.pointer W.heap.size,W.alloc (.cells zB.toArray 136),?_,fC.lQ (Ext.alloc _ _) hR.size,.inl (Ext.alloc _ _),W.heap.size,iS,hR.size,zB,⟨_,_,_,_,_,_,_,rfl⟩,heap_alloc_new W _⟩;unfold zB;go_simp;first|done|rfl
  simp only[pu];apply nM (p:=gsS W7.heap.size 13 136 (Wo fr y)) Γ Γ (gsS.keeps (Wo.aQ fr _ y) ey)
  .rfl
  .intro W hR hJ υ;obtain⟨g8,e8,hm8,hs8⟩:=υ.1 rfl;obtain⟨us,e1,hg⟩:=υ.2.1 rfl;obtain⟨W2,r1,r2,r3,r4⟩:=MP (P:=prog) (K:=14) (al:=13) (m:=W7.heap.size) (σ:=σ) (Wo.aQ fr _ y) nX hm8 hs8 hg e8 Γ;exact⟨W2,r1 _ _ _ _ rfl e8 e1,r2 hR.size,r3,r4⟩
  simp only[rC];apply vS (fun _ _ _ _=>trivial);refine sX ?_;intro Wx hR gT υ;obtain⟨gx,us,e8,N0,hG8,Mf⟩:=υ.1 rfl;have ak:=fC.jZ hR;clear υ gT hR;rw[e8];generalize σ 9=s9 at*;generalize σ 10=s10 at*;generalize σ 11=s11 at*;generalize σ 13=s13 at*;generalize σ 14=s14 at*;clear e8;obtain⟨q,rfl⟩:=hG8;have e8:=e7.trans ak;have a8:=a7.ext ak;have e48:=θ (E47.o.trans ak);have anF:=ak.size;generalize hWZ:Wx=W8 at*;clear hWZ ak;obtain⟨T2,bq⟩:∃T2:Tg,T2=fun k=>if k=g6 then M+1 else T k:=⟨_,rfl⟩
  have h2g:T2 g6=M+1:=by rw[bq];exact if_pos rfl
  have h2o:∀k,k≠g6->T2 k=T k:=fun k hk=>by rw[bq];exact if_neg hk
  clear bq;have hu:Θ W8 T2:=fun k hk=>by rw[h2o k η];exact HU.o k (by have:=e8.size;omega)
  have Nk:Kept T T2:=fun k hk=>h2o k fun e=>hk (by rw[e];exact HU.o g6 hg6);have hgT:T2 gx=0:=by rw[h2o gx η];exact HU.o gx (by have:=e7.size;omega)
  have b9:Has W8 T2 0 gx (we fr y q):=⟨hgT,_,Mf⟩;have k3:=b9.zc 3;have k4:=b9.zc 4;have uA:¬T2 gx=M+1:=by rw[hgT];omega
  have agL:t≠M+1:=by have:=hM b;omega
  have Oe:=(HH.o.ext e8).kept η Nk;have MQ:=(HS.o.ext e8).kept η Nk;have ajn:∀k,In (t+7) 5 k->¬k=M+1:=fun k hk=>sL;have al7:=θ fun W (hR:oR (· = M+1) T2 W8 W)=>afU.o W T2 (Oe.ο (hR.ο hu) agL) (MQ.ο (hR.ο hu) ajn);have a8h:Has W8 T2 (M+1) g6 (u9 (af .i32) G0):=⟨h2g,_,a8⟩;have HA8:=θ a8h;have al8:(u9 (af .i32) G1).length=32:=by rw[xN,SC.1]
  have aik:∀u∈u9 (af .i32) G1,u.oneCell'=true:=by intro u hu;obtain⟨x,_,rfl⟩:=fK.1 hu;rfl
  clear b9 Mf Oe MQ a8h;go_wp2_with fail;apply GG (oR (· = M+1) T2) (Bj 6 (· = M+1) T2) (oJ 6 _) (oJ.start _ _);repeat apply gF (fun _ h _ _=>h.cell k4 uA)
  apply nF Γ Γ
  .rfl
  .intro W;go_simp;exact⟨rfl,rfl⟩
  .intro W hR hJ υ
   refine((fun W hR=>al7.o W hR) W hR).mono ?_;rintro e w' ⟨rfl,ee⟩;have ex:Ext W w':=by first|exact ee|(subst ee;exact Ext.refl _)
   exact⟨rfl,oR.ai ex,.inr ex⟩
  simp only[pu];repeat apply gF (fun _ h _ _=>h.cell k3 uA)
  apply gQ (p:=fun _ W=>Has W T2 (M+1) g6 (u9 (af .i32) G1)) Γ Γ (fun j hj v w w' h hR=>by
   rcases hR with ⟨h9,_⟩|h9
   .exact absurd h9 hj
   .exact h.ext h9)
  .rfl
  .intro W hR hJ υ;obtain⟨W2,h2,h3,h1⟩:=sE (P:=prog) 205 (us:=u9 (af .i32) G1) (HA8.o.ext (hJ rfl)) al8 oh bu aik;have hmv:oR (· = M+1) T2 W W2:=⟨h3.os,h3.tape,h3.output,h3.size,fun k hk hn=>h3.block k hk (fun e=>hn (by cases e;exact h2.1))⟩;exact⟨W2,h1 _ _ _ _ rfl rfl rfl,hmv,.inl ⟨rfl,hmv⟩,h2⟩
  intro v6;simp only[rC];repeat apply gF (fun _ _ _ _=>trivial)
  refine aP ?_;intro Wy hR gT υ;have hZ:=υ.1 rfl;clear υ gT;have Ko:W8.grownBy Wy (some g6):=⟨hR.os,hR.tape,hR.output,hR.size,fun k hk hne=>hR.block k hk fun e=>by
   by_cases h9:k=g6
   .exact hne (by rw[h9])
   .rw[h2o k h9]at e;have:=hM k;omega⟩
  have e9:Ext w Wy:=Ext.own (B:=some ⟨g6,0,none⟩) e8 Ko (fun k hk=>by have h9:g6=k:=kI.inj hk;omega);have ajE:=al4.o.keep e48.o al5 Ko;obtain⟨_,ty9,a9⟩:=hZ;have a9:sH Wy g6 ty9 (u9 (af .i32) G1):=a9;clear Ko hR k3 k4;have hyd:y.done<=pn:=η;generalize y.done=kd at*;go_wp2_with fail;have b1:=e9.cell b1;have b2:=e9.cell b2;have b8:=e9.cell B8.o;have hdr:=ajE.drop (k:=kd) hyd;obtain⟨PA',al9⟩:∃q,(if pc=kd then PA else PA.map (·.add kd))=q:=⟨_,rfl⟩;rw[al9]at hdr;have afT:=θ fun W (e:Ext Wy W)=>yu.o W (e9.trans e) PA' (pn-kd) (pc-kd) (al.drop kd) (hdr.ext e) tU G1 SC kd η;rw[al6]at afT;have hlG:(u9 (af .i32) (G1)).length=32:=by rw[xN,(SC).1]
  have J1:=ajE.max;unfold maxLen at J1;have hww:=ej ((fr:Int)+(kd:Nat));apply iL trivial;repeat apply kZ b1 b2
  apply lT (u:=.agg (u9 (af .i32) (G1)).toArray) Ext.refl
  .rfl
  .intro W hR υ;exact mQ 205 (.tmp 6) rfl rfl underlying205 bu (a9.ext hR) hlG
  simp only[pu];repeat apply nh b8
  apply jD (fun W hR=>afT.o W hR);apply BC (p:=fun u W=>∃B d,u=.slice B 128 d/\Rb W B 128 d (kC GD)) (fun _ _ _ ⟨B,bd,hv,h1⟩ he=>⟨B,bd,hv,h1.ext he⟩)
  .intro W hR υ;refine(nK.o W).mono ?_;rintro e w' ⟨B,bd,rfl,ho,he⟩;exact⟨_,rfl,he,B,bd,rfl,ho⟩
  intro v12;simp only[pu];repeat apply iO (fun _ _ _=>trivial)
  apply dL (p:=fun u W=>∃B d,u=.slice B 128 d/\Rb W B 128 d (kC GD)) (fun _ _ _ ⟨B,bd,hv,h1⟩ he=>⟨B,bd,hv,h1.ext he⟩)
  .rfl
  .intro W hR υ;obtain⟨B,bd,rfl,ho⟩:=υ.1 rfl;refine⟨_,W,?_,Ext.refl _,B,bd,rfl,ho⟩;go_simp;first|done|rfl
  intro YQ;simp only[pu];repeat apply iO (fun _ _ _=>trivial)
  refine lex_nil ?_;intro Wx ak υ;obtain⟨B2,bd,rfl,oQ⟩:=υ.1 rfl;clear υ;go_wp2;go_ret2
  exact⟨B2,bd,rfl,oQ,e9.trans ak⟩
end
section
variable {w w':κ}{T T':Tg}{t b:Nat}{cf:Cf}{me:Nat}{tp:aD}{ops:List dM}{x:Mx}{c c':Cr}{s:Ms}{B:Nat}
theorem Nt(h:fJ w T t b cf me tp ops c B)(ht:0<t)(hu:Θ w T)(hk:bz cf me c [])(mY:tp.length<=1099511627776)(hB:B<=700000000):τ prog 255 #[π b] w (if c.head me<=c.front then Shown w (aC tp ops c.ls c.front) c.front else Shown w (mU tp ops cf.bD cf.order me c) (c.head me)):=by
 obtain⟨x,s,h,hf,hl,_⟩:=h;split
 .rename_i e;exact DB h hf hk mY e
 .rename_i e;exact Cu h ht hu hf η hk mY e
end
def Vr(t i k:Nat):Prop:=(i=7/\In (t+7) 5 k)\/(i=13/\k=t)
def nwC(gb:Nat)(p:cJ):Prop:=p.block=gb/\p.off≠7
theorem KM(h:¬In (t+7) 5 k)(h2:k≠t):¬Vr t j k:=fun e=>by
 rcases e with e|e
 .exact h e.2
 .exact h2 e.2
theorem KN(hj:j≠13):¬Vr t j t:=fun e=>by
 rcases e with e|e
 .have:=e.2;unfold In at this;omega
 .exact hj e.1
theorem adF(hj:j≠7)(h:In (t+7) 5 k):¬Vr t j k:=fun e=>by
 rcases e with e|e
 .exact hj e.1
 .have:=e.2;unfold In at h;omega
section
variable {w w':κ}{T T':Tg}{t b:Nat}{cf:Cf}{me:Nat}{tp:aD}{ops:List dM}{x:Mx}{c c':Cr}{s:Ms}{B:Nat}
theorem aaf:(prog.info? 113).map (fun i=>(i.zero,i.size,i.bytes))=some (some (.pointer none),1,8):=ey
theorem aag(w:κ):τ prog 139 #[] w fun e w'=>e=.returned (π w.heap.size)/\w'=w.alloc (.cells #[.slice none 0 0] 214):=by unfold π;go_enter func139,ntmps139;go_wp2;go_ret;exact⟨rfl,rfl⟩
theorem aZ.rZ{ty:TypeId}(h:aZ w T t b n free last gs)(hn:0<n)(hj:w.heap[jb]?=some (.cells #[.slice none 0 0] ty (0,0)))(hT:∀k,k≠jb->T' k=T k):aZ w T' t b n free last gs:=by
 obtain⟨rb,g,mb,rf,vs,ps,h,h2⟩:=h;have cj:∀o v,w.cell? ⟨jb,o,none⟩=some v->v=.slice none 0 0:=fun o v hv=>by
  rw[cell_of_row _ _ _ _ _ _ hj]at hv;cases o with
  |zero=>simpa using hv.symm
  |succ o=>simp at hv
 have DR:∀{t' b':Nat}{vs:List ξ},Has w T t' b' vs->vs.length≠1->b'≠jb:=fun {t' b' vs} h hl e=>by
  obtain⟨_,ty',h9⟩:=h;rw[e,hj]at h9;have h8:=congrArg (fun q:Option Obj=>match q with|some (.cells a _ _)=>a.size|_=>0) h9;simp at h8
  omega
 have e1:b≠jb:=DR h.hd (by simp[za]);have e2:mb≠jb:=fun e=>by obtain⟨D,⟨es,cl,h9,_⟩,_⟩:=h.Ay;rw[e,hj]at h9;cases h9
 have e3:rb≠jb:=fun e=>by have h9:=h.room.hd;rw[e]at h9;cases cj _ _ h9
 have e4:g≠jb:=fun e=>by have h9:=h.room.refs 0 hn;rw[e]at h9;cases cj _ _ h9
 refine⟨rb,g,mb,rf,vs,ps,⟨⟨by rw[hT _ e1];exact h.hd.1,h.hd.2⟩,by rw[hT _ e2];exact h.tm,by rw[hT _ e3];exact h.tr,by rw[hT _ e4];exact h.tg,h.Ay,h.room,fun p hp=>?_⟩,h2⟩;have h9:=h.vh p hp;have e5:p.bl≠jb:=DR h9 (by rw[J3,eU,xN,h2.1.four p hp];decide)
 exact⟨by rw[hT _ e5];exact h9.1,h9.2⟩
theorem ama.fresh{w w':κ}{T T':Tg}{t:Nat}(hT:Ξ (fun _=>False) w T w' T')(h1:w.heap.size<=jb)(h2:w'.heap[jb]?=some (.cells #[.slice none 0 0] 214 (0,0))):Ξ (fun _=>False) w T w' (fun k=>if k=jb then t else T' k)/\jh w' (fun k=>if k=jb then t else T' k) t jb:=by
 refine⟨⟨hT.os,hT.tape,hT.output,hT.size,hT.block,fun k hk=>?_,fun k hk=>?_⟩,none,0,0,η,⟨?_,_,h2⟩,⟨aq _,aM _,fun _=>rfl,fun a h=>by cases h⟩⟩
 .show(if k=jb then t else T' k)=T k
  rw[if_neg η];exact hT.tag k hk
 .show(if k=jb then t else T' k)=0
  have:=(gy.1 h2).1;rw[if_neg η];exact hT.Δ k hk
 .show(if jb=jb then t else T' jb)=t
  rw[if_pos rfl]
theorem Vs(n d:Nat)(hn:0<n):(Cr.new n d).front=d:=by
 obtain⟨k,rfl⟩:∃k,n=k+1:=⟨n-1,η⟩;unfold Cr.front Cr.new;simp only[aaR,cn,gO];have h:∀j m:Nat,(cP j (cP d (0:UInt8))).foldl (fun n x=>min n x.length) d=d:=by
  intro j;induction j with
  |zero=>intro _;rfl
  |succ j ih =>intro m;rw[aaR,List.foldl_cons,gO,Nat.min_self];exact ih m
 exact h k 0
theorem aeK(m:Nat):wp (cP m SG)=[]:=by
 unfold wp;induction m with
 |zero=>rfl
 |succ m ih=>rw[aaR,List.flatMap_cons,ih];rfl
theorem Ba.new(tp:aD)(ops:List dM)(fr:Nat){G:List Int}(hG:pI G)(m:Nat):Ba tp ops fr 1 G [(1,G)] 0 [] (cP m SG) :=
 ⟨bT,hG,bT,bT,fun x h=>by simp at h,fun k hk hb=>by rw[(List.mem_replicate.1 hk).2]at hb;exact absurd hb Γ,by rw[aeK];exact List.Perm.refl _⟩
def QF(xb:Nat)(tp:aD)(A:aS)(an ad sb:Nat)(tr:ξ)(jb:Nat)(WA:aS)(wn wc base fr:Nat):List ξ:=[π xb,.string (bs tp),.slice A an ad,π sb,tr,π jb,.slice WA wn wc,.int .i64 (base:Nat),.int .i64 (fr:Nat)]
structure acv(w:κ)(T:Tg)(t:Nat)(cf:Cf)(me:Nat)(tp:aD)(l:List dM)(gc xb cb qb:Nat)(ps:Nat->Nat)(sb jb free last:Nat)(gs:List (Nat×List Int))(B:aS)(n bd:Nat)(c:Cr):Prop where
 cf_:Has w T 0 gc (aA cf me)
 op:Row w T (t+1) 127 4 B n bd (Ab l)
 st:aZ w T (t+7) sb (4*cf.room) free last gs
 jo:jh w T (t+14) jb
 pl:bN w T (t+16) xb cf me tp l cb qb ps c c.front
theorem acv.ο{gc xb cb qb sb bd:Nat}{ps:Nat->Nat}{l:List dM}{B:aS}(h:acv w T t cf me tp l gc xb cb qb ps sb jb free last gs B n bd c)(mj:c.ls.length<=8)(hT:Ξ S w T w' T')(h0:¬S 0)(h1:∀k,In t 40 k->k≠t->k≠t+2->¬S k):acv w' T' t cf me tp l gc xb cb qb ps sb jb free last gs B n bd c :=
 ⟨h.cf_.ο hT h0,h.op.ο hT (h1 _ cN η η),h.st.ο hT (fun k hk=>h1 _ iw iw iw),h.jo.ο hT (h1 _ cN η η) (h1 _ cN η η),h.pl.ο hT (fun k hk=>h1 _ iw iw iw)⟩
def aeL(w:κ)(T:Tg)(t b:Nat)(n:Nat)(C0:Option cJ->Nat->Nat->List ξ)(K:List ξ)(iv:ξ)(wr:κ):Prop :=
 ∃(k:Nat) (T':Tg) (WA:aS) (wc:Nat) (wb:List Nat),iv=.int .i64 (k:Nat)/\k<=n/\wb.length=k/\Ξ (fun j=>j=t\/j=t+2) w T wr T'/\Has wr T' t b (C0 WA wb.length wc)/\Row wr T' (t+2) 113 1 WA wb.length wc (wb.map π)/\∀(i:Nat) q,wb[i]?=some q->Has wr T' (t+3+i) q K
theorem ab2(w:κ)(T:Tg)(hu:Θ w T)(cf:Cf)(me:Nat)(aT:jA cf)(DT:me<cf.n)(t:Nat)(ht:0<t)(ru:∀k,k<w.heap.size->¬In t 40 (T k))(tp:aD)(l:List dM)(sJ:Ro w A n d l)(mY:tp.length<=1099511627776)(DJ:fD tp l = -1)(Ol:l.length<=64):τ prog 97 #[iC cf me,fX tp A n d,.slice none 0 0] w (cG (fun _=>False) w T fun v w' T'=>∃b,v=.tuple #[π b,(0:Int)]/\fJ w' T' t b cf me tp l (Cr.new cf.n cf.Ω) 10):=by
 have DX:=θ fun W (e:Ext w W)=>I3 W T (hu.ext e) cf me aT DT (t+16) η (fun k hk jI=>by
  by_cases h:k<w.heap.size
  .exact ru k h iw
  .rw[hu k η]at jI;unfold In at jI;omega) tp l (sJ.ext e) mY DJ Ol
 have Hop:=θ (Lq l);have QG:=θ (show(Cr.new cf.n cf.Ω).ls.length<=8 by simp only[Cr.new,gO];exact aT.n8);have h41:1<=cf.room:=by have:=aT.XX;omega
 have E4:=θ fun W T1 (h1:Θ W T1)=>Y9 W T1 h1 (t+7) η cf.room h41 aT.room;have Hjo:=θ fun W=>aag W;unfold iC fX at*;go_enter func97,ntmps97;go_upto_region 1 with fail
 have x0:=(Ext.alloc w (.cells (aA cf me).toArray 26)).trans (Ext.alloc _ (.cells #[.string (bs tp),.slice A n d] 65));have hb:=(Has.new w (fun _=>0) (aA cf me) 26 rfl).2;have hp:=(Has.new (w.alloc (.cells (aA cf me).toArray 26)) (fun _=>0) [.string (bs tp),.slice A n d] 65 (b:=w.heap.size+1) bT).2;have hb:Has _ T 0 w.heap.size _:=(show Has _ T 0 w.heap.size _ from⟨hu _ (aq _),hb⟩).ext (Ext.alloc _ (.cells #[.string (bs tp),.slice A n d] 65));have hp:Has _ T 0 (w.heap.size+1) _:=⟨hu _ η,hp⟩;unfold aA at*;generalize hW:aB (aB w _) _=W0 at*;obtain⟨gc,oN⟩:∃gc,gc=w.heap.size:=⟨_,rfl⟩;obtain⟨gp,tK⟩:∃gp,gp=w.heap.size+1:=⟨_,rfl⟩;rw[←tK]at hp⊢;rw[←oN]at hb⊢;have ZL:=θ (show w.heap.size<=gp by omega);have Hne:=θ (show gc≠gp by omega);clear hW oN tK;have Dz:[af .i64 (cf.n:Nat),.int .i64 (me:Nat),.int .i64 (cf.id:Nat),.int .i64 (cf.Ω:Nat),.int .i64 (cf.χ:Nat),.int .i64 (cf.bD:Nat),.int .i64 (cf.order:Nat),.int .i64 (cf.aR:Nat),.int .i64 (cf.workers:Nat),.int .i64 (cf.room:Nat)].length=10:=rfl;have hbA:=hb.all;have p0:=hp.zc 0;have p1:=hp.zc 1;have HB:=θ hb;have HP:=θ hp;clear hb hp;go_wp2_with (first|(with_reducible refine bI rfl 26 (.tmp 3) rfl rfl underlying26 qB Dz hbA ?_))
 refine(DX.o W0 x0).mono ?_;rintro e w1 ⟨v,rfl,T1,cw,xb,cb,qb,ps,rfl,BU⟩;have x1:Ext W0 w1:=⟨cw.os,cw.tape,cw.output,cw.size,fun k hk=>cw.block k hk (fun h=>h)⟩;have hp1:=HP.o.ο cw (fun h=>h);have amb:Ro w1 A n d l:=sJ.ext (x0.trans x1);have l8:=θ ((Ξ.ai (fun _=>False) hu x0).trans cw);have HP1:=θ BU;have Kp:=θ (HB.o.ο cw (fun h=>h));have p1:=hp1.zc 1;have Ul:=sJ.len;have alJ:n<=64:=η;have agU:∀u∈Ab l,u.oneCell'=true:=Hop.o;clear Ul x1 cw BU p0 hbA;obtain⟨i0,hi,dx,dA,dN⟩:=info_parts M6;go_upto_region 5 with (at_builtin;refine gq _ rfl _ _ 63 rfl w1.heap.size 127 i0 (.agg #[(0:Int),(0:Int),(0:Int),(0:Int)]) 4 32 underlying63 hi dx dA dN rfl Γ rfl A n d _ rfl amb agU iQ η (aq _) ?_;intro B2 zx w5 Wf e5;have hp5:=hp1.ext e5;have q1:=hp5.zc 1;have qf:=hp5.free 1)
 have hTu:=l8.o.Δ;obtain⟨ye,mz⟩:=Row.fresh hTu Wf e5 (t+1);have Va:give T1 (Proofs.YtffcefoadaogbaaGreat.went none B2) (t+1) gp=0:=by rw[ye.tag gp hp1.lt];exact hp1.1
 have ajF:give T1 (Proofs.YtffcefoadaogbaaGreat.went none B2) (t+1) gc=0:=by rw[ye.tag gc Kp.o.lt];exact Kp.o.1
 have kq:Ξ (· = 0) w5 (give T1 (Proofs.YtffcefoadaogbaaGreat.went none B2) (t+1)) (w5.setCell (gp,1) (.slice B2 n zx)) (give T1 (Proofs.YtffcefoadaogbaaGreat.went none B2) (t+1)):=Ξ.Et ye.Δ _ _ Va;have hP5:=(HP1.o.ο ye (fun _ _ h=>h)).ο kq (fun k hk=>sL);have hR5:=mz.ο kq η;have hp6:=(hp5.of Va).set 1 (.slice B2 n zx);have hb6:=(((Kp.o.ext e5).of ajF).nH (a:=⟨gp,1,none⟩) (by exact fun e=>Hne.o e.symm) (.slice B2 n zx));have hTw:=((l8.o.trans ye).set ⟨gp,1,none⟩ (.slice B2 n zx) (.inr ZL.o));generalize give T1 (Proofs.YtffcefoadaogbaaGreat.went none B2) (t+1)=T5 at*;generalize hW6:dG w5 _ _=w6 at*;have p0:=hp6.zc 0;have p1:=hp6.zc 1;have k9:=hb6.zc 9;have HP5:=θ hP5;have HR5:=θ hR5;have M8:=θ hTw;have HB6:=θ hb6;clear hW6 kq mz ye hp5 q1 qf hP5 hR5 hTw hb6 hp6 hp1 Va ajF hTu;have hu6:=M8.o.Δ;apply lG 6;simp only[tk];repeat apply DH p0 p1 k9
 apply BC (p:=fun u W=>∃T' sb,u=π sb/\Ξ (fun _=>False) w6 T5 W T'/\aZ W T' (t+7) sb (4*cf.room) (4*cf.room) 0 []) (fun _ _ _ ⟨T',sb,h1,h2,h3⟩ he=>⟨T',sb,h1,h2.ext he,h3.ext he⟩)
 .intro W hR υ;refine(E4.o W T5 (hu6.ext hR)).mono ?_;rintro e w' ⟨v,rfl,T',GM,sb,rfl,hq⟩;exact⟨_,rfl,⟨GM.os,GM.tape,GM.output,GM.size,fun k hk=>GM.block k hk (fun h=>h)⟩,T',sb,rfl,(Ξ.ai _ hu6 hR).trans GM,hq⟩
 intro v1;simp only[pu];apply BC (p:=fun u W=>∃jb,u=π jb/\w6.heap.size<=jb/\W.heap[jb]?=some (.cells #[.slice none 0 0] 214 (0,0))) (fun _ _ _ ⟨jb,h1,h2,h3⟩ he=>⟨jb,h1,h2,by rw[he.block jb (by have:=gy.1 h3;exact this.1)];exact h3⟩)
 .intro W hR υ;refine(Hjo.o W).mono ?_;rintro e w' ⟨rfl,rfl⟩;exact⟨_,rfl,Ext.alloc _ _,W.heap.size,rfl,hR.size,heap_alloc_new W _⟩
 intro v2;simp only[pu];refine lex_nil ?_;intro Wx ak υ;obtain⟨jb,rfl,Zv,hj⟩:=υ.1 rfl;obtain⟨T9,sb,rfl,II,hS9⟩:=υ.2.1 rfl;clear υ;simp only[dk];obtain⟨hTj,hJj⟩:=ama.fresh (t:=t+14) II Zv hj;have hSj:=hS9.rZ (T':=fun k=>if k=jb then t+14 else T9 k) η hj (fun k hk=>by show(if k=jb then t+14 else T9 k)=T9 k;rw[if_neg hk]);generalize (fun k=>if k=jb then t+14 else T9 k)=Tj at*;have HSj:=θ hSj;have HJj:=θ hJj;have HPj:=θ (HP5.o.ο hTj (fun _ _ h=>h));have HRj:=θ (HR5.o.ο hTj (fun h=>h));have HBj:=θ (HB6.o.ο hTj (fun h=>h));have HTj:=θ (M8.o.trans hTj);unfold π at*;clear hSj hJj hTj hS9 II hj p0 p1 k9 HP5 HR5 HB6 M8 hu6;go_upto_region 6 with fail
 obtain⟨Nu,GI⟩:=Has.fresh HTj.o.Δ (QF xb tp B2 n zx sb (.pointer none) jb none 0 0 0 0) 112 t;generalize hW7:aB Wx _=w7;have ZN:Wx.alloc (.cells (QF xb tp B2 n zx sb (.pointer none) jb none 0 0 0 0).toArray 112)=w7:=by rw[←hW7];rfl
 rw[ZN]at Nu GI;clear hW7 ZN;generalize Wx.heap.size=gb at*;have hB7:=HBj.o.ο Nu (fun h=>h);have HM7:=θ (show acv w7 _ t cf me tp l gc xb cb qb ps sb jb _ _ _ B2 n zx _ from⟨hB7,HRj.o.ο Nu (fun h=>h),HSj.o.ο Nu (fun _ _ h=>h),HJj.o.ο Nu (fun h=>h) (fun h=>h),HPj.o.ο Nu (fun _ _ h=>h)⟩);have FE:=θ (HTj.o.trans Nu);have hu:=FE.o.Δ;clear Nu HSj HJj HPj HRj HBj HTj;generalize give Tj (one gb) t=T7 at*;have b3:=GI.zc 3;have k7:=hB7.zc 7;have Htr:=θ fun W (e:Ext w7 W)=>Ze W T7 (hu.ext e) (t+12) sb cf.aR aT.aR cf.Ω;have hgT:Grow (fun v w' T'=>∃q,v=π q/\fB w' T' (t+12) q sb cf.aR 0 0 cf.Ω []):=by rintro v w T w' ⟨q,h1,h2⟩ e;exact⟨q,h1,h2.ext e⟩
 have HH7:=θ GI;clear GI hB7;unfold π at*;apply Ar 8 (oR (fun _=>False) T7) (Bj 7 (fun _=>False) T7) (oJ 7 _) (oJ.start _ _);simp only[tk];repeat apply gF (fun _ hR _ _=>aj (hR.cell b3 (fun h=>h)) (hR.cell k7 (fun h=>h)))
 apply uI (p:=oP _ _ _ _) Γ Γ (oP.aQ hgT _)
 .intro W hR hJ υ;exact jz hu (hJ rfl) ((Htr.o) W (hJ rfl))
 intro v7;simp only[pu];refine aP ?_;intro Wx hR gT υ;obtain⟨T1,cw,Oq,rfl,ye⟩:=υ.1 rfl;clear υ gT;simp only[dk];have hHa:=HH7.o.ο cw (fun h=>h);have hMa:=HM7.o.ο QG.o cw (fun h=>h) (fun _ _ _ _ h=>h);have Sg:=θ (FE.o.trans cw);have b4:=hHa.zc 4;have f4:=hHa.free 4;obtain⟨kq,FY⟩:=hHa.put (S:=(· = t)) cw.Δ 4 (π Oq) rfl;have HHb:=θ FY;have HMb:=θ (hMa.ο QG.o kq η (fun k _ h _ e=>h e));have HRb:=θ (ye.ο kq η η η);have HTb:=θ kq;clear hHa hMa ye cw kq FY b3 k7 HM7 HH7 Htr hgT FE hu;unfold π at*;go_upto_region 7 with fail
 generalize hWb:dG Wx _ _=w8 at*;have k8:=HMb.o.cf_.zc 8;clear hWb b4 f4 dx dA dN hi i0;obtain⟨i0,hi,dx,dA,dN⟩:=info_parts aaf;go_upto_region 8 with fail
 have amc:=θ HTb.o.Δ;go_loopw [45] (fun iv wr=>aeL w8 T1 t gb cf.workers (fun WA wn wc=>QF xb tp B2 n zx sb (π Oq) jb WA wn wc 0 0) (Nl tp B2 n zx Oq jb sb SG) iv wr) (fun iv _=>cf.workers-(intOf iv).toNat)
 case atStart=>exact⟨0,T1,none,0,[],rfl,aM _,rfl,Ξ.refl _ amc.o,HHb.o,Row.dR _ _ _ _ _,fun i q h=>by simp at h⟩
 case round =>
  obtain⟨k,T0,WA,wc,wb,rfl,hk,JQ,hT,hH,fO,hL⟩:=hrel;have jU:=hT.Δ;have Sd:=aT.workers;by_cases jk:k<cf.workers
  .have jF:=dQ ((k:Int)<(cf.workers:Int))
   have akN:wb.length<=7:=η;have c1:=hH.zc 1;have c2:=hH.zc 2;have c3:=hH.zc 3;have c4:=hH.zc 4;have c5:=hH.zc 5;have c6:=hH.zc 6;have hne:=hH.jY fO η;have mA:sA (t+2) (fun v w T=>∃lb,v=.pointer (some ⟨lb,0,none⟩)/\Has w T (t+3+wb.length) lb (Nl tp B2 n zx Oq jb sb SG)):=by rintro v w T w' T' ⟨lb,rfl,h⟩ hT;exact⟨lb,rfl,h.ο hT η⟩
   have eo:∀(v:ξ) (w:κ) (T:Tg),(∃lb,v=.pointer (some ⟨lb,0,none⟩)/\Has w T (t+3+wb.length) lb (Nl tp B2 n zx Oq jb sb SG))->v.cells.toList.length=1/\∀y∈v.cells.toList,y.oneCell'=true:=by rintro v w T ⟨lb,rfl,_⟩;exact⟨rfl,Gu⟩
   have HC:=fun W (hR:gR WA wr W)=>aeF W T0 (fun k hk=>jU k (aF hR.size hk)) (t+3+wb.length) tp B2 n zx Oq jb sb;have HH:=θ hH;have HL:=θ hL;have HT:=θ hT;have V2:=θ JQ;unfold fX π at*;clear hH hL hT JQ;go_wp2_with fail;generalize KZ:wr=w0 at*;have eL:=(fO).1;have cU:=(fO).cond;apply Ar 24 (gR WA) (oM 23 WA) (BL 23 113 1 WA wb.length wc (wb.map π)) (BL.start eL);simp only[tk];repeat apply gF (fun _ h _ _=>aj (h.cell c1 hne) (aj (h.cell c2 hne) (aj (h.cell c3 hne) (aj (h.cell c4 hne) (aj (h.cell c5 hne) (h.cell c6 hne))))))
   apply uI (p:=uO T0 w0.heap.size (fun v w T=>∃lb,v=.pointer (some ⟨lb,0,none⟩)/\Has w T (t+3+wb.length) lb (Nl tp B2 n zx Oq jb sb SG))) Γ Γ (uO.aQ mA cU _)
   .intro W hR hJ υ;exact uO.call (fun k hk=>jU k (aF hR.size hk)) hR.size (HC W hR)
   intro v1;simp only[pu];try ((repeat (apply j7 Γ Γ (gR.refl _) (oM.refl _ _);(· rfl);(· intro W hR hJ υ;go_simp;first|done|with_reducible rfl);simp only[pu])))
   apply aE (p:=dI T0 w0.heap.size (fun v w T=>∃lb,v=.pointer (some ⟨lb,0,none⟩)/\Has w T (t+3+wb.length) lb (Nl tp B2 n zx Oq jb sb SG)) 113) Γ Γ (dI.aQ mA cU _)
   .rfl
   .intro W hR hJ υ;have hF:=υ.1 rfl;have hB:=dI.made (e:=113) mA hR.size hF;obtain⟨T9,EK,yX,TL⟩:=hF;obtain⟨lb,rfl,hlb⟩:=TL;refine⟨_,_,?_,(Ext.alloc _ _).grownBy _,.inr (Ext.alloc _ _),hB⟩;go_simp;first|done|rfl
   intro v2;simp only[pu];apply aE (p:=mO T0 w0.heap.size (fun v w T=>∃lb,v=.pointer (some ⟨lb,0,none⟩)/\Has w T (t+3+wb.length) lb (Nl tp B2 n zx Oq jb sb SG)) (t+2) WA 113 1 (wb.length+1) (wb.map π)) Γ Γ (fun j hj v w w9 h hR=>mO.aQ j hj v w w9 h mA hR)
   .rfl
   .intro W hR hJ υ;exact dF W _ _ 109 rfl 113 i0 (.pointer none) 1 8 underlying109 hi dx dA dN rfl Γ WA wb.length wc ((wb.map π)) rfl (hJ rfl) v2 rfl (υ.1 rfl) eo iQ η cU mA hR.size
   intro v3;simp only[pu];repeat apply gF (fun _ h _ _=>aj (h.cell c1 hne) (aj (h.cell c2 hne) (aj (h.cell c3 hne) (aj (h.cell c4 hne) (aj (h.cell c5 hne) (h.cell c6 hne))))))
   refine aP ?_;intro W hR gT υ;obtain⟨u1,T1,E,Ed,rfl,cw,BU,ja,pJ⟩:=(υ.1 rfl).fin hR cU;clear υ gT;simp only[dk];obtain⟨lb,rfl,hlb⟩:=BU;have lJ:=HH.o.ο cw η;have c6:=lJ.zc 6;have f6:=lJ.free 6;obtain⟨kq,FY⟩:=lJ.put (S:=(· = t)) cw.Δ 6 (.slice E (wb.length+1) Ed) rfl;have hLs:∀(i:Nat) q,(wb++[lb])[i]?=some q->Has _ T1 (t+3+i) q (Nl tp B2 n zx Oq jb sb SG):=fun i q hq=>by
    by_cases h:i<wb.length
    .rw[List.getElem?_append_left h]at hq;exact((HL.o i q hq).ο cw η).ο kq η
    .rw[List.getElem?_append_right η]at hq
     have e:i=wb.length:=by
      have:=(iN.1 hq).1;simp at this
      omega
     subst e;simp only[Nat.sub_self,List.getElem?_cons_zero,kI.injEq]at hq;subst hq;exact hlb.ο kq η
   have HTs:=θ ((HT.o.trans (cw.mono (fun k h=>.inr h))).trans (kq.mono (fun k h=>.inl h)));have HLs:=θ hLs;have HHs:=θ FY;have HRs:=θ (ja.ο kq η);clear lJ hlb ja cw kq FY hLs;go_wp2;go_roundw
   case rel =>have vp:(wb++[lb]).length=wb.length+1:=bT;refine⟨k+1,T1,E,Ed,wb++[lb],cR,η,by rw[vp,V2.o],HTs.o,by rw[vp];exact HHs.o,?_,HLs.o⟩;rw[vp,gS];exact HRs.o
   case measure=>exact dB
  .obtain rfl:k=cf.workers:=by omega
   have hu:=hT.Δ;have hMe:=HMb.o.ο QG.o hT η (fun k _ h1 h2 e=>by rcases e with e|e;exact h1 e;exact h2 e);have HRe:=θ (HRb.o.ο hT η η η);have c0:=hH.zc 0;have c3:=hH.zc 3;have hTg:T0 gb=t:=hH.1;obtain⟨PA,pn,pd,hPh,_⟩:=hMe.pl.bn;have hPT:¬ ∃i,Vr t i (t+16):=fun⟨i,h⟩=>KM cN η h;have hPS:∀k,In (t+7) 5 k->¬ ∃i,i≠7/\Vr t i k:=fun k hk ⟨i,h1,h⟩=>adF h1 hk h;have Dp:∀j,j≠13->∀(v:ξ) w w',Has w T0 t gb (QF xb tp B2 n zx sb (π Oq) jb WA wb.length wc 1 0)->Dh (Vr t) (nwC gb) T0 j w w'->Has w' T0 t gb (QF xb tp B2 n zx sb (π Oq) jb WA wb.length wc 1 0):=fun j hj v w w' h hR=>h.mh hR.1 (KN hj);have Gp:=θ (show ∀p:cJ,nwC gb p->¬In (t+7) 5 (T0 p.block) from fun p hp h=>by rw[hp.1,hTg]at h;unfold In at h;omega);have ajG:=θ (show ∀p:cJ,nwC gb p->p≠⟨gb,7,none⟩ from fun p hp h=>hp.2 (by rw[h]));have Hg:=θ fun W (hR:yR (Vr t) (nwC gb) T0 wr W)=>wm (hPh.mh hR.1 hPT);have Hmk:=θ fun W (e:yJ (Vr t) T0 wr 7 W)=>at_make (hMe.st.ο (oR.ο e hu) hPS) η (fA tp l (Cr.new cf.n cf.Ω).ls (Cr.new cf.n cf.Ω).front).1 (oR.ο e hu).Δ η η bT;have Je:∀j,j≠7->∀v w w',yP wr T0 (fun v w' T'=>v=.tuple #[((0+1:Nat):Int),.bool true]/\aZ w' T' (t+7) sb (4*cf.room) (4*cf.room-4) (0+1) ([]++[(0+1,aC tp l (Cr.new cf.n cf.Ω).ls (Cr.new cf.n cf.Ω).front)])) v w->Dh (Vr t) (nwC gb) T0 j w w'->yP wr T0 (fun v w' T'=>v=.tuple #[((0+1:Nat):Int),.bool true]/\aZ w' T' (t+7) sb (4*cf.room) (4*cf.room-4) (0+1) ([]++[(0+1,aC tp l (Cr.new cf.n cf.Ω).ls (Cr.new cf.n cf.Ω).front)])) v w':=by refine yP.aQ hu (fun j=>KM cN η) ?_;rintro j hj v w T w' ⟨h1,h2⟩ hT;exact⟨h1,h2.ο hT fun k hk=>adF hj hk⟩
   have HMe:=θ hMe;have HHe:=θ hH;have HTe:=θ hT;have HRw:=θ fO;have HLe:=θ hL;have V2:=θ JQ;unfold π at*;clear hMe hPh hTg hH hT fO hL HMb HRb HHb JQ;go_wp2_with fail;apply GG (yR (Vr t) (nwC gb) T0) (Dh (Vr t) (nwC gb) T0) (yJ (Vr t) T0 _) (yJ.start _ _ _);repeat apply gF (fun _ h _ _=>h.cell ⟨rfl,(Γ:(3:Nat)≠7)⟩ c3)
   apply nF Γ Γ
   .rfl
   .intro W;go_simp;exact⟨rfl,rfl⟩
   .intro W hR hJ υ
    refine((fun W hR=>Hg.o W hR) W hR).mono ?_;rintro e w' ⟨rfl,ee⟩;have ex:Ext W w':=by first|exact ee|(subst ee;exact Ext.refl _)
    exact⟨rfl,yR.ai ex,Dh.ai ex⟩
   simp only[pu];apply uI (p:=yP _ T0 _) Γ Γ (Je)
   .intro W hR hJ υ;exact IJ hu (fun k hk=>.inl ⟨rfl,hk⟩) (Gp.o) hR ((Hmk.o) W hJ)
   intro v9;simp only[pu];repeat apply gF (fun _ _ _ υ=>aew (υ.1 rfl))
   apply gQ (p:=fun _ W=>Has W T0 t gb (QF xb tp B2 n zx sb (π Oq) jb WA wb.length wc 1 0)) Γ Γ Dp
   .rfl
   .intro W hR hJ υ;have h9:=PK HHe.o hJ (fun j hj=>KN hj) (.inr ⟨rfl,rfl⟩) 7 (.int .i64 1) ajG.o;have c7:=(Has.mh HHe.o hJ (fun⟨i,h1,h⟩=>KN h1 h)).zc 7;have f7:=(Has.mh HHe.o hJ (fun⟨i,h1,h⟩=>KN h1 h)).free 7;refine⟨W.setCell (gb,7) (.int .i64 1),?_,h9.1,h9.2.1,h9.2.2⟩;go_simp;first|done|rfl
   intro YQ;simp only[rC];refine aP ?_;intro Wx hR gT υ;have oZ:=υ.1 rfl;obtain⟨T1,cw,_,hS1⟩:=(υ.2.1 rfl).fin hR;clear υ gT;have pN:∀k,¬In (t+7) 5 k->k≠t->¬ ∃i,Vr t i k:=fun k h1 h2 ⟨i,h⟩=>KM h1 h2 h;have nE:acv Wx T1 t cf me tp l gc xb cb qb ps sb jb _ _ _ B2 n zx (Cr.new cf.n cf.Ω):=⟨HMe.o.cf_.ο cw (pN _ cN η),HMe.o.op.ο cw (pN _ cN η),hS1,HMe.o.jo.ο cw (pN _ cN η) (pN _ cN η),HMe.o.pl.ο cw (fun k hk=>pN _ (by have:=QG.o;unfold In at*;omega) sL)⟩;have rG:=θ nE;have amd:=θ (HRw.o.ο cw (pN _ cN η));have ame:=θ (HRe.o.ο cw (pN _ cN η) (pN _ cN η) (pN _ cN η));have amf:=θ (show ∀(i:Nat) q,wb[i]?=some q->Has Wx T1 (t+3+i) q (Nl tp B2 n zx Oq jb sb SG) from fun i q h=>(HLe.o i q h).ο cw (pN _ (by have:=(iN.1 h).1;have:=V2.o;unfold In;omega) η));have CO:Has Wx T1 t gb (QF xb tp B2 n zx sb (π Oq) jb WA wb.length wc 1 0):=oZ.of ((cw.tag gb HHe.o.lt).trans HHe.o.1);have jH:=θ ((HTe.o.mono (fun k h=>(show(k=t\/k=t+2\/In (t+7) 5 k) by omega))).trans (cw.mono fun k ⟨i,h⟩=>by
    rcases h with h|h
    .exact .inr (.inr h.2)
    .exact .inl h.2))
   have k3:=nE.cf_.zc 3;have c8:=CO.zc 8;have f8:=CO.free 8;obtain⟨kq,FY⟩:=CO.put (S:=(· = t)) cw.Δ 8 (.int .i64 (cf.Ω:Nat)) rfl;have HTs:=θ kq;have HHs:=θ FY;unfold π at*;clear nE oZ hS1 cw CO kq FY HMe HRw HRe HLe HTe HHe c0 c3 pN hPT hPS Dp Je Hg Hmk Gp ajG;go_wp2;go_ret2
   have iU:=Vs cf.n cf.Ω (by have:=aT.n2;omega);have hTT:=(HTb.o.mono (fun k h=>(show(k=t\/k=t+2\/In (t+7) 5 k) from .inl h))).trans (jH.o.trans (HTs.o.mono fun k h=>.inl h));have pP:=rG.o.ο QG.o HTs.o η (fun k _ h1 _ h=>h1 h);refine⟨_,rfl,T1,Sg.o.fresh hTT (fun k hk h=>ru k hk iw),gb,rfl,⟨xb,cb,qb,ps,sb,Oq,jb,B2,n,zx,WA,wc,wb⟩,⟨1,cf.Ω,4*cf.room-4,1,0,0,[(1,aC tp l (Cr.new cf.n cf.Ω).ls (Cr.new cf.n cf.Ω).front)],[],cP cf.workers SG⟩,⟨HHs.o,pP.op,amd.o.ο HTs.o η,V2.o,bT,fun i q k h1 h2=>?_,pP.st,ame.o.ο HTs.o η η η,pP.jo,pP.pl,?_,fun y h=>by cases h⟩,iU.symm,(Γ:(1:Nat)<=10),(Γ:(0:Nat)<=10),(Γ:(0:Nat)<=10)⟩
   .rw[List.getElem?_replicate]at h2
    split at h2
    .cases h2
     exact(amf.o i q h1).ο HTs.o η
    .cases h2
   .rw[iU];exact Ba.new tp l cf.Ω (fA tp l _ _) cf.workers
end
def pv(ah:Bool)(b:Nat):ξ:=if ah=true then .iface 53 (.pointer b) else .iface 105 (.pointer b)
def bJ(ah:Bool)(w:κ)(T:Tg)(t b:Nat)(cf:Cf)(me:Nat)(tp:aD)(ops:List dM)(c:Cr)(B:Nat):Prop :=
 if ah=true then fJ w T t b cf me tp ops c B else ∃cb qb ps,bN w T t b cf me tp ops cb qb ps c c.front
section
variable {ah:Bool}{w w':κ}{T T':Tg}{t b:Nat}{cf:Cf}{me:Nat}{tp:aD}{ops:List dM}{c c':Cr}{B:Nat}
section
variable(h:bJ ah w T t b cf me tp ops c B)
include h
theorem bJ.ο(hw:cf.workers<=4)(hl:c.ls.length<=8)(hT:Ξ S w T w' T')(h0:¬S 0)(hs:∀k,In t 40 k->¬S k):bJ ah w' T' t b cf me tp ops c B:=by
 unfold bJ at*;split
 .rename_i e;rw[if_pos e]at h;exact h.ο hw hl hT h0 hs
 .rename_i e;rw[if_neg e]at h;obtain⟨cb,qb,ps,h⟩:=h;exact⟨cb,qb,ps,h.ο hT fun k hk=>hs k iw⟩
theorem bJ.ext(e:Ext w w'):bJ ah w' T t b cf me tp ops c B:=by
 unfold bJ at*;split
 .rename_i e1;rw[if_pos e1]at h;exact h.ext e
 .rename_i e1;rw[if_neg e1]at h;obtain⟨cb,qb,ps,h⟩:=h;exact⟨cb,qb,ps,h.ext e⟩
theorem bJ.mono(hB:B<=B'):bJ ah w T t b cf me tp ops c B':=by
 unfold bJ at*;split
 .rename_i e1;rw[if_pos e1]at h;exact h.mono hB
 .rename_i e1;rw[if_neg e1]at h;exact h
end
theorem Vt(h:In t 24 k):In t 40 k:=iw
section
variable(h:bJ ah w T t b cf me tp ops c B)
include h
theorem QH(u:UInt8)(hk:bz cf me c [])(hu:Θ w T)(ht:0<t)(mY:tp.length<=1099511627776)(hQ:eS tp ops cf (c.ν me cf.χ u))(hB:B<=700000000):τ prog (if ah=true then 257 else 272) #[π b,.int .u8 (u.toNat:Nat)] w (Does (In t 40) w T ((c.iB me cf.χ:Nat):ξ) fun w' T'=>bJ ah w' T' t b cf me tp ops (c.ν me cf.χ u) (B+20)):=by
 cases ah with
 |true=>exact Vo h u hk hu ht mY hQ hB
 |false =>obtain⟨cb,qb,ps,h⟩:=h;refine(CU h u hk (hk.ν u) hu ht mY hQ).mono ?_;rintro e w' ⟨rfl,T',hT,hP⟩;exact⟨rfl,T',hT.mono fun k=>Vt,cb,qb,ps,hP⟩
theorem Vu(p:Pk)(hk:bz cf me c [])(js:bz cf me (c.recv me p) [])(hu:Θ w T)(ht:0<t)(mY:tp.length<=1099511627776)(hp:mw p)(kN:p.dst=me)(iF:p.src<cf.n)(hb:Rb w A n d (aG cf.id p))(IP:p.iA=false->p.first<=(c.ls.getD p.src []).length/\p.first+p.ν.length<=1000)(hQ:eS tp ops cf (c.recv me p))(hB:B<=700000000):τ prog (if ah=true then 259 else 274) #[π b,.slice A n d] w (Does (In t 40) w T (.int .i64 (if c.closed then 6 else 0)) fun w' T'=>bJ ah w' T' t b cf me tp ops (c.recv me p) (B+20)):=by
 cases ah with
 |true=>exact aae h p hk js hu ht mY hp kN iF hb IP hQ hB
 |false =>obtain⟨cb,qb,ps,h⟩:=h;refine(FJ h p hk js hu ht mY hp kN iF hb IP hQ).mono ?_;rintro e w' ⟨rfl,T',hT,hP⟩;exact⟨rfl,T',hT.mono fun k=>Vt,cb,qb,ps,hP⟩
theorem Vv(hk:bz cf me c [])(hu:Θ w T)(AV:c.now<1000000):τ prog (if ah=true then 260 else 275) #[π b] w (cG (In t 40) w T fun v w' T'=>∃B2 n d,v=.slice B2 n d/\YL w' T' w.heap.size cf.id B2 n d (c.kP (zK tp ops) me)/\bJ ah w' T' t b cf me tp ops (c.tick me) B):=by
 cases ah with
 |true=>exact aaa h hk hu AV
 |false =>obtain⟨cb,qb,ps,h⟩:=h;refine(FK h hk hu AV).mono ?_;rintro e w' ⟨v,rfl,T',hT,B2,n,d,rfl,hM,hP⟩;exact⟨_,rfl,T',hT.mono fun k=>Vt,B2,n,d,rfl,hM,cb,qb,ps,hP⟩
theorem Nv(hk:bz cf me c [])(hu:Θ w T):τ prog (if ah=true then 256 else 271) #[π b] w (cG (In t 40) w T fun v w' T'=>∃EA ec,v=.slice EA c.bx.length ec/\(∃tt,In t 40 tt/\Row w' T tt 197 1 EA c.bx.length ec (c.bx.map wZ))/\T'=T/\w'.heap.size=w.heap.size/\bJ ah w' T' t b cf me tp ops {c with bx:=[]} B):=by
 cases ah with
 |true=>exact QA h hk hu
 |false =>obtain⟨cb,qb,ps,h⟩:=h;refine(AX h hu).mono ?_;rintro e w' ⟨v,rfl,T',hT,EA,ec,rfl,⟨tt,JT,hM⟩,hte,fV,hP⟩;exact⟨_,rfl,T',hT.mono fun k=>Vt,EA,ec,rfl,⟨tt,Vt JT,hM⟩,hte,fV,cb,qb,ps,hP⟩
theorem wE(hk:bz cf me c [])(hB:B<=700000000):τ prog (if ah=true then 254 else 263) #[π b] w (Shown w (aC tp ops c.ls c.front) c.front):=by
 cases ah with
 |true=>exact GU h hk hB
 |false =>obtain⟨cb,qb,ps,h⟩:=h;exact uX h hk
end
def Nw(tp:aD)(ops:List dM)(cf:Cf)(me:Nat)(c:Cr):List Int:=if c.head me<=c.front then aC tp ops c.ls c.front else mU tp ops cf.bD cf.order me c
def Nx(me:Nat)(c:Cr):Nat:=if c.head me<=c.front then c.front else c.head me
theorem KO(h:bJ ah w T t b cf me tp ops c B)(ht:0<t)(hu:Θ w T)(hk:bz cf me c [])(mY:tp.length<=1099511627776)(hB:B<=700000000):τ prog (if ah=true then 255 else 266) #[π b] w (Shown w (Nw tp ops cf me c) (Nx me c)):=by
 have key:τ prog (if ah=true then 255 else 266) #[π b] w (if c.head me<=c.front then Shown w (aC tp ops c.ls c.front) c.front else Shown w (mU tp ops cf.bD cf.order me c) (c.head me)):=by
  cases ah with
  |true=>exact Nt h ht hu hk mY hB
  |false =>obtain⟨cb,qb,ps,h⟩:=h;exact yB h hk mY
 unfold Nw Nx;by_cases e:c.head me<=c.front
 .rw[if_pos e]at key;rw[if_pos e,if_pos e];exact key
 .rw[if_neg e]at key;rw[if_neg e,if_neg e];exact key
end
structure Mb where
 nb:Nat
 A:Option cJ
 lc:Nat
 EA:Option cJ
 ec:Nat
 bs:Nat->Nat
 ts:Nat->Nat
 hs:Nat->Option cJ×Nat
 k0:Nat:=14
def mS(k0 k:Nat):Prop:=0<k/\(k<14\/k0<=k)
structure ef(w:κ)(T:Tg)(b:Nat)(cf:Cf)(tp:aD)(ops:List dM)(ah:Bool)(m:Mb)(W:Wd)(B:Nat):Prop where
 hd:Has w T 1 b [.slice m.A cf.n m.lc,π m.nb,.slice m.EA cf.n m.ec]
 row:Row w T 2 40 1 m.A cf.n m.lc ((dJ cf.n).map fun i=>pv ah (m.bs i))
 bx:Row w T 3 152 1 m.EA cf.n m.ec ((dJ cf.n).map fun i=>.slice (m.hs i).1 (W.log i).length (m.hs i).2)
 ev:∀i,i<cf.n->Row w T (4+i) 197 1 (m.hs i).1 (W.log i).length (m.hs i).2 ((W.log i).map wZ)
 au:jS w T 12 m.nb cf.id W.au
 tk:14<=m.k0/\∀i,i<cf.n->m.k0<=m.ts i
 tsd:∀i j,i<j->j<cf.n->m.ts i+40<=m.ts j
 ps:∀i,i<cf.n->bJ ah w T (m.ts i) (m.bs i) cf i tp ops (W.ps i) B
def xI(w:κ)(T:Tg)(b:Nat)(cf:Cf)(tp:aD)(ops:List dM)(ah:Bool)(W:Wd)(B:Nat):Prop:=∃m,ef w T b cf tp ops ah m W B
structure FZ(cf:Cf)(tp:aD)(ops:List dM)(W:Wd)(B:Nat):Prop where
 ok:jA cf
 tp_:tp.length<=1099511627776
 cr:∀i,i<cf.n->bz cf i (W.ps i) []
 big:B<=600000000
section
variable {ah:Bool}{w w':κ}{T T':Tg}{b:Nat}{cf:Cf}{tp:aD}{ops:List dM}{m:Mb}{W W':Wd}{B:Nat}
section
variable(h:ef w T b cf tp ops ah m W B)
include h
theorem ef.at_(hi:i<cf.n):14<=m.k0/\m.k0<=m.ts i:=⟨h.tk.1,h.tk.2 i hi⟩
theorem ef.ts0(i:Nat)(hi:i<cf.n):14<=m.ts i:=aF h.tk.1 (h.tk.2 i hi)
theorem ef.ext(e:Ext w w'):ef w' T b cf tp ops ah m W B :=
 ⟨h.hd.ext e,h.row.ext e,h.bx.ext e,fun i hi=>(h.ev i hi).ext e,h.au.ext e,h.tk,h.tsd,fun i hi=>(h.ps i hi).ext e⟩
theorem ef.apart(hi:i<cf.n)(hj:j<cf.n)(hne:i≠j)(hk:In (m.ts i) 40 k):¬In (m.ts j) 40 k:=by
 unfold In at*;rcases Nat.lt_or_gt_of_ne hne with h1|h1
 .have:=h.tsd i j h1 hj;omega
 .have:=h.tsd j i h1 hi;omega
theorem ef.zC(hk:FZ cf tp ops W B)(hp:p<cf.n){c':Cr}(hB:B<=B')(hT:Ξ (In (m.ts p) 40) w T w' T')(hP:bJ ah w' T' (m.ts p) (m.bs p) cf p tp ops c' B'):ef w' T' b cf tp ops ah m {W with ps:=aW W.ps p c'} B':=by
 have h0:=h.ts0 p hp;have jW:=hk.ok.n8;refine⟨h.hd.ο hT cN,h.row.ο hT cN,h.bx.ο hT cN,fun i hi=>(h.ev i hi).ο hT cN,h.au.ο hT cN cN cN,h.tk,h.tsd,fun i hi=>?_⟩;by_cases e:i=p
 .subst e
  show bJ ah w' T' (m.ts i) (m.bs i) cf i tp ops (aW W.ps i c' i) B'
  rw[aH];exact hP
 .show bJ ah w' T' (m.ts i) (m.bs i) cf i tp ops (aW W.ps p c' i) B'
  rw[az _ _ e];exact((h.ps i hi).ο hk.ok.workers (by rw[(hk.cr i hi).len];exact jW) hT cN (fun k zJ=>h.apart hi hp e zJ)).mono hB
theorem qD(hp:p<cf.n):τ prog 14 #[π b,p] w fun e w'=>e=.returned (pv ah (m.bs p))/\w'=w:=by have c0:=h.hd.zc 0;obtain⟨g,hg,cg,_,_⟩:=h.row.at_ (aO cf.n _ hp);have hmx:=h.row.rd.2.1;have e1:=dh (cf.n<=p);have e2:=dh ((p:Int)<0);generalize pv ah (m.bs p)=v at*;rw[hg]at c0;unfold π at*;clear h hg;go_enter func14,ntmps14;go_wp2;go_ret;exact⟨rfl,rfl⟩
end
end
def Vw(ah:Bool):TypeId:=if ah=true then 53 else 105
def QI(ah:Bool):Jd:=if ah=true then 257 else 272
def SL(ah:Bool):Jd:=if ah=true then 259 else 274
def aaS(ah:Bool):Jd:=if ah=true then 260 else 275
def KP(ah:Bool):Jd:=if ah=true then 256 else 271
def SM(ah:Bool):Jd:=if ah=true then 254 else 263
def SN(ah:Bool):Jd:=if ah=true then 255 else 266
theorem Bd(ah:Bool)(b:Nat):pv ah b=.iface (Vw ah) (.pointer b):=by cases ah<;>rfl
section
variable (ah:Bool) (b:Nat)
theorem ab3:∀f w,(method (f+1) (Vw ah) (.pointer b) "Press").run prog w=.ok (QI ah,.pointer b) w:=Ox
theorem aeM:∀f w,(method (f+1) (Vw ah) (.pointer b) "Receive").run prog w=.ok (SL ah,.pointer b) w:=Ox
theorem aeN:∀f w,(method (f+1) (Vw ah) (.pointer b) "Tick").run prog w=.ok (aaS ah,.pointer b) w:=Ox
theorem aah:∀f w,(method (f+1) (Vw ah) (.pointer b) "Events").run prog w=.ok (KP ah,.pointer b) w:=Ox
theorem aaM:∀f w,(method (f+1) (Vw ah) (.pointer b) "Confirmed").run prog w=.ok (SM ah,.pointer b) w:=Ox
theorem aeO:∀f w,(method (f+1) (Vw ah) (.pointer b) "Display").run prog w=.ok (SN ah,.pointer b) w:=Ox
theorem ab4(x:ξ):∀w,(callFunc (QI ah) #[.pointer b,x]).run prog w=.ok (.enter (QI ah) #[.pointer b,x]) w:=Oy
theorem aeP(x:ξ):∀w,(callFunc (SL ah) #[.pointer b,x]).run prog w=.ok (.enter (SL ah) #[.pointer b,x]) w:=Oy
theorem aeQ:∀w,(callFunc (aaS ah) #[.pointer b]).run prog w=.ok (.enter (aaS ah) #[.pointer b]) w:=Oy
theorem aai:∀w,(callFunc (KP ah) #[.pointer b]).run prog w=.ok (.enter (KP ah) #[.pointer b]) w:=Oy
theorem aaN:∀w,(callFunc (SM ah) #[.pointer b]).run prog w=.ok (.enter (SM ah) #[.pointer b]) w:=Oy
theorem aeR:∀w,(callFunc (SN ah) #[.pointer b]).run prog w=.ok (.enter (SN ah) #[.pointer b]) w:=Oy
end
theorem aeS(q:Nat):∀w:κ,(Instr.typeAssert (.iface 53 (.pointer q)) 40 53 true).run prog w=.ok (.tuple #[.pointer q,.bool true]) w:=by intro w;kernel_rfl
theorem ail(q:Nat):∀w:κ,(Instr.typeAssert (.iface 105 (.pointer q)) 40 53 true).run prog w=.ok (.tuple #[.pointer none,.bool false]) w:=by intro w;kernel_rfl
section
variable {ah:Bool}{w w':κ}{T T':Tg}{b:Nat}{cf:Cf}{tp:aD}{ops:List dM}{m:Mb}{W W':Wd}{B:Nat}
theorem Ny(h:ef w T b cf tp ops ah m W B)(hp:p<cf.n):τ prog 15 #[π b,p] w fun e w'=>e=.returned (if ah=true then π (m.bs p) else .pointer none)/\w'=w:=by
 have H1:=θ (qD h hp);generalize m.bs p=q at*;unfold π pv at*;clear h;cases ah with
 |true =>rw[if_pos rfl]at H1⊢;go_enter func15,ntmps15;go_wp2_with fail;refine H1.o.mono ?_;rintro e w1 ⟨rfl,hw⟩;subst hw;have hta:=aeS q;go_wp2;go_ret;exact⟨rfl,rfl⟩
 |false =>rw[if_neg Γ]at H1⊢;go_enter func15,ntmps15;go_wp2_with fail;refine H1.o.mono ?_;rintro e w1 ⟨rfl,hw⟩;subst hw;have hta:=ail q;go_wp2;go_ret;exact⟨rfl,rfl⟩
theorem QJ(h:ef w T b cf tp ops ah m W B):τ prog 62 #[π b] w fun e w'=>e=.returned (π m.nb)/\w'=w:=by have c1:=h.hd.zc 1;unfold π at*;clear h;go_enter func62,ntmps62;go_wp2;go_ret;exact⟨rfl,rfl⟩
def jd(au l:List Pk):List Pk:=au++l.take (300-au.length)
theorem Jf(au l:List Pk)(h:au.length<=300)(hj:j<l.length):(if (jd au (l.take j)).length<300 then jd au (l.take j)++[l[j]] else jd au (l.take j))=jd au (l.take (j+1)):=by
 unfold jd;rw[eU,tN,tN];by_cases hr:j<300-au.length
 .rw[if_pos η,jL dw,List.append_assoc,←List.take_succ_eq_append_getElem hj,jL (l:=l.take (j+1)) dw]
 .rw[if_neg η,MF,MF,IW η,IW η]
theorem Jg(au l:List Pk)(h:au.length<=300):(jd au l).length<=300:=by unfold jd;rw[eU,tN];omega
theorem ab5{l:List Pk}{base:Nat}(h:ef w T b cf tp ops ah m W B)(hu:Θ w T)(hn:W.au.length<=300)(hM:YL w T base cf.id A n d l)(hl:∀k∈l,mw k):τ prog 114 #[π b,.slice A n d] w (Does (In 12 2) w T (.int .i64 0) fun w' T'=>jS w' T' 12 m.nb cf.id (jd W.au l)):=by
 obtain⟨m0,_,⟨hs,g1,rfl,g3,g4⟩,g5⟩:=hM;have fO:Row w T 0 176 3 A l.length d (cY cf.id l hs):=⟨g3.mono (aM _),fun k hk=>g5 k (g3.ax k hk)⟩;have MI:∀(i:Nat) k h,l[i]?=some k->hs[i]?=some h->Sb w T h.1 (aG cf.id k).length h.2 (aG cf.id k):=fun i k a h1 h2=>⟨(g4 i k a h1 h2).1.1,fun _ q hq=>g5 q ((g4 i k a h1 h2).2 q hq)⟩;have HRw:=θ fO;have Oo:=θ MI;have HH:=θ h.hd;have HN:=θ h.au;have hmx:=fO.rd.2.1;have hmy:=fO.rd.2.2.1;unfold maxLen at hmy;have Hl:=θ hl;unfold π at*;clear h g3 g4 g5 fO MI hl;go_enter func114,ntmps114;go_wp2_with fail;go_loopw [9] (fun iv wr=>∃(j:Nat) (T':Tg),iv=.int .i64 (j:Nat)/\j<=l.length/\Ξ (In 12 2) w T wr T'/\jS wr T' 12 m.nb cf.id (jd W.au (l.take j))) (fun iv _=>l.length-(intOf iv).toNat)
 case atStart=>exact⟨0,T,rfl,aM _,Ξ.refl _ hu,by rw[CW];unfold jd;simpa using HN.o⟩
 case round =>
  obtain⟨j,T1,rfl,hj,hT,hNt⟩:=hrel;by_cases iY:j<l.length
  .have jF:=dQ ((j:Int)<(l.length:Int))
   have Vx:=HRw.o.ο hT cN;obtain⟨g,D8,vv⟩:=SB Vx g1 iY;have vY:=(Oo.o j l[j] (hs[j]' η) (bf iY) (bf η)).ο hT cN;have lJ:=HH.o.ο hT cN;have c1:=lJ.zc 1;have aT:=Hl.o _ (dH iY);have uh:=θ (Jf W.au l hn iY);have hle:=Jg W.au (l.take j) hn;generalize hs[j]' η=hh at*;generalize l[j]=k at*;have b1:=(Has.new wr T1 [(0:Int),(0:Int),.slice none 0 0] 176 rfl);have x1:=Ext.alloc wr (.cells #[(0:Int),(0:Int),.slice none 0 0] 176);have nC:T1 wr.heap.size=0:=hT.Δ _ (aq _);rw[nC]at b1;have uR:∀j' v,(jR cf.id k hh)[j']?=some v->(wr.alloc (.cells #[(0:Int),(0:Int),.slice none 0 0] 176)).cell? ⟨g,j*3+j',none⟩=some v:=fun j' v h=>x1.cell (vv j' v h);have CJ:(jR cf.id k hh).length=3:=rfl;have DS:[af .i64 0,.int .i64 0,.slice none 0 0].length=3:=rfl;have zI:∀u∈jR cf.id k hh,u.oneCell'=true:=by simp[jR,ξ.oneCell']
   subst D8;have HNt:=θ hNt;have Hsb:=θ vY;have HT:=θ hT;clear Vx lJ hNt vY hT;go_wp2_with (first|(with_reducible refine bI rfl 176 (.tmp 11) rfl rfl underlying176 fq CJ vv ?_)|(with_reducible refine bE rfl 176 (.tmp 6) (.tmp 12) rfl rfl (us:=jR cf.id k hh) rfl b1 CJ DS fq zI ?_;intro Z bZ gZ sZ));have eZ:=Ext.own (B:=some ⟨wr.heap.size,0,none⟩) x1 gZ (fun k hk=>by have h9:wr.heap.size=k:=kI.inj hk;omega);have huZ:=HT.o.Δ.ext eZ;have ag4:∀W2,Ext Z W2->τ prog 154 #[π m.nb,kU k.src k.dst hh.1 (aG cf.id k).length hh.2] W2 (cG (In 12 2) W2 T1 fun v w' T'=>v=.bool (decide ((jd W.au (l.take j)).length<300))/\jS w' T' 12 m.nb cf.id (jd W.au (l.take (j+1)))):=fun W2 e=>by refine(YY ((HNt.o.ext eZ).ext e) (huZ.ext e) η k aT hle ((Hsb.o.ext eZ).ext e)).mono ?_;rintro e w' ⟨rfl,T',hT,hN⟩;rw[uh.o]at hN;exact⟨_,rfl,T',hT,rfl,hN⟩
   have ag4:=θ ag4;have Je:Grow (fun v w' T'=>v=.bool (decide ((jd W.au (l.take j)).length<300))/\jS w' T' 12 m.nb cf.id (jd W.au (l.take (j+1)))):=by rintro v w T w' ⟨h1,h2⟩ e;exact⟨h1,h2.ext e⟩
   have HeZ:=θ eZ;replace c1:=eZ.cell c1;have k0:=bZ.zc 0;have k1:=bZ.zc 1;have k2:=bZ.zc 2;generalize wr.heap.size=gm at*;unfold π kU at*;have pF:¬In 12 2 (T1 b):=by rw[(HH.o.ο HT.o cN).1];unfold In;omega
   have uA:¬In 12 2 (T1 gm):=by rw[bZ.1];unfold In;omega
   have hu:=huZ;clear b1 x1 nC uR CJ DS zI gZ sZ vv eZ bZ;simp only[rC];apply GG (oR (In 12 2) T1) (Bj 5 (In 12 2) T1) (oJ 5 _) (oJ.start _ _);repeat apply gF (fun _ h _ _=>aj (h.cell c1 pF) (aj (h.cell k0 uA) (aj (h.cell k1 uA) (h.cell k2 uA))))
   apply uI (p:=oP _ _ _ _) Γ Γ (oP.aQ Je _)
   .intro W hR hJ υ;exact jz hu (hJ rfl) ((ag4.o) W (hJ rfl))
   intro v5;simp only[pu];refine aP ?_;intro Wx hR gT υ;obtain⟨T2,bq,rfl,QD⟩:=υ.1 rfl;clear υ gT;have jr:=θ bq;have GK:=θ QD;clear bq QD;go_wp2;go_roundw
   case rel=>exact⟨j+1,T2,cR,η,(HT.o.ext HeZ.o).trans jr.o,GK.o⟩
   exact dB
  .obtain rfl:j=l.length:=by omega
   rw[List.take_length]at hNt;have HNt:=θ hNt;have HT:=θ hT;clear hNt hT;go_wp2;go_ret;exact⟨rfl,T1,HT.o,HNt.o⟩
end
def dy(fn a bb n:Int):ξ:=.agg #[fn,a,bb,n]
def fZ(W:Wd)(j:Nat):Wd:={W with log:=fun i=>if i<j then W.log i++(W.ps i).bx else W.log i,ps:=fun i=>if i<j then {W.ps i with bx:=[]} else W.ps i}
theorem SP(e:Nat×Nat):(wZ e).oneCell'=true:=by
 unfold wZ evW;split
 .rfl
 .split
  .rfl
  .split<;>rfl
section
variable {ah:Bool}{w w' w0:κ}{T T':Tg}{b:Nat}{cf:Cf}{tp:aD}{ops:List dM}{m:Mb}{W W':Wd}{B:Nat}
theorem ef.congr(h:ef w T b cf tp ops ah m W B)(hn:W'.au=W.au)(hl:∀i,i<cf.n->W'.log i=W.log i)(hp:∀i,i<cf.n->W'.ps i=W.ps i):ef w T b cf tp ops ah m W' B :=
 ⟨h.hd,h.row,h.bx.to (List.map_congr_left fun i hi=>by rw[hl i (List.mem_range.1 hi)]),fun i hi=>by rw[hl i hi];exact h.ev i hi,by rw[hn];exact h.au,h.tk,h.tsd,fun i hi=>by rw[hp i hi];exact h.ps i hi⟩
theorem ef.told(h:ef w T b cf tp ops ah m (fZ W cf.n) B):ef w T b cf tp ops ah m W.told B :=
 h.congr rfl (fun i hi=>by show _=(if i<cf.n then W.log i++(W.ps i).bx else W.log i);rw[if_pos hi];rfl) (fun i hi=>by show _=(if i<cf.n then {W.ps i with bx:=[]} else W.ps i);rw[if_pos hi];rfl)
theorem ef.start(h:ef w T b cf tp ops ah m W B):ef w T b cf tp ops ah m (fZ W 0) B :=
 h.congr rfl (fun i hi=>by show(if i<0 then W.log i++(W.ps i).bx else W.log i)=W.log i;rw[if_neg (lF i)]) (fun i hi=>by show(if i<0 then {W.ps i with bx:=[]} else W.ps i)=W.ps i;rw[if_neg (lF i)])
def Nz(t j i k:Nat):Prop:=(i=13/\In t 40 k)\/(i=14/\k=4+j)
def tlC(T:Tg)(p:cJ):Prop:=T p.block=1\/T p.block=3
theorem D9(h:¬In t 40 k)(h2:k≠4+j):¬Nz t j i k:=fun e=>by
 rcases e with e|e
 .exact h e.2
 .exact h2 e.2
theorem QK(Ot:14<=t)(hj:j<8)(hi:i≠13)(hk:In t 40 k):¬Nz t j i k:=fun e=>by
 rcases e with e|e
 .exact hi e.1
 .have:=e.2;unfold In at hk;omega
theorem aeT(Ot:14<=t)(hj:j<8)(hi:i≠14):¬Nz t j i (4+j):=fun e=>by
 rcases e with e|e
 .have:=e.2;unfold In at this;omega
 .exact hi e.1
theorem SQ{F:Nat->Nat->Prop}{C:cJ->Prop}{K:Nat}(hg:w.grownBy w' (bn A))(hA:∀g,bn A=some g->T g=t)(hF:F K t)(hC:∀p,C p->T p.block≠t):yR F C T w w'/\Dh F C T K w w':=by have h1:oR (· = t) T w w':=⟨hg.os,hg.tape,hg.output,hg.size,fun k hk hn=>hg.block k hk fun e=>hn (hA k e.symm)⟩;have h2:GO C w w':=fun p u hp hc=>h1.cell hc (hC p hp);exact⟨⟨h1.mono fun k hk=>⟨K,by cases hk;exact hF⟩,h2⟩,⟨h1.mono fun k hk=>(by cases hk;exact hF),h2⟩⟩
def tlP(ah:Bool)(T:Tg)(t q:Nat)(cf:Cf)(tp:aD)(ops:List dM)(c:Cr)(B j:Nat)(v:ξ)(w:κ):Prop :=
 ∃EA ec,v=.slice EA c.bx.length ec/\(∃tt,In t 40 tt/\Row w T tt 197 1 EA c.bx.length ec (c.bx.map wZ))/\bJ ah w T t q cf j tp ops {c with bx:=[]} B
theorem tlP.aQ(Ot:14<=t)(hj:j<8)(hw:cf.workers<=4)(hl:c.ls.length<=8)(hu:Θ w0 T):∀i,i≠13->∀v w w',(w0.heap.size<=w.heap.size/\tlP ah T t q cf tp ops c B j v w)->Dh (Nz t j) (tlC T) T i w w'->(w0.heap.size<=w'.heap.size/\tlP ah T t q cf tp ops c B j v w'):=by rintro i hi v w w' ⟨h0,EA,ec,h1,⟨tt,h2,h3⟩,h4⟩ hR;have hT:=oR.ο hR.1 (show Θ w T from fun k hk=>hu k (aF h0 hk));exact⟨aF h0 hR.1.size,EA,ec,h1,⟨tt,h2,h3.ο hT (QK Ot hj hi h2)⟩,h4.ο hw hl hT (D9 cN η) (fun k hk=>QK Ot hj hi hk)⟩
def tlQ(ah:Bool)(w0:κ)(T:Tg)(t q:Nat)(cf:Cf)(tp:aD)(ops:List dM)(c:Cr)(B j n:Nat)(xs:List ξ)(v:ξ)(w:κ)(T':Tg):Prop :=
 ∃E Ed,v=.slice E n Ed/\Row w T' (4+j) 197 1 E n Ed xs/\bJ ah w T' t q cf j tp ops {c with bx:=[]} B
theorem tlQ.aQ{xs:List ξ}(Ot:14<=t)(hj:j<8)(hw:cf.workers<=4)(hl:c.ls.length<=8)(hu:Θ w0 T):∀i,i≠13->i≠14->∀v w w',yP w0 T (tlQ ah w0 T t q cf tp ops c B j n xs) v w->Dh (Nz t j) (tlC T) T i w w'->yP w0 T (tlQ ah w0 T t q cf tp ops c B j n xs) v w':=by
 rintro i hi CG v w w' ⟨T',h1,h2,E,Ed,h3,h4,h5⟩ hR;have pN:∀k,¬Nz t j i k:=fun k e=>by
  rcases e with e|e
  .exact hi e.1
  .exact CG e.1
 have hT:=oR.later hR.1 hu (pN 0) h1 h2;exact⟨T',h1,hT.Δ,E,Ed,h3,h4.ο hT (pN _),h5.ο hw hl hT (pN _) (fun k _=>pN k)⟩
section
variable(W:Wd)(j:Nat)
theorem xJ:(fZ W j).log j=W.log j:=by show(if j<j then W.log j++(W.ps j).bx else W.log j)=W.log j;rw[if_neg (Ov j)]
theorem wF:(fZ W j).ps j=W.ps j:=by show(if j<j then {W.ps j with bx:=[]} else W.ps j)=W.ps j;rw[if_neg (Ov j)]
theorem uD:(fZ W (j+1)).log j=W.log j++(W.ps j).bx:=by show(if j<j+1 then W.log j++(W.ps j).bx else W.log j)=_;rw[if_pos (adC j)]
theorem Jh:(fZ W (j+1)).ps j={W.ps j with bx:=[]}:=by show(if j<j+1 then {W.ps j with bx:=[]} else W.ps j)=_;rw[if_pos (adC j)]
end
theorem qv(W:Wd)(h:i≠j):(fZ W (j+1)).log i=(fZ W j).log i:=by
 show(if i<j+1 then W.log i++(W.ps i).bx else W.log i)=(if i<j then W.log i++(W.ps i).bx else W.log i)
 by_cases e:i<j
 .rw[if_pos e,if_pos η]
 .rw[if_neg e,if_neg η]
theorem CX(W:Wd)(h:i≠j):(fZ W (j+1)).ps i=(fZ W j).ps i:=by
 show(if i<j+1 then {W.ps i with bx:=[]} else W.ps i)=(if i<j then {W.ps i with bx:=[]} else W.ps i)
 by_cases e:i<j
 .rw[if_pos e,if_pos η]
 .rw[if_neg e,if_neg η]
theorem Cv(n j:Nat)(f g:Nat->ξ)(v:ξ)(hv:g j=v)(hne:∀i,i<n->i≠j->g i=f i):((dJ n).map f).set j v=(dJ n).map g:=by
 apply List.ext_getElem
 .simp
 .intro i h1 h2
  rw[List.getElem_set];simp only[List.getElem_map,List.getElem_range];split
  .rename_i e;subst e;exact hv.symm
  .rename_i e;exact(hne i Gw (fun h=>e h.symm)).symm
theorem ef.tell{m:Mb}{xE:Nat->Option cJ×Nat}{gE:Nat}(h:ef w T b cf tp ops ah {m with hs:=xE} (fZ W j) B)(hk:jA cf)(hl:∀i,i<cf.n->((fZ W j).ps i).ls.length<=8)(hj:j<cf.n)(hEA:m.EA=some ⟨gE,0,none⟩){E:aS}{Ed:Nat}(hT:Ξ (fun k=>∃i,Nz (m.ts j) j i k) w T w' T')(hE:Row w' T' (4+j) 197 1 E ((W.log j).length+(W.ps j).bx.length) Ed ((W.log j).map wZ++(W.ps j).bx.map wZ))(hP:bJ ah w' T' (m.ts j) (m.bs j) cf j tp ops {W.ps j with bx:=[]} B):Ξ (mS m.k0) w T (w'.setCell (gE,j) (.slice E ((W.log j).length+(W.ps j).bx.length) Ed)) T'/\ef (w'.setCell (gE,j) (.slice E ((W.log j).length+(W.ps j).bx.length) Ed)) T' b cf tp ops ah {m with hs:=aW xE j (E,Ed)} (fZ W (j+1)) B:=by
 have Ot:=h.ts0 j hj;have jW:=hk.n8;have pN:∀k,¬In (m.ts j) 40 k->k≠4+j->¬ ∃i,Nz (m.ts j) j i k:=fun k h1 h2 ⟨i,h3⟩=>D9 h1 h2 h3;have anG:14<=m.ts j:=Ot;have V3:=h.bx.ο hT (pN 3 cN η);obtain⟨bq,ag5⟩:=V3.put hT.Δ (i:=j) hEA (.slice E ((W.log j).length+(W.ps j).bx.length) Ed);have N3:14<=m.k0/\m.k0<=m.ts j:=h.at_ hj;have SR:Ξ (mS m.k0) w T w' T':=hT.mono fun k hk=>by
  obtain⟨i,e⟩:=hk;rcases e with e|e
  .have:=e.2;unfold In at this;unfold mS;omega
  .have:=e.2;unfold mS;omega
 refine⟨SR.trans (bq.mono fun k e=>by unfold mS;omega),(h.hd.ο hT (pN _ cN η)).ο bq η,(h.row.ο hT (pN _ cN η)).ο bq η,?_,fun i hi=>?_,(h.au.ο hT (pN _ cN η) (pN _ cN η) (pN _ cN η)).ο bq η η η,h.tk,h.tsd,fun i hi=>?_⟩
 .refine ag5.to (Cv _ _ _ _ _ ?_ fun i _ hne=>?_)
  .show kD (aW xE j (E,Ed) j).1 ((fZ W (j+1)).log j).length (aW xE j (E,Ed) j).2=_
   rw[aH,uD,eU]
  .show kD (aW xE j (E,Ed) i).1 ((fZ W (j+1)).log i).length (aW xE j (E,Ed) i).2=_
   rw[az _ _ hne,qv W hne]
 .show Row _ T' (4+i) 197 1 (aW xE j (E,Ed) i).1 ((fZ W (j+1)).log i).length (aW xE j (E,Ed) i).2 (((fZ W (j+1)).log i).map wZ)
  by_cases e:i=j
  .subst e;rw[aH,uD,eU,gS];exact hE.ο bq η
  .rw[az _ _ e,qv W e];exact((h.ev i hi).ο hT (pN _ cN η)).ο bq η
 .show bJ ah _ T' (m.ts i) (m.bs i) cf i tp ops ((fZ W (j+1)).ps i) B
  have anH:14<=m.ts i:=h.ts0 i hi;by_cases e:i=j
  .subst e;rw[Jh];refine hP.ο hk.workers ?_ bq η (fun q hq e=>WB);have:=hl i hi;rw[wF]at this;exact this
  .rw[CX W e];exact((h.ps i hi).ο hk.workers (hl i hi) hT (pN _ cN η) (fun q hq=>pN q (h.apart hi hj e hq) (by have vC:In (m.ts i) 40 q:=hq;unfold In at vC;omega))).ο hk.workers (hl i hi) bq η (fun q hq e=>by have vC:In (m.ts i) 40 q:=hq;unfold In at vC;omega)
theorem Vy{W:κ}{o:Oper}{a:Act}(s x:Operand)(ho:o.op=.call {callee:=.builtin .append,args:=#[s,x],argTypes:=#[152,152]}){i0:TypeInfo}(hi:prog.info? 197=some i0)(dx:i0.zero=some (.agg #[.nilIface]))(dA:i0.size=1)(dN:i0.bytes=16){L:List (Nat×Nat)}{C:aS}{cc:Nat}(Ot:14<=t)(hj:j<8)(hw:cf.workers<=4)(hl:c.ls.length<=8)(hs:a.eval s=.slice C L.length cc){xv:ξ}(hx:a.eval x=xv)(hp:w0.heap.size<=W.heap.size/\tlP ah T t q cf tp ops c B j xv W)(hu:Θ w0 T)(mz:Row w0 T (4+j) 197 1 C L.length cc (L.map wZ))(hJ:yJ (Nz t j) T w0 14 W)(hL:L.length<=1000000000)(hc:c.bx.length<=1000000):∃u w',(execOp a.eval o).run prog W=.ok (.value u) w'/\yR (Nz t j) (tlC T) T W w'/\Dh (Nz t j) (tlC T) T 14 W w'/\yP w0 T (tlQ ah w0 T t q cf tp ops c B j (L.length+c.bx.length) (L.map wZ++c.bx.map wZ)) u w':=by
 obtain⟨fV,EA,ec,amg,⟨tt,JT,fO⟩,hP'⟩:=hp;have hTJ:=oR.ο hJ hu;have adG:=mz.ο hTJ (fun⟨i,h1,h2⟩=>aeT Ot hj h1 h2);obtain⟨v,w',bU,kS,E,Ed,hv,wV,hw'⟩:=mN (P:=prog) W s x 152 ho 0 197 i0 (.agg #[.nilIface]) 1 16 underlying152 hi dx dA dN rfl Γ C L.length cc (L.map wZ) hs adG.1 EA c.bx.length ec (c.bx.map wZ) (hx.trans amg) fO.rd (fun u hu=>by obtain⟨e,_,rfl⟩:=fK.1 hu;exact SP e) iQ η (aM _);obtain⟨vm,QL⟩:=adG.append hTJ.Δ wV kS (oV.of hw');obtain⟨y1,y2⟩:=SQ (F:=Nz t j) (C:=tlC T) (K:=14) kS (fun g hg=>mz.2 g hg) (.inr ⟨rfl,rfl⟩) (fun p hp=>by rcases hp with hp|hp<;>omega)
 exact⟨v,w',bU,y1,y2,_,fun k hk=>vm.tag k (Nat.lt_of_lt_of_le hk fV),vm.Δ,E,Ed,hv,QL,hP'.ο hw hl vm η (fun q hq e=>WB)⟩
end
section
variable {w w':κ}{T T':Tg}{cf:Cf}{tp:aD}
theorem QM(w:κ)(T:Tg)(hu:Θ w T)(cf:Cf)(me:Nat)(aT:jA cf)(DT:me<cf.n)(t:Nat)(ht:0<t)(ru:∀k,k<w.heap.size->¬In t 40 (T k))(tp:aD)(l:List dM)(sJ:Ro w A n d l)(mY:tp.length<=1099511627776)(DJ:fD tp l = -1)(Ol:l.length<=64)(ah:Bool):τ prog 66 #[iC cf me,fX tp A n d,.slice none 0 0,.bool ah] w (cG (fun _=>False) w T fun v w' T'=>∃b,v=.tuple #[pv ah b,(0:Int)]/\bJ ah w' T' t b cf me tp l (Cr.new cf.n cf.Ω) 10):=by
 have HP:=θ fun W (e:Ext w W)=>I3 W T (hu.ext e) cf me aT DT t ht (fun k hk jI=>by
  by_cases h:k<w.heap.size
  .exact ru k h (Vt jI)
  .rw[hu k η]at jI;unfold In at jI;omega) tp l (sJ.ext e) mY DJ Ol
 have HM:=θ fun W (e:Ext w W)=>ab2 W T (hu.ext e) cf me aT DT t ht (fun k hk jI=>by
  by_cases h:k<w.heap.size
  .exact ru k h jI
  .rw[hu k η]at jI;unfold In at jI;omega) tp l (sJ.ext e) mY DJ Ol
 unfold iC fX at*;have x0:=(Ext.alloc w (.cells (aA cf me).toArray 26)).trans (Ext.alloc _ (.cells #[.string (bs tp),.slice A n d] 65));have hb:=(Has.new w (fun _=>0) (aA cf me) 26 rfl).2;have hp:=(Has.new (w.alloc (.cells (aA cf me).toArray 26)) (fun _=>0) [.string (bs tp),.slice A n d] 65 (b:=w.heap.size+1) bT).2;have hb:Has _ T 0 w.heap.size _:=(show Has _ T 0 w.heap.size _ from⟨hu _ (aq _),hb⟩).ext (Ext.alloc _ (.cells #[.string (bs tp),.slice A n d] 65));have hp:Has _ T 0 (w.heap.size+1) _:=⟨hu _ η,hp⟩;unfold aA at*;go_enter func66,ntmps66;go_upto_region 1 with fail
 generalize hW:aB (aB w _) _=W0 at*;obtain⟨gc,oN⟩:∃gc,gc=w.heap.size:=⟨_,rfl⟩;obtain⟨gp,tK⟩:∃gp,gp=w.heap.size+1:=⟨_,rfl⟩;rw[←tK]at hp⊢;rw[←oN]at hb⊢;clear hW oN tK;have Dz:[af .i64 (cf.n:Nat),.int .i64 (me:Nat),.int .i64 (cf.id:Nat),.int .i64 (cf.Ω:Nat),.int .i64 (cf.χ:Nat),.int .i64 (cf.bD:Nat),.int .i64 (cf.order:Nat),.int .i64 (cf.aR:Nat),.int .i64 (cf.workers:Nat),.int .i64 (cf.room:Nat)].length=10:=rfl;have hbA:=hb.all;have p0:=hp.zc 0;have p1:=hp.zc 1;have o6:=θ (Ξ.ai (fun _=>False) hu x0);clear hb hp;cases ah with
 |true =>
  go_wp2_with (first|(with_reducible refine bI rfl 26 (.tmp 4) rfl rfl underlying26 qB Dz hbA ?_))
  refine(HM.o W0 x0).mono ?_;rintro e w1 ⟨v,rfl,T1,cw,b1,rfl,rH⟩;have Mv:=θ rH;have l8:=θ (o6.o.trans cw);unfold π at*;clear rH cw;go_wp2;go_ret2
  exact⟨_,rfl,T1,l8.o,b1,rfl,Mv.o⟩
 |false =>
  go_wp2_with (first|(with_reducible refine bI rfl 26 (.tmp 4) rfl rfl underlying26 qB Dz hbA ?_))
  refine(HP.o W0 x0).mono ?_;rintro e w1 ⟨v,rfl,T1,cw,b1,cb,qb,ps,rfl,rH⟩;have Mv:=θ rH;have l8:=θ (o6.o.trans cw);unfold π at*;clear rH cw;go_wp2;go_ret2
  exact⟨_,rfl,T1,l8.o,b1,rfl,cb,qb,ps,Mv.o⟩
end
section
variable {ah:Bool}{w w' w0:κ}{T T':Tg}{b:Nat}{cf:Cf}{tp:aD}{ops:List dM}{W W':Wd}{B:Nat}{m:Mb}
theorem ef.ag6(h:ef w T b cf tp ops ah m W B)(aT:jA cf)(hl:∀i,i<cf.n->(W.ps i).ls.length<=8)(hT:Ξ (In 12 2) w T w' T'){kK:List Pk}(hN:jS w' T' 12 m.nb cf.id kK):ef w' T' b cf tp ops ah m {W with au:=kK} B:=by have jW:=aT.n8;exact⟨h.hd.ο hT cN,h.row.ο hT cN,h.bx.ο hT cN,fun i hi=>(h.ev i hi).ο hT cN,hN,h.tk,h.tsd,fun i hi=>(h.ps i hi).ο aT.workers (hl i hi) hT cN (fun q hq e=>by have:=h.ts0 i hi;unfold In at*;omega)⟩
theorem FZ.len(hk:FZ cf tp ops W B)(hi:i<cf.n):(W.ps i).ls.length<=8:=by rw[(hk.cr i hi).len];exact hk.ok.n8
section
variable(h:ef w T b cf tp ops ah m W B)(hk:FZ cf tp ops W B)(hu:Θ w T)(hp:p<cf.n)
include h hk hu hp
theorem Cw(u:UInt8)(x n:Int)(hx:IntKind.u8.wrap x=(u.toNat:Int))(hQ:eS tp ops cf ((W.ps p).ν p cf.χ u)):τ prog 80 #[π b,dy 1 (p:Nat) x n] w (Does (mS m.k0) w T (((W.ps p).iB p cf.χ:Nat):ξ) fun w' T'=>ef w' T' b cf tp ops ah m {W with ps:=aW W.ps p ((W.ps p).ν p cf.χ u)} (B+20)):=by
 have ht:=h.at_ hp;have H1:=θ fun W2 (e:Ext w W2)=>qD (h.ext e) hp;have H2:=θ fun W2 (e:Ext w W2)=>QH ((h.ps p hp).ext e) u (hk.cr p hp) (hu.ext e) η hk.tp_ hQ (by have:=hk.big;omega);have HG:=θ fun W2 (e:Ext w W2) w' T' (hT:Ξ (In (m.ts p) 40) W2 T w' T') (hP:bJ ah w' T' (m.ts p) (m.bs p) cf p tp ops ((W.ps p).ν p cf.χ u) (B+20))=>(h.ext e).zC hk hp η hT hP;have HT:=θ fun W2 (e:Ext w W2) w' T' (hT:Ξ (In (m.ts p) 40) W2 T w' T')=>(Ξ.ai (mS m.k0) hu e).trans (hT.mono fun k hk=>af9);have x0:=Ext.alloc w (.cells #[(1:Int),p,x,n] 59);have hb:=(Has.new w T [(1:Int),p,x,n] 59 rfl);have mm:=ab3 ah (m.bs p);have ee:=ab4 ah (m.bs p) (.int .u8 (u.toNat:Nat));unfold dy π at*;clear h hk hu;go_enter func80,ntmps80;go_upto_region 1 with fail
 generalize hW:aB w _=W0 at*;generalize w.heap.size=gs at*;clear hW;have k0:=hb.zc 0;have k1:=hb.zc 1;have k2:=hb.zc 2;clear hb;go_wp2_with fail;refine(H1.o W0 x0).mono ?_;rintro e w1 ⟨rfl,hw⟩;have hw:=hw.symm;subst hw;rw[Bd];go_wp2_with fail;refine(H2.o W0 x0).mono ?_;rintro e w2 ⟨rfl,T2,bq,Gq⟩;have rG:=θ (HG.o _ x0 _ _ bq Gq);have jr:=θ (HT.o _ x0 _ _ bq);clear bq Gq;go_wp2;go_ret;exact⟨rfl,T2,jr.o,rG.o⟩
theorem NC(x n:Int)(AV:(W.ps p).now<1000000)(hn:W.au.length<=300)(hl:∀k∈(W.ps p).kP (zK tp ops) p,mw k)(js:bz cf p ((W.ps p).tick p) []):τ prog 80 #[π b,dy 2 (p:Nat) x n] w (Does (mS m.k0) w T (.int .i64 ((0:Nat):Int)) fun w' T'=>ef w' T' b cf tp ops ah m {W with ps:=aW W.ps p ((W.ps p).tick p),au:=jd W.au ((W.ps p).kP (zK tp ops) p)} B):=by
 have ht:=h.at_ hp;have H1:=θ fun W2 (e:Ext w W2)=>qD (h.ext e) hp;have H2:=θ fun W2 (e:Ext w W2)=>Vv ((h.ps p hp).ext e) (hk.cr p hp) (hu.ext e) AV;have HG:=θ fun W2 (e:Ext w W2) w' T' (hT:Ξ (In (m.ts p) 40) W2 T w' T') (hP:bJ ah w' T' (m.ts p) (m.bs p) cf p tp ops ((W.ps p).tick p) B)=>(h.ext e).zC hk hp (aq _) hT hP;have HT:=θ fun W2 (e:Ext w W2) w' T' (hT:Ξ (In (m.ts p) 40) W2 T w' T')=>(Ξ.ai (mS m.k0) hu e).trans (hT.mono fun k hk=>af9);have Hls:=θ (show ∀i,i<cf.n->(aW W.ps p ((W.ps p).tick p) i).ls.length<=8 from fun i hi=>by
  by_cases e:i=p
  .subst e;rw[aH,js.len];exact hk.ok.n8
  .rw[az _ _ e];exact hk.len hi)
 have x0:=Ext.alloc w (.cells #[(2:Int),p,x,n] 59);have hb:=(Has.new w T [(2:Int),p,x,n] 59 rfl);have mm:=aeN ah (m.bs p);have ee:=aeQ ah (m.bs p);have yl:=θ hk.ok;have Hl:=θ hl;unfold dy π at*;clear h hk hu js hl;go_enter func80,ntmps80;go_upto_region 1 with fail
 generalize hW:aB w _=W0 at*;generalize w.heap.size=gs at*;clear hW;have k0:=hb.zc 0;have k1:=hb.zc 1;clear hb;go_wp2_with fail;refine(H1.o W0 x0).mono ?_;rintro e w1 ⟨rfl,hw⟩;have hw:=hw.symm;subst hw;rw[Bd];go_wp2_with fail;refine(H2.o W0 x0).mono ?_;rintro e w2 ⟨v,rfl,T2,bq,B2,n2,d2,rfl,hMl,Gq⟩;have nE:=HG.o _ x0 _ _ bq Gq;have Hgo:=θ (ab5 nE bq.Δ hn hMl Hl.o);have rG:=θ nE;have jr:=θ (HT.o _ x0 _ _ bq);unfold π at*;clear bq Gq nE hMl;go_wp2_with fail;refine Hgo.o.mono ?_;rintro e w3 ⟨rfl,T3,cT,hN3⟩;have AI:=θ (rG.o.ag6 yl.o Hls.o cT hN3);have jH:=θ (jr.o.trans (cT.mono (S':=mS m.k0) fun k hk=>af9));clear cT hN3;go_wp2;go_ret;exact⟨rfl,T3,jH.o,AI.o⟩
end
end
theorem Vz(a:cJ)(n c:Nat)(w:κ):(binOp BinOp.eql 152 (.slice (some a) n c) (.slice none 0 0)).run prog w=.ok (.bool false) w:=ey
theorem QN(n c:Nat)(w:κ):(binOp BinOp.eql 152 (.slice none n c) (.slice none 0 0)).run prog w=.ok (.bool true) w:=ey
def Cpy(w:κ)(n:Nat)(xs:List ξ)(e:Ending)(w':κ):Prop:=∃B d,e=.returned (.slice B n d)/\Rd w' 1 B n d xs/\Ext w w'
theorem ND(w:κ)(A:aS)(n c:Nat)(xs:List ξ)(hr:Rd w 1 A n c xs)(h1:∀u∈xs,u.oneCell'=true)(hn:n<=2000000000):τ prog 96 #[.slice A n c] w (Cpy w n xs):=by
 obtain⟨i0,hi,dx,dA,dN⟩:=info_parts J7;have hl:=hr.1;rw[Nat.mul_one]at hl;cases A with
 |none =>
  have zZ:n=0:=by
   rcases rA n with h|h
   .exact h
   .obtain⟨_,_,e,_⟩:=hr.2.2.2 η;cases e
  have hx:xs=[]:=rz η;subst zZ;subst hx;have BQ:=QN 0 c w;clear hr hl h1;go_enter func96,ntmps96;go_wp2;go_ret;exact⟨none,0,rfl,Rd.dR _ 1,Ext.refl _⟩
 |some a =>
  have BQ:=Vz a n c w;rcases rA n with h|h
  .subst h;have hx:xs=[]:=rz hl;subst hx;clear hr hl h1;go_enter func96,ntmps96;go_wp2_with (at_builtin;refine rj _ rfl _ _ 152 rfl 197 i0 underlying152 hi _ 0 0 rfl (aq _) (some a) c rfl ?_);go_ret;exact⟨_,_,rfl,⟨rfl,aq _,aM _,fun h=>absurd h Γ⟩,Ext.alloc _ _⟩
  .have Hr:=θ hr;clear hr;go_enter func96,ntmps96;go_wp2_with (at_builtin;refine jM _ rfl _ _ 152 rfl 197 i0 (.agg #[.nilIface]) 1 16 underlying152 hi dx dA dN rfl Γ _ 0 [] rfl ⟨rfl,aq _,aM _,fun h=>absurd h Γ⟩ (some a) n c xs rfl (Hr.o.ext (Ext.alloc _ _)) h h1 iQ η ?_;intro B d wy fQ Uw);go_ret;rw[Nat.zero_add]at fQ;exact⟨B,d,rfl,fQ.rd,(Ext.alloc _ _).trans Uw⟩
section
variable {ah:Bool}{w w' w0:κ}{T T':Tg}{b:Nat}{cf:Cf}{tp:aD}{ops:List dM}{W W':Wd}{B:Nat}{m:Mb}
theorem Ji(h:ef w T b cf tp ops ah m W B)(hp:p<cf.n)(hl:(W.log p).length<=1000000000):τ prog 64 #[π b,p] w (Cpy w (W.log p).length ((W.log p).map wZ)):=by have H1:=θ (qD h hp);obtain⟨g,hg,cg,_,_⟩:=h.bx.at_ (aO cf.n _ hp);have c2:w.cell? (b,2)=some (.slice m.EA cf.n m.ec):=h.hd.zc 2;have hmx:=h.bx.rd.2.1;have HC:=θ (ND w (m.hs p).1 _ (m.hs p).2 _ (h.ev p hp).rd (fun u hu=>by obtain⟨e,_,rfl⟩:=fK.1 hu;exact SP e) η);rw[hg]at c2;unfold π at*;clear h hg;go_enter func64,ntmps64;go_wp2_with fail;refine H1.o.mono ?_;rintro e w1 ⟨rfl,hw⟩;have hw:=hw.symm;subst hw;rw[Bd];go_wp2_with fail;refine HC.o.mono ?_;rintro e w2 ⟨B2,d,rfl,hr,he⟩;go_wp2;go_ret;exact⟨B2,d,rfl,hr,he⟩
end
end Go.Proofs.YtffcefoadaogbaaGreat
