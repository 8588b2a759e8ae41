/- A part of the proof. -/
import Derived.Test.YtffcefoadaogbaaGreatS16
namespace Go.Proofs.YtffcefoadaogbaaGreat
open Go.RowKit
open Go.Proofs.Tryz
set_option linter.all false
set_option maxRecDepth 100000
set_option maxHeartbeats 16000000
open _root_.Nat renaming zero_le->aM,add_zero->AM,le_trans->aF,le_refl->aq,lt_of_lt_of_le->eM,eq_zero_or_pos->rA,succ_mul->SI,mul_le_mul_right->xO
open _root_.List renaming getElem?_eq_getElem->bf,length_append->eU,getElem?_append_left->kn,getElem?_eq_some_iff->iN,getElem?_append_right->ij,mem_map->fK,nodup_cons->Iu,map_cons->mF,cons_append->zN,perm_middle->SJ,getElem_of_mem->Z6,mem_of_getElem?->sO,mem_append_left->oI,map_append->gS,perm_iff_count->Ja,count_cons->Jb,count_append->oK,mem_cons_of_mem->xS,mem_append_right->rX,nodup_append->EZ,mem_append->BG,getElem?_set->Es,map_toArray->Ou,map_nil->tT,prefix_append->Ls,replicate->cP,length_eraseIdx->A7
open Go.World renaming alloc->aB
open _root_.Prod renaming fst->eu
open Go.Value renaming int->af
open Go renaming World->κ,Value->ξ,Calls->τ,TypeId->aY
variable{C PA:aS}{G0 g:List Int}{L:List Nat}{P:Program}{S:Nat->Prop}{T:Tg}{a:Act}{base c fr free i k kind last n pc pn q size cM x:Nat}{bl:List Br}{e:aY}{fl:List Bool}{gs K8:List (Nat×List Int)}{hs:List (Option Addr×Nat)}{ks:List Wk}{o:Oper}{ν:vo}{v:ξ}{w w0:κ}{xs:List ξ}
section
variable {w w' wr:κ}{T T':Tg}{t b sb dz last aL fr ts n free dg:Nat}{l:List Br}{gs:List (Nat×List Int)}
theorem Z7(h:fB w T t b sb dz last aL fr l)(hm:dz<=8)(hS:aZ w T ts sb n free dg gs)(hu:Θ w T)(ht:0<t)(zL:0<ts)(FN:t+2<=ts\/ts+5<=t)(yy:dg<4611686018427387903)(hla:last<4611686018427387903)(hn:gs.length<=1000)(hb:(base,g)∈gs)(hp:Sp w T PA pn pc ν)(aT:Kw ν)(Md:0<pn)(aX:l.length<dz):τ prog 296 #[π b,fr,base,.slice PA pn pc] w (cG (fun j=>j=t\/j=t+1\/In ts 5 j) w T (Zg t b sb dz last aL fr ts n free dg l gs ν g)):=by
 obtain⟨i0,hi,dx,dA,dN⟩:=info_parts DW;obtain⟨A,c,hs,a1,a2,a3,a4⟩:=h.bn;have b0:=a2.zc 0;have b1:=a2.zc 1;have b2:=a2.zc 2;have vQ:=hp.len;have Di:=dh (dz<=l.length);have Gj:=dh ((dz:Int)<=(l.length:Int));have hd3:((pn:Int)==0)=false:=kO;have HE:=θ h.elem;have HF:=θ fun W (e:Ext w W)=>abU (hS.ext e) hb (hu.ext e) zL yy hn;have HA:=θ fun W (e:Ext w W) D m d qs (hq:Rp W D m d qs)=>AR W D m d qs PA pn pc ν hq (hp.rp.ext e);have kR:=θ (show ∀W,Ext w W->Zg t b sb dz last aL fr ts n free dg l gs ν g (.tuple #[(0:Int),.bool false]) W T from fun W e=>.inl ⟨rfl,h.ext e,hS.ext e⟩);have Hp:=θ hp;have DX:=θ vQ;have HU:=θ hu;have AO:=θ a1;have K5:=θ a2;have Oh:=θ a3;have Sk:=θ a4;have yl:=θ aT;have alR:=hp.rp.max;obtain⟨N,hN⟩:∃N,N=l.length:=⟨_,rfl⟩;have HN:=θ hN;have mj:N<=7:=η;have Hlt:=θ aX;rw[←hN]at b2 Di Gj aX;unfold π at*;unfold maxLen at alR;clear h hS a1 a2 a3 a4 hp vQ hu hb aT hN hn;go_enter func296,ntmps296;go_wp2_with fail;apply iL trivial;repeat first|apply kZ b1 b2|apply lU trivial
 refine jq fun Wx ak=>?_;have b2:=ak.cell b2;go_wp2_with fail;go_loopw [38] (fun iv wr=>∃k:Nat,iv=.int .i64 (k:Nat)/\k<=N/\Ext w wr) (fun iv _=>N-(intOf iv).toNat)
 case atStart=>exact⟨0,rfl,aM _,ak⟩
 case round =>
  obtain⟨k,rfl,hk,he⟩:=hrel;by_cases jk:k<N
  .obtain⟨x,hx⟩:∃x,l[k]?=some x:=⟨_,bf (by rw[←HN.o];exact jk)⟩
   obtain⟨A',c',uQ,q1,q2,q3,q4,q5⟩:=HE.o;rw[K5.o.zc 2]at q2;cases q2
   obtain⟨g9,⟨A1,c1⟩,rfl,hgT,_,hv,vk⟩:=q5 k x hx;have yG:∀i v,(we fr x (A1,c1))[i]?=some v->wr.cell? ⟨g9,k*5+i,none⟩=some v:=fun i v hi=>he.cell (hv i v hi);have k0:=yG 0 _ rfl;have k1:=yG 1 _ rfl;have k2:=yG 2 _ rfl;have k3:=yG 3 _ rfl;have k4:=yG 4 _ rfl;rw[AM]at k0;have HAx:=θ fun W (e:Ext w W)=>HA.o W e A1 x.ν.length c1 x.ν (vk.rp.ext e);clear hv yG vk hx q1 q3 q4 q5;generalize x.ν.length=pl at*;generalize x.ν=ps at*;generalize x.id=i1 at*;generalize x.done=i3 at*;generalize x.jP=i4 at*;go_upto_region 6 with fail
   have b9:=Has.new wr (fun _=>0) [i1,fr,.slice A1 pl c1,i3,i4] 136 rfl;have vZ:=Ext.alloc wr (.cells #[i1,fr,.slice A1 pl c1,i3,i4] 136);generalize hW:aB wr _=W at*;obtain⟨gv,DV⟩:∃gv,gv=wr.heap.size:=⟨_,rfl⟩;rw[←DV]at b9⊢;clear hW DV k0 k1 k2 k3 k4;have j1:=b9.zc 1;have j2:=b9.zc 2;clear b9;by_cases hpp:pl=pn
   .have hd5:((pl:Int)==(pn:Int))=true:=by rw[beq_iff_eq];omega
    have HAy:=θ (HAx.o W (he.trans vZ));generalize (List.take (min pl pn) ps==List.take (min pl pn) ν)=r at*;clear hpp;go_wp2_with fail;refine HAy.o.mono ?_;rintro e w3 ⟨rfl,e3⟩;cases r with
    |true =>
     go_wp2;go_ret2
     exact⟨_,rfl,T,Ξ.ai _ HU.o ((he.trans vZ).trans e3),kR.o _ ((he.trans vZ).trans e3)⟩
    |false =>
     go_wp2;go_roundw
     case rel=>exact⟨k+1,cR,η,(he.trans vZ).trans e3⟩
     exact dB
   .have hd5:((pl:Int)==(pn:Int))=false:=by rw[beq_eq_false_iff_ne];omega
    go_wp2;go_roundw
    case rel=>exact⟨k+1,cR,η,he.trans vZ⟩
    exact dB
  .obtain rfl:k=N:=by omega
   have b0:=he.cell (K5.o.zc 0);go_wp2_with fail;refine(HF.o wr he).mono ?_;rintro e w3 ⟨v,rfl,T3,cT,rfl,AL⟩;have Sf:¬In ts 5 t:=cN;have ZX:¬In ts 5 (t+1):=cN;have Uc:¬In ts 5 0:=cN;have a2:=(K5.o.ext he).ο cT Sf;have b3:=a2.zc 3;have f3:=a2.free 3;have ajr:=(Ξ.ai (fun j=>j=t\/j=t+1\/In ts 5 j) HU.o he).trans (cT.mono fun k hk=>.inr (.inr hk));have pz:=ej ((last:Int)+1);have Hb2:=θ a2;have jH:=θ cT;have alS:=θ ajr;have HS3:=θ AL;clear a2 cT ajr AL;go_wp2_with fail;have pF:bn A≠some b:=fun e=>by have:=Oh.o.2 b e;have:=K5.o.1;omega
   obtain⟨mE,Wm⟩:=Hb2.o.put (S:=(· = t)) jH.o.Δ 3 (.int .i64 ((last:Int)+1)) rfl;have Wm:=Wm.is (show _=[ξ.pointer sb,.int .i64 (dz:Nat),.slice A l.length c,.int .i64 ((last:Int)+1),.int .i64 (aL:Nat)] from rfl);have hR4:=((Oh.o.ext he).ο jH.o ZX).ο mE η;have ajs:=((Hp.o.ext he).ο jH.o Uc).ο mE η;have hS4:=HS3.o.ο mE (fun j hj=>Jw);have hA4:=fun i x h (hi:l[i]?=some x) (hh:hs[i]?=some h)=>(((Sk.o i x h hi hh).ext he).ο jH.o Uc).ο mE η;have alT:=θ (alS.o.trans (mE.mono fun j hj=>.inl hj));have jU:=mE.Δ;generalize Uz:κ.setCell w3 _ _=w4 at*;clear Uz b3 f3;have c2:=Wm.zc 2;have c3:=Wm.zc 3;rw[←HN.o]at c2 hR4;have mA:sA (t+1) (UU ν):=UU.aQ η;have hPb:sA (t+1) (MN fr (last+1) (dg+1) ν):=MN.aQ η;have cU:=hR4.cond;have eL:=hR4.1;have HCl:∀W,gR A w4 W->Θ W T3->τ prog 109 #[.slice PA pn pc] W (cG (fun _=>False) W T3 (UU ν)):=fun W hR yX=>by have hW:=ajs.gr hR (fun g hg e=>by have:=(cU g hg).2;omega);refine(AQ W PA pn pc ν hW.rp yl.o.1 yl.o.2).mono ?_;rintro e w' ⟨B,d,rfl,hr,ex⟩;exact⟨_,rfl,T3,Ξ.ai _ yX ex,B,d,by rw[DX.o],by rw[←DX.o];exact hr.sp yX⟩
   have HCl:=θ HCl;have eo:∀(v:ξ) (w:κ) (T:Tg),MN fr (last+1) (dg+1) ν v w T->v.cells.toList.length=5/\∀y∈v.cells.toList,y.oneCell'=true:=by rintro v w T ⟨B,d,rfl,_⟩;exact⟨rfl,by simp[ξ.cells,ξ.oneCell',GP,we]⟩
   have HS4:=θ hS4;have Sk:=θ hA4;have HH4:=θ Wm;clear hS4 hA4 Wm mE ajs;apply Ar 18 (gR A) (oM 15 A) (BL 15 136 5 A k c (oH fr l hs)) (BL.start eL);simp only[tk];repeat apply gF (fun _ h _ _=>aj (h.cell c2 pF) (h.cell c3 pF))
   apply uI (p:=uO T3 w4.heap.size (UU ν)) Γ Γ (uO.aQ mA cU _)
   .intro W hR hJ υ;have yX:Θ W T3:=fun k hk=>jU k (aF hR.size hk);exact uO.call yX hR.size (HCl.o W hR yX)
   intro v1;simp only[pu];repeat apply gF (fun _ _ _ _=>trivial)
   apply aE (p:=uO T3 w4.heap.size (MN fr (last+1) (dg+1) ν)) Γ Γ (uO.aQ hPb cU _)
   .rfl
   .intro W hR hJ υ;obtain⟨T9,EK,yX,B,d,rfl,ajt⟩:=υ.1 rfl;refine⟨.agg #[((last:Int)+1:Int),fr,.slice B ν.length d,(0:Int),((dg:Int)+1:Int)],W,?_,gR.refl _ _,oM.refl _ _ _ _,T9,EK,yX,B,d,rfl,ajt⟩;go_simp;first|done|rfl
   intro v2;simp only[pu];apply aE (p:=dI T3 w4.heap.size (MN fr (last+1) (dg+1) ν) 136) Γ Γ (dI.aQ hPb cU _)
   .rfl
   .intro W hR hJ υ;have hF:=υ.1 rfl;have hB:=dI.made (e:=136) hPb hR.size hF;obtain⟨T9,EK,yX,B,d,rfl,ajt⟩:=hF;rw[FP]at hB⊢;refine⟨_,_,?_,(Ext.alloc _ _).grownBy _,.inr (Ext.alloc _ _),hB⟩;go_simp;first|done|rfl
   intro v3;simp only[pu];apply aE (p:=mO T3 w4.heap.size (MN fr (last+1) (dg+1) ν) (t+1) A 136 5 (k+1) (oH fr l hs)) Γ Γ (fun j hj v w w9 h hR=>mO.aQ j hj v w w9 h hPb hR)
   .rfl
   .intro W hR hJ υ;exact dF W _ _ 166 rfl 136 i0 brZ 5 56 underlying166 hi dx dA dN rfl Γ A k c (oH fr l hs) rfl (hJ rfl) v3 rfl (υ.1 rfl) eo iQ η cU hPb hR.size
   intro v4;simp only[pu];repeat apply gF (fun _ _ _ _=>trivial)
   refine aP ?_;intro W hR gT υ;obtain⟨u1,T1,E,Ed,rfl,cw,BU,ja,pJ⟩:=(υ.1 rfl).fin hR cU;clear υ gT;obtain⟨B,d,rfl,aju⟩:=BU;simp only[dk];have lJ:=HH4.o.ο cw η;have c2:=lJ.zc 2;have f2:=lJ.free 2;obtain⟨kT,CT⟩:=lJ.put (S:=(· = t)) cw.Δ 2 (.slice E (k+1) Ed) rfl;have qZ:=θ ((alT.o.trans (cw.mono fun j hj=>.inr (.inl hj))).trans (kT.mono fun j hj=>.inl hj));have HS5:=θ ((HS4.o.ο cw (fun j hj=>Jw)).ο kT (fun j hj=>Jw));have HTr:=θ (show fB (W.setCell (b,2) (.slice E (k+1) Ed)) T1 t b sb dz (last+1) aL fr (l++[⟨last+1,ν,0,dg+1⟩]) from by
    have oh:(l++[(⟨last+1,ν,0,dg+1⟩:Br)]).length=k+1:=by rw[eU,HN.o];rfl
    refine⟨η,E,Ed,hs++[(B,d)],by rw[eU,AO.o,eU];rfl,?_,?_,fun i y h hi hh=>?_⟩
    .rw[oh];exact CT.is rfl
    .rw[oh,AP fr _ _ l hs AO.o];exact(ja.to rfl).ο kT η
    .by_cases hik:i<l.length
     .rw[kn hik]at hi;rw[kn (by rw[AO.o];exact hik)]at hh;exact((Sk.o i y h hi hh).ο cw η).ο kT η
     .have Yr:i=l.length:=by have:=(iN.1 hi).1;rw[oh]at this;have:=HN.o;omega
      subst Yr;rw[ij (aq _),Nat.sub_self]at hi;rw[ij (by rw[AO.o];exact aq _),AO.o,Nat.sub_self]at hh;cases hi
      cases hh
      exact aju.ο kT η)
   have c3:=CT.zc 3;clear kT CT cw lJ ja aju hR4 cU eL hR;have alU:=Hlt.o;go_wp2;go_ret2
   exact⟨_,rfl,T1,qZ.o,.inr ⟨alU,rfl,HTr.o,HS5.o⟩⟩
end
theorem D6(hs:∀q∈K8,q∈gs)(hn:(gs.map eu).Nodup)(h:(i,g)∈gs)(hi:i∈K8.map eu):(i,g)∈K8:=by obtain⟨q,hq,e⟩:=fK.1 hi;have:q=(i,g):=Cs hn (hs q hq) h e;exact this▸hq
theorem Np(gs:List (Nat×List Int))(x:Nat):(nS gs x).map eu=(gs.map eu).filter (· != x):=by unfold nS;rw[List.filter_map];rfl
theorem Vi(h:x∉L):L.filter (· != x)=L:=List.filter_eq_self.2 fun y hy=>by rw[bne_iff_ne];rintro rfl;exact h hy
theorem xF(hn:(gs.map eu).Nodup)(hp:(gs.map eu).Perm (x::L)):((nS gs x).map eu).Perm L:=by rw[Np];have h1:=hp.filter (· != x);have hx:=hp.nodup_iff.1 hn;rw[List.filter_cons_of_neg bT,Vi (Iu.1 hx).1]at h1;exact h1
theorem FR:∀q∈nS gs x,q∈gs:=fun q hq=>(Ng.1 hq).1
theorem FT(hn:(gs.map eu).Nodup):((nS gs x).map eu).Nodup:=by rw[Np];exact hn.filter _
theorem Ct:∀{gs:List (Nat×List Int)}{l:List Br}{ks:List Bool}{M:List Nat},ks.length=l.length->(gs.map eu).Nodup->(gs.map eu).Perm (l.map Br.jP++M)->((left gs l ks).map eu).Perm ((kr l ks).map Br.jP++M)
 |gs,[],[],M,_,_,h=>h
 |gs,x::l,k::ks,M,hl,hn,h=>by
  have vp:ks.length=l.length:=by simpa using hl
  clear hl;rw[left,kr];cases k with
  |true =>rw[if_pos rfl,if_pos rfl];have h1:(gs.map eu).Perm (l.map Br.jP++x.jP::M):=h.trans (by rw[mF,zN];exact SJ.symm);refine(Ct (gs:=gs) (l:=l) (ks:=ks) vp hn h1).trans ?_;rw[mF,zN];exact SJ
  |false =>rw[if_neg Γ,if_neg Γ];refine Ct (l:=l) (ks:=ks) vp (FT hn) (xF hn ?_);rw[mF,zN]at h;exact h
 |gs,[],k::ks,M,hl,_,_=>by simp at hl
 |gs,x::l,[],M,hl,_,_=>by simp at hl
def Jc(k:Wk):List Nat:=if k.busy=true then [k.x] else []
def wp(ks:List Wk):List Nat:=ks.flatMap Jc
theorem FU(a b:List Wk):wp (a++b)=wp a++wp b:=by unfold wp;rw[List.flatMap_append]
theorem xH(k:Wk)(b:List Wk):wp (k::b)=Jc k++wp b:=by unfold wp;rw[List.flatMap_cons]
theorem aeH(k:Wk):(Jc k).length<=1:=by unfold Jc;split<;>simp
theorem Z8:∀ks:List Wk,(wp ks).length<=ks.length
 | []=>aq _
 |k::ks=>by have h1:=aeH k;have h2:=Z8 ks;rw[xH,eU,List.length_cons];omega
theorem wv{k:Wk}(h:k∈ks)(hb:k.busy=true):k.x∈wp ks:=List.mem_flatMap.2 ⟨k,h,by unfold Jc;rw[if_pos hb];exact List.mem_singleton.2 rfl⟩
theorem A8{α:Type}:∀{l:List α}{i:Nat}{x:α},l[i]?=some x->∃a b,l=a++x::b/\∀y,l.set i y=a++y::b
 |y::l,0,x,h=>by
  cases h
  exact⟨[],l,rfl,fun _=>rfl⟩
 |y::l,i+1,x,h=>by rw[List.getElem?_cons_succ]at h;obtain⟨a,b,e1,e2⟩:=A8 h;refine⟨y::a,b,by rw[e1];rfl,fun z=>?_⟩;rw[List.set_cons_succ,e2];rfl
structure Ba(tp:aD)(ops:List dM)(fr base:Nat)(G0:List Int)(gs:List (Nat×List Int))(cM:Nat)(bl:List Br)(ks:List Wk):Prop where
 nd:(gs.map eu).Nodup
 g0:pI G0
 wA:(base,G0)∈gs
 ids:(bl.map Br.id).Nodup
 K9:∀x∈bl,Kw x.ν/\x.done<=x.ν.length/\x.id<=cM/\(x.jP,eG tp ops (fr:Nat) G0 (x.ν.take x.done))∈gs
 Z9:∀k∈ks,k.busy=true->k.id<=(cM:Int)/\(∃g,(k.x,g)∈gs/\pI g)/\∀x∈bl,(x.id:Int)=k.id->k.done<x.ν.length/\(k.x,eG tp ops (fr:Nat) G0 (x.ν.take (k.done+if k.zA=true then 1 else 0)))∈gs
 perm:(gs.map eu).Perm (base::(bl.map Br.jP++wp ks))
section
variable {tp:aD}{ops:List dM}{fr base cM last yC:Nat}{G0:List Int}{gs K8:List (Nat×List Int)}{bl Vj:List Br}{ks:List Wk}{k k':Wk}{i:Nat}
theorem Ba.len(h:Ba tp ops fr base G0 gs cM bl ks):gs.length=1+bl.length+(wp ks).length:=by
 have:=h.perm.length_eq;simp at this
 omega
theorem Ba.same{g':List Int}(h:Ba tp ops fr base G0 gs cM bl ks)(h1:(q,g)∈gs)(h2:(q,g')∈gs):g=g':=by have:=Cs h.nd h1 h2 rfl;exact(Prod.mk.inj this).2
theorem Ba.uniq(h:Ba tp ops fr base G0 gs cM bl ks){x y:Br}(hx:x∈bl)(hy:y∈bl)(e:x.id=y.id):x=y:=by obtain⟨i,hi,rfl⟩:=Z6 hx;obtain⟨j,hj,rfl⟩:=Z6 hy;have h1:(bl.map Br.id)[i]' S9=(bl.map Br.id)[j]'(by simpa using hj):=Lg;have:=(List.getElem_inj h.ids).1 h1;subst this;rfl
theorem Bb{y:List Int}(h:(q,g)∈gs)(hne:q≠x):(q,g)∈Vg gs x y:=fK.2 ⟨(q,g),h,by rw[if_neg hne]⟩
section
variable(h:Ba tp ops fr base G0 gs cM bl ks)
include h
theorem Ba.step(hk:ks[i]?=some k)(hW:aih tp ops fr bl gs last k Vj K8 yC k')(Cg:∀q∈gs.map eu,q<=last)(hn':(K8.map eu).Nodup):Ba tp ops fr base G0 K8 cM Vj (ks.set i k'):=by
 obtain⟨a,b,e1,e2⟩:=A8 hk;have hkm:k∈ks:=by rw[e1];simp
 have vf:∀q,q∈a\/q∈b->q∈ks:=fun q hq=>by rw[e1];simp;rcases hq with hq|hq<;>simp[hq]
 have hwp:wp ks=wp a++(Jc k++wp b):=by rw[e1,FU,xH]
 have hP:=h.perm;have hN:=hP.nodup_iff.1 h.nd;rw[hwp]at hP hN;have gN:∀q∈ks.set i k',q=k'\/q∈a\/q∈b:=fun q hq=>by
  rw[e2]at hq;simp at hq
  rcases hq with hq|hq|hq
  .exact .inr (.inl hq)
  .exact .inl hq
  .exact .inr (.inr hq)
 rcases hW with ⟨rfl,rfl,rfl,rfl⟩|⟨hb,rfl,rfl,id,ep,j,x,g,hi,hx,hd,hg,rfl,rfl⟩|⟨hb,rfl,rfl,rfl,rfl⟩|⟨hb,hp,rfl,rfl,rfl,j,x,g,hd,hi,hx,hg,rfl⟩|⟨hb,hp,rfl,rfl,j,x,hi,hx,hd,rfl,rfl⟩
 .rw[e2,←e1];exact h
 .have TC:=sO hx
  obtain⟨x9,Qh,hid,_⟩:=xC hi;rw[hx]at Qh;cases Qh
  have hxb:=h.K9 x TC;have C8:=h.same hg hxb.2.2.2;have jI:∀q:Nat×List Int,q∈gs->q∈gs++[(last+1,g)]:=fun q hq=>oI _ hq;refine⟨hn',h.g0,jI _ h.wA,h.ids,fun y hy=>?_,fun q hq D7=>?_,?_⟩
  .obtain⟨q1,q2,q3,q4⟩:=h.K9 y hy;exact⟨q1,q2,q3,jI _ q4⟩
  .rcases gN q hq with rfl|hq
   .refine⟨by show id<=_;have:=hxb.2.2.1;omega,⟨g,bT,by rw[C8];exact jc tp ops _ _ h.g0⟩,fun y hy he=>?_⟩
    have:y=x:=h.uniq hy TC (by have:(y.id:Int)=id:=he;omega);subst this;refine⟨hd,?_⟩;show(last+1,eG tp ops (fr:Nat) G0 (y.ν.take y.done))∈_
    rw[←C8];simp
   .obtain⟨q1,⟨g1,q2,q3⟩,q4⟩:=h.Z9 q (vf q hq) D7;exact⟨q1,⟨g1,jI _ q2,q3⟩,fun y hy he=>⟨(q4 y hy he).1,jI _ (q4 y hy he).2⟩⟩
  .have h0:Jc k=[]:=by unfold Jc;rw[if_neg (by rw[hb];decide)]
   rw[h0]at hP;rw[e2,FU,xH,gS];have h9:Jc ⟨true,id,ep,last+1,x.done,false⟩=[last+1]:=rfl;rw[h9];rw[Ja]at hP⊢;intro z;have:=hP z;simp[Jb,oK]at this⊢
   omega
 .have h1:Jc k=[k.x]:=by unfold Jc;rw[if_pos hb]
  rw[h1]at hP;have hP':(gs.map eu).Perm (k.x::(base::(Vj.map Br.jP++(wp a++wp b)))):=by
   rw[Ja]at hP⊢;intro z;have:=hP z;simp[Jb,oK]at this⊢
   omega
  have hD:=xF h.nd hP';have jI:∀{q:Nat}{g:List Int},(q,g)∈gs->q∈(base::(Vj.map Br.jP++(wp a++wp b)))->(q,g)∈nS gs k.x:=fun hq hm=>D6 FR h.nd hq (hD.mem_iff.2 hm);refine⟨hn',h.g0,jI h.wA bT,h.ids,fun y hy=>?_,fun q hq D7=>?_,?_⟩
  .obtain⟨q1,q2,q3,q4⟩:=h.K9 y hy;exact⟨q1,q2,q3,jI q4 (xS _ (oI _ (fK.2 ⟨y,hy,rfl⟩)))⟩
  .rcases gN q hq with rfl|hq
   .cases D7
   .obtain⟨q1,⟨g1,q2,q3⟩,q4⟩:=h.Z9 q (vf q hq) D7
    have hm:q.x∈(base::(Vj.map Br.jP++(wp a++wp b))):=xS _ (rX _ (by
     rcases hq with hq|hq
     .exact oI _ (wv hq D7)
     .exact rX _ (wv hq D7)))
    exact⟨q1,⟨g1,jI q2 hm,q3⟩,fun y hy he=>⟨(q4 y hy he).1,jI (q4 y hy he).2 hm⟩⟩
  .have h9:Jc {k with busy:=false}=[]:=rfl;rw[e2,FU,xH,h9];exact hD
 .have TC:=sO hx
  obtain⟨x9,Qh,hid,_⟩:=xC hi;rw[hx]at Qh;cases Qh
  have h1:Jc k=[k.x]:=by unfold Jc;rw[if_pos hb]
  rw[h1]at hP hN;have hN':(k.x::(base::(Vj.map Br.jP++(wp a++wp b)))).Nodup:=by
   refine(List.Perm.nodup_iff ?_).1 hN;rw[Ja];intro z;simp[Jb,oK]
   omega
  have hne:∀{q:Nat},q∈(base::(Vj.map Br.jP++(wp a++wp b)))->q≠k.x:=fun hq e=>(Iu.1 hN').1 (e▸hq);have C8:=h.same hg ((h.Z9 k hkm hb).2.2 x TC hid).2;rw[hp,if_neg Γ,AM]at C8;have En:(nx tp x.ν[k.done] ((fr:Int)+(k.done:Nat)) ops g).1=eG tp ops (fr:Nat) G0 (x.ν.take (k.done+1)):=by rw[ze tp ops _ _ hd,C8]
  rw[En];have ajv:(k.x,eG tp ops (fr:Nat) G0 (x.ν.take (k.done+1)))∈Vg gs k.x (eG tp ops (fr:Nat) G0 (x.ν.take (k.done+1))):=Z3 (fK.2 ⟨_,hg,rfl⟩);refine⟨En▸hn',h.g0,Bb h.wA (hne bT),h.ids,fun y hy=>?_,fun q hq D7=>?_,?_⟩
  .obtain⟨q1,q2,q3,q4⟩:=h.K9 y hy;exact⟨q1,q2,q3,Bb q4 (hne (xS _ (oI _ (fK.2 ⟨y,hy,rfl⟩))))⟩
  .rcases gN q hq with rfl|hq
   .refine⟨(h.Z9 k hkm hb).1,⟨_,ajv,jc tp ops _ _ h.g0⟩,fun y hy he=>?_⟩;have:y=x:=h.uniq hy TC (by have:(y.id:Int)=k.id:=he;omega);subst this;exact⟨hd,ajv⟩
   .obtain⟨q1,⟨g1,q2,q3⟩,q4⟩:=h.Z9 q (vf q hq) D7
    have hm:q.x∈(base::(Vj.map Br.jP++(wp a++wp b))):=xS _ (rX _ (by
     rcases hq with hq|hq
     .exact oI _ (wv hq D7)
     .exact rX _ (wv hq D7)))
    exact⟨q1,⟨g1,Bb q2 (hne hm),q3⟩,fun y hy he=>⟨(q4 y hy he).1,Bb (q4 y hy he).2 (hne hm)⟩⟩
  .have h9:Jc {k with zA:=true}=[k.x]:=by unfold Jc;rw[if_pos (show({k with zA:=true}:Wk).busy=true from hb)]
   rw[Z2,e2,FU,xH,h9];exact hP
 .have TC:=sO hx
  obtain⟨x9,Qh,hid,_⟩:=xC hi;rw[hx]at Qh;cases Qh
  have h1:Jc k=[k.x]:=by unfold Jc;rw[if_pos hb]
  rw[h1]at hP;obtain⟨p,q,f1,f2⟩:=A8 hx;have hpq:∀y,y∈p\/y∈q->y∈bl:=fun y hy=>by rw[f1];simp;rcases hy with hy|hy<;>simp[hy]
  have hP':(gs.map eu).Perm (x.jP::(base::((p++{x with done:=k.done+1,jP:=k.x}::q).map Br.jP++(wp a++wp b)))):=by
   rw[f1]at hP;rw[Ja]at hP⊢;intro z;have:=hP z;simp[Jb,oK]at this⊢
   omega
  have hD:=xF h.nd hP';have jI:∀{u:Nat}{g:List Int},(u,g)∈gs->u∈(base::((p++{x with done:=k.done+1,jP:=k.x}::q).map Br.jP++(wp a++wp b)))->(u,g)∈nS gs x.jP:=fun hq hm=>D6 FR h.nd hq (hD.mem_iff.2 hm);have KD:∀y∈bl.set j {x with done:=k.done+1,jP:=k.x},y={x with done:=k.done+1,jP:=k.x}\/y∈p\/y∈q:=fun y hy=>by
   rw[f2]at hy;simp at hy
   rcases hy with hy|hy|hy
   .exact .inr (.inl hy)
   .exact .inl hy
   .exact .inr (.inr hy)
  have Ss:=(h.Z9 k hkm hb).2.2 x TC hid;rw[hp,if_pos rfl]at Ss;have alV:(bl.set j {x with done:=k.done+1,jP:=k.x}).map Br.id=bl.map Br.id:=by rw[f2,f1];simp
  refine⟨hn',h.g0,jI h.wA bT,by rw[alV];exact h.ids,fun y hy=>?_,fun u hu hub=>?_,?_⟩
  .rcases KD y hy with rfl|hy
   .refine⟨(h.K9 x TC).1,Ss.1,(h.K9 x TC).2.2.1,jI Ss.2 ?_⟩;simp
   .obtain⟨q1,q2,q3,q4⟩:=h.K9 y (hpq y hy)
    refine⟨q1,q2,q3,jI q4 ?_⟩;simp
    rcases hy with hy|hy
    .exact .inr (.inl ⟨y,hy,rfl⟩)
    .exact .inr (.inr (.inr (.inl ⟨y,hy,rfl⟩)))
  .rcases gN u hu with rfl|hu
   .cases hub
   .obtain⟨q1,⟨g1,q2,q3⟩,q4⟩:=h.Z9 u (vf u hu) hub
    have hm:u.x∈(base::((p++{x with done:=k.done+1,jP:=k.x}::q).map Br.jP++(wp a++wp b))):=xS _ (rX _ (by
     rcases hu with hu|hu
     .exact oI _ (wv hu hub)
     .exact rX _ (wv hu hub)))
    refine⟨q1,⟨g1,jI q2 hm,q3⟩,fun y hy he=>?_⟩;rcases KD y hy with rfl|hy
    .exact⟨(q4 x TC he).1,jI (q4 x TC he).2 hm⟩
    .exact⟨(q4 y (hpq y hy) he).1,jI (q4 y (hpq y hy) he).2 hm⟩
  .have h9:Jc {k with busy:=false}=[]:=rfl;rw[e2,FU,xH,h9,f2];exact hD
theorem Ba.rest(hk:ks[i]?=some k)(Cg:∀q∈gs.map eu,q<=last)(hn':((if k.busy=true then nS gs k.x else gs).map eu).Nodup):Ba tp ops fr base G0 (if k.busy=true then nS gs k.x else gs) cM bl (ks.set i {k with busy:=false}):=by
 cases hb:k.busy with
 |true =>rw[hb]at hn';exact h.step hk (.inr (.inr (.inl ⟨hb,rfl,rfl,rfl,rfl⟩))) Cg hn'
 |false =>
  rw[if_neg Γ];have:({k with busy:=false}:Wk)=k:=by
   obtain⟨kb,ki,ke,kx,kd,kp⟩:=k;cases hb
   rfl
  rw[this];obtain⟨a,b,e1,e2⟩:=A8 hk;rw[e2,←e1];exact h
theorem Ba.drop(hl:fl.length=bl.length):Ba tp ops fr base G0 (left gs bl fl) cM (kr bl fl) ks:=by
 have hP:(gs.map eu).Perm (bl.map Br.jP++(base::wp ks)):=h.perm.trans SJ.symm;have hD:=Ct hl h.nd hP;have jI:∀{u:Nat}{g:List Int},(u,g)∈gs->u∈(kr bl fl).map Br.jP++(base::wp ks)->(u,g)∈left gs bl fl:=fun hq hm=>D6 (fun q hq=>wu.subset hq) h.nd hq (hD.mem_iff.2 hm);have sq:=(nY bl fl).subset;refine⟨(wu.map eu).nodup h.nd,h.g0,jI h.wA bT,((nY bl fl).map Br.id).nodup h.ids,fun y hy=>?_,fun q hq D7=>?_,hD.trans SJ⟩
 .obtain⟨q1,q2,q3,q4⟩:=h.K9 y (sq hy);exact⟨q1,q2,q3,jI q4 (oI _ (fK.2 ⟨y,hy,rfl⟩))⟩
 .obtain⟨q1,⟨g1,q2,q3⟩,q4⟩:=h.Z9 q hq D7;have hm:q.x∈(kr bl fl).map Br.jP++(base::wp ks):=rX _ (xS _ (wv hq D7));exact⟨q1,⟨g1,jI q2 hm,q3⟩,fun y hy he=>⟨(q4 y (sq hy) he).1,jI (q4 y (sq hy) he).2 hm⟩⟩
theorem Ba.low(Cg:∀q∈gs.map eu,q<=last):last+1∉gs.map eu:=fun hm=>by have:=Cg _ hm;omega
end
theorem FV(hn:(gs.map eu).Nodup)(hx:x∉gs.map eu):((gs++[(x,g)]).map eu).Nodup:=by
 rw[gS,EZ];refine⟨hn,bT,fun a ha b hb=>?_⟩;simp at hb
 subst hb;rintro rfl;exact hx ha
theorem Ba.add(h:Ba tp ops fr base G0 gs cM bl ks)(Cg:∀q∈gs.map eu,q<=last)(hp:Kw ν):Ba tp ops fr base G0 (gs++[(last+1,G0)]) (cM+1) (bl++[⟨cM+1,ν,0,last+1⟩]) ks:=by
 have jI:∀q:Nat×List Int,q∈gs->q∈gs++[(last+1,G0)]:=fun q hq=>oI _ hq;refine⟨FV h.nd (h.low Cg),h.g0,jI _ h.wA,?_,fun y hy=>?_,fun q hq D7=>?_,?_⟩
 .rw[gS,EZ]
  refine⟨h.ids,bT,fun a ha b hb=>?_⟩;obtain⟨y,hy,rfl⟩:=fK.1 ha;simp at hb
  have:=(h.K9 y hy).2.2.1;omega
 .rcases BG.1 hy with hy|hy
  .obtain⟨q1,q2,q3,q4⟩:=h.K9 y hy;exact⟨q1,q2,η,jI _ q4⟩
  .simp at hy
   subst hy;exact⟨hp,aM _,aq _,by simp[eG]⟩
 .obtain⟨q1,⟨g1,q2,q3⟩,q4⟩:=h.Z9 q hq D7
  refine⟨η,⟨g1,jI _ q2,q3⟩,fun y hy he=>?_⟩;rcases BG.1 hy with hy|hy
  .exact⟨(q4 y hy he).1,jI _ (q4 y hy he).2⟩
  .simp at hy
   subst hy;have:((cM+1:Nat):Int)=q.id:=he;omega
 .have hP:=h.perm
  rw[Ja]at hP⊢;intro z;have:=hP z;simp[Jb,oK]at this⊢
  omega
theorem Ba.mh(h:Ba tp ops fr base G0 gs cM [] ks)(Cg:∀q∈gs.map eu,q<=last)(fr':Nat){G1:List Int}(hG:pI G1):Ba tp ops fr' (last+1) G1 (nS (gs++[(last+1,G1)]) base) cM [] ks:=by
 have BR:=FV (g:=G1) h.nd (h.low Cg);have hP:((gs++[(last+1,G1)]).map eu).Perm (base::((last+1)::wp ks)):=by
  have hP:=h.perm;rw[Ja]at hP⊢;intro z;have:=hP z;simp[Jb,oK]at this⊢
  omega
 have hD:=xF BR hP;have jI:∀{u:Nat}{g:List Int},(u,g)∈gs++[(last+1,G1)]->u∈((last+1)::wp ks)->(u,g)∈nS (gs++[(last+1,G1)]) base:=fun hq hm=>D6 FR BR hq (hD.mem_iff.2 hm);refine⟨FT BR,hG,jI bT bT,bT,fun y hy=>by simp at hy,fun q hq D7=>?_,hD⟩;obtain⟨q1,⟨g1,q2,q3⟩,q4⟩:=h.Z9 q hq D7;exact⟨q1,⟨g1,jI (oI _ q2) (xS _ (wv hq D7)),q3⟩,fun y hy=>by simp at hy⟩
end
structure Mx where
 xb:Nat
 cb:Nat
 qb:Nat
 ps:Nat->Nat
 sb:Nat
 tb:Nat
 jb:Nat
 A:Option Addr
 an:Nat
 ad:Nat
 WA:Option Addr
 wc:Nat
 wb:List Nat
structure Ms where
 base:Nat
 fr:Nat
 free:Nat
 last:Nat
 cM:Nat
 aL:Nat
 gs:List (Nat×List Int)
 bl:List Br
 ks:List Wk
def mulC(x:Mx)(tp:aD)(base fr:Nat):List ξ:=[π x.xb,.string (bs tp),.slice x.A x.an x.ad,π x.sb,π x.tb,π x.jb,.slice x.WA x.wb.length x.wc,.int .i64 (base:Nat),.int .i64 (fr:Nat)]
structure pO(w:κ)(T:Tg)(t b:Nat)(cf:Cf)(me:Nat)(tp:aD)(ops:List dM)(x:Mx)(c:Cr)(s:Ms):Prop where
 hd:Has w T t b (mulC x tp s.base s.fr)
 op:Row w T (t+1) 127 4 x.A x.an x.ad (Ab ops)
 row:Row w T (t+2) 113 1 x.WA x.wb.length x.wc (x.wb.map π)
 nw:x.wb.length=cf.workers
 nk:s.ks.length=cf.workers
 wk:∀(i:Nat) wb k,x.wb[i]?=some wb->s.ks[i]?=some k->Has w T (t+3+i) wb (Nl tp x.A x.an x.ad x.tb x.jb x.sb k)
 st:aZ w T (t+7) x.sb (4*cf.room) s.free s.last s.gs
 tr:fB w T (t+12) x.tb x.sb cf.aR s.cM s.aL s.fr s.bl
 jo:jh w T (t+14) x.jb
 pl:bN w T (t+16) x.xb cf me tp ops x.cb x.qb x.ps c c.front
 ok:Ba tp ops s.fr s.base (aC tp ops c.ls s.fr) s.gs s.cM s.bl s.ks
 jn:∀y∈s.bl,∀p∈y.ν,p.length=cf.n
def fJ(w:κ)(T:Tg)(t b:Nat)(cf:Cf)(me:Nat)(tp:aD)(ops:List dM)(c:Cr)(B:Nat):Prop :=
 ∃x s,pO w T t b cf me tp ops x c s/\s.fr=c.front/\s.last<=B/\s.cM<=B/\s.aL<=B
section
variable {w w':κ}{T T':Tg}{t b:Nat}{cf:Cf}{me:Nat}{tp:aD}{ops:List dM}{x:Mx}{c c':Cr}{s:Ms}{B:Nat}
theorem pO.ο(h:pO w T t b cf me tp ops x c s)(hw:cf.workers<=4)(hl:c.ls.length<=8)(hT:Ξ S w T w' T')(h0:¬S 0)(hs:∀k,In t 40 k->¬S k):pO w' T' t b cf me tp ops x c s :=
 ⟨h.hd.ο hT (hs _ cN),h.op.ο hT (hs _ cN),h.row.ο hT (hs _ cN),h.nw,h.nk,fun i wb k h1 h2=>(h.wk i wb k h1 h2).ο hT (hs _ (by have:=(iN.1 h1).1;have:=h.nw;unfold In;omega)),h.st.ο hT (fun k hk=>hs _ iw),h.tr.ο hT h0 (hs _ cN) (hs _ cN),h.jo.ο hT (hs _ cN) (hs _ cN),h.pl.ο hT (fun k hk=>hs _ iw),h.ok,h.jn⟩
theorem pO.ext(h:pO w T t b cf me tp ops x c s)(e:Ext w w'):pO w' T t b cf me tp ops x c s :=
 ⟨h.hd.ext e,h.op.ext e,h.row.ext e,h.nw,h.nk,fun i wb k h1 h2=>(h.wk i wb k h1 h2).ext e,h.st.ext e,h.tr.ext e,h.jo.ext e,h.pl.ext e,h.ok,h.jn⟩
section
variable(h:fJ w T t b cf me tp ops c B)
include h
theorem fJ.ο(hw:cf.workers<=4)(hl:c.ls.length<=8)(hT:Ξ S w T w' T')(h0:¬S 0)(hs:∀k,In t 40 k->¬S k):fJ w' T' t b cf me tp ops c B:=by obtain⟨x,s,h1,h2⟩:=h;exact⟨x,s,h1.ο hw hl hT h0 hs,h2⟩
theorem fJ.ext(e:Ext w w'):fJ w' T t b cf me tp ops c B:=by obtain⟨x,s,h1,h2⟩:=h;exact⟨x,s,h1.ext e,h2⟩
theorem fJ.mono{B':Nat}(hB:B<=B'):fJ w T t b cf me tp ops c B':=by obtain⟨x,s,h1,h2,h3,h4,h5⟩:=h;exact⟨x,s,h1,h2,η,η,η⟩
end
theorem pO.plain(h:pO w T t b cf me tp ops x c s)(hw:cf.workers<=4)(hT:Ξ (In (t+16) 24) w T w' T')(hp:bN w' T' (t+16) x.xb cf me tp ops x.cb x.qb x.ps c' c'.front)(hg:aC tp ops c'.ls s.fr=aC tp ops c.ls s.fr):pO w' T' t b cf me tp ops x c' s :=
 ⟨h.hd.ο hT cN,h.op.ο hT cN,h.row.ο hT cN,h.nw,h.nk,fun i wb k h1 h2=>(h.wk i wb k h1 h2).ο hT (by have:=(iN.1 h1).1;have:=h.nw;unfold In;omega),h.st.ο hT (fun k hk=>iw),h.tr.ο hT cN cN cN,h.jo.ο hT cN cN,hp,by rw[hg];exact h.ok,h.jn⟩
theorem pO.aii(h:pO w T t b cf me tp ops x c s)(hf:s.fr<=c.front)(hg:nD c.ls c'.ls):aC tp ops c'.ls s.fr=aC tp ops c.ls s.fr :=
 qt tp ops fun k hk=>hg.ym (show k<cn c.ls from eM hk hf)
theorem nT(h:Has w T t b (mulC x tp base fr)):τ prog 44 #[π b] w fun e w'=>e=.returned (π x.xb)/\w'=w:=by have b0:=h.zc 0;clear h;unfold π at*;go_enter func44,ntmps44;go_wp2;go_ret;exact⟨rfl,rfl⟩
section
variable(h:pO w T t b cf me tp ops x c s)
include h
theorem FW:τ prog 34 #[π b] w fun e w'=>e=.returned (.bool c.closed)/\w'=w:=by have H1:=θ (nT h.hd);have H2:=θ (AW h.pl);unfold π at*;clear h;go_enter func34,ntmps34;go_wp2_with fail;refine H1.o.mono ?_;rintro e w1 ⟨rfl,hw⟩;subst hw;go_wp2_with fail;refine H2.o.mono ?_;rintro e w1 ⟨rfl,hw⟩;subst hw;go_wp2;go_ret;exact⟨rfl,rfl⟩
theorem FX:τ prog 262 #[π b] w fun e w'=>e=.returned (π x.cb)/\w'=w:=by have H1:=θ (nT h.hd);have H2:=θ (iI h.pl);unfold π at*;clear h;go_enter func262,ntmps262;go_wp2_with fail;refine H1.o.mono ?_;rintro e w1 ⟨rfl,hw⟩;subst hw;go_wp2_with fail;refine H2.o.mono ?_;rintro e w1 ⟨rfl,hw⟩;subst hw;go_wp2;go_ret;exact⟨rfl,rfl⟩
theorem fJ.plain(hf:s.fr=c.front/\s.last<=B/\s.cM<=B/\s.aL<=B)(hw:cf.workers<=4)(hT:Ξ (In (t+16) 24) w T w' T')(hp:bN w' T' (t+16) x.xb cf me tp ops x.cb x.qb x.ps c' c'.front)(hg:c'.ls=c.ls):Ξ (In t 40) w T w' T'/\fJ w' T' t b cf me tp ops c' B :=
 ⟨hT.mono fun k hk=>hk.sub η η,x,s,h.plain hw hT hp (by rw[hg]),by unfold Cr.front at*;rw[hg];exact hf⟩
end
section
variable(h:fJ w T t b cf me tp ops c B)(hk:bz cf me c [])(hu:Θ w T)
include h hk hu
theorem aaa(AV:c.now<1000000):τ prog 260 #[π b] w (cG (In t 40) w T fun v w' T'=>∃B2 n d,v=.slice B2 n d/\YL w' T' w.heap.size cf.id B2 n d (c.kP (zK tp ops) me)/\fJ w' T' t b cf me tp ops (c.tick me) B):=by obtain⟨x,s,h,hf⟩:=h;have H1:=θ (nT h.hd);have H2:=θ (FK h.pl hk hu AV);have HG:=θ fun w' T' (hT:Ξ (In (t+16) 24) w T w' T') (hp:bN w' T' (t+16) x.xb cf me tp ops x.cb x.qb x.ps (c.tick me) (c.tick me).front)=>fJ.plain h hf hk.ok.workers hT hp (DZ me c);unfold π at*;clear h hk;go_enter func260,ntmps260;go_wp2_with fail;refine H1.o.mono ?_;rintro e w1 ⟨rfl,hw⟩;subst hw;go_wp2_with fail;refine H2.o.mono ?_;rintro e w2 ⟨v,rfl,T2,bq,B2,n,d,rfl,hM,uT⟩;have Gr:=θ (HG.o _ _ bq uT);have HM:=θ hM;clear bq uT hM;go_wp2;go_ret;exact⟨_,rfl,T2,Gr.o.1,B2,n,d,rfl,HM.o,Gr.o.2⟩
theorem QA:τ prog 256 #[π b] w (cG (In t 40) w T fun v w' T'=>∃EA ec,v=.slice EA c.bx.length ec/\(∃tt,In t 40 tt/\Row w' T tt 197 1 EA c.bx.length ec (c.bx.map wZ))/\T'=T/\w'.heap.size=w.heap.size/\fJ w' T' t b cf me tp ops {c with bx:=[]} B):=by obtain⟨x,s,h,hf⟩:=h;have H1:=θ (nT h.hd);have H2:=θ (AX h.pl hu);have HG:=θ fun w' T' (hT:Ξ (In (t+16) 24) w T w' T') (hp:bN w' T' (t+16) x.xb cf me tp ops x.cb x.qb x.ps {c with bx:=[]} c.front)=>fJ.plain (c':={c with bx:=[]}) h hf hk.ok.workers hT hp rfl;unfold π at*;clear h hk;go_enter func256,ntmps256;go_wp2_with fail;refine H1.o.mono ?_;rintro e w1 ⟨rfl,hw⟩;subst hw;go_wp2_with fail;refine H2.o.mono ?_;rintro e w2 ⟨v,rfl,T2,bq,EA,ec,rfl,⟨tt,JT,hM⟩,hte,fV,uT⟩;have Gr:=θ (HG.o _ _ bq uT);have HM:=θ hM;clear bq uT hM;go_wp2;go_ret;exact⟨_,rfl,T2,Gr.o.1,EA,ec,rfl,⟨tt,iw,HM.o⟩,hte,fV,Gr.o.2⟩
end
end
section
variable {w w':κ}{T T':Tg}{t b:Nat}{cf:Cf}{me:Nat}{tp:aD}{ops:List dM}{x:Mx}{c c':Cr}{s:Ms}{B:Nat}
section
variable(h:Ba tp ops fr base G0 gs cM bl ks)
include h
theorem Ba.KJ:(bl.map Br.jP).Nodup :=
 (EZ.1 (Iu.1 (h.perm.nodup_iff.1 h.nd)).2).1
theorem Ba.KK:∀y∈bl,y.jP∈gs.map eu:=fun y hy=>fK.2 ⟨_,(h.K9 y hy).2.2.2,rfl⟩
end
section
variable(h:pO w T t b cf me tp ops x c s)(aT:jA cf)
include h aT
theorem pO.small:s.gs.length<=20:=by have h1:=h.ok.len;have h2:=h.tr.tH;have h3:=Z8 s.ks;have h4:=h.nk;have:=aT.aR;have:=aT.workers;omega
theorem pO.worker(hl:c.ls.length<=8){wb cZ yC:Nat}{k':Wk}{Vj:List Br}(hi:x.wb[i]?=some wb)(hT:Ξ (fun j=>j=t+3+i\/j=t+12+1\/In (t+7) 5 j\/In (t+14) 2 j) w T w' T')(hH:Has w' T' (t+3+i) wb (Nl tp x.A x.an x.ad x.tb x.jb x.sb k'))(hS:aZ w' T' (t+7) x.sb (4*cf.room) cZ yC K8)(ye:fB w' T' (t+12) x.tb x.sb cf.aR s.cM s.aL s.fr Vj)(hJ:jh w' T' (t+14) x.jb)(hM:Ba tp ops s.fr s.base (aC tp ops c.ls s.fr) K8 s.cM Vj (s.ks.set i k'))(mX:∀y∈Vj,∀p∈y.ν,p.length=cf.n):pO w' T' t b cf me tp ops x c {s with free:=cZ,last:=yC,gs:=K8,bl:=Vj,ks:=s.ks.set i k'}:=by
 have qV:=(iN.1 hi).1;have hnw:=h.nw;have Sd:=aT.workers;refine⟨h.hd.ο hT cN,h.op.ο hT cN,h.row.ο hT cN,h.nw,by rw[List.length_set];exact h.nk,fun j wb2 k2 h1 h2=>?_,hS,ye,hJ,h.pl.ο hT (fun k hk=>iw),hM,mX⟩;have iY:=(iN.1 h1).1;by_cases e:j=i
 .subst e
  rw[h1]at hi;cases hi
  rw[Es,if_pos rfl]at h2;split at h2
  .cases h2
   exact hH
  .cases h2
 .rw[Es,if_neg (fun h=>e h.symm)]at h2;exact(h.wk j wb2 k2 h1 h2).ο hT cN
end
theorem aZ.KL{sb ts:Nat}(h:aZ w T ts sb n free last gs):∀q∈gs.map eu,q<=last:=fun q hq=>by obtain⟨p,hp,rfl⟩:=fK.1 hq;exact h.ids.2 p hp
def SK(w:κ)(T:Tg)(t b:Nat)(cf:Cf)(me:Nat)(tp:aD)(ops:List dM)(x:Mx)(c:Cr)(s:Ms)(iv:ξ)(wr:κ):Prop :=
 ∃(k:Nat) (s':Ms),iv=.int .i64 (k:Nat)/\k<=cf.workers/\Ξ (In (t+3) 11) w T wr T/\pO wr T t b cf me tp ops x c s'/\s'.base=s.base/\s'.fr=s.fr/\s'.last=s.last/\s'.cM=s.cM/\s'.aL=s.aL/\s'.bl=s.bl/\∀i k',i<k->s'.ks[i]?=some k'->k'.busy=false
def adA(t b:Nat)(cf:Cf)(me:Nat)(tp:aD)(ops:List dM)(x:Mx)(c:Cr)(s:Ms)(v:ξ)(w':κ)(T':Tg):Prop :=
 v=.tuple #[]/\∃s',pO w' T' t b cf me tp ops x c s'/\s'.base=s.base/\s'.fr=s.fr/\s'.last=s.last/\s'.cM=s.cM/\s'.aL<=s.aL+1/\s'.bl=[]/\4<=s'.free
theorem abX(h:∀k∈ks,k.busy=false):wp ks=[]:=List.flatMap_eq_nil_iff.2 fun k hk=>by unfold Jc;rw[if_neg (by rw[h k hk];decide)]
section
variable(h:pO w T t b cf me tp ops x c s)(aT:jA cf)
include h aT
theorem pO.dropped(hl:c.ls.length<=8){P:Bool->Prop}(hT:Ξ (fun j=>j=t+12\/j=t+12+1\/In (t+7) 5 j) w T w' T')(hP:AZ (t+12) x.tb x.sb cf.aR s.cM s.aL s.fr (t+7) (4*cf.room) s.free s.last s.bl s.gs P v w' T'):∃fl ep cZ,fl.length=s.bl.length/\(∀q∈fl,P (!q))/\ep<=s.aL+1/\s.free<=cZ/\pO w' T' t b cf me tp ops x c {s with free:=cZ,aL:=ep,gs:=left s.gs s.bl fl,bl:=kr s.bl fl}:=by obtain⟨r,fl,ep,cZ,rfl,h1,h2,h3,h4,hS,ye⟩:=hP;refine⟨fl,ep,cZ,h1,h2,h4,h3,h.hd.ο hT cN,h.op.ο hT cN,h.row.ο hT cN,h.nw,h.nk,fun j wb2 k2 h1 h2=>?_,hS,ye,h.jo.ο hT cN cN,h.pl.ο hT (fun k hk=>iw),h.ok.drop h1,fun y hy=>h.jn y ((nY _ _).subset hy)⟩;have iY:=(iN.1 h1).1;have:=h.nw;have:=aT.workers;exact(h.wk j wb2 k2 h1 h2).ο hT cN
theorem pO.clear(hu:Θ w T)(hN:s.last<=1000000000/\s.aL<=1000000000):τ prog 310 #[π x.tb] w (cG (fun j=>j=t+12\/j=t+12+1\/In (t+7) 5 j) w T (AZ (t+12) x.tb x.sb cf.aR s.cM s.aL s.fr (t+7) (4*cf.room) s.free s.last s.bl s.gs (· = true))) :=
 Qy h.tr aT.aR h.st hu η η η η η (by have:=h.small aT;omega) h.ok.KJ h.ok.KK
end
theorem all_false(h:∀q∈fl,(!q)=true):∀q∈fl,q=false:=fun q hq=>by simpa using h q hq
theorem aab(h:pO w T t b cf me tp ops x c s)(aT:jA cf)(hl:c.ls.length<=8)(hu:Θ w T)(hN:s.last<=1000000000/\s.aL<=1000000000):τ prog 292 #[π b] w (cG (In (t+3) 11) w T (adA t b cf me tp ops x c s)):=by
 have b6:=h.hd.zc 6;have hnw:=h.nw;have Sd:=aT.workers;rw[hnw]at b6;have HM:=θ h;have HU:=θ hu;have hmx:=h.row.rd.2.1;unfold π at*;clear h hu;obtain⟨WA,hWA⟩:∃WA,x.WA=WA:=⟨_,rfl⟩;have HWA:=θ hWA;rw[hWA]at b6;clear hWA;go_enter func292,ntmps292;go_wp2_with fail;go_loopw [9] (fun iv wr=>SK w T t b cf me tp ops x c s iv wr) (fun iv _=>cf.workers-(intOf iv).toNat)
 case atStart=>exact⟨0,s,rfl,aM _,Ξ.refl _ HU.o,HM.o,rfl,rfl,rfl,rfl,rfl,rfl,fun i k' hi=>absurd hi (Nat.not_lt_zero _)⟩
 case round =>
  obtain⟨k,s1,rfl,hk,hT,rH,hb,hf,hla,htl,hep,DR,Wn⟩:=hrel;by_cases jk:k<cf.workers
  .obtain⟨wbk,hwb⟩:∃q,x.wb[k]?=some q:=⟨_,bf (by rw[hnw];exact jk)⟩
   obtain⟨wk,Ss⟩:∃q,s1.ks[k]?=some q:=⟨_,bf (by rw[rH.nk];exact jk)⟩;obtain⟨g,hg,cg,_,_⟩:=rH.row.at_ (i:=k) (v:=π wbk) (by rw[List.getElem?_map,hwb];rfl);rw[HWA.o]at hg;subst hg;have Cg:=rH.st.KL;have HR:=θ (abW (rH.wk k wbk wk hwb Ss) rH.st hT.Δ η cN η (by have:=rH.small aT;omega) (fun hb=>fK.2 ⟨_,((rH.ok.Z9 wk (sO Ss) hb).2.1).choose_spec.1,rfl⟩));have HF:=θ (show ∀w3 T3 v,Ξ (fun j=>j=t+3+k\/In (t+7) 5 j) wr T w3 T3->SH T (t+7) x.sb (4*cf.room) s1.free s1.last wbk (t+3+k) x.tb x.jb s1.gs tp x.A x.an x.ad wk v w3 T3->SK w T t b cf me tp ops x c s (.int .i64 ((k+1:Nat):Int)) w3 from fun w3 T3 v cT hP=>by
    obtain⟨_,hTe,q1,cZ,_,q2⟩:=hP;rw[hTe]at cT;have mE:=cT.mono (S':=fun j=>j=t+3+k\/j=t+12+1\/In (t+7) 5 j\/In (t+14) 2 j) fun j hj=>(by rcases hj with hj|hj;exact .inl hj;exact .inr (.inr (.inl hj)));refine⟨k+1,_,rfl,jk,hT.trans (cT.mono fun j hj=>iw),rH.worker aT hl hwb mE q1 q2 (rH.tr.ο cT cN cN cN) (rH.jo.ο cT cN cN) (rH.ok.rest Ss Cg q2.ids.1) rH.jn,hb,hf,hla,htl,hep,DR,fun i k' hi h9=>?_⟩;have h9:(s1.ks.set k {wk with busy:=false})[i]?=some k':=h9;rw[Es]at h9;split at h9
    .split at h9
     .cases h9
      rfl
     .cases h9
    .exact Wn i k' η h9)
   unfold π at*;clear rH Wn Cg hT;go_wp2_with fail;refine HR.o.mono ?_;rintro e w3 ⟨v,rfl,T3,cT,ry⟩;obtain⟨r,rfl⟩:=ry.1;have HF3:=θ (HF.o w3 T3 _ cT ry);clear cT ry;go_wp2;go_roundw
   case rel=>exact HF3.o
   exact dB
  .obtain rfl:k=cf.workers:=by omega
   have b4:=rH.hd.zc 4;have HCl:=θ (rH.clear aT hT.Δ η);have HF:=θ (show ∀w3 T3 v,Ξ (fun j=>j=t+12\/j=t+12+1\/In (t+7) 5 j) wr T w3 T3->AZ (t+12) x.tb x.sb cf.aR s1.cM s1.aL s1.fr (t+7) (4*cf.room) s1.free s1.last s1.bl s1.gs (· = true) v w3 T3->Ξ (In (t+3) 11) w T w3 T3/\adA t b cf me tp ops x c s (.tuple #[]) w3 T3 from fun w3 T3 v cT hP=>by
    obtain⟨fl,ep,cZ,q1,q2,q3,q4,q5⟩:=rH.dropped aT hl cT hP;refine⟨hT.trans (cT.mono fun j hj=>iw),rfl,_,q5,hb,hf,hla,htl,by show ep<=_;omega,AY _ _ (all_false q2),?_⟩;have h1:=q5.st.ahS;have h2:=q5.ok.len;have h3:wp s1.ks=[]:=abX fun k hk=>by obtain⟨i,hi,rfl⟩:=Z6 hk;exact Wn i _ (by rw[←rH.nk];exact hi) (bf hi)
    have h4:=aT.XX;have h5:=AY s1.bl fl (all_false q2);simp only[h3,h5,List.length_nil]at h1 h2;show 4<=cZ
    omega)
   unfold π at*;clear rH Wn hT;go_wp2_with fail;refine HCl.o.mono ?_;rintro e w3 ⟨v,rfl,T3,cT,ry⟩;have HF3:=θ (HF.o w3 T3 _ cT ry);obtain⟨r,fl,ep,cZ,rfl,_⟩:=ry;clear cT;go_wp2_with fail;go_end0
   exact⟨_,rfl,T3,HF3.o⟩
end
section
variable {w w':κ}{T T':Tg}{t b:Nat}{cf:Cf}{me:Nat}{tp:aD}{ops:List dM}{x:Mx}{c c':Cr}{s:Ms}{B:Nat}
theorem aac{l:aD}(h:gH w T t b l)(f:Nat):τ prog 193 #[.pointer b,f] w fun e w'=>(∃(y:UInt8) (r:Bool),e=.returned (.tuple #[.int .u8 (y.toNat:Nat),.bool r]))/\w'=w:=by
 by_cases hf:f<l.length
 .refine(RJ h hf).mono ?_;rintro e w' ⟨rfl,hw⟩;exact⟨⟨_,_,rfl⟩,hw⟩
 .refine(O0 h η).mono ?_;rintro e w' ⟨rfl,hw⟩;exact⟨⟨0,_,rfl⟩,hw⟩
theorem abY(hH:Has w T t b (mulC x tp base fr))(hP:bN w T (t+16) x.xb cf me tp ops x.cb x.qb x.ps c c.front)(hk:bz cf me c [])(y:Br)(h:aS×Nat)(hp:Sp w T h.1 y.ν.length h.2 y.ν)(hj:∀p∈y.ν,p.length=cf.n)(aT:Kw y.ν)(iU:fr<=1000):τ prog 278 #[π b,GP fr y h] w fun e w'=>(∃r,e=.returned (.bool r))/\Ext w w':=by
 have hlen:=hk.len;have jW:=hk.ok.n8;obtain⟨A,pc⟩:=h;have b0:=hH.zc 0;have b8:=hH.zc 8;have I2:=θ fun W (e:Ext w W)=>iI (hP.ext e);have GR:=θ fun W (e:Ext w W)=>jf (hP.core.ext e);have Hli:=θ fun W (e:Ext w W) p (hp:p<cf.n)=>lZ (hP.core.BW.ext e) (by rw[hlen];exact jW) (p:=p) (by rw[hlen];exact hp);have DQ:=θ fun W (e:Ext w W) p (hp:p<cf.n) f=>aac ((hP.core.BW.line p (by rw[hlen];exact hp)).ext e) f;have hmx:=hp.rp.max;have Md:=aT.1;have Oi:Hq (∀k,k<y.ν.length->∃b o Ai ni ci pr,A=some ⟨b,o,none⟩/\w.cell? ⟨b,o+k,none⟩=some (.slice Ai ni ci)/\Rb w Ai ni ci pr/\pr.length=cf.n):=θ fun k hk=>by obtain⟨b,o,Ai,ni,ci,h1,h2,h3,_⟩:=hp.at_ hk;exact⟨b,o,Ai,ni,ci,_,h1,h2,h3,hj _ (List.getElem_mem hk)⟩
 unfold maxLen at hmx;unfold π GP we at*;clear hH hP hp hj aT hk hlen;dsimp only at*
 generalize y.ν.length=pl at*;go_enter func278,ntmps278;go_upto_region 1 with fail
 generalize hV:w.alloc _=V at*;have eV:Ext w V:=by subst hV;exact Ext.alloc _ _
 have k1:V.cell? (w.heap.size,1)=some (fr:ξ):=ir;have k2:V.cell? (w.heap.size,2)=some (.slice A pl pc):=ir;clear hV;generalize w.heap.size=g0 at*;replace b0:=eV.cell b0;go_wp2_with fail;refine(I2.o _ eV).mono ?_;rintro e w1 ⟨rfl,hw⟩;have hw:=hw.symm;subst hw;go_wp2_with fail;refine(GR.o _ eV).mono ?_;rintro e w1 ⟨rfl,hw⟩;have hw:=hw.symm;subst hw;go_wp2_with fail;go_loopw [21] (fun iv wr=>∃k:Nat,iv=.int .i64 (k:Nat)/\k<=pl/\Ext V wr) (fun iv _=>pl-(intOf iv).toNat)
 case atStart=>exact⟨0,rfl,aM _,Ext.refl _⟩
 case round =>
  obtain⟨k,rfl,hk,er⟩:=hrel;by_cases jk:k<pl
  .obtain⟨gb,ob,Ai,ni,ci,pr,hA,cc,hr,tO⟩:=Oi.o k jk
   subst hA;obtain rfl:ni=cf.n:=by rw[hr.len];exact tO
   have hw:=ej ((fr:Int)+(k:Int));have ajw:=θ fun W (e:Ext w W) p (hp:p<cf.n)=>DQ.o W e p hp (fr+k);simp only[Int.natCast_add]at ajw;have cc:=er.cell (eV.cell cc);have hmr:=hr.max;unfold maxLen at hmr;have Hr:=θ hr;clear hr tO;obtain⟨wo,hwo⟩:∃wo,wo=wr:=⟨_,rfl⟩;subst hwo;go_wp2_with fail;go_loopw [28] (fun iv wr=>∃p:Nat,iv=.int .i64 (p:Nat)/\p<=cf.n/\Ext V wr) (fun iv _=>cf.n-(intOf iv).toNat)
   case atStart=>exact⟨0,rfl,aM _,er⟩
   case round =>
    obtain⟨p,rfl,hp,ei⟩:=hrel;by_cases ajx:p<cf.n
    .have hrl:=Hr.o.len
     obtain⟨gp,op,hAi,cp⟩:=Hr.o.at_ (k:=p) η;subst hAi;generalize pr[p]' η=xb at*;have cp:=ei.cell (eV.cell cp);have Hl:=θ fun W (e:Ext w W)=>Hli.o W e p ajx;have Ha:=θ fun W (e:Ext w W)=>ajw.o W e p ajx;clear hrl;have k1r:=ei.cell k1;have e0:=eV.trans ei;go_wp2_with fail;apply iL trivial;repeat apply iO (fun _ _ _=>trivial)
     apply jD (fun W hR=>Hl.o W (e0.trans hR));repeat apply nh k1r
     apply BC (p:=fun u W=>∃(y:UInt8) (r:Bool),u=.tuple #[.int .u8 (y.toNat:Nat),.bool r]) (fun _ _ _ h he=>h)
     .intro W hR υ;refine(Ha.o W (e0.trans hR)).mono ?_;rintro e w' ⟨⟨y,r,rfl⟩,he⟩;exact⟨_,rfl,by subst he;exact Ext.refl _,y,r,rfl⟩
     intro v1;simp only[pu];apply dL (p:=fun u W=>∃(y:UInt8) (r:Bool),u=.tuple #[.int .u8 (y.toNat:Nat),.bool r]) (fun _ _ _ h _=>h)
     .rfl
     .intro W hR υ;obtain⟨y,r,rfl⟩:=υ.1 rfl;refine⟨_,W,?_,Ext.refl _,y,r,rfl⟩;go_simp;first|done|rfl
     intro v9;simp only[pu];apply dL (p:=fun u W=>∃y:UInt8,u=.int .u8 (y.toNat:Nat)) (fun _ _ _ h _=>h)
     .rfl
     .intro W hR υ;obtain⟨y,r,rfl⟩:=υ.1 rfl;refine⟨_,W,?_,Ext.refl _,y,rfl⟩;go_simp;first|done|rfl
     intro v2;simp only[pu];apply dL (p:=fun u W=>∃r:Bool,u=.bool r) (fun _ _ _ h _=>h)
     .rfl
     .intro W hR υ;obtain⟨y,r,rfl⟩:=υ.2.1 rfl;refine⟨_,W,?_,Ext.refl _,r,rfl⟩;go_simp;first|done|rfl
     intro v3;simp only[pu];apply dL (p:=fun u W=>∃y:UInt8,u=.int .u8 (y.toNat:Nat)) (fun _ _ _ h _=>h)
     .rfl
     .intro W hR υ;obtain⟨y,rfl⟩:=υ.2.1 rfl;refine⟨_,W,?_,Ext.refl _,y,rfl⟩;go_simp;first|done|rfl
     intro v4;simp only[pu];apply dL (p:=fun u W=>∃r:Bool,u=.bool r) (fun _ _ _ h _=>h)
     .rfl
     .intro W hR υ;obtain⟨r,rfl⟩:=υ.2.1 rfl;refine⟨_,W,?_,Ext.refl _,r,rfl⟩;go_simp;first|done|rfl
     intro v5;simp only[pu];refine lex_nil ?_;intro Wx ak υ;obtain⟨r,rfl⟩:=υ.1 rfl;obtain⟨y,rfl⟩:=υ.2.1 rfl;clear υ;have ew:=ei.trans ak;cases r with
     |true =>
      by_cases hyx:y.toNat=xb.toNat
      .have e1:((y.toNat:Int) != (xb.toNat:Int))=false:=by rw[bne_eq_false_iff_eq];omega
       clear hyx;go_wp2;go_roundw
       case rel=>exact⟨p+1,cR,η,ew⟩
       exact dB
      .have e1:((y.toNat:Int) != (xb.toNat:Int))=true:=by rw[bne_iff_ne];omega
       clear hyx;go_wp2;go_ret;exact⟨⟨_,rfl⟩,eV.trans ew⟩
     |false =>
      go_wp2;go_roundw
      case rel=>exact⟨p+1,cR,η,ew⟩
      exact dB
    .obtain rfl:p=cf.n:=by omega
     go_wp2;go_roundw
     case rel=>exact⟨k+1,cR,η,ei⟩
     exact dB
  .obtain rfl:k=pl:=by omega
   have k1r:=er.cell k1;have b8r:=er.cell (eV.cell b8);go_wp2_with fail;apply iL trivial;repeat apply kZ k1r b8r
   refine jq fun Wx ak=>?_;go_wp2;go_ret;exact⟨⟨_,rfl⟩,(eV.trans er).trans ak⟩
theorem abZ{fr' dz aL:Nat}(hH:Has w T t b (mulC x tp base fr))(ye:fB w T (t+12) x.tb x.sb dz cM aL fr' bl)(hm:dz<=8)(aT:∀y∈bl,Kw y.ν)(hp:Rp w PA pn pc ν):τ prog 295 #[π b,.slice PA pn pc] w fun e w'=>(∃r,e=.returned (.bool r))/\Ext w w':=by
 have b4:=hH.zc 4;have oc:=θ (AU ye hm aT);have vQ:=hp.len;have J1:=hp.max;have ag1:bl.length<=8:=aF ye.tH hm;have Hpe:Hq (∀k,k<pn->∃b o Ai ni ci p,PA=some ⟨b,o,none⟩/\w.cell? ⟨b,o+k,none⟩=some (.slice Ai ni ci)/\Rb w Ai ni ci p):=θ fun k hk=>by obtain⟨b,o,Ai,ni,ci,h1,h2,h3⟩:=hp.at_ (k:=k) η;exact⟨b,o,Ai,ni,ci,_,h1,h2,h3⟩
 unfold π maxLen at*;clear hH ye hp aT vQ;go_enter func295,ntmps295;go_wp2_with fail;refine oc.o.mono ?_;rintro e w2 ⟨B,d,rfl,e2,hB⟩;have HB:=θ (hB (fun _=>0) (fun _ _=>rfl));have hdm:bl.length<=d:=by obtain⟨_,hs,_,h2,_⟩:=HB.o;exact h2.2.1
 obtain⟨N,hN⟩:∃N,N=bl.length:=⟨_,rfl⟩;rw[←hN]at ag1 hdm⊢;have HN:=θ hN;clear hB hN b4;go_wp2_with fail;go_loopw [16] (fun iv wr=>∃k:Nat,iv=.int .i64 (k:Nat)/\k<=N/\Ext w2 wr) (fun iv _=>N-(intOf iv).toNat)
 case atStart=>exact⟨0,rfl,aM _,Ext.refl _⟩
 case round =>
  obtain⟨k,rfl,hk,er⟩:=hrel;by_cases jk:k<N
  .obtain⟨y,hy⟩:∃y,bl[k]?=some y:=⟨_,bf (by rw[←HN.o];exact jk)⟩
   obtain⟨g9,o9,⟨A1,c1⟩,hBe,hv,vk⟩:=HB.o.elem hy;subst hBe;have yG:∀i v,(we fr' y (A1,c1))[i]?=some v->wr.cell? ⟨g9,o9+k*5+i,none⟩=some v:=fun i v hi=>er.cell (hv i v hi);have k0:=yG 0 _ rfl;have k1:=yG 1 _ rfl;have k2:=yG 2 _ rfl;have k3:=yG 3 _ rfl;have k4:=yG 4 _ rfl;rw[AM]at k0;have yy:=vk.len;have KV:=vk.rp.max;have Hse:Hq (∀k,k<y.ν.length->∃b o Ai ni ci p,A1=some ⟨b,o,none⟩/\w2.cell? ⟨b,o+k,none⟩=some (.slice Ai ni ci)/\Rb w2 Ai ni ci p):=θ fun k hk=>by obtain⟨b,o,Ai,ni,ci,h1,h2,h3⟩:=vk.rp.at_ (k:=k) η;exact⟨b,o,Ai,ni,ci,_,h1,h2,h3⟩
   unfold maxLen at KV;dsimp only at*
   clear hv yG vk hy yy;generalize y.ν.length=pl at*;generalize y.id=i1 at*;generalize y.done=i3 at*;generalize y.jP=i4 at*;clear y;go_upto_region 4 with fail
   have b9:=Has.new wr (fun _=>0) [i1,fr',.slice A1 pl c1,i3,i4] 136 rfl;have vZ:=Ext.alloc wr (.cells #[i1,fr',.slice A1 pl c1,i3,i4] 136);generalize hW:aB wr _=W at*;obtain⟨gv,DV⟩:∃gv,gv=wr.heap.size:=⟨_,rfl⟩;rw[←DV]at b9⊢;clear hW DV k0 k1 k2 k3 k4;have j2:=b9.zc 2;have j3:=b9.zc 3;have eW:=er.trans vZ;clear b9 vZ;go_upto_region 5 with fail
   go_cut [38] (fun bv wx=>∃bo:Bool,bv=.bool bo/\(bo=false->pl<=pn)/\wx=W)
   case first =>
    by_cases hA:pn<pl
    .go_wp2_with fail
     go_meet
     exact⟨true,rfl,fun h=>absurd h Γ,rfl⟩
    .by_cases hB:pl<pn
     .by_cases hC:i3=pl
      .have d1:((i3:Int)==(pl:Int))=true:=by rw[beq_iff_eq];omega
       clear hC;go_wp2_with fail;go_meet
       exact⟨true,rfl,fun h=>absurd h Γ,rfl⟩
      .have d1:((i3:Int)==(pl:Int))=false:=by rw[beq_eq_false_iff_ne];omega
       clear hC;go_wp2_with fail;go_meet
       exact⟨false,rfl,fun _=>η,rfl⟩
     .go_wp2_with fail
      go_meet
      exact⟨false,rfl,fun _=>η,rfl⟩
   case rest =>
    obtain⟨bo,rfl,hbo,FF⟩:=hcut;have FF:=FF.symm;subst FF;cases bo with
    |true =>
     go_wp2;go_roundw
     case rel=>exact⟨k+1,cR,η,eW⟩
     exact dB
    |false =>
     have hpp:=hbo rfl;clear hbo;go_wp2_with fail;obtain⟨wo,hwo⟩:∃wo,wo=wr:=⟨_,rfl⟩;subst hwo;go_loopw [8,40] (fun sv iv wx=>∃(j:Nat) (bo:Bool),sv=.bool bo/\iv=.int .i64 (j:Nat)/\j<=pl/\Ext W wx) (fun _ iv _=>pl-(intOf iv).toNat)
     case atStart=>exact⟨0,true,rfl,rfl,aM _,Ext.refl _⟩
     case round =>
      obtain⟨j,bo,rfl,rfl,hj,ei⟩:=hrel;by_cases hjp:j<pl
      .have j2r:=ei.cell j2
       cases bo with
       |true =>
        obtain⟨gs,os,As,ns,cs,p1,hAs,xP,hrs⟩:=Hse.o j hjp;obtain⟨gp,op,Ap,np,cp,p2,hAp,Ki,hrp⟩:=Hpe.o j η;subst hAs;subst hAp;have xP:=(eW.trans ei).cell xP;have Ki:=((e2.trans eW).trans ei).cell Ki;have mX:j<pn:=η;have alW:=θ fun W' (e:Ext wr W')=>dS W' 30 9 5 underlying30 underlying5 underlying9 As ns cs p1 (hrs.ext ((eW.trans ei).trans e));have alX:=θ fun W' (e:Ext wr W')=>dS W' 30 9 5 underlying30 underlying5 underlying9 Ap np cp p2 (hrp.ext (((e2.trans eW).trans ei).trans e));clear hrs hrp;go_wp2_with fail;apply iL trivial;repeat first|apply iO (fun W' h _=>aj (h.cell j2r) (aj (h.cell xP) (aj (h.cell Ki) (aj (alW.o W' h) (alX.o W' h)))))|apply lU trivial
        refine jq fun Wx ak=>?_;go_wp2;go_roundw
        case rel=>exact⟨j+1,_,rfl,cR,η,ei.trans ak⟩
        exact dB
       |false =>
        go_wp2_with fail;apply iL trivial;repeat first|apply iO (fun _ _ _=>trivial)|apply lU trivial
        refine jq fun Wx ak=>?_;go_wp2;go_roundw
        case rel=>exact⟨j+1,_,rfl,cR,η,ei.trans ak⟩
        exact dB
      .obtain rfl:j=pl:=by omega
       cases bo with
       |true =>go_wp2;go_ret;exact⟨⟨_,rfl⟩,(e2.trans eW).trans ei⟩
       |false =>
        go_wp2;go_roundw
        case rel=>exact⟨k+1,cR,η,eW.trans ei⟩
        exact dB
  .obtain rfl:k=N:=by omega
   go_wp2;go_ret;exact⟨⟨_,rfl⟩,e2.trans er⟩
end
theorem uZ(w:κ)(t ty e:aY)(i:TypeInfo)(ht:P.underlying t=some (.slice e))(hi:P.info? e=some i)(A:aS)(n c:Nat)(hle:n<=c)(A':aS)(c':Nat):(Builtin.append_ #[t,t] ty #[.slice A n c,.slice A' 0 c']).run P w=.ok (.slice A n c) w:=by cases A<;>cases A'<;>simp[Builtin.append_,run_underlying ht,sizeOf,typeInfo,hi,Builtin.lenOf,Builtin.firstCells,hle,storeCells,loadCells,loadCellsFrom]
theorem rj(w:κ){ops:Array Oper}{rest:List Oper}{Q:Exit->Act->κ->Prop}(rJ:o.guard=none)(s x:Operand)(t:aY)(ho:o.op=.call {callee:=.builtin .append,args:=#[s,x],argTypes:=#[t,t]})(e:aY)(i:TypeInfo)(ht:P.underlying t=some (.slice e))(hi:P.info? e=some i)(A:aS)(n c:Nat)(hs:a.eval s=.slice A n c)(hle:n<=c)(A':aS)(c':Nat)(hx:a.eval x=.slice A' 0 c')(h:wpList P ops Q rest (a.put o.dst (.slice A n c)) w):wpList P ops Q (o::rest) a w:=by refine wpList_plain rJ fun K hK=>?_;have uH:=uZ (P:=P) w t o.type e i ht hi A n c hle A' c';unfold Oper.wp execOp;simp only[ho,resolve,invoke,builtin,Sem.run_bind,Sem.run_pure,Result.andThen_ok,Ou,mF,tT,hs,hx,uH];exact hK _ _ h
section
variable {w w':κ}
section
variable(w:κ){o:Nat}(h:vl kind o)(A:aS)(n c:Nat)(aa:aD)(hb:Rb w A n c aa)(r:Nat)(hr:r<=100)
include h hb hr
theorem QC(h0:0<r)(tt:Nat)(ht:tt<=1000)(hl:aa.length<=1000):τ prog 284 #[.slice A n c,tR kind o,r,tt] w (Sy w kind o aa r tt A):=by
 obtain⟨i0,hi,dx,dA,dN⟩:=info_parts dX;have hn:=hb.len;subst hn;have hmx:=hb.max;unfold maxLen at hmx;by_cases aX:tt<=aa.length
 .have zW:=dQ ((tt:Int)<=(aa.length:Int));have Hb:=θ hb;have Hlt:=θ aX;unfold tR;clear hb;go_enter func284,ntmps284;go_wp2;go_ret;exact⟨A,_,c,aa,rfl,Hb.o.ext (Ext.alloc _ _),Hlt.o,η,fun e=>η,.inl rfl,List.prefix_refl _,Ext.alloc _ _⟩
 .have zW:=dh ((tt:Int)<=(aa.length:Int))
  have hrm:(r:Int).tmod 256=(r:Int):=Int.tmod_eq_of_lt η η;have hrw:=ej ((r:Int)+1);have anD:=ej (r:Int);have Hk:=θ fun W (e:Ext w W)=>Z5 W h A aa.length c aa (hb.ext e) hl r hr;have Hc:=θ fun W A' n' c' adB (JG:Rb W A' n' c' adB) G3 m hm=>IV W h A' n' c' adB JG G3 m hm;have Hb:=θ hb;unfold tR at*;clear hb h;go_enter func284,ntmps284;go_wp2_with fail;generalize hV:w.alloc _=V at*;have eV:Ext w V:=by subst hV;exact Ext.alloc _ _
  have b0:V.cell? w.heap.size=some (kind:ξ):=ir;have b1:V.cell? (w.heap.size,1)=some (o:ξ):=ir;have b2:V.cell? (w.heap.size,2)=some (.slice none 0 0):=ir;clear hV;apply lG 15;simp only[tk];repeat apply DH b0 b1 b2
  apply BC (p:=fun u W=>∃g d l,u=.slice (some ⟨g,0,none⟩) (r+1) d/\Rb W (some ⟨g,0,none⟩) (r+1) d l) (fun _ _ _ ⟨g,d,l,hv,h1⟩ he=>⟨g,d,l,hv,h1.ext he⟩)
  .intro W hR υ;refine(Hk.o W (eV.trans hR)).mono ?_;rintro e w' ⟨g,d,l,rfl,h1,h2⟩;exact⟨_,rfl,h2,g,d,l,rfl,h1⟩
  intro v1;simp only[pu];repeat apply iO (fun _ _ _=>trivial)
  apply dL (p:=fun u W=>∃(g:Nat) (x:UInt8),u=.pointer (some ⟨g,r,none⟩)/\W.cell? ⟨g,r,none⟩=some (.int .u8 (x.toNat:Nat))) (fun _ _ _ ⟨g,x,hv,h1⟩ he=>⟨g,x,hv,he.cell h1⟩)
  .rfl
  .intro W hR υ
   obtain⟨g,d,l,rfl,hB⟩:=υ.1 rfl;have Ol:r<l.length:=by have:=hB.len;omega
   obtain⟨g2,o2,hA2,j5⟩:=hB.at_ Ol;cases hA2
   rw[Nat.zero_add]at j5;have hrr:((r:Int)<(r:Int)+1)=True:=eq_true η;refine⟨.pointer (g,r),W,?_,Ext.refl _,g,_,rfl,j5⟩;go_simp;first|done|rfl
  intro v2;simp only[pu];apply dL (p:=fun u W=>∃x:UInt8,u=.int .u8 (x.toNat:Nat)) (fun _ _ _ h _=>h)
  .rfl
  .intro W hR υ;obtain⟨g,x,rfl,j5⟩:=υ.1 rfl;refine⟨_,W,?_,Ext.refl _,x,rfl⟩;go_simp;first|done|rfl
  intro v3;simp only[pu];apply dL (p:=fun u W=>∃(g:Nat) (x:UInt8),u=.slice (some ⟨g,0,none⟩) 1 1/\Rd W 1 (some ⟨g,0,none⟩) 1 1 (dK [x])) (fun _ _ _ ⟨g,x,hv,h1⟩ he=>⟨g,x,hv,h1.ext he⟩)
  .rfl
  .intro W hR υ;obtain⟨x,rfl⟩:=υ.1 rfl;refine⟨_,_,?_,Ext.alloc _ _,_,x,rfl,(Own.made _ 0 5 1 [.int .u8 (x.toNat:Nat)] 1 (aM _) iQ rfl).rd⟩;go_simp;first|done|rfl
  intro v4;simp only[pu];refine lex_nil ?_;intro Wx ak υ;obtain⟨g,x,rfl,mo⟩:=υ.1 rfl;clear υ;simp only[dk];replace b0:=ak.cell b0;replace b1:=ak.cell b1;replace b2:=ak.cell b2;have eX:=eV.trans ak;have vt:=Hb.o.ext eX;clear ak eV;go_upto_region 6 with (at_builtin;refine jM _ rfl _ _ 30 rfl 5 i0 (.int .u8 0) 1 1 underlying30 hi dx dA dN rfl Γ A aa.length _ rfl (Rd.cap vt) _ 1 1 _ rfl mo Γ (ez _) iQ η ?_;intro E Ed wy fQ Uw)
  obtain⟨q,hq⟩:∃q,q=aa.length+1:=⟨_,rfl⟩;rw[←hq]at fQ⊢;have hbE:Rb wy E q Ed (aa++[x]):=Rb.of fQ.rd (by rw[aJ]);have hmE:=hbE.max;unfold maxLen at hmE;obtain⟨m,hm⟩:∃m,tt-q=m:=⟨_,rfl⟩;have hw:IntKind.i64.wrap ((tt:Int)-(q:Int))=(m:Nat):=by rw[IntWalk.i64_in _ η];omega
  have hmb:m<=1000:=η;have eY:=eX.trans Uw;replace b0:=Uw.cell b0;replace b1:=Uw.cell b1;replace b2:=Uw.cell b2;have hlp:(aa++[x]).length<=1000:=dw;have Hc2:=θ fun W (e:Ext wy W)=>Hc.o W E q Ed (aa++[x]) (hbE.ext e) hlp m dw;have HE:=θ hbE;have HEb:=θ (show ∀q,bn E=some q->w.heap.size<=q from fun q hq=>by have:=fQ.ax q hq;have:=eX.size;omega);have gf:tt=aa.length+1+m:=η;have AA:=θ gf;have hqm:q<=1000:=η;clear fQ Uw hbE vt mo hm gf hq;go_wp2_with fail;apply lG 13;simp only[tk];repeat apply DH b0 b1 b2
  apply BC (p:=fun u W=>∃B d,u=.slice B m d/\Rb W B m d (mM kind o (aa++[x]) m)) (fun _ _ _ ⟨B,d,hv,h1⟩ he=>⟨B,d,hv,h1.ext he⟩)
  .intro W hR υ;refine(Hc2.o W hR).mono ?_;rintro e w' ⟨B,d,rfl,h1,h2,h3⟩;exact⟨_,rfl,h3,B,d,rfl,h1⟩
  intro v5;simp only[pu];refine lex_nil ?_;intro Wx ak υ;obtain⟨B,d,rfl,hB⟩:=υ.1 rfl;clear υ;simp only[dk];have hEx:=HE.o.ext ak;have eZ:=eY.trans ak;have vz:aa <+: aa++[x]:=Ls _ _;have ajy:=θ vz;clear vz;rcases rA m with Bk|Bk
  .subst Bk
   go_wp2_with (at_builtin;refine rj _ rfl _ _ 30 rfl 5 i0 underlying30 hi E q q rfl (aq _) B d rfl ?_)
   go_ret;have hf:=AA.o;exact⟨E,_,_,aa++[x],rfl,Rd.cap hEx,dw,dw,fun e=>η,.inr HEb.o,ajy.o,eZ⟩
  .go_wp2_with (at_builtin;refine jM _ rfl _ _ 30 rfl 5 i0 (.int .u8 0) 1 1 underlying30 hi dx dA dN rfl Γ E q _ rfl (Rd.cap hEx) B m d _ rfl hB Bk (ez _) iQ η ?_;intro E2 Ed2 wz Fj alY)
   go_ret;have hf:=AA.o;refine⟨E2,_,Ed2,(aa++[x])++mM kind o (aa++[x]) m,rfl,Rb.of Fj.rd (by simp only[aJ]),by simp[yO];omega,by simp[yO];omega,fun e=>η,.inr fun q hq=>?_,ajy.o.trans (Ls _ _),eZ.trans alY⟩;have:=Fj.ax q hq;have:=eZ.size;omega
theorem Vk(tt:Nat)(ht:tt<=1000)(hl:aa.length<=1000):τ prog 284 #[.slice A n c,tR kind o,r,tt] w (Sy w kind o aa r tt A):=by
 rcases rA r with h0|h0
 .subst h0;exact zo w h A n c aa hb tt ht hl
 .exact QC w h A n c aa hb r hr h0 tt ht hl
end
end
section
variable {w w':κ}{T T':Tg}{t b:Nat}{cf:Cf}{me:Nat}{tp:aD}{ops:List dM}{x:Mx}{c c':Cr}{s:Ms}{B:Nat}
theorem wB(hH:Has w T t b (mulC x tp base fr))(hS:aZ w T (t+7) x.sb n free last gs)(hq:(q,g)∈gs)(hl:last<4611686018427387903):τ prog 264 #[π b,q] w fun e w'=>e=.returned (.agg (jj g))/\Ext w w':=by
 obtain⟨i,hi,hz⟩:∃i,prog.info? 205=some i/\i.zero=some (.agg (cP 32 (af .i32 0)).toArray):=by
  have h9:=uB;cases hq:prog.info? 205 with
  |none=>rw[hq]at h9;cases h9
  |some i=>rw[hq]at h9;exact⟨i,rfl,Ll⟩
 have rF:=hS.ZU _ hq;have HSt:=θ fun W (e:Ext w W)=>ZV (hS.ext e) hq hl;have b3:=hH.zc 3;have oh:(g.map (af .i32)).length=32:=by rw[List.length_map,rF]
 have eo:∀u∈g.map (af .i32),u.oneCell'=true:=by intro u hu;obtain⟨x,_,rfl⟩:=fK.1 hu;rfl
 have DK:(cP 32 (af .i32 0)).length=32:=bT;unfold π jj at*;clear hH hS hq rF;generalize g.map (af .i32)=g1 at*;generalize cP 32 (af .i32 0)=zs at*;go_enter func264,ntmps264;go_upto_region 1 with (with_reducible refine bA rfl 205 rfl hi hz ?_;intro W1 a1 x1 s1)
 replace b3:=x1.cell b3;go_wp2_with fail;refine(HSt.o W1 x1).mono ?_;rintro e w2 ⟨rfl,e2⟩;have xE:=e2.size;go_wp2_with (first|(with_reducible refine bA rfl 205 rfl hi hz ?_;intro W3 a3 x3 s3)|(with_reducible refine bF rfl 205 (.tmp 5) (.tmp 14) rfl rfl rfl a3 oh DK bu eo ?_;intro W4 a4 g4 s4;have a14:=((a1.ext e2).ext x3).grown g4 dw)|(with_reducible refine fH rfl 205 (.tmp 5) rfl rfl underlying205 bu a4 oh ?_)|(with_reducible refine bF rfl 205 (.tmp 4) (.tmp 16) rfl rfl rfl a14 oh DK bu eo ?_;intro W5 a5 g5 s5));have e4:=Ext.own (B:=some ⟨w2.heap.size,0,none⟩) ((x1.trans e2).trans x3) g4 (fun k hk=>by have h9:w2.heap.size=k:=Option.some.inj hk;omega);have e5:=Ext.own (B:=some ⟨w.heap.size,0,none⟩) e4 g5 (fun k hk=>afd);exact bodyPost_ret (kM rfl _ rfl a5 oh underlying205 bu) rfl ⟨rfl,e5⟩
theorem GU(h:fJ w T t b cf me tp ops c B)(hk:bz cf me c [])(hB:B<=700000000):τ prog 254 #[π b] w (Shown w (aC tp ops c.ls c.front) c.front):=by
 obtain⟨x,s,h,iU,hla,_,_⟩:=h;have hlen:=hk.len;have jW:=hk.ok.n8;have h2:=hk.ok.n2;have hG:=fA tp ops c.ls c.front;have I2:=θ fun W (e:Ext w W)=>FX (h.ext e);have GR:=θ fun W (e:Ext w W)=>jf (h.pl.core.ext e);have sI:=θ fun W (e:Ext w W)=>ie (h.pl.core.BW.ext e) (by rw[hlen];exact jW) Bu hk.short;rw[show cn c.ls=c.front from rfl]at sI;have Wn:=h.ok.wA;rw[iU]at Wn;have Hpi:=θ fun W (e:Ext w W)=>wB (h.hd.ext e) (h.st.ext e) Wn η;have nK:=θ fun W=>oD W (aC tp ops c.ls c.front) hG;have b7:=h.hd.zc 7;have b8:=h.hd.zc 8;rw[iU]at b8;unfold π jj at*;clear h Wn hG iU hk;generalize aC tp ops c.ls c.front=G at*;generalize U2:c.front=fr at*;clear U2;generalize kL:G.map (af .i32)=g2 at*;clear kL;go_enter func254,ntmps254;go_wp2_with fail;apply iL trivial;repeat first|apply nh b8|apply lU trivial
 apply jD (fun W hR=>I2.o W hR);apply jD (fun W hR=>GR.o W hR);apply jD (fun W hR=>sI.o W hR);repeat first|apply iO (fun _ _ _=>trivial)|apply lU trivial
 refine jq fun Wx ak=>?_;replace b7:=ak.cell b7;replace b8:=ak.cell b8;have e1:=ak;generalize hWZ:Wx=W1 at*;clear hWZ ak;go_wp2_with fail;apply iL trivial;repeat apply nh b7
 apply jD (fun W hR=>Hpi.o W (e1.trans hR));apply BC (p:=fun u W=>∃B d,u=.slice B 128 d/\Rb W B 128 d (kC G)) (fun _ _ _ ⟨B,bd,hv,h1⟩ he=>⟨B,bd,hv,h1.ext he⟩)
 .intro W hR υ;refine(nK.o W).mono ?_;rintro e w' ⟨B,bd,rfl,ho,he⟩;exact⟨_,rfl,he,B,bd,rfl,ho⟩
 intro v2;simp only[pu];repeat apply nh b8
 apply dL (p:=fun u W=>∃B d,u=.slice B 128 d/\Rb W B 128 d (kC G)) (fun _ _ _ ⟨B,bd,hv,h1⟩ he=>⟨B,bd,hv,h1.ext he⟩)
 .rfl
 .intro W hR υ;obtain⟨B,bd,rfl,ho⟩:=υ.1 rfl;refine⟨_,W,?_,Ext.refl _,B,bd,rfl,ho⟩;go_simp;first|done|rfl
 intro v3;simp only[pu];repeat apply iO (fun _ _ _=>trivial)
 refine lex_nil ?_;intro Wx ak υ;obtain⟨B2,bd,rfl,oQ⟩:=υ.1 rfl;clear υ;go_wp2;go_ret2
 exact⟨B2,bd,rfl,oQ,e1.trans ak⟩
end
def OwF(w:κ)(e:aY)(size:Nat)(A:aS)(n c:Nat)(xs:List ξ):Prop:=Own w 0 e size A n c xs\/∃g,A=some ⟨g,0,none⟩/\c=n/\n<=maxLen/\g<w.heap.size/\xs.length=n*size/\∀j u,xs[j]?=some u->w.cell? ⟨g,j,none⟩=some u
def vn(w:κ)(T:Tg)(t:Nat)(e:aY)(size:Nat)(A:aS)(n c:Nat)(xs:List ξ):Prop:=OwF w e size A n c xs/\∀k,bn A=some k->T k=t
section
variable {w w':κ}{T T':Tg}{t:Nat}{e:aY}{size:Nat}{A:aS}{n c:Nat}{xs:List ξ}
section
variable(h:OwF w e size A n c xs)
include h
theorem OwF.rd:Rd w size A n c xs:=by
 rcases h with h|⟨g,rfl,rfl,h1,h2,h3,h4⟩
 .exact h.rd
 .exact⟨h3,aq _,h1,fun _=>⟨g,0,rfl,fun j u hj=>by rw[Nat.zero_add];exact h4 j u hj⟩⟩
theorem OwF.lt(hk:bn A=some k):k<w.heap.size:=by
 rcases h with h|⟨g,rfl,rfl,h1,h2,h3,h4⟩
 .obtain⟨a,ha,rfl⟩:=Option.map_eq_some_iff.1 hk;exact(h.gU a ha).2
 .cases hk;exact h2
theorem OwF.ext(x:Ext w w'):OwF w' e size A n c xs:=by
 rcases h with h|⟨g,rfl,rfl,h1,h2,h3,h4⟩
 .exact .inl (h.ext x)
 .exact .inr ⟨g,rfl,rfl,h1,eM h2 x.size,h3,fun j u hj=>x.cell (h4 j u hj)⟩
end
theorem vn.of(h:Row w T t e size A n c xs):vn w T t e size A n c xs:=⟨.inl h.1,h.2⟩
section
variable(h:vn w T t e size A n c xs)
include h
theorem vn.ext(x:Ext w w'):vn w' T t e size A n c xs:=⟨h.1.ext x,h.2⟩
theorem vn.ο(hT:Ξ S w T w' T')(hs:¬S t):vn w' T' t e size A n c xs:=by
 obtain⟨h|⟨g,rfl,rfl,h1,h2,h3,h4⟩,h5⟩:=h
 .exact vn.of (Row.ο ⟨h,h5⟩ hT hs)
 .have hg:T g=t:=h5 g rfl
  refine⟨.inr ⟨g,rfl,rfl,h1,eM h2 hT.size,h3,fun j u hj=>oR.cell (T:=T) (fY.uk hT) (h4 j u hj) (by rw[hg];exact hs)⟩,fun k hk=>?_⟩;cases hk
  rw[hT.tag g h2];exact hg
theorem vn.cond:∀g,bn A=some g->g<w.heap.size/\T g=t:=fun g hg=>⟨h.1.lt hg,h.2 g hg⟩
theorem vn.at_(hv:xs[i]?=some v):∃g,A=some ⟨g,0,none⟩/\w.cell? ⟨g,i,none⟩=some v/\T g=t:=by
 obtain⟨h|⟨g,rfl,rfl,h1,h2,h3,h4⟩,h5⟩:=h
 .obtain⟨g,h6,h7,_,h8⟩:=Row.at_ ⟨h,h5⟩ hv;exact⟨g,h6,h7,h8⟩
 .exact⟨g,rfl,h4 i v hv,h5 g rfl⟩
end
end
section
variable {P:Program}
theorem Bc{m tC:Nat}{Q:ξ->κ->Tg->Prop}(w:κ)(s x:Operand)(t:aY)(ho:o.op=.call {callee:=.builtin .append,args:=#[s,x],argTypes:=#[t,t]})(e:aY)(i:TypeInfo)(z:ξ)(size bytes:Nat)(ht:P.underlying t=some (.slice e))(hi:P.info? e=some i)(hz:i.zero=some z)(dU:i.size=size)(og:i.bytes=bytes)(C5:z.cells.size=size)(fV:0<size)(C:aS)(n c:Nat)(xs:List ξ)(hs:a.eval s=.slice C n c)(fS:OwF w e size C n c xs)(xv:ξ)(hx:a.eval x=xv)(hb:dI T m Q e xv w)(eo:∀u w T,Q u w T->u.cells.toList.length=size/\∀y∈u.cells.toList,y.oneCell'=true)(C6:n+1<=maxLen)(gB:(n+1)*bytes<=140737488355328)(hC:∀g,bn C=some g->g<m/\T g=tC)(hP:sA tC Q)(hm:m<=w.heap.size):∃v w',(execOp a.eval o).run P w=.ok (.value v) w'/\gR C w w'/\oM k C k w w'/\mO T m Q tC C e size (n+1) xs v w':=by
 rcases fS with fS|⟨g,rfl,rfl,h1,h2,h3,h4⟩
 .exact dF w s x t ho e i z size bytes ht hi hz dU og C5 fV C n c xs hs fS xv hx hb eo C6 gB hC hP hm
 .obtain⟨u,g9,rfl,um,kL,T',q2,q3,q4⟩:=hb
  obtain⟨xP,KC⟩:=eo _ _ _ q4;have hr:Rd w size (some ⟨g9,0,none⟩) 1 1 u.cells.toList:=⟨by rw[xP,Nat.one_mul],aq _,iQ,fun _=>⟨g9,0,rfl,fun j y hy=>by rw[cell_of_row _ _ _ _ _ _ kL];simpa using hy⟩⟩
  obtain⟨B,d,w',bU,wV,hxx⟩:=lI (P:=P) w t o.type e i z size bytes ht hi hz dU og C5 fV (some ⟨g,0,none⟩) c xs (OwF.rd (e:=e) (.inr ⟨g,rfl,rfl,h1,h2,h3,h4⟩)) _ 1 1 u.cells.toList hr Γ KC C6 gB;obtain⟨hT,hR⟩:=Row.fresh q3 wV hxx tC;refine⟨.slice B (c+1) d,w',?_,hxx.grownBy _,.inr hxx,u,_,B,d,rfl,fun k hk=>?_,hT.Δ,hP _ _ _ _ _ q4 (hT.mono fun _ e=>e.elim),hR,.inr fun k hk=>aF hm (wV.ax k hk)⟩
  .unfold execOp;simp only[ho,resolve,invoke,builtin,Sem.run_bind,Sem.run_pure,Result.andThen_ok,Ou,mF,tT,hs,hx,bU]
  .rw[hT.tag k (eM hk hm)];exact q2 k hk
end
def Vl(w0:κ)(T:Tg)(t:Nat)(e:aY)(size n:Nat)(xs:List ξ)(u:ξ)(W:κ):Prop:=∃T' B d,u=.slice B n d/\Ξ (fun _=>False) w0 T W T'/\vn W T' t e size B n d xs
theorem Vl.ext{w':κ}{t:Nat}{u:ξ}(h:Vl w0 T t e size n xs u w)(x:Ext w w'):Vl w0 T t e size n xs u w':=by obtain⟨T',B,d,h1,h2,h3⟩:=h;exact⟨T',B,d,h1,h2.ext x,h3.ext x⟩
theorem Nq{tt:Nat}(hx0:Ext w0 w)(s x:Operand)(t:aY)(ho:o.op=.call {callee:=.builtin .append,args:=#[s,x],argTypes:=#[t,t]})(e:aY)(i:TypeInfo)(z:ξ)(size bytes:Nat)(ht:P.underlying t=some (.slice e))(hi:P.info? e=some i)(hz:i.zero=some z)(dU:i.size=size)(og:i.bytes=bytes)(C5:z.cells.size=size)(fV:0<size){g:Nat}(h:vn w T tt e size (some ⟨g,0,none⟩) n c xs)(hu:Θ w0 T)(hk:k<n)(eo:∀u∈xs,u.oneCell'=true)(hn:n*bytes<=140737488355328)(hs:a.eval s=.slice g k k)(hx:a.eval x=.slice (if c=k+1 then some ⟨g,0,none⟩ else some ⟨g,(k+1)*size,none⟩) (n-(k+1)) (c-(k+1))):∃u w',(execOp a.eval o).run P w=.ok (.value u) w'/\Ext w w'/\Vl w0 T tt e size (n-1) (xs.take (k*size)++xs.drop (k*size+size)) u w':=by
 have Dn:=h.1.rd;have hlen:=Dn.1;have Gc:=Dn.2.1;have hcm:=Dn.2.2.1;have hg:T g=tt:=h.2 g rfl;have CI:g<w.heap.size:=h.1.lt rfl;have uL:∀j u,xs[j]?=some u->w.cell? ⟨g,j,none⟩=some u:=fun j u hj=>by
  obtain⟨g',e1,h1,_⟩:=h.at_ hj;cases e1
  exact h1
 have hle:k*size+size<=n*size:=by rw[←SI];exact xO _ hk
 have htl:(xs.take (k*size)).length=k*size:=by rw[List.length_take,hlen];omega
 have hF:OwF w e size (some ⟨g,0,none⟩) k k (xs.take (k*size)):=.inr ⟨g,rfl,rfl,η,CI,htl,fun j u hj=>uL j u (by
  rw[List.getElem?_take]at hj;split at hj
  .exact hj
  .cases hj)⟩
 have hnk:n-1=k+(n-(k+1)):=η;rw[hnk];by_cases yw:n-(k+1)=0
 .have hd:xs.drop (k*size+size)=[]:=List.drop_of_length_le (by rw[hlen,←SI];exact xO _ η);rw[hd,List.append_nil,yw,AM];rw[yw]at hx;refine⟨.slice g k k,w,?_,Ext.refl w,T,_,_,rfl,Ξ.ai _ hu hx0,hF,fun b hb=>by cases hb;exact hg⟩;have uH:=uZ (P:=P) w t o.type e i ht hi (some ⟨g,0,none⟩) k k (aq _) (if c=k+1 then some ⟨g,0,none⟩ else some ⟨g,(k+1)*size,none⟩) (c-(k+1));unfold execOp;simp only[ho,resolve,invoke,builtin,Sem.run_bind,Sem.run_pure,Result.andThen_ok,Ou,mF,tT,hs,hx,uH]
 .have hr:Rd w size (if c=k+1 then some ⟨g,0,none⟩ else some ⟨g,(k+1)*size,none⟩) (n-(k+1)) (c-(k+1)) (xs.drop (k*size+size)):=by rw[if_neg η];refine⟨by rw[List.length_drop,hlen,Nat.sub_mul,SI],η,η,fun _=>⟨g,(k+1)*size,rfl,fun j u hj=>uL _ u ?_⟩⟩;rw[List.getElem?_drop]at hj;rw[SI];exact hj
  have hb:(k+(n-(k+1)))*bytes<=140737488355328:=aF (xO _ η) hn;obtain⟨B,d,w',bU,wV,hxx⟩:=lI (P:=P) w t o.type e i z size bytes ht hi hz dU og C5 fV (some ⟨g,0,none⟩) k (xs.take (k*size)) hF.rd _ _ _ _ hr η (fun u hu=>eo u (List.mem_of_mem_drop hu)) η hb;obtain⟨hT,hR⟩:=Row.fresh (fun j hj=>hu j (aF hx0.size hj)) wV hxx tt;refine⟨.slice B (k+(n-(k+1))) d,w',?_,hxx,_,B,d,rfl,(Ξ.ai _ hu hx0).trans hT,vn.of hR⟩;unfold execOp;simp only[ho,resolve,invoke,builtin,Sem.run_bind,Sem.run_pure,Result.andThen_ok,Ou,mF,tT,hs,hx,bU]
def gJf(k:Nat)(e:aY)(size:Nat)(C:aS)(n c:Nat)(xs:List ξ)(j:Nat)(w:κ):Prop:=j=k->OwF w e size C n c xs
theorem gJf.aQ:∀j i,i≠j->∀w w',gJf k e size C n c xs j w->oM k C i w w'->gJf k e size C n c xs j w':=by
 intro j i yh w w' hJ hR JV;rcases hR with ⟨h,_⟩|h
 .exact absurd (h.trans JV.symm) yh
 .exact(hJ JV).ext h
theorem gJf.start(h:OwF w e size C n c xs):∀i,gJf k e size C n c xs i w.drew:=fun _ _=>h.ext (Ext.drew w)
def rI(w:κ)(T:Tg)(t id:Nat)(B:aS)(d:Nat)(ks:List Pk):Prop:=∃hs:List (Option Addr×Nat),hs.length=ks.length/\vn w T t 76 3 B ks.length d (cY id ks hs)/\∀(i:Nat) k h,ks[i]?=some k->hs[i]?=some h->Sb w T h.1 (aG id k).length h.2 (aG id k)
section
variable {w w' w0:κ}{T T':Tg}{t b id d:Nat}{B:aS}{ks:List Pk}
theorem rI.of(h:Nn w T t id B d ks):rI w T t id B d ks:=by obtain⟨hs,a1,a2,a3⟩:=h;exact⟨hs,a1,vn.of a2,a3⟩
theorem rI.ο(h:rI w T t id B d ks)(hT:Ξ S w T w' T')(h0:¬S 0)(h1:¬S t):rI w' T' t id B d ks:=by obtain⟨hs,a1,a2,a3⟩:=h;exact⟨hs,a1,a2.ο hT h1,fun i k h hk hh=>(a3 i k h hk hh).ο hT h0⟩
theorem rI.ext(h:rI w T t id B d ks)(e:Ext w w'):rI w' T t id B d ks:=by obtain⟨hs,a1,a2,a3⟩:=h;exact⟨hs,a1,a2.ext e,fun i k h hk hh=>(a3 i k h hk hh).ext e⟩
theorem rI.cut(a1:hs.length=ks.length)(hi:i<ks.length)(a3:∀(i:Nat) k h,ks[i]?=some k->hs[i]?=some h->Sb w T h.1 (aG id k).length h.2 (aG id k))(hT:Ξ S w T w' T')(h0:¬S 0)(hR:vn w' T' t 76 3 B (ks.length-1) d ((cY id ks hs).take (i*3)++(cY id ks hs).drop (i*3+3))):rI w' T' t id B d (ks.eraseIdx i):=by
 refine⟨hs.eraseIdx i,by rw[A7,A7,a1],?_,fun j k h hk hh=>?_⟩
 .rw[zu id ks hs i a1 hi,A7,if_pos hi];exact hR
 .rw[List.getElem?_eraseIdx]at hk hh
  split at hk
  .rename_i e;rw[if_pos e]at hh;exact(a3 j k h hk hh).ο hT h0
  .rename_i e;rw[if_neg e]at hh;exact(a3 (j+1) k h hk hh).ο hT h0
theorem wC{A:aS}(h:vn w T t e 3 A ks.length c (cY id ks hs))(hl:hs.length=ks.length)(hi:i<ks.length):∃g,A=some ⟨g,0,none⟩/\T g=t/\w.cell? ⟨g,i*3,none⟩=some ((ks[i].src:Nat):ξ)/\w.cell? ⟨g,i*3+1,none⟩=some ((ks[i].dst:Nat):ξ)/\w.cell? ⟨g,i*3+2,none⟩=some (.slice (hs[i]' η).1 (aG id ks[i]).length (hs[i]' η).2):=by
 obtain⟨g,hg,h1,h3⟩:=h.at_ ((nP id ks hs i 0 hl hi η Γ).trans rfl);refine⟨g,hg,h3,h1,?_,?_⟩
 .obtain⟨g',e,h1,_⟩:=h.at_ ((nP id ks hs i 1 hl hi η Γ).trans rfl)
  rw[hg]at e;cases e
  exact h1
 .obtain⟨g',e,h1,_⟩:=h.at_ ((nP id ks hs i 2 hl hi η Γ).trans rfl)
  rw[hg]at e;cases e
  exact h1
end
end Go.Proofs.YtffcefoadaogbaaGreat
