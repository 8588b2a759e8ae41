/- A part of the proof. -/
import Derived.Test.YtffcefoadaogbaaGreatS2
namespace Go.Proofs.YtffcefoadaogbaaGreat
open Go.RowKit
open Go.Proofs.Tryz
set_option linter.unusedVariables false
set_option maxRecDepth 100000
set_option maxHeartbeats 16000000
open _root_.Nat renaming mul_le_mul_right->xO,not_lt_zero->lF
open _root_.List renaming length_append->eU,length_singleton->iD,mem_append_left->oI
variable{i:Nat}{k:Pk}
section
variable {sm:bH->Nat->Nat}{n Ω χ N jX r p:Nat}{W W0 W':Wd}
structure Ein(sm:bH->Nat->Nat)(n Ω χ jX r p N:Nat)(W:Wd):Prop where
 cm:Cm sm n Ω χ N W
 own:∀q,q<n->(W.own q).length=Ω+r+if q<p then 1 else 0
 Wl:∀i q,i<n->q<n->i≠jX->p<=q->W.line i q=W.own q
 has:∀a q,a<p->q<n->q≠a->∃k∈W.au,k.src=a/\k.dst=q/\Full W k
 room:W.au.length<=n*p
theorem Cy(h:Good sm n Ω χ N W'){q:Nat}(hi:i<n)(hq:q<n){l:aD}(h1:l <+: W'.line i q)(h2:W'.own q=l):W'.line i q=W'.own q:=by have h3:=h.xU i q hi hq;rw[h2]at h3⊢;exact h3.eq_of_length (Nat.le_antisymm h3.length_le h1.length_le)
theorem Ein.next(hs:qL sm)(h:Ein sm n Ω χ jX r p N W)(hp:p<n)(hr:r<χ)(hd:Ω+r<32)(hn:n<=8)(hN:N<39)(b:UInt8):Ein sm n Ω χ jX r (p+1) (N+1) ((W.cF χ p b).fF sm p):=by
 have hop:=h.own p hp;rw[if_neg (Nat.lt_irrefl p)]at hop;obtain⟨c1,p1⟩:=h.cm.ν hs hp η η b;have oh:(W.cF χ p b).au.length<=n*p:=by rw[p1.au];exact h.room
 have Ea:n*p+n<=300:=by have:n*p<=8*p:=xO _ hn;omega
 have amK:((W.cF χ p b).own p).length<=32:=by rw[p1.own p hp,if_pos rfl,eU,iD];omega
 obtain⟨c2,t2⟩:=c1.tick hs hp hN;have how:∀q,((W.cF χ p b).fF sm p).own q=(W.cF χ p b).own q:=fun q=>t2.line q q;have oC:∀k,Full (W.cF χ p b) k->Full ((W.cF χ p b).fF sm p) k:=fun k hk=>by unfold Full at*;rw[how];exact hk
 refine⟨c2,fun q hq=>?_,fun i q hi hq hw hpq=>?_,fun a q ha hq hne=>?_,?_⟩
 .rw[how,p1.own q hq]
  by_cases e:q=p
  .subst e;rw[if_pos rfl,eU,iD,if_pos η];omega
  .rw[if_neg e,h.own q hq]
   by_cases e2:q<p
   .rw[if_pos e2,if_pos η]
   .rw[if_neg e2,if_neg η]
 .rw[t2.line,how];refine Cy c1.eP hi hq (p1.line i q hi hq) ?_;rw[p1.own q hq,if_neg η,h.Wl i q hi hq hw η]
 .by_cases e:a=p
  .subst e;exact⟨_,Lz c1 hp hq hne t2 η,rfl,rfl,oC _ (EI c1 hp hq amK)⟩
  .obtain⟨k,h1,h2,h3,h4⟩:=h.has a q η hq hne
   refine⟨k,?_,h2,h3,oC k ?_⟩
   .rw[t2.au,p1.au];exact oI _ h1
   .unfold Full at*;rw[p1.own k.src η,if_neg η];exact h4
 .have h5:=t2.len c1 hp;rw[Nat.mul_succ];omega
structure VW(n jX:Nat)(W W':Wd):Prop where
 own:∀q,q<n->W'.own q=W.own q
 line:∀i q,i<n->q<n->W.line i q <+: W'.line i q
 full:∀k∈W.au,k.dst≠jX->Full W k->k∈W'.au\/W'.line k.dst k.src=W.own k.src
theorem VW.refl(n jX:Nat)(W:Wd):VW n jX W W:=⟨fun _ _=>rfl,fun _ _ _ _=>List.prefix_refl _,fun _ h _ _=>.inl h⟩
theorem VW.step{i:Nat}(hF:VW n jX W0 W)(h1:Cm sm n Ω χ N W')(hk:W.au[0]?=some k)(h2:Hrd 0 k W W' n)(hn:∀k∈W0.au,k.src<n/\k.dst<n)(h3:k.dst≠jX->Full W k->W'.line k.dst k.src=W.own k.src):VW n jX W0 W':=by
 refine⟨fun q hq=>by rw[h2.own q hq,hF.own q hq],fun i q hi hq=>(hF.line i q hi hq).trans (h2.line i q hi hq),fun x hx hw hf=>?_⟩;obtain⟨BK,hxd⟩:=hn x hx;rcases hF.full x hx hw hf with h4|h4
 .by_cases e:x=k
  .subst e;refine .inr ?_;rw[h3 hw (by unfold Full;rw[hF.own _ BK];exact hf),hF.own _ BK]
  .refine .inl ?_
   rw[h2.au];cases hw:W.au with
   |nil=>rw[hw]at h4;cases h4
   |cons y r =>
    rw[hw]at h4 hk;simp at hk
    rcases List.mem_cons.1 h4 with h6|h6
    .exact absurd (h6.trans hk) e
    .simpa using h6
 .refine .inr ?_;have h5:=Cy h1.eP hxd BK (h2.line x.dst x.src hxd BK) (by rw[h2.own _ BK,hF.own _ BK,h4]);rw[h5,h2.own _ BK,hF.own _ BK]
section
variable(hs:qL sm)(hF:VW n jX W0 W)(h:Cm sm n Ω χ N W)(hn:∀k∈W0.au,k.src<n/\k.dst<n)(hk:W.au[0]?=some k)
include hs hF h hn hk
theorem VW.send:Cm sm n Ω χ N (W.lX 0 k)/\VW n jX W0 (W.lX 0 k):=by obtain⟨h1,h2,h3⟩:=h.lX hs hk;exact⟨h1,hF.step (i:=0) h1 hk h2 hn fun _=>h3⟩
theorem VW.drop(hw:k.dst=jX):Cm sm n Ω χ N (W.dropped 0)/\VW n jX W0 (W.dropped 0):=by obtain⟨h1,h2⟩:=h.drop hs 0 k;exact⟨h1,hF.step (i:=0) h1 hk h2 hn fun e=>absurd hw e⟩
end
theorem Ein.round(h:Ein sm n Ω χ jX r n N W)(hF:VW n jX W W')(hc:Cm sm n Ω χ N W')(hn:W'.au=[]):Ein sm n Ω χ jX (r+1) 0 N W':=by
 refine⟨hc,fun q hq=>?_,fun i q hi hq hw _=>?_,fun a q ha=>absurd ha (lF a),by rw[hn];exact Nat.zero_le _⟩
 .rw[hF.own q hq,h.own q hq,if_pos hq,if_neg (lF q)];omega
 .by_cases e:i=q
  .subst e;rfl
  .obtain⟨k,h1,h2,h3,h4⟩:=h.has q i hq hi e
   rcases hF.full k h1 (by rw[h3];exact hw) h4 with h5|h5
   .rw[hn]at h5;cases h5
   .rw[h2,h3]at h5;rw[h5,hF.own q hq]
structure Eot(sm:bH->Nat->Nat)(n Ω χ jX r p N:Nat)(W:Wd):Prop where
 cm:Cm sm n Ω χ N W
 own:∀q,q<n->(W.own q).length=Ω+r
 Wl:∀i q,i<n->q<n->i≠jX->W.line i q=W.own q
 has:∀a,a<p->a≠jX->∃k∈W.au,k.src=a/\k.dst=jX/\Full W k
 room:W.au.length<=n*p
theorem Eot.start(h:Ein sm n Ω χ jX r 0 N W):Eot sm n Ω χ jX r 0 N W :=
 ⟨h.cm,fun q hq=>by rw[h.own q hq,if_neg (lF q)];rfl,fun i q hi hq hw=>h.Wl i q hi hq hw (Nat.zero_le _),fun a ha=>absurd ha (lF a),h.room⟩
theorem Eot.next(hs:qL sm)(h:Eot sm n Ω χ jX r p N W)(hp:p<n)(hw:jX<n)(hd:Ω+r<=32)(hn:n<=8)(hN:N<39):Eot sm n Ω χ jX r (p+1) (N+1) (W.fF sm p):=by
 have Ea:n*p+n<=300:=by have:n*p<=8*p:=xO _ hn;omega
 have hrm:=h.room;obtain⟨c2,t2⟩:=h.cm.tick hs hp hN;have how:∀q,(W.fF sm p).own q=W.own q:=fun q=>t2.line q q;have oC:∀k,Full W k->Full (W.fF sm p) k:=fun k hk=>by unfold Full at*;rw[how];exact hk
 refine⟨c2,fun q hq=>by rw[how];exact h.own q hq,fun i q hi hq hw=>by rw[t2.line,how];exact h.Wl i q hi hq hw,fun a ha hne=>?_,?_⟩
 .by_cases e:a=p
  .subst e;exact⟨_,Lz h.cm hp hw (Ne.symm hne) t2 η,rfl,rfl,oC _ (EI h.cm hp hw (by rw[h.own a hp];exact hd))⟩
  .obtain⟨k,h1,h2,h3,h4⟩:=h.has a η hne;exact⟨k,by rw[t2.au];exact oI _ h1,h2,h3,oC k h4⟩
 .have h5:=t2.len h.cm hp;rw[Nat.mul_succ];omega
theorem Eot.ae5(h:Eot sm n Ω χ jX r n N W)(hF:Flw n W W')(hc:Cm sm n Ω χ N W')(hn:W'.au=[])(hi:i<n):(W'.ps i).front=Ω+r:=by
 refine hc.eP.Xs hi fun q hq=>?_;have N4:W'.line i q=W'.own q:=by
  by_cases hw:i=jX
  .subst hw
   by_cases e:q=i
   .subst e;rfl
   .obtain⟨k,h1,h2,h3,h4⟩:=h.has q hq e
    rcases hF.full k h1 h4 with h5|h5
    .rw[hn]at h5;cases h5
    .rw[h2,h3]at h5;rw[h5,hF.own q hq]
  .refine Cy hc.eP hi hq (hF.line i q hi hq) ?_;rw[hF.own q hq,h.Wl i q hi hq hw]
 rw[N4,hF.own q hq,h.own q hq]
end
end Go.Proofs.YtffcefoadaogbaaGreat
