/- A part of the proof. -/
import Derived.Test.YtffcefoadaogbaaGreatS4
import Derived.Maps.OwnSet
namespace Go.Proofs.YtffcefoadaogbaaGreat
open Go.RowKit
open Go.Proofs.Tryz
set_option linter.unusedVariables false
set_option maxRecDepth 100000
set_option maxHeartbeats 16000000
open _root_.List renaming map_cons->mF,map_nil->tT,range->dJ,length_set->Ae,take_add_one->oz,getElem?_eq_getElem->bf,getElem_mem->dH,getD_eq_getElem?_getD->cO,getElem?_map->iZ,map_append->gS,map_congr_left->rQ,mem_range->nB,length_append->eU,replicate->cP,length_replicate->gO,mem_cons->Ad,mem_cons_of_mem->xS,mem_cons_self->C2,length_cons->lf,nodup_cons->Iu,mem_map->fK,nodup_append->EZ,append_assoc->ic,Perm->E0,perm_append_comm->XU,mem_append->BG,mem_singleton->sP,any_eq_false->acV,pairwise_map->acW
open Go.World renaming grownBy->cX,alloc->aB,block_lt_of_cell?->mG
open _root_.Array renaming getElem?_eq_some_iff->gy
open _root_.Nat renaming lt_of_lt_of_le->eM,le_refl->aq,zero_le->aM,add_assoc->sK
open Go.RowKit.Below renaming refl->nV,alloc->ER,setCell->ES
open Go renaming World->κ,Value->ξ,Calls->τ,Operand->pT,TypeId->aY
open Go.RowKit renaming Below->fC
variable{A C:aS}{Pr:Program}{Q:Exit->Act->κ->Prop}{S:Nat->Prop}{T e ty:aY}{T1:Tg}{a:Act}{b base c i k n p:Nat}{l:aD}{o:Oper}{ops:Array Oper}{pg:List Nat}{rest:List Oper}{row:Option Nat}{v:ξ}{w w':κ}{xs zs:List ξ}
theorem mN{P:Program}(w:κ)(s x:pT)(t:aY)(ho:o.op=.call {callee:=.builtin .append,args:=#[s,x],argTypes:=#[t,t]})(base:Nat)(e:aY)(i:TypeInfo)(z:ξ)(size bytes:Nat)(ht:P.underlying t=some (.slice e))(hi:P.info? e=some i)(hz:i.zero=some z)(dU:i.size=size)(og:i.bytes=bytes)(C5:z.cells.size=size)(fV:0<size)(A:aS)(n c:Nat)(xs:List ξ)(hs:a.eval s=.slice A n c)(fS:Own w base e size A n c xs)(A':aS)(m c':Nat)(news:List ξ)(hx:a.eval x=.slice A' m c')(hr:Rd w size A' m c' news)(h1:∀u∈news,u.oneCell'=true)(C6:n+m<=maxLen)(gB:(n+m)*bytes<=140737488355328)(j6:base<=w.heap.size):∃u w',(execOp a.eval o).run P w=.ok (.value u) w'/\w.grownBy w' (bn A)/\∃B d,u=.slice B (n+m) d/\Own w' base e size B (n+m) d (xs++news)/\(bn B=bn A\/bn B=some w.heap.size):=by obtain⟨B,d,w',uH,h2,h3,h4⟩:=sg (P:=P) w base t o.type e i z size bytes ht hi hz dU og C5 fV A n c xs fS A' m c' news hr h1 C6 gB j6;refine⟨.slice B (n+m) d,w',?_,h3,B,d,rfl,h2,h4⟩;unfold execOp;simp only[ho,resolve,invoke,builtin,Sem.run_bind,Sem.run_pure,Result.andThen_ok,List.map_toArray,mF,tT,hs,hx,uH]
def gR(C:aS)(w w':κ):Prop:=w.grownBy w' (bn C)
def oM(k:Nat)(C:aS)(j:Nat)(w w':κ):Prop:=(j=k/\w.grownBy w' (bn C))\/Ext w w'
def gJ(k base:Nat)(e:aY)(C:aS)(n c:Nat)(xs:List ξ)(j:Nat)(w:κ):Prop:=j=k->Own w base e 1 C n c xs
theorem gR.refl(C:aS):∀w,gR C w w:=fun w=>cX.refl w _
theorem gR.trans(C:aS):∀a b c,gR C a b->gR C b c->gR C a c:=fun _ _ _=>aK
theorem gR.sz(C:aS):∀a b,gR C a b->a.heap.size<=b.heap.size:=fun _ _ h=>cX.size h
theorem gR.size(h:gR C w w'):w.heap.size<=w'.heap.size:=cX.size h
theorem gR.cell(h:gR C w w'){p:Addr}(hc:w.cell? p=some v)(hne:bn C≠some p.block):w'.cell? p=some v:=cX.cell h hc hne.symm
theorem gR.drew(C:aS)(w:κ):gR C w w.drew:=(Ext.drew w).grownBy _
theorem oM.refl(k:Nat)(C:aS):∀i w,oM k C i w w:=fun _ w=>.inr (Ext.refl w)
theorem gJ.aQ(k base:Nat)(e:aY)(C:aS)(n c:Nat)(xs:List ξ):∀j i,i≠j->∀w w',gJ k base e C n c xs j w->oM k C i w w'->gJ k base e C n c xs j w':=by
 intro j i yh w w' hJ hR JV;rcases hR with ⟨h,_⟩|h
 .exact absurd (h.trans JV.symm) yh
 .exact(hJ JV).ext h
theorem gJ.start(h:Own w base e 1 C n c xs):∀i,gJ k base e C n c xs i w.drew:=fun _ _=>h.ext (Ext.drew w)
def rE(base:Nat)(e:aY)(xs:List ξ)(v:ξ)(w:κ):Prop:=∃B m d,v=.slice B m d/\Own w base e 1 B m d xs
theorem rE.aQ(hC:∀g,bn C=some g->g<base):∀j,j≠i->∀v w w',rE base e xs v w->oM k C j w w'->rE base e xs v w':=by
 rintro j _ v w w' ⟨B,m,d,hv,h⟩ hR;refine⟨B,m,d,hv,?_⟩;rcases hR with ⟨_,hg⟩|hg
 .refine h.kept hg ?_
  rcases hb:bn B with _|g
  .exact .inl rfl
  .refine .inr fun e=>?_;have h1:=h.ax g hb;have h2:=hC g e.symm;omega
 .exact h.ext hg
def sA(tC:Nat)(P:ξ->κ->Tg->Prop):Prop:=∀v w T w' T',P v w T->Ξ (· = tC) w T w' T'->P v w' T'
def uO(T:Tg)(m:Nat)(P:ξ->κ->Tg->Prop)(v:ξ)(w:κ):Prop:=∃T',(∀k,k<m->T' k=T k)/\Θ w T'/\P v w T'
def BL(k:Nat)(e:aY)(size:Nat)(C:aS)(n c:Nat)(xs:List ξ)(j:Nat)(w:κ):Prop:=j=k->Own w 0 e size C n c xs
theorem BL.aQ{size:Nat}:∀j i,i≠j->∀w w',BL k e size C n c xs j w->oM k C i w w'->BL k e size C n c xs j w':=by
 intro j i yh w w' hJ hR JV;rcases hR with ⟨h,_⟩|h
 .exact absurd (h.trans JV.symm) yh
 .exact(hJ JV).ext h
theorem BL.start{size:Nat}(h:Own w 0 e size C n c xs):∀i,BL k e size C n c xs i w.drew:=fun _ _=>h.ext (Ext.drew w)
def dI(T:Tg)(m:Nat)(P:ξ->κ->Tg->Prop)(e:aY)(v:ξ)(w:κ):Prop:=∃u g,v=.slice (some ⟨g,0,none⟩) 1 1/\m<=g/\w.heap[g]?=some (.cells u.cells e (0,0))/\uO T m P u w
def mO(T:Tg)(m:Nat)(P:ξ->κ->Tg->Prop)(tC:Nat)(C:aS)(e:aY)(size n:Nat)(xs:List ξ)(v:ξ)(w:κ):Prop :=
 ∃u T' B d,v=.slice B n d/\(∀k,k<m->T' k=T k)/\Θ w T'/\P u w T'/\Row w T' tC e size B n d (xs++u.cells.toList)/\(bn B=bn C\/∀k,bn B=some k->m<=k)
section
variable {T:Tg}{m:Nat}{P:ξ->κ->Tg->Prop}{k tC:Nat}{C:aS}{e:aY}{size n c:Nat}{xs:List ξ}{u v:ξ}{w w' w0:κ}
section
variable(hP:sA tC P)(hC:∀g,bn C=some g->g<m/\T g=tC)(i:Nat)
include hP hC
theorem uO.aQ:∀j,j≠i->∀v w w',uO T m P v w->oM k C j w w'->uO T m P v w':=by
 rintro j _ v w w' ⟨T',h1,h2,h3⟩ hR;rcases hR with ⟨_,hg⟩|hg
 .have hT:Ξ (· = tC) w T' w' T':=Ξ.om h2 hg fun g hg=>by rw[h1 g (hC g hg).1];exact(hC g hg).2
  exact⟨T',h1,hT.Δ,hP _ _ _ _ _ h3 hT⟩
 .have hT:Ξ (· = tC) w T' w' T':=Ξ.ai _ h2 hg;exact⟨T',h1,hT.Δ,hP _ _ _ _ _ h3 hT⟩
theorem dI.aQ:∀j,j≠i->∀v w w',dI T m P e v w->oM k C j w w'->dI T m P e v w':=by
 rintro j hj v w w' ⟨u,g,h1,h2,h3,h4⟩ hR;refine⟨u,g,h1,h2,?_,uO.aQ hP hC i j hj u w w' h4 hR⟩;have aX:=(gy.1 h3).1;rcases hR with ⟨_,hg⟩|hg
 .rw[hg.block g aX (fun e=>by have:=(hC g e.symm).1;omega)];exact h3
 .rw[hg.block g aX];exact h3
end
theorem dI.made(hP:sA tC P)(hm:m<=w.heap.size)(h:uO T m P u w):dI T m P e (.slice w.heap.size 1 1) (w.alloc (.cells u.cells e)):=by obtain⟨T',h1,h2,h3⟩:=h;have hT:Ξ (· = tC) w T' (w.alloc (.cells u.cells e)) T':=Ξ.ai _ h2 (Ext.alloc _ _);exact⟨u,_,rfl,hm,heap_alloc_new w _,T',h1,hT.Δ,hP _ _ _ _ _ h3 hT⟩
theorem mO.aQ:∀j,j≠k->∀v w w',mO T m P tC C e size n xs v w->sA tC P->oM k C j w w'->mO T m P tC C e size n xs v w':=by
 rintro j hj v w w' ⟨u,T',B,d,h0,h1,h2,h3,h4,h5⟩ hP hR;rcases hR with ⟨h,_⟩|hg
 .exact absurd h hj
 .have hT:Ξ (· = tC) w T' w' T':=Ξ.ai _ h2 hg;exact⟨u,T',B,d,h0,h1,hT.Δ,hP _ _ _ _ _ h3 hT,h4.ext hg,h5⟩
theorem uO.call{f:FuncId}{args:Array ξ}(hu:Θ w T)(hm:m<=w.heap.size)(h:τ Pr f args w (cG (fun _=>False) w T P)):τ Pr f args w fun e w'=>∃v,e=.returned v/\gR C w w'/\oM k C n w w'/\uO T m P v w':=by refine h.mono ?_;rintro e w' ⟨v,rfl,T',hT,hP⟩;have he:Ext w w':=⟨hT.os,hT.tape,hT.output,hT.size,fun k hk=>hT.block k hk (fun h=>h)⟩;exact⟨v,rfl,he.grownBy _,.inr he,T',fun k hk=>hT.tag k (eM hk hm),hT.Δ,hP⟩
theorem dF(w:κ)(s x:pT)(t:aY)(ho:o.op=.call {callee:=.builtin .append,args:=#[s,x],argTypes:=#[t,t]})(e:aY)(i:TypeInfo)(z:ξ)(size bytes:Nat)(ht:Pr.underlying t=some (.slice e))(hi:Pr.info? e=some i)(hz:i.zero=some z)(dU:i.size=size)(og:i.bytes=bytes)(C5:z.cells.size=size)(fV:0<size)(C:aS)(n c:Nat)(xs:List ξ)(hs:a.eval s=.slice C n c)(fS:Own w 0 e size C n c xs)(xv:ξ)(hx:a.eval x=xv)(hb:dI T m P e xv w)(eo:∀u w T,P u w T->u.cells.toList.length=size/\∀y∈u.cells.toList,y.oneCell'=true)(C6:n+1<=maxLen)(gB:(n+1)*bytes<=140737488355328)(hC:∀g,bn C=some g->g<m/\T g=tC)(hP:sA tC P)(hm:m<=w.heap.size):∃v w',(execOp a.eval o).run Pr w=.ok (.value v) w'/\gR C w w'/\oM k C k w w'/\mO T m P tC C e size (n+1) xs v w':=by
 obtain⟨u,g,rfl,um,kL,hF⟩:=hb;obtain⟨T',h2,h3,h4⟩:=hF;obtain⟨xP,h1⟩:=eo _ _ _ h4;have hr:Rd w size (some ⟨g,0,none⟩) 1 1 u.cells.toList:=⟨by rw[xP,Nat.one_mul],aq _,iQ,fun _=>⟨g,0,rfl,fun j y hy=>by rw[cell_of_row _ _ _ _ _ _ kL];simpa using hy⟩⟩
 obtain⟨v,w',bU,kS,B,d,hv,wV,hw'⟩:=mN (P:=Pr) w s x t ho 0 e i z size bytes ht hi hz dU og C5 fV C n c xs hs fS _ 1 1 u.cells.toList hx hr h1 C6 gB (aM _);have mz:Row w T' tC e size C n c xs:=⟨fS,fun k hk=>by rw[h2 k (hC k hk).1];exact(hC k hk).2⟩;obtain⟨hT,hR⟩:=mz.append h3 wV kS (oV.of hw');refine⟨v,w',bU,kS,.inl ⟨rfl,kS⟩,u,_,B,d,hv,fun k hk=>?_,hT.Δ,hP _ _ _ _ _ h4 hT,hR,?_⟩;rotate_left
 .rcases hw' with h|h
  .exact .inl h
  .exact .inr fun k hk=>by rw[h]at hk;cases hk;exact hm
 rw[hT.tag k (eM hk hm)];exact h2 k hk
theorem mO.fin(h:mO T w0.heap.size P tC C e size n xs v w)(hR:gR C w0 w)(hC:∀g,bn C=some g->g<w0.heap.size/\T g=tC):∃u T' B d,v=.slice B n d/\Ξ (· = tC) w0 T w T'/\P u w T'/\Row w T' tC e size B n d (xs++u.cells.toList)/\oV w0 C B:=by obtain⟨u,T',B,d,h0,h1,h2,h3,h4,h5⟩:=h;refine⟨u,T',B,d,h0,⟨hR.os,hR.tape,hR.output,hR.size,fun k hk hn=>hR.block k hk (fun e=>?_),h1,h2⟩,h3,h4,h5⟩;exact hn (hC k e.symm).2
theorem Ξ.after{S':Nat->Prop}{T T2:Tg}{a b c:κ}(h:Ξ S a T b T1)(hT:Ξ S' b T1 c T2)(hg:b.grownBy c row)(hs:∀g,row=some g->S (T1 g)\/a.heap.size<=g):Ξ S a T c T2 :=
 have h1:=h.grown hg hs
 ⟨h1.os,h1.tape,h1.output,h1.size,h1.block,fun k hk=>(hT.tag k (eM hk h.size)).trans (h.tag k hk),hT.Δ⟩
theorem Row.cond(h:Row w T tC e size A n c xs):∀g,bn A=some g->g<w.heap.size/\T g=tC:=fun g hg=>⟨h.lt hg,h.2 g hg⟩
end
def π(b:Nat):ξ:=.pointer b
structure iM(w:κ)(T:Tg)(t b:Nat)(ps:Nat->Nat)(ls:bH):Prop where
 row:∃A c,Has w T t b [.slice A ls.length c]/\Row w T (t+1) 319 1 A ls.length c ((dJ ls.length).map fun p=>π (ps p))
 line:∀p (h:p<ls.length),gH w T (t+2+2*p) (ps p) ls[p]
section
variable {w w':κ}{T T':Tg}{t b:Nat}{ps:Nat->Nat}{ls:bH}
theorem iM.ο(h:iM w T t b ps ls)(hT:Ξ S w T w' T')(h0:∀k,k<2+2*ls.length->¬S (t+k)):iM w' T' t b ps ls:=by
 obtain⟨⟨A,c,h1,h2⟩,h3⟩:=h;refine⟨⟨A,c,h1.ο hT (h0 0 η),h2.ο hT (h0 1 η)⟩,fun p hp=>(h3 p hp).ο hT ?_ ?_⟩
 .have:=h0 (2+2*p) η;rwa[←sK]at this
 .have:=h0 (2+2*p+1) η;rwa[←sK,←sK]at this
theorem iM.ext(h:iM w T t b ps ls)(e:Ext w w'):iM w' T t b ps ls:=by obtain⟨⟨A,c,h1,h2⟩,h3⟩:=h;exact⟨⟨A,c,h1.ext e,h2.ext e⟩,fun p hp=>(h3 p hp).ext e⟩
theorem aO{α:Type}(n:Nat)(f:Nat->α)(h:p<n):((dJ n).map f)[p]?=some (f p):=by simp[h]
section
variable(h:iM w T t b ps ls)
include h
theorem iM.at_:∃A c,w.cell? b=some (.slice A ls.length c)/\ls.length<=c/\c<=maxLen/\∀p,p<ls.length->∃g,A=some ⟨g,0,none⟩/\w.cell? ⟨g,p,none⟩=some (π (ps p)):=by obtain⟨⟨A,c,h1,h2⟩,h3⟩:=h;refine⟨A,c,h1.cell rfl,h2.rd.2.1,h2.rd.2.2.1,fun p hp=>?_⟩;obtain⟨g,e,hc,_⟩:=h2.at_ (aO ls.length (fun p=>π (ps p)) hp);exact⟨g,e,hc⟩
theorem iM.put(hp:p<ls.length)(hT:Ξ (In (t+2+2*p) 2) w T w' T')(hl:gH w' T' (t+2+2*p) (ps p) l):iM w' T' t b ps (ls.set p l):=by
 obtain⟨⟨A,c,h1,h2⟩,h3⟩:=h;refine⟨⟨A,c,?_,?_⟩,fun q hq=>?_⟩
 .rw[Ae];exact h1.ο hT cN
 .rw[Ae];exact h2.ο hT cN
 .rw[Ae]at hq
  rw[List.getElem_set];by_cases e:p=q
  .subst e;rw[if_pos rfl];exact hl
  .rw[if_neg e];exact(h3 q hq).ο hT cN cN
theorem JY:τ prog 191 #[π b] w fun e w'=>e=.returned (ls.length:ξ)/\w'=w:=by obtain⟨A,c,c0,_,_,_⟩:=h.at_;clear h;unfold π;go_enter func191,ntmps191;go_wp2;go_ret;exact⟨rfl,rfl⟩
theorem lZ(h8:ls.length<=8)(hp:p<ls.length):τ prog 281 #[π b,p] w fun e w'=>e=.returned (π (ps p))/\w'=w:=by have H:=θ (JY h);obtain⟨A,c,c0,hn,hm,hl⟩:=h.at_;obtain⟨g,rfl,c1⟩:=hl p hp;have hd:=dh (ls.length<=p);have zW:=dh ((ls.length:Int)<=(p:Int));clear h hl;unfold π at*;go_enter func281,ntmps281;go_wp2_with fail;refine H.o.mono ?_;rintro e w1 ⟨rfl,rfl⟩;go_wp2;go_ret;exact⟨rfl,rfl⟩
end
def rS(ls:bH)(k:Nat):Nat:=(ls.take k).foldl (fun n x=>min n x.length) (ls.getD 0 []).length
theorem yV(hk:k<ls.length):rS ls (k+1)=min (rS ls k) ls[k].length:=by unfold rS;rw[oz,bf hk,List.foldl_append];rfl
theorem Iv(h0:0<ls.length):rS ls ls.length=cn ls:=by
 unfold rS;rw[List.take_length];cases ls with
 |nil=>cases h0
 |cons x r=>simp[cn]
section
variable(h:iM w T t b ps ls)(h8:ls.length<=8)(h0:0<ls.length)(hl:∀l∈ls,l.length<=1000)
include h h8 h0 hl
theorem ie:τ prog 170 #[π b] w fun e w'=>e=.returned ((cn ls:Nat):ξ)/\w'=w:=by
 have H:=θ (JY h);obtain⟨A,c,c0,hn,hm,Pb⟩:=h.at_;obtain⟨g,rfl,_⟩:=Pb 0 h0;have TI:∀p,p<ls.length->w.cell? ⟨g,p,none⟩=some (π (ps p)):=fun p hp=>by
  obtain⟨g',e,hc⟩:=Pb p hp;cases e
  exact hc
 have c1:=TI 0 h0;have DQ:=θ TI;have L0:=θ (qP (h.line 0 h0));have HL:=θ fun p hp=>qP (h.line p hp);have bW:=fun p (hp:p<ls.length)=>hl _ (dH hp);have oc:=θ bW;have nC:(ls.getD 0 []).length=ls[0].length:=by simp[cO,h0]
 have hz':((ls.length:Int)==0)=false:=kO;clear h hl Pb TI bW;unfold π at*;go_enter func170,ntmps170;go_wp2_with fail;refine H.o.mono ?_;rintro e w1 ⟨rfl,rfl⟩;go_wp2_with fail;refine L0.o.mono ?_;rintro e w1 ⟨rfl,rfl⟩;go_wp2_with fail;go_loop [3,21] (fun nv iv=>∃k:Nat,nv=.int .i64 (rS ls k:Nat)/\iv=.int .i64 (k:Nat)/\k<=ls.length) (fun _ iv=>ls.length-(intOf iv).toNat)
 case atStart=>exact⟨0,by rw[←nC];rfl,rfl,aM _⟩
 case round =>
  obtain⟨k,rfl,rfl,hk⟩:=hrel;by_cases jk:k<ls.length
  .have c2:=DQ.o k jk
   have hm:=yV jk;obtain⟨a',ha'⟩:∃a',rS ls (k+1)=a':=⟨_,rfl⟩;rw[ha']at hm;have Ha':=θ ha';have Hk:=θ (HL.o k jk);have JQ:=oc.o k jk;generalize rS ls k=a at*;generalize ls[k].length=lk at*;clear ha';have rP:(a<=lk/\a'=a)\/(lk<a/\a'=lk):=η;clear hm;rcases rP with ⟨hle,rfl⟩|⟨hle,rfl⟩
   all_goals
    go_wp2_with fail;refine Hk.o.mono ?_;rintro e w1 ⟨rfl,rfl⟩;go_wp2;go_round
    case rel=>exact⟨k+1,by rw[Ha'.o],cR,η⟩
    case measure=>exact dB
  .obtain rfl:k=ls.length:=by omega
   rw[Iv h0];go_wp2;go_ret;exact⟨rfl,rfl⟩
theorem LQ{f:Nat}(hf:f<cn ls):τ prog 171 #[π b,f] w fun e w'=>∃B d,e=.returned (.tuple #[.slice B ls.length d,.bool true])/\Own w' w.heap.size 5 1 B ls.length d (dK (bp ls f))/\Ext w w':=by
 obtain⟨i0,hi,dx,dA,dN⟩:=info_parts dX;have H:=θ (ie h h8 h0 hl);obtain⟨A,c,c0,hn,hm,Pb⟩:=h.at_;obtain⟨g,rfl,_⟩:=Pb 0 h0;have TI:∀p,p<ls.length->w.cell? ⟨g,p,none⟩=some (π (ps p)):=fun p hp=>by
  obtain⟨g',e,hc⟩:=Pb p hp;cases e
  exact hc
 have DQ:=θ TI;have HL:=θ fun p (hp:p<ls.length) (W:κ) (e:Ext w W)=>RJ ((h.line p hp).ext e) (f:=f) (eM hf (jt _ _ (dH hp)));have hd:=dh (cn ls<=f);have zW:=dh ((cn ls:Int)<=(f:Int));clear h hl Pb TI;unfold π at*;go_enter func171,ntmps171;go_wp2_with fail;refine H.o.mono ?_;rintro e w1 ⟨rfl,rfl⟩;go_wp2_with fail;go_loopw [6,24] (fun v iv wr=>∃(k:Nat) (B:aS) (d:Nat),v=.slice B k d/\iv=.int .i64 (k:Nat)/\k<=ls.length/\Own wr w1.heap.size 5 1 B k d (dK ((bp ls f).take k))/\Ext w1 wr) (fun _ iv _=>ls.length-(intOf iv).toNat)
 case atStart=>exact⟨0,none,0,rfl,rfl,aM _,Own.dR _ _ _ _,Ext.refl _⟩
 case round =>
  obtain⟨k,B,d,rfl,rfl,hk,hO,hE⟩:=hrel;by_cases jk:k<ls.length
  .have c2:=hE.cell (DQ.o k jk)
   have c1:=hE.cell c0;have Hk:=θ (HL.o k jk wr hE);have hfk:f<ls[k].length:=eM hf (jt _ _ (dH jk));have uh:(bp ls f).take k++[ls[k][f]]=(bp ls f).take (k+1):=by unfold bp;rw[oz,iZ,bf jk];simp[cO,hfk]
   have E4:=θ uh;clear uh;generalize hy:ls[k][f]=y at*;have fV:=hE.size;go_wp2_with fail;refine Hk.o.mono ?_;rintro e w2 ⟨rfl,rfl⟩;go_wp2_with (at_builtin;refine ag _ rfl _ _ 30 rfl w1.heap.size 5 i0 (.int .u8 0) 1 1 underlying30 hi dx dA dN rfl Γ B k d _ rfl hO 1 _ rfl rfl gA iQ η hE.size ?_;intro E Ed wy fQ fN oY);go_roundw
   case rel=>exact⟨k+1,E,Ed,cR,cR,η,by rw[←E4.o,aJ];exact fQ,Ext.own hE fN hO.ax⟩
   case measure=>exact dB
  .obtain rfl:k=ls.length:=by omega
   rw[List.take_of_length_le (by simp[bp])]at hO;go_wp2;go_ret2
   exact⟨B,d,rfl,hO,hE⟩
end
end
theorem TJ:(prog.info? 319).map (fun i=>(i.zero,i.size,i.bytes))=some (some (.pointer none),1,8):=ey
theorem iM.push{w1:κ}{T:Tg}{t:Nat}{ps:Nat->Nat}{ls:bH}{lb:Nat}{E:aS}{Ed:Nat}(hH:Has w T t b [.slice A ls.length c])(hL:∀p (h:p<ls.length),gH w T (t+2+2*p) (ps p) ls[p])(cw:Ξ (· = t+1) w T w1 T1)(hl:gH w1 T1 (t+2+2*ls.length) lb l)(mz:Row w1 T1 (t+1) 319 1 E (ls.length+1) Ed (((dJ ls.length).map fun p=>π (ps p))++[π lb])):Has (w1.setCell b (.slice E (ls.length+1) Ed)) T1 t b [.slice E (ls.length+1) Ed]/\Row (w1.setCell b (.slice E (ls.length+1) Ed)) T1 (t+1) 319 1 E (ls.length+1) Ed ((dJ (ls.length+1)).map fun p=>π (aW ps ls.length lb p))/\∀p (h:p<(ls++[l]).length),gH (w1.setCell b (.slice E (ls.length+1) Ed)) T1 (t+2+2*p) (aW ps ls.length lb p) (ls++[l])[p]:=by
 have lJ:=hH.ο cw η;obtain⟨bq,oZ⟩:=lJ.put (S:=(· = t)) cw.Δ 0 (.slice E (ls.length+1) Ed) rfl;refine⟨oZ,?_,fun p hp=>?_⟩
 .refine(mz.ο bq η).to ?_
  rw[List.range_succ,gS,mF,tT,aH];congr 1
  apply rQ;intro p hp;rw[az];have:=nB.1 hp;omega
 .rw[eU,List.length_singleton]at hp
  by_cases e:p=ls.length
  .subst e;rw[aH,List.getElem_append_right (aq _)];simp only[Nat.sub_self,List.getElem_cons_zero];exact hl.ο bq η η
  .rw[az _ _ e,List.getElem_append_left η];exact((hL p η).ο cw η η).ο bq η η
def ahP(w:κ)(T:Tg)(t b d n:Nat)(iv:ξ)(wr:κ):Prop:=∃(k:Nat) (T':Tg) (ps:Nat->Nat) (A:aS) (c:Nat) (ls:bH),iv=.int .i64 (k:Nat)/\k<=n/\ls.length=k/\ls=cP k (cP d 0)/\Has wr T' t b [.slice A ls.length c]/\Row wr T' (t+1) 319 1 A ls.length c ((dJ ls.length).map fun p=>π (ps p))/\(∀p (h:p<ls.length),gH wr T' (t+2+2*p) (ps p) ls[p]) /\
 Ξ (fun _=>False) w T wr T'/\w.heap.size<=b/\(∀g,bn A=some g->w.heap.size<=g)
theorem TK(w:κ)(T:Tg)(hu:Θ w T)(n d:Nat)(h2:2<=n)(h8:n<=8)(hd:d<=8)(t:Nat)(ht:0<t):τ prog 167 #[n,d] w (cG (fun _=>False) w T fun v w' T'=>∃b ps,v=π b/\iM w' T' t b ps (cP n (cP d 0))):=by
 obtain⟨i0,hi,dx,dA,dN⟩:=info_parts TJ;obtain⟨ru,GI⟩:=Has.fresh hu [.slice none 0 0] 318 t;have o6:=θ ru;have HH0:=θ GI;clear ru GI;go_enter func167,ntmps167;go_wp2_with fail;go_loopw [11] (fun iv wr=>ahP w T t w.heap.size d n iv wr) (fun iv _=>n-(intOf iv).toNat)
 case atStart=>exact⟨0,_,fun _=>0,none,0,[],rfl,aM _,rfl,rfl,HH0.o,Row.dR _ _ _ _ _,fun p h=>absurd h bT,o6.o,aq _,fun g h=>by cases h⟩
 case round =>
  obtain⟨k,T0,ps,A,c,ls,rfl,hk,JQ,Gd,hH,fO,hL,hT,hwb,hwA⟩:=hrel;have jU:=hT.Δ;by_cases jk:k<n
  .have jF:=dQ ((k:Int)<(n:Int))
   have akN:ls.length<=7:=η;have c0:=hH.zc 0;have hne:=hH.jY fO η;have mA:sA (t+1) (fun v w T=>∃lb,v=.pointer (some ⟨lb,0,none⟩)/\gH w T (t+2+2*ls.length) lb (cP d 0)):=by rintro v w T w' T' ⟨lb,rfl,h⟩ hT;exact⟨lb,rfl,h.ο hT η η⟩
   have eo:∀(v:ξ) (w:κ) (T:Tg),(∃lb,v=.pointer (some ⟨lb,0,none⟩)/\gH w T (t+2+2*ls.length) lb (cP d 0))->v.cells.toList.length=1/\∀y∈v.cells.toList,y.oneCell'=true:=by rintro v w T ⟨lb,rfl,_⟩;exact⟨rfl,Gu⟩
   have HC:=fun W (hR:gR A wr W)=>XJ W T0 (fun k hk=>jU k (Nat.le_trans hR.size hk)) d hd (t+2+2*ls.length);have HH:=θ hH;have HL:=θ hL;have HT:=θ hT;have V2:=θ JQ;have Hls:=θ Gd;clear hH hL hT JQ Gd;go_wp2_with fail;generalize KZ:wr=w0 at*;have eL:=(fO).1;have cU:=(fO).cond;apply Ar 11 (gR A) (oM 8 A) (BL 8 319 1 A ls.length c ((dJ ls.length).map fun p=>π (ps p))) (BL.start eL);simp only[tk];repeat apply gF (fun _ h _ _=>h.cell c0 hne)
   apply uI (p:=uO T0 w0.heap.size (fun v w T=>∃lb,v=.pointer (some ⟨lb,0,none⟩)/\gH w T (t+2+2*ls.length) lb (cP d 0))) Γ Γ (uO.aQ mA cU _)
   .intro W hR hJ υ;exact uO.call (fun k hk=>jU k (Nat.le_trans hR.size hk)) hR.size (HC W hR)
   intro v1;simp only[pu];try ((repeat (apply j7 Γ Γ (gR.refl _) (oM.refl _ _);(· rfl);(· intro W hR hJ υ;go_simp;first|done|with_reducible rfl);simp only[pu])))
   apply aE (p:=dI T0 w0.heap.size (fun v w T=>∃lb,v=.pointer (some ⟨lb,0,none⟩)/\gH w T (t+2+2*ls.length) lb (cP d 0)) 319) Γ Γ (dI.aQ mA cU _)
   .rfl
   .intro W hR hJ υ;have hF:=υ.1 rfl;have hB:=dI.made (e:=319) mA hR.size hF;obtain⟨T9,EK,yX,TL⟩:=hF;obtain⟨lb,rfl,hlb⟩:=TL;refine⟨_,_,?_,(Ext.alloc _ _).grownBy _,.inr (Ext.alloc _ _),hB⟩;go_simp;first|done|rfl
   intro v2;simp only[pu];apply aE (p:=mO T0 w0.heap.size (fun v w T=>∃lb,v=.pointer (some ⟨lb,0,none⟩)/\gH w T (t+2+2*ls.length) lb (cP d 0)) (t+1) A 319 1 (ls.length+1) ((dJ ls.length).map fun p=>π (ps p))) Γ Γ (fun j hj v w w9 h hR=>mO.aQ j hj v w w9 h mA hR)
   .rfl
   .intro W hR hJ υ;exact dF W _ _ 316 rfl 319 i0 (.pointer none) 1 8 underlying316 hi dx dA dN rfl Γ A ls.length c (((dJ ls.length).map fun p=>π (ps p))) rfl (hJ rfl) v2 rfl (υ.1 rfl) eo iQ η cU mA hR.size
   intro v3;simp only[pu];repeat apply gF (fun _ _ _ _=>trivial)
   refine aP ?_;intro W hR gT υ;obtain⟨u1,T1,E,Ed,rfl,cw,BU,ja,pJ⟩:=(υ.1 rfl).fin hR cU;clear υ gT;simp only[dk];have lJ:=HH.o.ο cw η;have c0:=lJ.zc 0;have f0:=lJ.free 0;obtain⟨lb,rfl,hlb⟩:=BU;have acX:=iM.push HH.o HL.o cw hlb ja;have ahQ:=θ acX;have l8:=θ cw;clear acX lJ hlb ja cw;go_wp2;go_roundw
   case rel =>
    obtain⟨p1,p2,p3⟩:=ahQ.o;have q1:=Ξ.after HT.o l8.o hR (fun g hg=>.inr (hwA g hg));have vp:(ls++[cP d 0]).length=ls.length+1:=bT;refine⟨k+1,T1,_,E,Ed,ls++[cP d 0],cR,η,by rw[vp,V2.o],?_,by rw[vp];exact p1,by rw[vp];exact p2,p3,q1.set _ _ (.inr hwb),hwb,fun g hg=>?_⟩
    .rw[Hls.o];simp[List.replicate_succ']
    .rcases pJ with h|h
     .exact hwA g (h▸hg)
     .have:=h g hg;have:=HT.o.size;omega
   case measure=>exact dB
  .obtain rfl:k=n:=by omega
   subst Gd;simp only[gO]at hH fO;go_wp2;go_ret;exact⟨_,rfl,T0,hT,_,ps,rfl,⟨A,c,by rw[gO];exact hH,by rw[gO];exact fO⟩,hL⟩

def jG(n:Nat)(rf:Nat->Int)(L:List Nat):Prop:=(∀k∈L,k<n)/\∀k,k<n->rf k=(L.count k:Nat)
section
variable {n:Nat}{rf:Nat->Int}{L L':List Nat}
theorem jG.perm(h:jG n rf L)(p:L.Perm L'):jG n rf L':=⟨fun k hk=>h.1 k (p.mem_iff.2 hk),fun k hk=>by rw[h.2 k hk,p.count_eq]⟩
theorem jG.dR(n:Nat):jG n (fun _=>0) []:=⟨fun k hk=>by simp at hk,fun k hk=>bT⟩
theorem CD(k j:Nat)(L:List Nat):((k::L).count j:Nat)=L.count j+if j=k then 1 else 0:=by
 rw[List.count_cons];by_cases e:j=k
 .subst e;simp
 .rw[if_neg e,if_neg (by simpa using fun h=>e h.symm)]
theorem jG.add(h:jG n rf L)(hk:k<n):jG n (jE rf k (rf k+1)) (k::L):=by
 refine⟨fun j hj=>?_,fun j hj=>?_⟩
 .rcases Ad.1 hj with rfl|hj
  .exact hk
  .exact h.1 j hj
 .rw[CD]
  by_cases e:j=k
  .subst e;have:=h.2 j hk;rw[jT,if_pos rfl];omega
  .rw[gC _ _ e,if_neg e,h.2 j hj];rfl
theorem jG.take(h:jG n rf L)(hk:k<n)(h0:rf k=0):jG n (jE rf k 1) (k::L):=by have:=h.add hk;rwa[h0]at this
theorem jG.sub(h:jG n rf (k::L)):jG n (jE rf k (rf k-1)) L:=by
 refine⟨fun j hj=>h.1 j (xS _ hj),fun j hj=>?_⟩;have h2:=h.2 j hj;rw[CD]at h2;by_cases e:j=k
 .subst e;rw[if_pos rfl]at h2;rw[jT];omega
 .rw[if_neg e]at h2;rw[gC _ _ e];exact h2
theorem jG.pos(h:jG n rf L)(hk:k<n):0<=rf k:=by rw[h.2 k hk];omega
theorem jG.mem(h:jG n rf L)(hk:k∈L):1<=rf k:=by have:=List.count_pos_iff.2 hk;rw[h.2 k (h.1 k hk)];omega
theorem jG.le(h:jG n rf L)(hk:k<n):rf k<=L.length:=by have:=List.count_le_length (a:=k) (l:=L);rw[h.2 k hk];omega
theorem LR(f:Nat->Int)(a:Nat)(x:Int):∀n:Nat,n<=a->used n (jE f a x)=used n f
 |0,_=>rfl
 |n+1,h=>by rw[jw,jw,LR f a x n η,gC _ _ η]
theorem vT(f:Nat->Int)(a:Nat)(x:Int):∀n:Nat,a<n->used n (jE f a x)+(if 0<f a then 1 else 0)=used n f+(if 0<x then 1 else 0)
 |0,h=>by omega
 |n+1,h=>by
  rw[jw,jw];by_cases e:a=n
  .subst e;rw[LR f a x a (aq _),jT];omega
  .rw[gC _ _ (Ne.symm e)];have:=vT f a x n η;omega
theorem BV(f:Nat->Int):∀n:Nat,(∀k,k<n->f k=0)->used n f=0
 |0,_=>rfl
 |n+1,h=>by rw[jw,BV f n (fun k hk=>h k η),h n η];rfl
theorem jG.ql:∀(L:List Nat) {rf:Nat->Int},jG n rf L->used n rf<=L.length
 | [],rf,h=>by rw[BV rf n (fun k hk=>by rw[h.2 k hk];rfl)];exact aM _
 |k::L,rf,h=>by have h1:=jG.ql L h.sub;have h2:=vT rf k (rf k-1) n (h.1 k C2);rw[lf];split at h2<;>split at h2<;>omega
theorem least{P:Nat->Prop}(hP:∀k,P k\/¬P k):∀n:Nat,(∃k,k<n/\P k)->∃k,k<n/\P k/\∀j,j<k->¬P j
 |0,⟨k,hk,_⟩=>by omega
 |n+1,⟨k,hk,h⟩=>by
  by_cases e:∃j,j<n/\P j
  .obtain⟨j,h1,h2,h3⟩:=least hP n e;exact⟨j,η,h2,h3⟩
  .obtain rfl:k=n:=by
    rcases Nat.lt_or_ge k n with h9|h9
    .exact absurd ⟨k,h9,h⟩ e
    .omega
   exact⟨k,hk,h,fun j hj hp=>e ⟨j,hj,hp⟩⟩
theorem LS(f:Nat->Int):∀n:Nat,(∀k,k<n->0<f k)->used n f=n
 |0,_=>rfl
 |n+1,h=>by rw[jw,LS f n (fun k hk=>h k η),if_pos (h n η)]
theorem TM(h:jG n rf L)(hu:used n rf<n):∃k,k<n/\rf k=0/\∀j,j<k->rf j≠0:=by
 refine least (fun k=>Int.decEq (rf k) 0 |>.em) n ?_;apply Classical.byContradiction;intro hn;have:=LS rf n (fun k hk=>by
  have:=h.pos hk;rcases Int.lt_or_eq_of_le this with h1|h1
  .exact h1
  .exact absurd ⟨k,hk,h1.symm⟩ hn)
 omega
end
structure jJ where
 id:Nat
 bl:Nat
 pg:List Nat
def refsOf(ps:List jJ):List Nat:=ps.flatMap jJ.pg
def cellOf(vs:Nat->Nat->Int)(p:jJ)(i:Nat):Int:=vs (p.pg.getD (i / 8) 0) (i % 8)
def fR(vs:Nat->Nat->Int)(p:jJ):List Int:=(dJ 32).map (cellOf vs p)
structure vg(n:Nat)(rf:Nat->Int)(ps:List jJ)(last:Nat):Prop where
 held:jG n rf (refsOf ps)
 four:∀p∈ps,p.pg.length=4
 ids:(ps.map jJ.id).Nodup
 low:∀p∈ps,p.id<=last
 bls:(ps.map jJ.bl).Nodup
theorem yY(vs:Nat->Nat->Int)(p:jJ):(fR vs p).length=32:=by simp[fR]
theorem E5(vs:Nat->Nat->Int)(p:jJ)(hi:i<32):(fR vs p)[i]?=some (cellOf vs p i):=by unfold fR;rw[iZ,List.getElem?_range hi];rfl
section
variable {n last:Nat}{rf:Nat->Int}{ps:List jJ}{vs:Nat->Nat->Int}{p q:jJ}{s s' k:Nat}
theorem qR(a b:List jJ):refsOf (a++b)=refsOf a++refsOf b:=by simp[refsOf]
theorem ig(a:jJ)(b:List jJ):refsOf (a::b)=a.pg++refsOf b:=by simp[refsOf]
theorem E6(hq:q∈ps)(hs:q.pg[s]?=some k):k∈refsOf ps:=List.mem_flatMap.2 ⟨q,hq,List.mem_iff_getElem?.2 ⟨s,hs⟩⟩
theorem tc(h:∀p∈ps,p.pg.length=4):(refsOf ps).length=4*ps.length:=by
 induction ps with
 |nil=>rfl
 |cons a b ih=>rw[ig,eU,h a C2,ih (fun p hp=>h p (xS _ hp)),lf];omega
theorem vg.slot(h:vg n rf ps last)(hp:p∈ps)(hi:i<32):∃k,p.pg[i / 8]?=some k/\p.pg.getD (i / 8) 0=k/\k<n/\1<=rf k:=by have h4:=h.four p hp;have aX:i / 8<p.pg.length:=η;have hm:=E6 hp (bf aX);exact⟨p.pg[i / 8],bf aX,by rw[cO,bf aX];rfl,h.held.1 _ hm,h.held.mem hm⟩
theorem JZ{vs nj:Nat->Nat->Int}{p p':jJ}(h:∀i,i<32->cellOf vs p i=cellOf nj p' i):fR vs p=fR nj p':=rQ fun i hi=>h i (nB.1 hi)
end
theorem LU:∀{ps:List jJ},(ps.map jJ.bl).Nodup->∀{p q:jJ},p∈ps->q∈ps->p.bl=q.bl->p=q
 | [],_,p,q,hp,_,_=>by simp at hp
 |a::b,h,p,q,hp,hq,e=>by
  rw[mF,Iu]at h;rcases Ad.1 hp with rfl|N7<;>rcases Ad.1 hq with rfl|qw
  .rfl
  .exact absurd (show p.bl∈b.map jJ.bl from fK.2 ⟨q,qw,e.symm⟩) h.1
  .exact absurd (show q.bl∈b.map jJ.bl from fK.2 ⟨p,N7,e⟩) h.1
  .exact LU h.2 N7 qw e
def td(ps:List jJ)(x:Nat):List jJ:=ps.filter fun q=>q.id != x
section
variable {n last:Nat}{rf:Nat->Int}{ps:List jJ}{vs:Nat->Nat->Int}{p q:jJ}{s j k:Nat}
theorem LV{x:Nat}:q∈td ps x↔q∈ps/\q.id≠x:=by simp[td,List.mem_filter]
theorem yZ:∀{l:List jJ}{x:Nat},x∉l.map jJ.id->l.filter (fun q=>q.id != x)=l
 | [],_,_=>rfl
 |a::b,x,h=>by rw[mF,Ad,not_or]at h;rw[List.filter_cons_of_pos (by simpa using fun e=>h.1 e.symm),yZ h.2]
theorem Pc{l1 l2:List jJ}(h:((l1++p::l2).map jJ.id).Nodup):td (l1++p::l2) p.id=l1++l2:=by rw[gS,mF,EZ]at h;obtain⟨_,h2,h3⟩:=h;rw[Iu]at h2;unfold td;rw[List.filter_append,List.filter_cons_of_neg bT,yZ (fun hm=>h3 _ hm _ C2 rfl),yZ h2.1]
theorem Pd{l1 l2:List jJ}:(refsOf (l1++p::l2)).Perm (p.pg++refsOf (l1++l2)):=by rw[qR,ig,qR,←ic,←ic];exact E0.append_right _ XU
theorem vg.akO(n:Nat):vg n (fun _=>0) [] 0:=⟨jG.dR n,fun p hp=>by simp at hp,bT,fun p hp=>by simp at hp,bT⟩
theorem vg.add(h:vg n rf ps last){ju:Nat->Int}(hh:jG n ju (pg++refsOf ps))(h4:pg.length=4)(hb:∀p∈ps,p.bl≠b):vg n ju (ps++[⟨last+1,b,pg⟩]) (last+1):=by
 refine⟨hh.perm ?_,fun p hp=>?_,?_,fun p hp=>?_,?_⟩
 .rw[qR,ig];simpa [refsOf] using XU
 .rcases BG.1 hp with hp|hp
  .exact h.four p hp
  .rw[sP.1 hp];exact h4
 .rw[gS,EZ]
  refine⟨h.ids,bT,fun a ha b' JG e=>?_⟩;obtain⟨p,hp,rfl⟩:=fK.1 ha;have:=h.low p hp;simp at JG
  omega
 .rcases BG.1 hp with hp|hp
  .have:=h.low p hp;omega
  .rw[sP.1 hp];exact aq _
 .rw[gS,EZ]
  refine⟨h.bls,bT,fun a ha b' JG e=>?_⟩;obtain⟨p,hp,rfl⟩:=fK.1 ha;simp at JG
  exact hb p hp (e.trans JG)
end
def ent(p:jJ):Lit×DataW Nat:=(.int .i64 (p.id:Nat),.lit (.int .i64 (p.bl:Nat)))
def LW:ξ->Option (DataW Nat×List MemPlace)
 | .pointer none=>some (.nil,[])
 | .pointer (some ⟨b,0,none⟩)=>some (.lit (.int .i64 (b:Nat)),[])
 |_=>none
theorem XV(b:Nat):LW (π b)=some (.lit (.int .i64 (b:Nat)),[]):=rfl
theorem XW{l:List MemPlace}(h:LW v=some (.lit (.int .i64 (b:Nat)),l)):v=π b:=by
 unfold LW at h;split at h
 .cases h
 .injection h with h
  injection h with h _
  injection h with h
  injection h with _ h
  obtain rfl:_=b:=Int.ofNat.inj h;rfl
 .cases h
def DM(D:DataW Nat)(ps:List jJ):Prop:=∃es,D=.map es/\es.Perm (ps.map ent)
section
variable {D:DataW Nat}{ps:List jJ}{p:jJ}{x:Nat}
theorem DM.dR:DM (.map []) []:=⟨[],rfl,.nil⟩
theorem DM.size(h:DM D ps):Maps.size D=ps.length:=by obtain⟨es,rfl,hp⟩:=h;rw[Maps.size_eq,hp.length_eq,List.length_map]
theorem J0{x y:Nat}(h:(Lit.int .i64 (x:Int))=.int .i64 (y:Int)):x=y:=by injection h with _ h;omega
theorem isKey(x:Nat):WideAt.IsKeyLit (.int .i64 (x:Int)):=by simp[WideAt.IsKeyLit]
theorem DM.abw(h:DM D ps)(hx:x∉ps.map jJ.id):Maps.has D (.int .i64 (x:Nat))=false:=by obtain⟨es,rfl,J1⟩:=h;rw[Maps.has_eq,acV];intro q hq hk;obtain⟨p,hp,rfl⟩:=fK.1 (J1.mem_iff.1 hq);exact hx (fK.2 ⟨p,hp,J0 (WideAt.sameKey_eq hk)⟩)
theorem DM.at_(h:DM D ps)(hn:(ps.map jJ.id).Nodup)(hp:p∈ps)(z:DataW Nat):D.atKey (.int .i64 (p.id:Nat)) z=.lit (.int .i64 (p.bl:Nat)):=by obtain⟨es,rfl,J1⟩:=h;refine WideAt.atKey_mem z (isKey _) ?_ (J1.mem_iff.2 (fK.2 ⟨p,hp,rfl⟩));refine(J1.pairwise_iff (R:=fun a b=>a.1≠b.1) (fun {a b} h=>h.symm)).2 ?_;rw[acW];rw[List.Nodup,acW]at hn;exact hn.imp fun {a b} h e=>h (J0 e)
theorem DM.akP(h:DM D ps)(hx:x∉ps.map jJ.id):DM (D.put (.int .i64 (x:Nat)) (.lit (.int .i64 (b:Nat)))) (ps++[⟨x,b,pg⟩]):=by have hh:=h.abw hx;obtain⟨es,rfl,J1⟩:=h;refine⟨_,rfl,(WideShapes.insert_perm _ _).trans ?_⟩;rw[List.filter_eq_self.2 (fun p hp=>by simpa using (acV.1 hh) p hp),gS];exact(E0.cons _ J1).trans (XU (l₁:=[ent ⟨x,b,pg⟩]))
theorem DM.akQ(h:DM D ps)(x:Nat):DM (D.del (.int .i64 (x:Nat))) (td ps x):=by
 obtain⟨es,rfl,J1⟩:=h;refine⟨_,rfl,(J1.filter _).trans ?_⟩;unfold td;rw[List.filter_map];apply E0.of_eq;congr 1
 apply List.filter_congr;intro p _;show(!(Lit.int .i64 (p.id:Int)).sameKey (.int .i64 (x:Int)))=(p.id != x)
 by_cases e:p.id=x
 .subst e;rw[WideAt.sameKey_self (isKey _)];simp
 .rw[Maps.sameKey_ne (fun h=>e (J0 h))];simp[e]
end
def evW(k p f:Int):ξ :=
 if k=1 then .iface 276 (.agg #[p]) else if k=2 then .iface 277 (.agg #[p]) else if k=3 then .iface 279 (.agg #[p,f]) else .nilIface
def afA(k p f:Int):Bool:=decide (1<=k)&&decide (k<=3)&&decide (0<=p)&&decide (p<=7)&&decide (0<=f)&&decide (f<=1000)&&(decide (k=3) || decide (f=0))
theorem TN{k p f:Int}(h:afA k p f=true):(0<=p/\p<=7)/\((k=1/\f=0)\/(k=2/\f=0)\/(k=3/\0<=f/\f<=1000)):=by simp[afA]at h;omega
def afB(w:κ)(v:ξ)(b:Bool)(e:Ending)(w':κ):Prop:=e=.returned (.tuple #[.agg #[v],.bool b])/\Ext w w'
theorem akR(w:κ)(p:Int)(p0:0<=p)(p1:p<=7):τ prog 230 #[.agg #[(1:Int),p,(0:Int)]] w (afB w (.iface 276 (.agg #[p])) true):=by go_enter func230,ntmps230;go_wp2_with fail;exact bodyPost_ret (v:=.tuple #[.agg #[.iface 276 (.agg #[p])],.bool true]) aff rfl ⟨rfl,by repeat (first|exact(nV _ _).alloc (aq _) _|refine ER ?_ bT _|refine ES ?_ bT _)⟩
theorem akS(w:κ)(p:Int)(p0:0<=p)(p1:p<=7):τ prog 230 #[.agg #[(2:Int),p,(0:Int)]] w (afB w (.iface 277 (.agg #[p])) true):=by go_enter func230,ntmps230;go_wp2_with fail;exact bodyPost_ret (v:=.tuple #[.agg #[.iface 277 (.agg #[p])],.bool true]) aff rfl ⟨rfl,by repeat (first|exact(nV _ _).alloc (aq _) _|refine ER ?_ bT _|refine ES ?_ bT _)⟩
theorem akT(w:κ)(p f:Int)(p0:0<=p)(p1:p<=7)(f0:0<=f)(f1:f<=1000):τ prog 230 #[.agg #[(3:Int),p,f]] w (afB w (.iface 279 (.agg #[p,f])) true):=by
 by_cases hf:0<f
 .go_enter func230,ntmps230;go_wp2_with fail;exact bodyPost_ret (v:=.tuple #[.agg #[.iface 279 (.agg #[p,f])],.bool true]) aff rfl ⟨rfl,by repeat (first|exact(nV _ _).alloc (aq _) _|refine ER ?_ bT _|refine ES ?_ bT _)⟩
 .obtain rfl:f=0:=by omega
  go_enter func230,ntmps230;go_wp2_with fail;exact bodyPost_ret (v:=.tuple #[.agg #[.iface 279 (.agg #[p,(0:Int)])],.bool true]) aff rfl ⟨rfl,by repeat (first|exact(nV _ _).alloc (aq _) _|refine ER ?_ bT _|refine ES ?_ bT _)⟩
theorem ael(w:κ)(k p f:Int)(h:afA k p f=true):τ prog 230 #[.agg #[k,p,f]] w (afB w (evW k p f) true):=by
 obtain⟨⟨p0,p1⟩,hw⟩:=TN h;rcases hw with ⟨rfl,rfl⟩|⟨rfl,rfl⟩|⟨rfl,f0,f1⟩
 .exact akR w p p0 p1
 .exact akS w p p0 p1
 .exact akT w p f p0 p1 f0 f1
def fM(p:Pk):Int:=if p.iA then 2 else 1
def lB(id:Int)(p:Pk)(A:aS)(n c:Nat):ξ :=
 .agg #[(fM p:Int),p.src,p.dst,id,p.first,.slice A n c,p.dP,p.frame,.int .u32 (p.sum:Nat)]
def vb(id:Int):Prop:=0<=id/\id<=1099511627776
theorem Pe(w:κ)(dz:Int)(b n:Nat)(l:List Int)(hn:n=l.length)(h4:n<=4)(hm:0<=dz/\dz<=100000)(hl:∀j (h:j<l.length),w.cell? (b,j)=some (.int .i64 l[j]))(ha:∀x∈l,0<=x/\x<=dz):τ prog 332 #[dz,.slice b n n] w fun e w'=>e=.returned (.bool true)/\w'=w:=by
 go_enter func332,ntmps332;go_wp2_with fail;go_loop [9] (fun i=>∃j:Nat,i=.int .i64 (j:Nat)/\j<=n) (fun i=>n-(intOf i).toNat)
 case atStart=>exact⟨0,rfl,aM _⟩
 case round =>
  obtain⟨j,rfl,hj⟩:=hrel;by_cases mX:j<n
  .have c0:=hl j η
   have h0:=ha _ (dH (show j<l.length by omega));generalize l[j]' η=x at*;have d1:=dh (x<0);have d2:=dh (dz<x);clear hl ha;go_wp2;go_round
   case rel=>exact⟨j+1,cR,η⟩
   case measure=>exact dB
  .obtain rfl:j=n:=by omega
   clear hl ha;go_wp2;go_ret;exact⟨rfl,rfl⟩
theorem uo{p:Pk}(h:mw p):p.src<8/\p.dst<8/\p.src≠p.dst/\((p.iA=true/\p.first=0/\p.ν=[]/\p.dP=0/\p.frame=0/\p.sum=0)\/(p.iA=false/\p.first<=1000/\p.dP<=1000/\p.frame<=1000/\p.ν.length<=32/\p.sum<4294967296)):=by
 obtain⟨h1,h2,h3,h4⟩:=h;refine⟨h1,h2,h3,?_⟩;by_cases hq:p.iA=true
 .rw[if_pos hq]at h4;exact .inl ⟨hq,h4⟩
 .rw[if_neg hq]at h4;exact .inr ⟨Tc,h4⟩
theorem aem(w:κ)(id:Int)(p:Pk)(A:aS)(n c:Nat)(hp:mw p)(hid:vb id)(hn:n=p.ν.length)(hc:n<=c/\c<=maxLen):τ prog 326 #[lB id p A n c] w fun e w'=>e=.returned (.bool true)/\Ext w w':=by
 obtain⟨hs,hd,hne,hw⟩:=uo hp;have hiy:=fun W b n l h1 h2 h3 h4=>Pe W 7 b n l h1 h2 Γ h3 h4;have aiP:=fun W b n l h1 h2 h3 h4=>Pe W 1000 b n l h1 h2 Γ h3 h4;have aiQ:=fun W b n l h1 h2 h3 h4=>Pe W 0 b n l h1 h2 Γ h3 h4;unfold vb at hid;have e1:((p.src:Int)==(p.dst:Int))=false:=kO;have E7:(p.src==p.dst)=false:=kO;have e2:=dh (id<0);have e3:=dh (1099511627776<id);have H1:=θ hiy;have H2:=θ aiP;have H3:=θ aiQ;unfold lB fM;clear hp hiy aiP aiQ;rcases hw with ⟨hq,hf,tO,K0,iU,tP⟩|⟨hq,hf,K0,iU,tO,tP⟩
 .have zZ:n=0:=by rw[hn,tO];rfl
  rw[hq,hf,K0,iU,tP,zZ];clear hq hf tO K0 iU tP hn;go_enter func326,ntmps326;go_wp2_with fail;generalize hV:aB (aB w _) _=V;have eV:Ext w V:=by subst hV;exact(Ext.alloc _ _).trans (Ext.alloc _ _)
  have q0:V.cell? w.heap.size=some (.int .i64 2):=ir;have q1:V.cell? (w.heap.size,1)=some (p.src:ξ):=ir;have q2:V.cell? (w.heap.size,2)=some (p.dst:ξ):=ir;have q3:V.cell? (w.heap.size,3)=some (id:ξ):=ir;have q4:V.cell? (w.heap.size,4)=some (.int .i64 0):=ir;have q5:V.cell? (w.heap.size,5)=some (.slice A 0 c):=ir;have q6:V.cell? (w.heap.size,6)=some (.int .i64 0):=ir;have q7:V.cell? (w.heap.size,7)=some (.int .i64 0):=ir;have q8:V.cell? (w.heap.size,8)=some (.int .u32 0):=ir;refine(H1.o V _ 2 [(p.src:Int),(p.dst:Int)] rfl Γ ?_ ?_).mono ?_
  .intro j hj
   match j,hj with
   |0,_=>exact ir
   |1,_=>exact ir
   |j+2,hj=>simp at hj;omega
  .intro x hx;simp at hx;omega
  rintro e w2 ⟨rfl,rfl⟩;clear hV;have aX:w.heap.size<w2.heap.size:=mG _ _ q0;go_wp2_with fail;refine(H3.o _ _ 4 [0,0,0,0] rfl Γ ?_ ?_).mono ?_
  .intro j hj
   match j,hj with
   |0,_=>go_simp
   |1,_=>go_simp
   |2,_=>go_simp
   |3,_=>go_simp
   |j+4,hj=>simp at hj;omega
  .intro x hx;simp at hx;omega
  rintro e w3 ⟨rfl,rfl⟩;go_wp2;go_ret;exact⟨rfl,eV.trans (Ext.alloc _ _)⟩
 .rw[hq]
  rw[←hn]at tO;clear hq hn;go_enter func326,ntmps326;go_wp2_with fail;generalize hV:aB (aB w _) _=V;have eV:Ext w V:=by subst hV;exact(Ext.alloc _ _).trans (Ext.alloc _ _)
  have q0:V.cell? w.heap.size=some (.int .i64 1):=ir;have q1:V.cell? (w.heap.size,1)=some (p.src:ξ):=ir;have q2:V.cell? (w.heap.size,2)=some (p.dst:ξ):=ir;have q3:V.cell? (w.heap.size,3)=some (id:ξ):=ir;have q4:V.cell? (w.heap.size,4)=some (p.first:ξ):=ir;have q5:V.cell? (w.heap.size,5)=some (.slice A n c):=ir;have q6:V.cell? (w.heap.size,6)=some (p.dP:ξ):=ir;have q7:V.cell? (w.heap.size,7)=some (p.frame:ξ):=ir;refine(H1.o V _ 2 [(p.src:Int),(p.dst:Int)] rfl Γ ?_ ?_).mono ?_
  .intro j hj
   match j,hj with
   |0,_=>exact ir
   |1,_=>exact ir
   |j+2,hj=>simp at hj;omega
  .intro x hx;simp at hx;omega
  rintro e w2 ⟨rfl,rfl⟩;clear hV;have aX:w.heap.size<w2.heap.size:=mG _ _ q0;have e5':=dQ ((n:Int)<=32);go_wp2_with fail;refine(H2.o _ _ 3 [(p.first:Int),(p.dP:Int),(p.frame:Int)] rfl Γ ?_ ?_).mono ?_
  .intro j hj
   match j,hj with
   |0,_=>go_simp
   |1,_=>go_simp
   |2,_=>go_simp
   |j+3,hj=>simp at hj;omega
  .intro x hx;simp at hx;omega
  rintro e w3 ⟨rfl,rfl⟩;go_wp2;go_ret;exact⟨rfl,eV.trans (Ext.alloc _ _)⟩
theorem Pf(w:κ)(n:Int)(h0:0<=n)(h1:n<=1000):τ prog 43 #[n] w fun e w'=>e=.returned (.bool true)/\w'=w:=by go_enter func43,ntmps43;go_wp2;go_ret;exact⟨rfl,rfl⟩
theorem abx(w:κ)(id:Int)(p:Pk)(A:aS)(n c:Nat)(hp:mw p)(hid:vb id)(hn:n=p.ν.length)(hc:n<=c/\c<=maxLen):τ prog 29 #[lB id p A n c] w fun e w'=>e=.returned (.bool true)/\Ext w w':=by
 obtain⟨hs,hd,hne,hw⟩:=uo hp;have hfy:=fun W n h0 h1=>Pf W n h0 h1;unfold vb at hid;have e1:((p.src:Int)==(p.dst:Int))=false:=kO;have E7:(p.src==p.dst)=false:=kO;have e2:=dh (id<0);have e3:=dh (1099511627776<id);have e4:=dh ((7:Int)<(p.src:Int));have e5:=dh ((7:Int)<(p.dst:Int));have e4':=dh (7<p.src);have e5':=dh (7<p.dst);have H1:=θ hfy;unfold lB fM;clear hp hfy;rcases hw with ⟨hq,hf,tO,K0,iU,tP⟩|⟨hq,hf,K0,iU,tO,tP⟩
 .have zZ:n=0:=by rw[hn,tO];rfl
  rw[hq,hf,K0,iU,tP,zZ];clear hq hf tO K0 iU tP hn;go_enter func29,ntmps29;go_wp2;go_ret;exact⟨rfl,Ext.alloc _ _⟩
 .rw[hq];rw[←hn]at tO;clear hq hn;have e8':=dQ ((n:Int)<=32);go_enter func29,ntmps29;go_wp2_with fail;refine(H1.o _ _ η η).mono ?_;rintro e w2 ⟨rfl,rfl⟩;go_wp2_with fail;refine(H1.o _ _ η η).mono ?_;rintro e w2 ⟨rfl,rfl⟩;go_wp2_with fail;refine(H1.o _ _ η η).mono ?_;rintro e w2 ⟨rfl,rfl⟩;go_wp2;go_ret;exact⟨rfl,Ext.alloc _ _⟩
theorem Ext.ags{a:κ}(h:Ext w a){p:Addr}(hb:w.heap.size<=p.block)(v:ξ):Ext w (a.setCell p v) :=
 Ext.own (B:=some p) h (gG a p v) (fun k hk=>by cases hk;exact hb)
structure Cf where
 n:Nat
 id:Nat
 Ω:Nat
 χ:Nat
 bD:Nat
 order:Nat
 aR:Nat
 workers:Nat
 room:Nat
structure jA(cf:Cf):Prop where
 n2:2<=cf.n
 n8:cf.n<=8
 id:cf.id<=1099511627776
 Ω:cf.Ω<=8
 akU:1<=cf.χ
 win:cf.χ<=16
 by_:(cf.bD=1/\cf.order=0)\/(cf.bD=2/\cf.order<=3)
 aR:cf.aR<=8
 workers:cf.workers<=4
 XX:3<=cf.room
 room:cf.room<=50
def aA(cf:Cf)(me:Nat):List ξ:=[cf.n,me,cf.id,cf.Ω,cf.χ,cf.bD,cf.order,cf.aR,cf.workers,cf.room]
def iC(cf:Cf)(me:Nat):ξ:=.agg #[cf.n,me,cf.id,cf.Ω,cf.χ,cf.bD,cf.order,cf.aR,cf.workers,cf.room]
def nZ(c:Cr)(i:Nat):List ξ:=[(c.has i:Nat),(c.heard i:Nat),((c.words i).1:Nat),.int .u32 ((c.words i).2:Nat),.bool false]
def wZ(e:Nat×Nat):ξ:=evW (e.1:Nat) (e.2:Nat) 0
structure ct(w:κ)(T:Tg)(t b:Nat)(cf:Cf)(me qb:Nat)(ps:Nat->Nat)(c:Cr)(mk:List Nat):Prop where
 bn:∃PA pc MA mc EA ec,Has w T t b (aA cf me++[π qb,.slice PA cf.n pc,.slice MA mk.length mc,.slice EA c.bx.length ec,c.now,.bool c.closed])
  /\Row w T (t+1) 297 5 PA cf.n pc ((dJ cf.n).flatMap (nZ c))/\Row w T (t+2) 32 1 MA mk.length mc (mk.map fun s=>.int .u32 (s:Nat))/\Row w T (t+3) 197 1 EA c.bx.length ec (c.bx.map wZ)
 BW:iM w T (t+4) qb ps c.ls
structure bz(cf:Cf)(me:Nat)(c:Cr)(mk:List Nat):Prop where
 ok:jA cf
 me:me<cf.n
 len:c.ls.length=cf.n
 short:∀l∈c.ls,l.length<=1000
 now:c.now<=1000000
 bx:c.bx.length<=1000000
 has:∀i,c.has i<=1000
 heard:∀i,c.heard i<=c.now
 words:∀i,(c.words i).1<=1000/\(c.words i).2<4294967296
 marks:mk.length<=1000
 yI:∀s∈mk,s<4294967296
section
variable {w w':κ}{T T':Tg}{t b:Nat}{cf:Cf}{me qb:Nat}{ps:Nat->Nat}{c:Cr}{mk:List Nat}
theorem ct.ο(h:ct w T t b cf me qb ps c mk)(hT:Ξ S w T w' T')(hs:∀k,In t (6+2*c.ls.length) k->¬S k):ct w' T' t b cf me qb ps c mk:=by obtain⟨⟨PA,pc,MA,mc,EA,ec,h1,h2,h3,h4⟩,h5⟩:=h;refine⟨⟨PA,pc,MA,mc,EA,ec,h1.ο hT (hs _ cN),h2.ο hT (hs _ cN),h3.ο hT (hs _ cN),h4.ο hT (hs _ cN)⟩,h5.ο hT fun k hk=>hs _ cN⟩
theorem ct.ext(h:ct w T t b cf me qb ps c mk)(e:Ext w w'):ct w' T t b cf me qb ps c mk:=by obtain⟨⟨PA,pc,MA,mc,EA,ec,h1,h2,h3,h4⟩,h5⟩:=h;exact⟨⟨PA,pc,MA,mc,EA,ec,h1.ext e,h2.ext e,h3.ext e,h4.ext e⟩,h5.ext e⟩
structure acY(w:κ)(b:Nat)(cf:Cf)(me qb:Nat)(c:Cr)(PA MA EA:aS)(pc m mc ec:Nat):Prop where
 c0:w.cell? b=some (cf.n:ξ)
 c1:w.cell? (b,1)=some (me:ξ)
 c2:w.cell? (b,2)=some (cf.id:ξ)
 c3:w.cell? (b,3)=some (cf.Ω:ξ)
 c4:w.cell? (b,4)=some (cf.χ:ξ)
 c5:w.cell? (b,5)=some (cf.bD:ξ)
 c6:w.cell? (b,6)=some (cf.order:ξ)
 c7:w.cell? (b,7)=some (cf.aR:ξ)
 c8:w.cell? (b,8)=some (cf.workers:ξ)
 c9:w.cell? (b,9)=some (cf.room:ξ)
 lK:w.cell? (b,10)=some (.pointer qb)
 oA:w.cell? (b,11)=some (.slice PA cf.n pc)
 Dk:w.cell? (b,12)=some (.slice MA m mc)
 yp:w.cell? (b,13)=some (.slice EA c.bx.length ec)
 ya:w.cell? (b,14)=some (c.now:ξ)
 K1:w.cell? (b,15)=some (.bool c.closed)
theorem coreC{PA MA EA:aS}{pc m mc ec:Nat}(h:Has w T t b (aA cf me++[π qb,.slice PA cf.n pc,.slice MA m mc,.slice EA c.bx.length ec,c.now,.bool c.closed])):acY w b cf me qb c PA MA EA pc m mc ec :=
 ⟨h.cell rfl,h.cell rfl,h.cell rfl,h.cell rfl,h.cell rfl,h.cell rfl,h.cell rfl,h.cell rfl,h.cell rfl,h.cell rfl,h.cell rfl,h.cell rfl,h.cell rfl,h.cell rfl,h.cell rfl,h.cell rfl⟩
section
variable(h:ct w T t b cf me qb ps c mk)
include h
theorem jf:τ prog 169 #[π b] w fun e w'=>e=.returned (π qb)/\w'=w:=by obtain⟨⟨PA,pc,MA,mc,EA,ec,h1,_,_,_⟩,_⟩:=h;have lK:=(coreC h1).lK;clear h1;unfold π at*;go_enter func169,ntmps169;go_wp2;go_ret;exact⟨rfl,rfl⟩
theorem rT:τ prog 70 #[π b] w fun e w'=>e=.returned (.bool c.closed)/\w'=w:=by obtain⟨⟨PA,pc,MA,mc,EA,ec,h1,_,_,_⟩,_⟩:=h;have K1:=(coreC h1).K1;clear h1;unfold π at*;go_enter func70,ntmps70;go_wp2;go_ret;exact⟨rfl,rfl⟩
theorem Pg:τ prog 168 #[π b] w fun e w'=>e=.returned (mk.length:ξ)/\w'=w:=by obtain⟨⟨PA,pc,MA,mc,EA,ec,h1,_,_,_⟩,_⟩:=h;have Dk:=(coreC h1).Dk;clear h1;unfold π at*;go_enter func168,ntmps168;go_wp2;go_ret;exact⟨rfl,rfl⟩
theorem Iw:τ prog 282 #[π b] w fun e w'=>e=.returned (iC cf me)/\Ext w w':=by obtain⟨⟨PA,pc,MA,mc,EA,ec,h1,_,_,_⟩,_⟩:=h;obtain⟨c0,c1,c2,c3,c4,c5,c6,c7,c8,c9,_,_,_,_,_,_⟩:=coreC h1;have aX:=h1.lt;clear h1;unfold π iC at*;go_enter func282,ntmps282;go_wp2_with fail;exact bodyPost_ret (v:=.agg #[cf.n,me,cf.id,cf.Ω,cf.χ,cf.bD,cf.order,cf.aR,cf.workers,cf.room]) (by simp[results,Tryz.results282,go_sem]) rfl ⟨rfl,Ext.alloc _ _⟩
end
theorem aen(a0 a1 a2 a3 a4 a5 a6 a7 a8 a9:Int)(w:κ):(Instr.field 26 (.agg #[a0,a1,a2,a3,a4,a5,a6,a7,a8,a9]) 1).run prog w=.ok (a1:ξ) w:=ey
theorem qy(h:ct w T t b cf me qb ps c mk)(hk:bz cf me c mk):τ prog 265 #[π b] w fun e w'=>e=.returned ((c.head me:Nat):ξ)/\Ext w w':=by
 have lD:me<c.ls.length:=by rw[hk.len];exact hk.me
 have h1:=θ (jf h);have h2:=θ (Iw h);have h3:=θ fun W (e:Ext w W)=>lZ (h.BW.ext e) (by rw[hk.len];exact hk.ok.n8) lD;have h4:=θ fun W (e:Ext w W)=>qP ((h.BW.line me lD).ext e);have hm:(c.head me)=c.ls[me].length:=by simp[Cr.head,Cr.nr,cO,lD]
 rw[hm];unfold π iC at*;clear h hk hm;go_enter func265,ntmps265;go_wp2_with fail;refine h1.o.mono ?_;rintro e w1 ⟨rfl,rfl⟩;go_wp2_with fail;refine h2.o.mono ?_;rintro e w2 ⟨rfl,e2⟩;have akV:=aen cf.n me cf.id cf.Ω cf.χ cf.bD cf.order cf.aR cf.workers cf.room w2;go_wp2_with fail;refine(h3.o _ e2).mono ?_;rintro e w3 ⟨rfl,rfl⟩;go_wp2_with fail;refine(h4.o _ e2).mono ?_;rintro e w4 ⟨rfl,rfl⟩;go_wp2;go_ret;exact⟨rfl,e2⟩
theorem ct.line(h:ct w T t b cf me qb ps c mk)(hp:p<c.ls.length)(hT:Ξ (In (t+4+2+2*p) 2) w T w' T')(hl:gH w' T' (t+4+2+2*p) (ps p) l):ct w' T' t b cf me qb ps {c with ls:=c.ls.set p l} mk:=by obtain⟨⟨PA,pc,MA,mc,EA,ec,h1,h2,h3,h4⟩,h5⟩:=h;exact⟨⟨PA,pc,MA,mc,EA,ec,h1.ο hT cN,h2.ο hT cN,h3.ο hT cN,h4.ο hT cN⟩,h5.put hp hT hl⟩
end
section
variable {P:Program}{w w':κ}{b:Nat}{vs:List ξ}
def sH(w:κ)(b:Nat)(T:aY)(vs:List ξ):Prop:=w.heap[b]?=some (.cells vs.toArray T (0,0))
section
variable(h:sH w b T vs)
include h
theorem sH.cell(hv:vs[i]?=some v):w.cell? (b,i)=some v:=by rw[cell_of_row _ _ _ _ _ _ h];simpa using hv
theorem sH.free(i:Nat):w.frozen? (b,i)=false:=by simp[κ.frozen?,show w.heap[b]?=_ from h]
theorem sH.lt:b<w.heap.size:=(gy.1 h).1
theorem sH.dD(e:w'.heap[b]?=w.heap[b]?):sH w' b T vs:=e.trans h
theorem sH.ext(e:Ext w w'):sH w' b T vs:=h.dD (e.block b h.lt)
theorem sH.grown(hg:w.grownBy w' row)(hne:row≠some b):sH w' b T vs:=h.dD (hg.block b h.lt (fun e=>hne e.symm))
end
theorem sH.new(w:κ)(T:aY)(vs:List ξ):sH (w.alloc (.cells vs.toArray T)) w.heap.size T vs:=heap_alloc_new w _
theorem sH.set(h:sH w b T vs)(i:Nat)(v:ξ):sH (w.setCell (b,i) v) b T (vs.set i v):=by
 show(w.setCell (b,i) v).heap[b]?=_
 simp only[κ.setCell,Array.getElem?_modify,show w.heap[b]?=_ from h];simp
theorem sH.setRow(h:sH w b T vs)(us:List ξ):sH (w.setRow b us.toArray) b T us:=setRow_heap w b _ _ _ _ h
theorem J2(hu:P.underlying ty=some (.array n e))(hi:(P.info? ty).map (·.size)=some n)(h:sH w b T vs)(hn:vs.length=n):(loadVar ty ⟨b,0,none⟩).run P w=.ok (.agg vs.toArray) w:=by
 have hl:(loadCells ⟨b,0,none⟩ vs.length).run P w=.ok vs.toArray w :=
  run_loadCells_list (P:=P) w ⟨b,0,none⟩ _ (fun j v hv=>by rw[Addr.add_lit,Nat.zero_add];exact h.cell hv)
 cases hq:P.info? ty with
 |none=>simp[hq]at hi
 |some i =>
  have hs:i.size=n:=S6;have OR:(isAgg ty).run P w=.ok true w:=by unfold isAgg;rw[Sem.run_bind,run_underlying hu w];simp
  rw[hn]at hl;simp[loadVar,Sem.run_bind,OR,sizeOf,typeInfo,hq,hs,hl]
theorem mQ(ty:aY)(x:pT)(ho:o.op=.load ty x)(hx:a.eval x=.pointer b)(hu:P.underlying ty=some (.array n e))(hi:(P.info? ty).map (·.size)=some n)(h:sH w b T vs)(hn:vs.length=n):(execOp a.eval o).run P w=.ok (.value (.agg vs.toArray)) w:=by unfold execOp;simp only[ho,hx,Instr.loadAt,Instr.sureAddr,Sem.run_bind,Sem.run_pure,Result.andThen_ok,J2 hu hi h hn]
theorem fH(rJ:o.guard=none)(ty:aY)(x:pT)(ho:o.op=.load ty x)(hx:a.eval x=.pointer b)(hu:P.underlying ty=some (.array n e))(hi:(P.info? ty).map (·.size)=some n)(h:sH w b T vs)(hn:vs.length=n)(hk:wpList P ops Q rest (a.put o.dst (.agg vs.toArray)) w):wpList P ops Q (o::rest) a w:=by refine wpList_plain rJ fun K hK=>?_;unfold Oper.wp;rw[mQ ty x ho hx hu hi h hn];exact hK _ _ hk
theorem bF(rJ:o.guard=none)(ty:aY)(x y:pT)(ho:o.op=.store ty x y)(hx:a.eval x=.pointer b){us:List ξ}(hy:a.eval y=.agg us.toArray)(h:sH w b T vs)(hl:us.length=n)(hv:vs.length=n)(hi:(P.info? ty).map (·.size)=some n)(h1:∀u∈us,u.oneCell'=true)(hk:∀W2,sH W2 b T us->w.grownBy W2 (some b)->W2.heap.size=w.heap.size->wpList P ops Q rest (a.put o.dst undef) W2):wpList P ops Q (o::rest) a w :=
 wpList_store_row rJ ty x y ho b us.toArray hx hy T vs.toArray h (by simp[hi,hl]) (by simp[hl,hv]) (by rw[List.all_toArray];exact List.all_eq_true.2 h1)
  (hk _ (h.setRow us) ⟨rfl,rfl,rfl,bT,fun k _ hk=>Go.setRow_other w b k _ (fun e=>hk (by rw[e]))⟩ bT)
theorem Ax{i:TypeInfo}(hi:P.info? ty=some i)(hz:i.zero=some (.agg zs.toArray))(w:κ):(Instr.alloc ty true (.tuple #[])).run P w=.ok (.pointer w.heap.size) (w.alloc (.cells zs.toArray ty)):=by
 simp[Instr.alloc,zeroValue,typeInfo,hi,hz,newVar,newRow,newObj,ξ.cells]
 rfl
theorem bA(rJ:o.guard=none)(ty:aY)(ho:o.op=.alloc ty){i:TypeInfo}(hi:P.info? ty=some i)(hz:i.zero=some (.agg zs.toArray))(hk:∀W2,sH W2 w.heap.size ty zs->Ext w W2->W2.heap.size=w.heap.size+1->wpList P ops Q rest (a.put o.dst (.pointer w.heap.size)) W2):wpList P ops Q (o::rest) a w:=by refine wpList_plain rJ fun K hK=>?_;unfold Oper.wp execOp;simp only[ho,Sem.run_bind,Ax hi hz,Result.andThen_ok,Sem.run_pure];exact hK _ _ (hk _ (sH.new w ty zs) (Ext.alloc _ _) bT)
theorem kM{fn:Func}{p:Tmp}(h:fn.results = #[.cell p ty])(tmps:Array ξ)(hp:tmps.getD p undef=.pointer b)(hg:sH w b T vs)(hn:vs.length=n)(hu:P.underlying ty=some (.array n e))(hi:(P.info? ty).map (·.size)=some n):(results fn tmps).run P w=.ok (.agg vs.toArray) w:=by have JP:tmps[p]?.getD undef=.pointer b:=Td;simp[results,h,JP,asAddr,J2 hu hi hg hn]
end
end Go.Proofs.YtffcefoadaogbaaGreat
