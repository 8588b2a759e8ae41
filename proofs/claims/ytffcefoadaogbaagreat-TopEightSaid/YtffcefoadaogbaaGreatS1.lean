/- A part of the proof. -/
import Derived.WalkKit
import Derived.WalkSpells
import Derived.WalkLawsBesides
import Derived.Maps.AppendAt
import Derived.Lib.Hide
import Derived.Handy
import Derived.Laws.BytesString
import Derived.Lib.AppendStr
import Derived.Test.YtffcefoadaogbaaGreatProg
import Derived.Orders
import Derived.Deep.Draws
import Derived.Laws.Runes
import Derived.Laws.RangeAny
namespace Go.Proofs.YtffcefoadaogbaaGreat
open Go.RowKit
open Go.Proofs.Tryz
set_option linter.unusedVariables false
set_option maxRecDepth 100000
set_option maxHeartbeats 16000000
open Go.IntWalk renaming i64_in->pS
open Go.Value renaming oneCell'->Zq1
open _root_.List renaming length_drop->Bq,length_append->eU,length_take->tN,length_map->xN,getElem?_eq_getElem->bf,getElem?_take->aiA,getElem?_drop->Wr,eq_nil_of_length_eq_zero->rz,map_toArray->Ou,map_cons->mF,map_nil->tT,cons_append->zN,length_cons->lf,all_eq_true->Gs,mk_mem_zipIdx_iff_getElem?->afY,mem_cons_self->C2,getD->ae7,getElem?_cons_succ->Js,countP_cons->aiB,range->dJ,countP_eq_zero->aiC,getElem?_eq_some_iff->iN,drop_eq_nil_of_le->Jt,getD_eq_getElem?_getD->cO
open _root_.Option renaming some->kI,map_eq_some_iff->vu
open _root_.Array renaming getD->Rg,getD_eq_getD_getElem?->Ju,getElem?_eq_none->aiD,getElem?_setIfInBounds_ne->Ws
open Go.RowKit.Below renaming refl->nV,trans->Wt
open _root_.Nat renaming le_refl->aq,le_trans->aF,lt_of_lt_of_le->eM,mul_le_mul_right->xO,lt_or_ge->zO,sub_eq_zero_of_le->aiE,add_assoc->sK,eq_zero_or_pos->rA,zero_add->mZ,testBit_or->aiF,le_of_not_lt->aiG,lt_irrefl->Ov
open Go.World renaming block_lt_of_cell?->mG,ownsRow->ae8
open _root_.UInt8 renaming ofNat->eB
open Go.Region renaming binds->S1,wanted->kV,ready->afZ
open _root_.Bool renaming and_eq_true->rB,not_true->aiH,or_eq_true->Wu,eq_iff_iff->S2
open Go.Act renaming put->rC
open Go renaming World->κ,Value->ξ,Calls->τ,Addr->cJ,Program->oT,Operand->pT,TypeId->aY,IntKind->oU
open Go.RowKit renaming Below->fC
variable{K:Act->κ->Prop}{P:oT}{Q Q':Exit->Act->κ->Prop}{S S':Nat->Prop}{a a' a0:Act}{args:Array ξ}{b w w':κ}{base c i id j k n size:Nat}{e:aY}{f:FuncId}{listed:Array Bool}{ops:Array Oper}{Lc rest:List Oper}{p:Prop}{p0 p1 p2 p3 p4 p5 p6 p7 p8:cJ}{row:Option Nat}{u v v0 v1 v2 v3 v4 v5 v6 v7 v8:ξ}{x:Oper}{xs:List ξ}{σ:Nat->ξ}
def Hq(p:Prop):Prop:=p
theorem Hq.o(h:Hq p):p:=h
theorem θ(h:p):Hq p:=h
theorem η(h:p:=by omega):p:=h
theorem Γ(h:p:=by decide):p:=h
theorem cN(h:p:=by unfold In;omega):p:=h
theorem kO(h:p:=by rw[beq_eq_false_iff_ne];omega):p:=h
theorem iQ(h:p:=by unfold maxLen;omega):p:=h
theorem ey(h:p:=by kernel_rfl):p:=h
theorem ir(h:p:=by subst hV;go_simp):p:=h
theorem cR(h:p:=by go_num):p:=h
theorem bT(h:p:=by simp):p:=h
theorem amS(h:p:=by rw[IntWalk.i64_in _ (by omega)];omega):p:=h
theorem gA(h:p:=by simp[Value.oneCell']):p:=h
theorem dw(h:p:=by simp;omega):p:=h
theorem iw(h:p:=by unfold In at*;omega):p:=h
theorem pU(h:p:=by rw[cell_of_row _ _ _ _ _ _ qE];rfl):p:=h
theorem pX(h:p:=by simp[World.frozen?,qE]):p:=h
theorem Ec(h:p:=by simp[IntKind.wrap,IntKind.bits,IntKind.signed];omega):p:=h
theorem tU(h:p:=by rw[List.length_drop];omega):p:=h
theorem sL(h:p:=by unfold In at hk;omega):p:=h
theorem pY(h:p:=by subst wL;go_simp):p:=h
theorem qF(h:p:=by subst hW;go_simp):p:=h
theorem kW(h:p:=by simp[bn]):p:=h
theorem Jv(h:p:=by have h9:g0=k:=Option.some.inj hk;omega):p:=h
theorem Gu(h:p:=by simp[Value.cells,Value.oneCell']):p:=h
theorem Ld(h:p:=by have:=ho.len;rw[ay]at this;omega):p:=h
theorem va(h:p:=by simp[bn];omega):p:=h
theorem rD(h:p:=by rw[Hr.o];rfl):p:=h
theorem S3(h:p:=by cases hk;have:=tV.o;show w.heap.size<=g4;omega):p:=h
theorem C3(h:p:=by rw[He.o,Hs.o,Hb.o];rfl):p:=h
theorem r9(h:p:=by subst hk;unfold In;omega):p:=h
theorem Ow(h:p:=by have h9:R=k:=Option.some.inj hk;omega):p:=h
theorem ae9(h:p:=by rw[beq_eq_false_iff_ne];rcases h with ⟨rfl,_⟩|⟨rfl,_⟩<;>decide):p:=h
theorem afa(h:p:=by have h8:w.heap.size+1<=w.heap.size:=uF.ax _ e9.symm;omega):p:=h
theorem C4(h:p:=by simp[World.setCell]):p:=h
theorem Ox(h:p:=by cases ah<;>(intro f w;kernel_rfl)):p:=h
theorem Le(h:p:=by simp[eT,mH];omega):p:=h
theorem Lf(h:p:=by rw[Hf.o,Ha.o,Hs.o,Hb.o];rfl):p:=h
theorem Oy(h:p:=by cases ah<;>(intro w;kernel_rfl)):p:=h
theorem Bt(h:p:=by show _≠_;omega):p:=h
theorem Bu(h:p:=by rw[hlen];omega):p:=h
theorem afb(h:p:=by have:=zE.len;simp[ay,eN]at this;omega):p:=h
theorem af0(h:p:=by simp only[List.length_append,List.length_take,List.length_drop];omega):p:=h
theorem Wv(h:p:=by intro e';injection e' with _ e2;omega):p:=h
theorem S4(h:p:=by rw[He.o,Hs.o,Hb.o,Bool.true_and]):p:=h
theorem Jw(h:p:=by unfold In at hj;omega):p:=h
theorem afc(h:p:=by have:=Gv.len;have:=Hp.o;rw[ay]at*;omega):p:=h
theorem Oz(h:p:=by rw[List.length_take];omega):p:=h
theorem Ww(h:p:=by have h9:gm=k:=Option.some.inj hk;omega):p:=h
theorem S5(h:p:=by have:=hM.lt _ _ _ hg g0 e;omega):p:=h
theorem afd(h:p:=by have h9:w.heap.size=k:=Option.some.inj hk;omega):p:=h
theorem af1(h:p:=by have h8:w.heap.size+1<=w.heap.size:=o9.ax _ e.symm;omega):p:=h
theorem OA(h:p:=by rw[List.length_map,hG.1]):p:=h
theorem afe(h:p:=by have:=o9.len;rw[ay]at this;omega):p:=h
theorem Gw(h:p:=by simpa using h2):p:=h
theorem aff(h:p:=by simp[results,Tryz.results230,go_sem]):p:=h
theorem afg(h:p:=by have:=Hsm.o;simp[mH]at this⊢;omega):p:=h
theorem Jx(h:p:=by unfold wS;omega):p:=h
theorem Jy(h:p:=by rw[Hm.o,q2];simp):p:=h
theorem afh(h:p:=by simp only[nZ,az _ _ hk]):p:=h
theorem afi(h:p:=by have:=uF.ax _ e9.symm;omega):p:=h
theorem afj(h:p:=by simp only[nZ,aH];rfl):p:=h
theorem Lg(h:p:=by simpa using e):p:=h
theorem Lh(h:p:=by simpa using h):p:=h
theorem Jz(h:p:=by rw[←Hg.o];rfl):p:=h
theorem af2(h:p:=by rw[List.length_append,eN];omega):p:=h
theorem amT(h:p:=by rw[if_neg (by omega),if_neg (by omega)]):p:=h
theorem S6(h:p:=by simpa [hq] using hi):p:=h
theorem afk(h:p:=by have:=Li.ax k hk;omega):p:=h
theorem af3(h:p:=by have h9:g=k:=Option.some.inj hk;omega):p:=h
theorem afl(h:p:=by have:=Gv.ax _ e9;omega):p:=h
theorem afm(h:p:=by have:=uF.ax k hk;omega):p:=h
theorem WB(h:p:=by unfold In at hq;omega):p:=h
theorem afn(h:p:=by unfold maxLen;simp;omega):p:=h
theorem afo(h:p:=by rw[oc.o j h1 h2 h3,Hu.o]):p:=h
theorem S7(h:p:=by have:=hr.lt;omega):p:=h
theorem afp(h:p:=by have:=o9.ax k hk;omega):p:=h
theorem S8(h:p:=by unfold rnS;omega):p:=h
theorem WC(h:p:=by rw[wM];omega):p:=h
theorem afq(h:p:=by simpa [qG] using afr):p:=h
theorem S9(h:p:=by simpa using hi):p:=h
theorem af4(h:p:=by rcases aT.by_ with h|h<;>omega):p:=h
theorem afs(h:p:=by subst hq;unfold In;omega):p:=h
theorem JA(h:p:=by simp[Bv]):p:=h
theorem af5(h:p:=by have:=hk.ok.id;unfold vb;omega):p:=h
theorem Ta(h:p:=by simpa using hk):p:=h
theorem OB(h:p:=by congr 1;omega):p:=h
theorem amU(h:p:=by rw[←pZ (by omega),h1];simp):p:=h
theorem af6(h:p:=by rw[←Hg.o,Hz.o,if_pos Hp.o];simp):p:=h
theorem af7(h:p:=by rw[←Hg.o,Hz.o,if_neg Hp.o];simp):p:=h
theorem af8(h:p:=by unfold Cr.others;rw[hk.len];rfl):p:=h
theorem af9(h:p:=by unfold In at hk;unfold mS;omega):p:=h
theorem aga(h:p:=by unfold In at hq;unfold mS;omega):p:=h
theorem agb(h:p:=by rcases Hw.o with h|h<;>omega):p:=h
theorem Tc(h:p:=by simpa using hq):p:=h
theorem Td(h:p:=by simpa using hp):p:=h
theorem WD(h:p:=by have:=Rh.o;omega):p:=h
theorem aft(h:p:=by simp[Array.getD]at hi):p:=h
theorem agc(h:p:=by simp[iV,mq,Hru.o,Hv.o]):p:=h
theorem agd(h:p:=by rw[List.length_set];omega):p:=h
theorem age(h:p:=by rwa[List.length_map]at hn):p:=h
theorem Lj(h:p:=by simpa using j5):p:=h
theorem Ee(h:p:=by simp at hi):p:=h
theorem Ri(h:p:=by simpa using afu):p:=h
theorem Ll(h:p:=by simpa using h9):p:=h
theorem Cz(h:p:=by go_simp):p:=h
theorem dQ(p:Prop)[Decidable p](h:p:=by omega):decide p=true:=decide_eq_true h
theorem dh(p:Prop)[Decidable p](h:¬p:=by omega):decide p=false:=decide_eq_false h
theorem zF[Decidable p](h:p):decide p=true:=decide_eq_true h
theorem ej(x:Int)(h:-9223372036854775808<=x/\x<=9223372036854775807:=by omega):IntKind.i64.wrap x=x:=IntWalk.i64_in x h
theorem dB(h:p:=by simp[intOf];omega):p:=h
theorem zG[Decidable p](h:¬p):decide p=false:=decide_eq_false h
instance:Coe Int ξ:=⟨fun x=>.int .i64 x⟩
instance:Coe Nat ξ:=⟨fun x=>.int .i64 (x:Nat)⟩
instance:Coe Nat cJ:=⟨fun b=>⟨b,0,none⟩⟩
instance (b i:Nat):CoeDep (Nat×Nat) (b,i) cJ:=⟨⟨b,i,none⟩⟩
instance:Coe Nat (Option cJ):=⟨fun b=>some ⟨b,0,none⟩⟩
instance (b i:Nat):CoeDep (Nat×Nat) (b,i) (Option cJ):=⟨some ⟨b,i,none⟩⟩
abbrev aS:=Option cJ
abbrev aD:=List UInt8
abbrev vo:=List (List UInt8)
def Ext(w w':κ):Prop:=fC w.heap.size w w'
theorem Ext.refl(w:κ):Ext w w:=nV _ _
theorem Ext.trans{a c:κ}(h:Ext a b)(k:Ext b c):Ext a c:=Wt h (fC.mono k h.size)
theorem Ext.drew(w:κ):Ext w w.drew:=(nV _ _).drew
theorem Ext.alloc(w:κ)(o:Obj):Ext w (w.alloc o):=(nV _ _).alloc (aq _) o
theorem Ext.cell(h:Ext w w'){p:cJ}(hc:w.cell? p=some v):w'.cell? p=some v :=
 (fC.cell h (mG w p hc)).trans hc
theorem Ext.grownBy(h:Ext w w')(row:Option Nat):w.grownBy w' row:=⟨h.os,h.tape,h.output,h.size,fun k hk _=>h.block k hk⟩
theorem dV(h:w.grownBy w' none):Ext w w':=⟨h.os,h.tape,h.output,h.size,fun k hk=>h.block k hk bT⟩
theorem fW{B:Nat}(hg:w.grownBy w' row)(hB:B<=w.heap.size)(hr:∀k,row=some k->B<=k):fC B w w':=(nV B w).grown hg hB hr
theorem aK{a c:κ}(h:a.grownBy b row)(k:b.grownBy c row):a.grownBy c row :=
 ⟨k.os.trans h.os,k.tape.trans h.tape,k.output.trans h.output,aF h.size k.size,fun i hi hn=>(k.block i (eM hi h.size) hn).trans (h.block i hi hn)⟩
def Rd(w:κ)(size:Nat)(A:aS)(n c:Nat)(xs:List ξ):Prop :=
 xs.length=n*size/\n<=c/\c<=maxLen/\(0<n*size->∃b o,A=some ⟨b,o,none⟩/\∀j u,xs[j]?=some u->w.cell? ⟨b,o+j,none⟩=some u)
theorem Rd.dR(w:κ)(size:Nat):Rd w size none 0 0 []:=⟨bT,aq _,Nat.zero_le _,fun h=>by simp at h⟩
section
variable{A:aS}(h:Rd w size A n c xs)
include h
theorem Rd.ext(he:Ext w w'):Rd w' size A n c xs:=by refine⟨h.1,h.2.1,h.2.2.1,fun hn=>?_⟩;obtain⟨b,o,e,hc⟩:=h.2.2.2 hn;exact⟨b,o,e,fun j u hu=>he.cell (hc j u hu)⟩
theorem Rd.keep(hk:∀p:cJ,∀v,A.map (·.block)=some p.block->w.cell? p=some v->w'.cell? p=some v):Rd w' size A n c xs:=by refine⟨h.1,h.2.1,h.2.2.1,fun hn=>?_⟩;obtain⟨b,o,e,hc⟩:=h.2.2.2 hn;exact⟨b,o,e,fun j u hu=>hk _ _ (by rw[e];rfl) (hc j u hu)⟩
theorem Rd.grown(hg:w.grownBy w' row)(hne:∀a,A=some a->row≠some a.block):Rd w' size A n c xs:=by refine h.keep fun p v hp hc=>hg.cell hc ?_;obtain⟨a,ha,hb⟩:=vu.1 hp;rw[←hb];exact fun e=>hne a ha e.symm
theorem Rd.lt(hn:0<n*size):∀a,A=some a->a.block<w.heap.size:=by
 intro a ha;obtain⟨b,o,e,hc⟩:=h.2.2.2 hn;obtain rfl:a=⟨b,o,none⟩:=by rw[e]at ha;exact(kI.inj ha).symm
 have h0:0<xs.length:=by rw[h.1];exact hn
 exact mG w _ (hc 0 _ (bf h0))
theorem Rd.take(hk:k<=n):Rd w size A k c (xs.take (k*size)):=by
 have hle:k*size<=n*size:=xO _ hk;refine⟨by rw[tN,h.1];omega,aF hk h.2.1,h.2.2.1,fun hn=>?_⟩;obtain⟨b,o,e,hc⟩:=h.2.2.2 η;refine⟨b,o,e,fun j u hu=>hc j u ?_⟩;rw[aiA]at hu;split at hu
 .exact hu
 .cases hu
theorem Rd.drop(hk:k<=n):Rd w size (if c=k then A else A.map (·.add (k*size))) (n-k) (c-k) (xs.drop (k*size)):=by
 refine⟨by rw[Bq,h.1,Nat.sub_mul],by have:=h.2.1;omega,by have:=h.2.2.1;omega,fun hn=>?_⟩;have qc:0<n*size:=eM hn (xO _ (Nat.sub_le _ _));obtain⟨b,o,rfl,hc⟩:=h.2.2.2 qc;have aX:k<n:=by
  rcases zO k n with h1|h1
  .exact h1
  .rw[aiE h1]at hn;simp at hn
 rw[if_neg (by have:=h.2.1;omega)];refine⟨b,o+k*size,?_,fun j u hu=>?_⟩
 .simp only[Option.map_some,cJ.add_lit]
 .rw[sK];exact hc _ u (by rw[←hu,Wr])
end
theorem Rd.at_{A:aS}(h:Rd w 1 A n c xs)(hk:k<n):∃b o,A=some ⟨b,o,none⟩/\∃u,xs[k]?=some u/\w.cell? ⟨b,o+k,none⟩=some u:=by
 obtain⟨b,o,e,hc⟩:=h.2.2.2 η;have hl:k<xs.length:=by have:=h.1;omega
 exact⟨b,o,e,xs[k],bf hl,hc k _ (bf hl)⟩
def Own(w:κ)(base:Nat)(e:aY)(size:Nat)(A:aS)(n c:Nat)(xs:List ξ):Prop:=w.ownsRow base e size (.slice A n c) n xs
def bn(A:aS):Option Nat:=A.map (·.block)
theorem mI(A:aS)(n c:Nat):(ξ.slice A n c).ownBlock=bn A:=by cases A<;>rfl
theorem Own.dR(w:κ)(base:Nat)(e:aY)(size:Nat):Own w base e size none 0 0 []:=κ.ownsRow_nil w base e size
theorem Own.JB(h:w.ownsRow base e size v n xs):∃A c,v=.slice A n c/\Own w base e size A n c xs:=by
 rcases h.2 with ⟨rfl,rfl⟩|⟨g,cap,cur,rfl,_⟩
 .exact⟨none,0,rfl,h⟩
 .exact⟨_,cap,rfl,h⟩
section
variable{A:aS}(h:Own w base e size A n c xs)
include h
theorem Own.rd:Rd w size A n c xs:=by
 rcases h.2 with ⟨hv,rfl⟩|⟨g,cap,cur,hv,vc,hg,Gc,hcm,xP,uG⟩
 .injection hv with h1 h2 h3
  subst h1;subst h3;have:xs=[]:=rz (by simpa using h.1);subst this;exact Rd.dR w size
 .injection hv with h1 _ h3
  subst h1;subst h3;refine⟨h.1,Gc,hcm,fun _=>⟨g,0,rfl,fun j u hu=>?_⟩⟩;have:=ae8.cells h (g:=g) rfl j u hu;simpa [cJ.add_lit] using this
theorem Own.gU:∀a,A=some a->base<=a.block/\a.block<w.heap.size:=by intro a ha;subst ha;exact ae8.lt h a.block rfl
theorem Own.ax:∀k,bn A=some k->base<=k:=by intro k hk;obtain⟨a,ha,rfl⟩:=vu.1 hk;exact(h.gU a ha).1
theorem Own.kept(hg:w.grownBy w' row)(hne:bn A=none\/bn A≠row):Own w' base e size A n c xs :=
 ae8.kept h hg (by rw[mI];exact hne)
theorem Own.ext(he:Ext w w'):Own w' base e size A n c xs :=
 h.kept (he.grownBy none) (by cases bn A<;>simp)
end
theorem Own.mono{CA:Nat}{A:aS}(h:Own w base e size A n c xs)(hb:CA<=base):Own w CA e size A n c xs:=by
 refine⟨h.1,?_⟩;rcases h.2 with h2|⟨g,cap,cur,hv,vc,rest⟩
 .exact .inl h2
 .exact .inr ⟨g,cap,cur,hv,aF hb vc,rest⟩
theorem Own.len{A:aS}(h:Own w base e size A n c xs):xs.length=n*size:=h.1
theorem Own.made(w:κ)(base:Nat)(e:aY)(size:Nat)(cs:List ξ)(n:Nat)(hb:base<=w.heap.size)(hm:n<=maxLen)(hs:cs.length=n*size):Own (w.alloc (.cells cs.toArray e)) base e size (some ⟨w.heap.size,0,none⟩) n n cs :=
 ⟨hs,.inr ⟨w.heap.size,n,cs.toArray,rfl,hb,heap_alloc_new w _,aq _,hm,by simpa using hs,by rw[←hs];simp⟩⟩
section
variable {P:oT}(w:κ)
theorem sg(base:Nat)(t ty e:aY)(i:TypeInfo)(z:ξ)(size bytes:Nat)(ht:P.underlying t=some (.slice e))(hi:P.info? e=some i)(hz:i.zero=some z)(dU:i.size=size)(og:i.bytes=bytes)(C5:z.cells.size=size)(fV:0<size)(A:aS)(n c:Nat)(xs:List ξ)(fS:Own w base e size A n c xs)(A':aS)(m c':Nat)(news:List ξ)(hr:Rd w size A' m c' news)(h1:∀u∈news,u.oneCell'=true)(C6:n+m<=maxLen)(gB:(n+m)*bytes<=140737488355328)(j6:base<=w.heap.size):∃B d w',(Builtin.append_ #[t,t] ty #[.slice A n c,.slice A' m c']).run P w=.ok (.slice B (n+m) d) w'/\Own w' base e size B (n+m) d (xs++news)/\w.grownBy w' (bn A)/\(bn B=bn A\/bn B=some w.heap.size):=by
 rcases rA m with h0|h0
 .subst h0
  have hn:news=[]:=rz (by simpa using hr.1);subst hn;refine⟨A,c,w,?_,by simpa using fS,κ.grownBy.refl w _,.inl rfl⟩;rcases fS.2 with ⟨hv,rfl⟩|⟨g,cap,cur,hv,_,hg,Gc,_⟩
  .injection hv with h1 h2 h3
   subst h1;subst h3;cases A'<;>simp[Builtin.append_,run_underlying ht,sizeOf,typeInfo,hi,Builtin.lenOf,Builtin.firstCells,loadCells,loadCellsFrom]
  .injection hv with h1 h2 h3
   subst h1;subst h3;cases A'<;>simp[Builtin.append_,run_underlying ht,sizeOf,typeInfo,hi,Builtin.lenOf,Builtin.firstCells,Gc,storeCells,loadCells,loadCellsFrom]
 .obtain⟨b,o,rfl,vv⟩:=hr.2.2.2 (Nat.mul_pos h0 fV)
  obtain⟨v',w',bU,h2,h3,_,h5⟩:=run_append_own_at (P:=P) w base t ty e i z size bytes ht hi hz dU og C5 fV (.slice A n c) n xs fS ⟨b,o,none⟩ m c' news hr.1
   (fun j u hu=>by rw[cJ.add_lit];exact vv j u hu) h1 C6 gB j6
  obtain⟨B,d,rfl,h6⟩:=Own.JB h2;refine⟨B,d,w',bU,h6,by rw[mI]at h3;exact h3,by simpa [mI] using h5⟩
section
variable{o:Oper}(rJ:o.guard=none)(s x:pT)(t:aY)(ho:o.op=.call {callee:=.builtin .append,args:=#[s,x],argTypes:=#[t,t]})(base:Nat)(e:aY)(i:TypeInfo)(z:ξ)(size bytes:Nat)(ht:P.underlying t=some (.slice e))(hi:P.info? e=some i)(hz:i.zero=some z)(dU:i.size=size)(og:i.bytes=bytes)(C5:z.cells.size=size)(fV:0<size)
include rJ ho ht hi hz dU og C5 fV
theorem aN(A:aS)(n c:Nat)(xs:List ξ)(hs:a.eval s=.slice A n c)(fS:Own w base e size A n c xs)(A':aS)(m c':Nat)(news:List ξ)(hx:a.eval x=.slice A' m c')(hr:Rd w size A' m c' news)(h1:∀u∈news,u.oneCell'=true)(C6:n+m<=maxLen)(gB:(n+m)*bytes<=140737488355328)(j6:base<=w.heap.size)(h:∀B d w',Own w' base e size B (n+m) d (xs++news)->w.grownBy w' (bn A)->(bn B=bn A\/bn B=some w.heap.size)->wpList P ops Q rest (a.put o.dst (.slice B (n+m) d)) w'):wpList P ops Q (o::rest) a w:=by refine wpList_plain rJ fun K hK=>?_;obtain⟨B,d,w',hr,h2,h3,h5⟩:=sg (P:=P) w base t o.type e i z size bytes ht hi hz dU og C5 fV A n c xs fS A' m c' news hr h1 C6 gB j6;unfold Oper.wp execOp;simp only[ho,resolve,invoke,builtin,Sem.run_bind,Sem.run_pure,Result.andThen_ok,Ou,mF,tT,hs,hx,hr];exact hK _ _ (h B d w' h2 h3 h5)
theorem gq(hs:a.eval s=.slice none 0 0)(A':aS)(m c':Nat)(news:List ξ)(hx:a.eval x=.slice A' m c')(hr:Rd w size A' m c' news)(h1:∀u∈news,u.oneCell'=true)(C6:m<=maxLen)(gB:m*bytes<=140737488355328)(j6:base<=w.heap.size)(h:∀B d w',Own w' base e size B m d news->Ext w w'->wpList P ops Q rest (a.put o.dst (.slice B m d)) w'):wpList P ops Q (o::rest) a w:=by refine aN w rJ s x t ho base e i z size bytes ht hi hz dU og C5 fV none 0 0 [] hs (Own.dR _ _ _ _) A' m c' news hx hr h1 η (by rw[mZ];exact gB) j6 ?_;intro B d w' h2 h3 _;rw[mZ]at h2⊢;rw[List.nil_append]at h2;exact h B d w' h2 (dV h3)
end
theorem Rd.made(t:aY)(size:Nat)(cs:List ξ)(n:Nat)(hs:cs.length=n*size)(hm:n<=maxLen):Rd (w.alloc (.cells cs.toArray t)) size (some ⟨w.heap.size,0,none⟩) n n cs :=
 ⟨hs,aq _,hm,fun _=>⟨w.heap.size,0,rfl,fun j u hu=>by rw[cell_of_row _ _ _ _ _ _ (heap_alloc_new w _)];simpa using hu⟩⟩
theorem ag{o:Oper}(rJ:o.guard=none)(s x:pT)(t:aY)(ho:o.op=.call {callee:=.builtin .append,args:=#[s,x],argTypes:=#[t,t]})(base:Nat)(e:aY)(i:TypeInfo)(z:ξ)(size bytes:Nat)(ht:P.underlying t=some (.slice e))(hi:P.info? e=some i)(hz:i.zero=some z)(dU:i.size=size)(og:i.bytes=bytes)(C5:z.cells.size=size)(fV:0<size)(A:aS)(n c:Nat)(xs:List ξ)(hs:a.eval s=.slice A n c)(fS:Own w base e size A n c xs)(m:Nat)(cs:List ξ)(hx:a.eval x=.slice w.heap.size m m)(hl:cs.length=m*size)(h1:∀u∈cs,u.oneCell'=true)(C6:n+m<=maxLen)(gB:(n+m)*bytes<=140737488355328)(j6:base<=w.heap.size)(h:∀B d w',Own w' base e size B (n+m) d (xs++cs)->w.grownBy w' (bn A)->(bn B=bn A\/∀k,bn B=some k->w.heap.size<=k)->wpList P ops Q rest (a.put o.dst (.slice B (n+m) d)) w'):wpList P ops Q (o::rest) a (w.alloc (.cells cs.toArray e)):=by
 refine aN _ rJ s x t ho base e i z size bytes ht hi hz dU og C5 fV A n c xs hs (fS.ext (Ext.alloc _ _)) _ m m cs hx (Rd.made w e size cs m hl η) h1 C6 gB dw ?_;intro B d w' h2 h3 h4;refine h B d w' h2 (aK ((Ext.alloc w _).grownBy _) h3) ?_;rcases h4 with h4|h4
 .exact .inl h4
 .exact .inr fun k hk=>by rw[h4]at hk;cases hk;simp
end
def oV(w:κ)(A B:aS):Prop:=bn B=bn A\/∀k,bn B=some k->w.heap.size<=k
theorem oV.refl(w:κ)(A:aS):oV w A A:=.inl rfl
theorem oV.of{A B:aS}(h:bn B=bn A\/bn B=some w.heap.size):oV w A B:=by
 rcases h with h|h
 .exact .inl h
 .exact .inr fun k hk=>by rw[h]at hk;cases hk;exact aq _
theorem oV.trans{A B C:aS}(h:oV w A B)(hs:w.heap.size<=w'.heap.size)(k:oV w' B C):oV w A C:=by
 rcases k with k|k
 .rcases h with h|h
  .exact .inl (k.trans h)
  .exact .inr fun i hi=>h i (by rw[←k];exact hi)
 .exact .inr fun i hi=>aF hs (k i hi)
theorem yD{a c:κ}{A B:aS}(h:a.grownBy b (bn A))(hw:oV a A B)(k:b.grownBy c (bn B)):a.grownBy c (bn A) :=
 ⟨k.os.trans h.os,k.tape.trans h.tape,k.output.trans h.output,aF h.size k.size,fun i hi hn=>(k.block i (eM hi h.size) (by
  rcases hw with hw|hw
  .rw[hw];exact hn
  .intro e;have:=hw i e.symm;omega)).trans (h.block i hi hn)⟩
theorem Ext.own{a:κ}(h:Ext w a){B:aS}(hg:a.grownBy b (bn B))(hB:∀k,bn B=some k->w.heap.size<=k):Ext w b :=
 Wt h (fW hg h.size hB)
def zP(w:κ)(base:Nat)(e:aY)(size:Nat)(A:aS)(xs:List ξ)(r:Ending)(w':κ):Prop :=
 ∃B m d,r=.returned (.slice B m d)/\Own w' base e size B m d xs/\w.grownBy w' (bn A)/\oV w A B
def Made(w:κ)(e:aY)(size:Nat)(xs:List ξ)(r:Ending)(w':κ):Prop :=
 ∃B m d,r=.returned (.slice B m d)/\Own w' w.heap.size e size B m d xs/\Ext w w'
def dK(l:aD):List ξ:=l.map fun u=>.int .u8 (u.toNat:Int)
def bs(l:aD):ByteArray:=⟨l.toArray⟩
theorem ay(l:aD):(dK l).length=l.length:=by simp[dK]
theorem aJ(a b:aD):dK (a++b)=dK a++dK b:=by simp[dK]
theorem WE(l:aD)(k:Nat):(dK l).take k=dK (l.take k):=by simp[dK,List.map_take]
theorem WG(l:aD)(k:Nat):(dK l).drop k=dK (l.drop k):=by simp[dK,List.map_drop]
theorem ez(l:aD):∀u∈dK l,u.oneCell'=true:=by intro u hu;obtain⟨_,_,rfl⟩:=List.mem_map.1 hu;rfl
theorem tW{l:aD}(hk:k<l.length):(dK l)[k]?=some (.int .u8 ((l[k]).toNat:Int)):=by simp[dK,hk]
theorem aa2(l:aD):(bs l).data.toList=l:=rfl
@[go_sem] theorem mJ (l:aD):(bs l).size=l.length:=by simp[bs,ByteArray.size]
theorem ahn(s:ByteArray):bs s.data.toList=s:=rfl
@[go_sem] theorem ae6 (l:aD):(bs l).toList=l:=by rw[ByteArray.toList_eq];rfl
def Rb(w:κ)(A:aS)(n c:Nat)(l:aD):Prop:=Rd w 1 A n c (dK l)
theorem Rb.len{A:aS}{l:aD}(h:Rb w A n c l):n=l.length:=by have:=h.1;rw[ay]at this;omega
theorem Rb.ext{A:aS}{l:aD}(h:Rb w A n c l)(he:Ext w w'):Rb w' A n c l:=Rd.ext h he
theorem Rb.of{A:aS}{l:aD}(h:Rd w 1 A n c xs)(e:xs=dK l):Rb w A n c l:=by subst e;exact h
theorem Rb.dR(w:κ):Rb w none 0 0 []:=Rd.dR w 1
section
variable{A:aS}{l:aD}(h:Rb w A n c l)
include h
theorem Rb.take(hk:k<=n):Rb w A k c (l.take k):=by have:=Rd.take h hk;rw[Nat.mul_one,WE]at this;exact this
theorem Rb.drop(hk:k<=n):Rb w (if c=k then A else A.map (·.add k)) (n-k) (c-k) (l.drop k):=by have:=Rd.drop h hk;rw[Nat.mul_one,WG]at this;exact this
theorem Rb.cut(hk:k<=n):∃A',(if c=k then A else Option.map (fun x=>x.add k) A)=A'/\Rb w A' (n-k) (c-k) (l.drop k):=⟨_,rfl,h.drop hk⟩
theorem Rb.at_(hk:k<l.length):∃b o,A=some ⟨b,o,none⟩/\w.cell? ⟨b,o+k,none⟩=some (.int .u8 ((l[k]).toNat:Int)):=by
 obtain⟨b,o,e,u,hu,hc⟩:=Rd.at_ h (k:=k) (by have:=h.len;omega);rw[tW hk]at hu;cases hu
 exact⟨b,o,e,hc⟩
theorem Rb.max:n<=c/\c<=maxLen:=⟨h.2.1,h.2.2.1⟩
end
theorem dS(w:κ)(src dst e:aY)(hs:P.underlying src=some (.slice e))(he:P.underlying e=some (.int .u8))(hd:P.underlying dst=some .string)(A:aS)(n c:Nat)(l:aD)(h:Rb w A n c l):(convert src dst (.slice A n c)).run P w=.ok (.string (bs l)) w:=by
 rw[run_convert_bytes_string w src dst e A n c hs he hd];cases A with
 |none =>
  have hl:l=[]:=by
   rcases rA n with h0|h0
   .exact rz (by have:=h.len;omega)
   .obtain⟨b,o,e,_⟩:=h.2.2.2 η;cases e
  subst hl;simp[Conv.bytesToString]
  rfl
 |some a =>
  have aho:(loadCells a n).run P w=.ok ((l.map fun u=>(u.toNat:Int)).map (ξ.int .u8)).toArray w:=by
   have hm:(l.map fun u:UInt8=>(u.toNat:Int)).map (ξ.int .u8)=dK l:=by simp[dK]
   rw[hm];rcases rA n with h0|h0
   .subst h0;obtain rfl:l=[]:=rz h.len.symm;simpa [dK] using run_loadCells_list (P:=P) w a [] (fun j v hj=>by simp at hj)
   .obtain⟨b,o,e,hc⟩:=h.2.2.2 η
    injection e with e
    subst e;have:=run_loadCells_list (P:=P) w ⟨b,o,none⟩ (dK l) (fun j v hj=>by rw[cJ.add_lit];exact hc j v hj);rw[ay,←h.len]at this;exact this
  rw[run_bytesToString w a n c _ aho];congr 2
  have:∀(ns:aD) (s:ByteArray),(ns.map fun u=>(u.toNat:Int)).foldl (fun r n=>r.push (eB n.toNat)) s=⟨s.data++ns.toArray⟩:=by
   intro ns;induction ns with
   |nil=>intro s;simp
   |cons x ns ih=>intro s;simp only[mF,List.foldl_cons];rw[ih];simp[ByteArray.push]
  rw[this];simp[bs,ByteArray.empty,ByteArray.emptyWithCapacity]
  rfl
def Yes(w:κ)(e:Ending)(w':κ):Prop:=e=.returned (.bool true)/\Ext w w'
theorem C7(w:κ)(base:Nat)(t u ty e:aY)(i:TypeInfo)(ht:P.underlying t=some (.slice e))(hu:P.underlying u=some .string)(hi:P.info? e=some i)(hz:i.zero=some (.int .u8 0))(dU:i.size=1)(og:i.bytes=1)(A:aS)(n c:Nat)(xs:List ξ)(fS:Own w base e 1 A n c xs)(l:aD)(C6:n+l.length<=maxLen)(gB:n+l.length<=140737488355328)(j6:base<=w.heap.size):∃B d w',(Builtin.append_ #[t,u] ty #[.slice A n c,.string (bs l)]).run P w=.ok (.slice B (n+l.length) d) w'/\Own w' base e 1 B (n+l.length) d (xs++dK l)/\w.grownBy w' (bn A)/\oV w A B:=by
 have fV:=mJ l;obtain⟨v',w',hr,h2,h3,_⟩:=Lib.run_append_own_string (P:=P) w base t u ty e i ht hu hi hz dU og (.slice A n c) n xs fS (bs l) (by rw[fV];exact C6) (by rw[fV];exact gB) j6;rw[fV]at h2;obtain⟨B,d,rfl,h6⟩:=Own.JB h2;refine⟨B,d,w',hr,h6,by rw[mI]at h3;exact h3,?_⟩;have KV:n+l.length<=9223372036854775807:=by simp only[maxLen]at C6;omega
 rcases fS.2 with ⟨hv,rfl⟩|⟨g,cap,cur,hv,vc,hg,Gc,hcm,xP,uG⟩
 .injection hv with h7 _ h8
  subst h7;subst h8;by_cases hm:l.length=0
  .obtain rfl:l=[]:=rz hm
   have hf:=Lib.run_firstCells_string (P:=P) w 1 (bs []);have e0:(bs []).size=0:=rfl;rw[e0]at hf;simp[Builtin.append_,run_underlying ht,run_underlying hu,sizeOf,typeInfo,hi,dU,Builtin.lenOf,e0,hf]at hr
   rw[←hr.1.1];exact oV.refl w none
  .have uH:=run_append_nil_string (P:=P) w t u ty e i (.int .u8 0) ht hu hi hz (bs l) η η (by rw[og];omega)
   rw[uH]at hr;injection hr with h9 _
   injection h9 with h9 _ _
   rw[←h9];exact .inr fun k hk=>by cases hk;exact aq _
 .injection hv with h7 _ h8
  subst h7;subst h8;by_cases WH:n+l.length<=c
  .have uH:=Lib.run_append_room_string (P:=P) w t u ty e i ht hu hi dU g n c cur hg (bs l) (by rw[fV];exact WH) η
   rw[uH]at hr;injection hr with h9 _
   injection h9 with h9 _ _
   rw[←h9];exact oV.refl w _
  .have uH:=Lib.run_append_grow_string (P:=P) w t u ty e i (.int .u8 0) ht hu hi hz ⟨g,0,none⟩ n c xs (by rw[dU];exact fS.1) (ae8.cells fS (g:=g) rfl) (bs l) η η (by rw[og];exact growslice_fits η η)
   rw[uH]at hr;injection hr with h9 _
   injection h9 with h9 _ _
   rw[←h9];exact .inr fun k hk=>by cases hk;exact aq _
theorem yE(w:κ){o:Oper}(rJ:o.guard=none)(s x:pT)(t u:aY)(ho:o.op=.call {callee:=.builtin .append,args:=#[s,x],argTypes:=#[t,u]})(base:Nat)(e:aY)(i:TypeInfo)(ht:P.underlying t=some (.slice e))(hu:P.underlying u=some .string)(hi:P.info? e=some i)(hz:i.zero=some (.int .u8 0))(dU:i.size=1)(og:i.bytes=1)(A:aS)(n c:Nat)(xs:List ξ)(hs:a.eval s=.slice A n c)(fS:Own w base e 1 A n c xs)(l:aD)(hx:a.eval x=.string (bs l))(C6:n+l.length<=maxLen)(gB:n+l.length<=140737488355328)(j6:base<=w.heap.size)(h:∀B d w',Own w' base e 1 B (n+l.length) d (xs++dK l)->w.grownBy w' (bn A)->oV w A B->wpList P ops Q rest (a.put o.dst (.slice B (n+l.length) d)) w'):wpList P ops Q (o::rest) a w:=by refine wpList_plain rJ fun K hK=>?_;obtain⟨B,d,w',hr,h2,h3,h5⟩:=C7 (P:=P) w base t u o.type e i ht hu hi hz dU og A n c xs fS l C6 gB j6;unfold Oper.wp execOp;simp only[ho,resolve,invoke,builtin,Sem.run_bind,Sem.run_pure,Result.andThen_ok,Ou,mF,tT,hs,hx,hr];exact hK _ _ (h B d w' h2 h3 h5)
def Rj(n:Int):Nat:=if n<0 then (-2*n-1).toNat else (2*n).toNat
def zag(u:Nat):Int:=if u % 2=1 then -((u / 2:Nat):Int)-1 else ((u / 2:Nat):Int)
theorem aa3(n:Int):zag (Rj n)=n:=by
 unfold zag Rj;by_cases h:n<0
 .rw[if_pos h,if_pos η];omega
 .rw[if_neg h,if_neg η];omega
theorem OC{n:Int}(h0:-9223372036854775808<=n)(h1:n<=9223372036854775807):Rj n<18446744073709551616:=by unfold Rj;split<;>omega
def tX:Nat->Nat->List UInt8
 |0,_=>[]
 |k+1,u=>if u>127 then eB (u % 128+128)::tX k (u / 128) else [eB u]
def aV(n:Int):List UInt8:=tX 10 (Rj n)
def rK:Nat->Nat->List UInt8->Int×Nat×Int
 |_,_,[]=>(0,0,2)
 |i,u,c::r =>
  if i=9/\1<c.toNat then (0,0,1)
  else if 127<c.toNat then rK (i+1) (u+(c.toNat % 128)*2 ^ (7*i)) r
  else if 0<i/\c.toNat=0 then (0,0,1)
  else (zag (u+(c.toNat % 128)*2 ^ (7*i)),i+1,0)
def Ef(l:aD):Int×Nat×Int:=rK 0 0 l
def qH(s:aD):List UInt8:=aV s.length++s
def eO(n:Nat):List UInt8:=[eB (n / 16777216),eB (n / 65536 % 256),eB (n / 256 % 256),eB (n % 256)]
theorem aU(h:n<256):(eB n).toNat=n:=by simp[UInt8.toNat_ofNat'];omega
theorem JC:∀(k u:Nat),(tX k u).length<=k
 |0,_=>by simp[tX]
 |k+1,u=>by
  unfold tX;split
  .have:=JC k (u / 128);simp;omega
  .simp
theorem WI(k u:Nat):0<(tX (k+1) u).length:=by unfold tX;split<;>simp
theorem wN(n:Int):(aV n).length<=10:=JC 10 _
theorem zQ(n:Int):0<(aV n).length:=WI 9 _
theorem JD(k:Nat):128 ^ (k+1)=128*128 ^ k:=by rw[Nat.pow_succ,Nat.mul_comm]
theorem zS(i:Nat):2 ^ (7*i)=128 ^ i:=by rw[Nat.pow_mul]
theorem GW:∀(k i u v:Nat) (rest:aD),i+k=10->(0<i->0<v)->v*128 ^ i<18446744073709551616->rK i u (tX k v++rest)=if k=0 then rK i u rest else (zag (u+v*128 ^ i),i+(tX k v).length,0)
 |0,i,u,v,rest,_,_,_=>by simp[tX]
 |k+1,i,u,v,rest,hik,hv,aX=>by
  rw[if_neg η];have amV:128 ^ i*128 ^ k=128 ^ 9:=by rw[←Nat.pow_add];congr 1;omega
  unfold tX;by_cases h:v>127
  .rw[if_pos h]
   have hk:k≠0:=by intro h0;subst h0;obtain rfl:i=9:=η;have:128*128 ^ 9<=v*128 ^ 9:=xO _ η;omega
   have ht:(eB (v % 128+128)).toNat=v % 128+128:=aU η;rw[zN,rK,ht,if_neg η,if_pos η];have hm:(v % 128+128) % 128=v % 128:=η;have lp:=Nat.div_add_mod v 128;have he:v*128 ^ i=v / 128*128 ^ (i+1)+v % 128*128 ^ i:=by rw[JD,←Nat.mul_assoc,Nat.mul_comm (v / 128) 128,←Nat.add_mul,lp]
   rw[hm,zS,GW k (i+1) _ _ rest η η η,if_neg hk];simp only[lf];rw[show u+v % 128*128 ^ i+v / 128*128 ^ (i+1)=u+v*128 ^ i from by omega,show i+1+(tX k (v / 128)).length=i+((tX k (v / 128)).length+1) from by omega]
  .rw[if_neg h]
   have ht:(eB v).toNat=v:=aU η;have h9:¬(i=9/\1<v):=by rintro ⟨rfl,h1⟩;have:2*128 ^ 9<=v*128 ^ 9:=xO _ η;omega
   rw[zN,rK,ht,if_neg h9,if_neg η,if_neg η,zS];have:v % 128=v:=η;rw[this];rfl
theorem zT{n:Int}(h0:-9223372036854775808<=n)(h1:n<=9223372036854775807)(rest:aD):Ef (aV n++rest)=(n,(aV n).length,0):=by
 unfold Ef aV;rw[GW 10 0 0 (Rj n) rest rfl η (by have:=OC h0 h1;simpa using this)]
 simp[aa3]
def qG(l:List Int):List UInt8:=l.flatMap aV
theorem Bw:∀l:List Int,(qG l).length<=10*l.length
 | []=>by simp[qG]
 |x::l=>by have h1:=Bw l;have h2:=wN x;simp only[qG,List.flatMap_cons,eU,lf]at h1⊢;omega
abbrev m7:=ξ ⊕ (ξ->κ->Prop)
def si(q:m7)(v:ξ)(w:κ):Prop:=match q with|.inl u=>v=u|.inr p=>p v w
def fits(q:m7)(v:ξ):Prop:=match q with|.inl u=>v=u|.inr _=>True
def wO(acc:List Nat):List Edge->Nat
 | []=>0
 |e::es=>if S1 .any e then wO acc es ||| 2 ^ e.on ||| acc.getD e.on 0 else wO acc es
def Eg(acc:List Nat):List Oper->List Nat
 | []=>acc
 |o::os=>Eg (acc++[wO acc o.after.toList]) os
def iK(l:List Oper)(i j:Nat):Bool:=((Eg [] l).getD i 0).testBit j
def Rk(o:Oper)(t:Tmp):Bool:=match o.dst with|some d=>d==t|none=>false
def Bx(l:List Oper)(tab:List Nat)(i:Nat)(o:Oper):Bool :=
 (o.after.toList.all fun e=>!S1 .any e || decide (e.on<i)) &&
 (match o.op with|.select ..=>false|_=>true) &&
 (l.zipIdx.all fun x=>x.2==i ||
  ((match o.dst with|some d=>!Rk x.1 d|none=>true) &&
   ((o.looksAt l.toArray).all fun t=>!Rk x.1 t || (if x.2<i then (tab.getD i 0).testBit x.2 else (tab.getD x.2 0).testBit i))))
def stat(l:List Oper):Bool:=l.zipIdx.all fun x=>Bx l (Eg [] l) x.2 x.1
def zU(P:oT)(N:ξ->κ->Prop):Result Next->Prop
 | .ok (.value v) w'=>N v w'
 | .ok .skip w'=>N undef w'
 | .ok (.enter f args) w'=>τ P f args w' fun e VY=>∃v,e=.returned v/\N v VY
 |_=>False
section
variable (P:oT) (R:κ->κ->Prop) (w0:κ) (l:List Oper) (Q:Act->κ->Prop)
def Step(o:Oper)(a:Act)(G:κ->Prop)(q:m7):Prop :=
 ∀w,R w0 w->G w->zU P (fun v w'=>R w w'/\si q v w') ((execOp a.eval o).run P w)
def lex:List m7->List Oper->Nat->Act->((Nat->Bool)->κ->Prop)->Prop
 | [],[],_,a,Φ=>∀w,R w0 w->Φ (fun _=>true) w->Q a w
 |q::qs,o::os,i,a,Φ =>
  (if kV o (yielded l.toArray a.tmps) then Step P R w0 o a (Φ (iK l i)) q else q=.inl undef) /\
  (match q with
   | .inl u=>lex qs os (i+1) (a.put o.dst u) Φ
   | .inr p=>(∀v w w',p v w->R w w'->p v w')/\∀v,lex qs os (i+1) (a.put o.dst v) (fun d w=>(d i=true->p v w)/\Φ d w))
 |_,_,_,_,_=>False
end
section
variable {P:oT}{R:κ->κ->Prop}{w0:κ}{l:List Oper}{Q:Act->κ->Prop}
def vw(l:List Oper)(a0:Act)(S:Nat->Prop)(σ:Nat->ξ)(a:Act):Prop :=
 a.defers=a0.defers/\a.tmps.size=a0.tmps.size /\
 (∀t,(∀i o,l[i]?=some o->S i->o.dst≠some t)->a.tmps[t]?=a0.tmps[t]?) /\
 (∀i o t,l[i]?=some o->S i->o.dst=some t->t<a0.tmps.size->a.tmps[t]?=some (σ i))
theorem GX{o:Oper}{t:Tmp}:Rk o t=true↔o.dst=some t:=by unfold Rk;cases o.dst<;>simp
section
variable(h:stat l=true){o:Oper}(ho:l[i]?=some o)
include h ho
theorem DD:Bx l (Eg [] l) i o=true:=by unfold stat at h;rw[Gs]at h;have hm:(o,i)∈l.zipIdx:=afY.2 ho;exact h _ hm
theorem Te{e:Edge}(he:e∈o.after)(hb:S1 .any e=true):e.on<i:=by have h1:=DD h ho;simp only[Bx,rB,Gs]at h1;have h2:=h1.1.1 e (by simpa using he);rw[hb]at h2;simpa using h2
theorem Lm:∀cs b,o.op≠.select cs b:=by intro cs b akF;have h1:=DD h ho;simp only[Bx,rB]at h1;have h2:=h1.1.2;rw[akF]at h2;simp at h2
theorem WJ(hx:l[j]?=some x){t:Tmp}(h1:o.dst=some t)(h2:x.dst=some t):i=j:=by
 rcases Decidable.em (j=i) with e|e
 .exact e.symm
 .exfalso
  have h3:=DD h ho;simp only[Bx,rB,Gs]at h3;have hm:(x,j)∈l.zipIdx:=afY.2 hx;have h4:=h3.2 _ hm;simp only[h1,GX.2 h2,aiH,Bool.false_and,Bool.or_false,beq_iff_eq]at h4;exact e h4
theorem GY(hx:l[j]?=some x){t:Tmp}(h1:t∈o.looksAt l.toArray)(h2:x.dst=some t):j=i\/(j<i/\iK l i j=true)\/(¬j<i/\iK l j i=true):=by
 rcases Decidable.em (j=i) with e|e
 .exact .inl e
 .refine .inr ?_
  have h3:=DD h ho;simp only[Bx,rB,Gs]at h3;have hm:(x,j)∈l.zipIdx:=afY.2 hx;have h4:=h3.2 _ hm;rw[Wu]at h4;rcases h4 with h4|h4
  .exact absurd (by simpa using h4) e
  .rw[rB]at h4
   have h5:=h4.2;rw[Gs]at h5;have h6:=h5 t h1;rw[GX.2 h2,aiH,Bool.false_or]at h6;by_cases aX:j<i
   .rw[if_pos aX]at h6;exact .inl ⟨aX,h6⟩
   .rw[if_neg aX]at h6;exact .inr ⟨aX,h6⟩
end
def OD(l:List Oper)(S:Nat->Prop):Prop:=∀i o,l[i]?=some o->S i->∀e∈o.after,S1 .any e=true->S e.on
theorem zV{acc:List Nat}{S:Nat->Prop}(lS:∀i m,acc[i]?=some m->S i->∀j,m.testBit j=true->S j):∀(es:List Edge),(∀e∈es,S1 .any e=true->S e.on)->∀j,(wO acc es).testBit j=true->S j
 | [],_,j,h=>by simp[wO]at h
 |e::es,hes,j,h=>by
  have ih:=zV lS es (fun e he=>hes e (List.mem_cons_of_mem _ he)) j;unfold wO at h;split at h
  .rename_i hb
   rw[aiF,aiF,Wu,Wu]at h;rcases h with (h|h)|h
   .exact ih h
   .rw[Nat.testBit_two_pow]at h;simp only[decide_eq_true_eq]at h;rw[←h];exact hes e (C2) hb
   .have hS:=hes e (C2) hb
    rcases hg:acc[e.on]? with _|m
    .simp[ae7,hg]at h
    .simp[ae7,hg]at h
     exact lS _ _ hg hS j h
  .exact ih h
theorem Eh{S:Nat->Prop}(hS:OD l S):∀(os:List Oper) (acc:List Nat),(∀k,os[k]?=l[acc.length+k]?)->(∀i m,acc[i]?=some m->S i->∀j,m.testBit j=true->S j)->∀i m,(Eg acc os)[i]?=some m->S i->∀j,m.testBit j=true->S j
 | [],acc,_,lS=>lS
 |o::os,acc,hl,lS=>by
  unfold Eg;refine Eh hS os _ (fun k=>?_) ?_
  .have:=hl (k+1)
   simp only[Js]at this;rw[this,eU,List.length_singleton];congr 1
   omega
  .intro i m hm hi j hj
   rw[List.getElem?_append]at hm;split at hm
   .exact lS i m hm hi j hj
   .rename_i C8
    have h0:l[acc.length]?=some o:=by simpa using (hl 0).symm
    rcases hk:i-acc.length with _|k
    .rw[hk]at hm
     simp at hm
     subst hm;obtain rfl:i=acc.length:=η;exact zV lS _ (fun e he hb=>hS _ _ h0 hi e (by simpa using he) hb) j hj
    .rw[hk]at hm;simp at hm
theorem yF(hS:OD l S)(hi:S i)(h:iK l i j=true):S j:=by
 unfold iK at h;rcases hm:(Eg [] l)[i]? with _|m
 .simp[ae7,hm]at h
 .simp[ae7,hm]at h
  exact Eh hS l [] bT bT i m hm hi j h
theorem tY(hS:OD l S){o:Oper}(ho:l[i]?=some o)(hi:∀e∈o.after,S1 .any e=true->S e.on)(h:iK l i j=true)(yh:j≠i):S j:=by
 have:=yF (l:=l) (S:=fun k=>S k\/k=i) (i:=i) (j:=j) ?_ (.inr rfl) h
 .exact this.resolve_right yh
 .intro k x hk hSk e he hb
  rcases hSk with hSk|rfl
  .exact .inl (hS k x hk hSk e he hb)
  .rw[ho]at hk
   cases hk
   exact .inl (hi e he hb)
theorem eval_congr{x:pT}(h:∀t,x=.tmp t->a.tmps[t]?=a'.tmps[t]?):a.eval x=a'.eval x:=by
 cases x with
 |tmp t =>have:=h t rfl;simp only[Act.eval,Ju,this]
 |_=>rfl
theorem Gx{t t':Array ξ}(h:∀d,((ops[j]?).bind (·.dst))=some d->t[d]?=t'[d]?):yielded ops t j=yielded ops t' j:=by
 unfold yielded;cases hd:(ops[j]?).bind (·.dst) with
 |none=>rfl
 |some d=>simp only[Option.bind_some];rw[h d hd]
theorem WK{o:Oper}{t:Tmp}(h:pT.tmp t∈o.op.operands):t∈o.looksAt ops :=
 List.mem_append_left _ (List.mem_filterMap.2 ⟨.tmp t,Lh,rfl⟩)
theorem CB{o:Oper}(hs:∀cs b,o.op≠.select cs b)(h:∀t∈o.looksAt l.toArray,a.tmps[t]?=a'.tmps[t]?):execOp a.eval o=execOp a'.eval o :=
 execOp_congr o hs fun x hx=>eval_congr fun t ht=>h t (WK (by rw[←ht];exact hx))
theorem CC{o:Oper}(h:∀t∈o.looksAt l.toArray,a.tmps[t]?=a'.tmps[t]?):kV o (yielded l.toArray a.tmps)=kV o (yielded l.toArray a'.tmps):=by
 unfold kV;cases hg:o.guard with
 |none=>rfl
 |some g =>obtain⟨j,b⟩:=g;simp only;rw[Gx fun d hd=>h d ?_];refine List.mem_append_right _ ?_;rw[hg];simp only;rw[hd];simp
theorem vw.agree(h:vw l a0 S σ a)(h':vw l a0 S' σ a'){ts:List Tmp}(hS:∀t∈ts,∀j x,l[j]?=some x->x.dst=some t->(S j↔S' j)):∀t∈ts,a.tmps[t]?=a'.tmps[t]?:=by
 intro t ht;by_cases hw:∃j x,l[j]?=some x/\x.dst=some t/\S j
 .obtain⟨j,x,hx,hd,hSj⟩:=hw
  by_cases aX:t<a0.tmps.size
  .rw[h.2.2.2 j x t hx hSj hd aX,h'.2.2.2 j x t hx ((hS t ht j x hx hd).1 hSj) hd aX]
  .rw[aiD (by rw[h.2.1];exact aiG aX),aiD (by rw[h'.2.1];exact aiG aX)]
 .rw[h.2.2.1 t (fun i o ho hi hd=>hw ⟨i,o,ho,hd,hi⟩),h'.2.2.1 t (fun i o ho hi hd=>hw ⟨i,o,ho,hd,(hS t ht i o ho hd).2 hi⟩)]
theorem vw.afv(h:vw l a0 S σ a)(h':vw l a0 S σ a'):a=a':=by
 have ht:a.tmps=a'.tmps:=by apply Array.ext_getElem?;intro t;exact h.agree h' (ts:=[t]) (fun _ _ _ _ _ _=>Iff.rfl) t bT
 cases a;cases a'
 have:=h.1.trans h'.1.symm;simp_all
theorem vw.put{σ':Nat->ξ}(eH:stat l=true)(h:vw l a0 S σ a){o:Oper}(ho:l[i]?=some o)(v:ξ)(WL:∀j,S j->j≠i->σ' j=σ j)(hv:σ' i=v)(hS:∀j,S' j↔S j\/j=i):vw l a0 S' σ' (a.put o.dst v):=by
 have hdf:(a.put o.dst v).defers=a.defers:=by cases o.dst<;>rfl
 have fV:(a.put o.dst v).tmps.size=a.tmps.size:=by cases o.dst<;>simp[rC]
 refine⟨hdf.trans h.1,fV.trans h.2.1,fun t hn=>?_,fun j x t hx hj hd aX=>?_⟩
 .have hot:o.dst≠some t:=hn i o ho ((hS i).2 (.inr rfl))
  have e:(a.put o.dst v).tmps[t]?=a.tmps[t]?:=by
   cases hd:o.dst with
   |none=>rfl
   |some d =>have:d≠t:=fun e=>hot (by rw[hd,e]);simp[rC,Ws this]
  rw[e];exact h.2.2.1 t fun j x hx hj=>hn j x hx ((hS j).2 (.inl hj))
 .by_cases Gy:j=i
  .subst Gy
   rw[ho]at hx;cases hx
   rw[hd,hv];have h2:=h.2.1;simp only[rC];rw[Array.getElem?_setIfInBounds_self_of_lt η]
  .have hSj:S j:=((hS j).1 hj).resolve_right Gy
   have hot:o.dst≠some t:=fun e=>Gy (WJ eH hx ho hd e);have e:(a.put o.dst v).tmps[t]?=a.tmps[t]?:=by
    cases zW:o.dst with
    |none=>rfl
    |some d =>have:d≠t:=fun e=>hot (by rw[zW,e]);simp[rC,Ws this]
   rw[e,WL j hSj Gy];exact h.2.2.2 j x t hx hSj hd aX
theorem vw.start(a0:Act)(σ:Nat->ξ)(hS:∀i,¬S i):vw l a0 S σ a0:=⟨rfl,rfl,fun _ _=>rfl,fun i _ _ _ h=>absurd h (hS i)⟩
theorem zX{o:Oper}{Q:Exit->Act->κ->Prop}{N:ξ->κ->Prop}(hN:∀v w',N v w'->K (a.put o.dst v) w')(h:zU P N ((execOp a.eval o).run P w)):o.wp P a w K Q:=by
 unfold Oper.wp;generalize (execOp a.eval o).run P w=r at*;cases r with
 |ok n w' =>
  cases n<;>simp only[Oper.upon,zU]at h⊢ <;>
   first
    |exact hN _ _ h
    |exact τ.mono h (fun e VY he=>by obtain⟨v,rfl,hv⟩:=he;exact hN _ _ hv)
    |exact h.elim
 |halt x w'=>exact h.elim
theorem zY{f g:Nat->Bool}(hgf:∀x,g x=true->f x=true){i:Nat}(hf:f i=true)(hg:g i=false):∀L:List Nat,i∈L->L.countP g<L.countP f
 | [],h=>by simp at h
 |x::L,h=>by
  have hle:L.countP g<=L.countP f:=List.countP_mono_left fun y _ hy=>hgf y hy;rw[aiB,aiB];by_cases hx:x=i
  .subst hx;rw[if_pos hf,if_neg (by simp[hg])];omega
  .have hm:i∈L:=by simpa [Ne.symm hx] using h
   have ih:=zY hgf hf hg L hm;by_cases N0:g x=true
   .rw[if_pos N0,if_pos (hgf x N0)];omega
   .rw[if_neg N0];split<;>omega
def gM(l:List Oper)(listed:Array Bool):Nat:=(dJ l.length).countP fun i=>!listed.getD i true
theorem pZ(h:i<listed.size):listed.getD i true=listed.getD i false:=by simp[Rg,h]
theorem tZ(eH:stat l=true){listed:Array Bool}(fV:listed.size=l.length)(hr:afZ .any l.toArray listed=[]):∀n i,i<n->i<l.length->listed.getD i false=true
 |0,i,h,_=>by omega
 |n+1,i,h,hi=>by
  have ho:l[i]?=some l[i]:=bf hi;by_cases hd:listed.getD i false=true
  .exact hd
  .exfalso
   have hm:i∈afZ .any l.toArray listed:=mem_ready.2 ⟨by rw[pZ η];exact Bool.not_eq_true _▸hd,l[i],bT,fun e he hb=>?_⟩
   .rw[hr]at hm;cases hm
   .have aX:=Te eH ho he hb;exact tZ eH fV hr n e.on η η
theorem By(fV:listed.size=l.length)(bW:∀i,i<l.length->listed.getD i false=true):afZ .any l.toArray listed=[]:=by
 rw[List.eq_nil_iff_forall_not_mem];intro i hi;obtain⟨h1,o,h2,_⟩:=mem_ready.1 hi;have aX:i<l.length:=by have:=(Array.getElem?_eq_some_iff.1 h2).1;simpa using this
 rw[pZ η,bW i aX]at h1;cases h1
theorem Ei(hi:i<listed.size)(j:Nat):(listed.setIfInBounds i true).getD j false=true↔listed.getD j false=true\/j=i:=by
 by_cases hj:j=i
 .subst hj;simp[Rg,hi]
 .have:i≠j:=fun e=>hj e.symm;simp[Ju,Ws this,hj]
def Rl(P:oT)(l:List Oper)(Q':Exit->Act->κ->Prop):Nat->Nat->Act->κ->Prop
 |0,_=>fun a w=>Q' .normal a w
 |k+1,i=>fun a w=>wpOp P l.toArray Q' i (Rl P l Q' k (i+1)) a w
theorem JE(fV:listed.size=l.length)(aX:i<l.length)(h1:listed.getD i true=false):gM l (listed.setIfInBounds i true)<gM l listed:=by
 refine zY (i:=i) (fun x hx=>?_) ?_ ?_ _ (by simpa using aX)
 .by_cases WM:x=i
  .subst WM;rw[h1];rfl
  .have:i≠x:=fun e=>WM e.symm;rw[Ju,Ws this,←Ju]at hx;exact hx
 .rw[h1];rfl
 .simp[Rg,fV,aX]
theorem OE(eH:stat l=true):∀(fuel n:Nat) (listed:Array Bool) (a:Act) (w:κ),n<=l.length->(∀i,n<=i->i<l.length->∀j,j<i->iK l i j=true)->listed.size=l.length->gM l listed<=fuel->OD l (fun i=>listed.getD i false=true)->(∀j,listed.getD j false=true↔j<n)->Rl P l Q' (l.length-n) n a w->wpAny P .any l.toArray Q' fuel listed a w:=by
 intro fuel;induction fuel with
 |zero =>
  intro n listed a w hn ve fV KW Ej Gd ht;have hz:gM l listed=0:=η;have bW:∀i,i<l.length->listed.getD i false=true:=by intro i hi;unfold gM at hz;rw[aiC]at hz;have:=hz i S9;rw[←pZ η];simpa using this
  obtain rfl:n=l.length:=by
   rcases zO n l.length with h|h
   .exact absurd ((Gd n).1 (bW n h)) (Ov _)
   .omega
  rw[Nat.sub_self]at ht;exact⟨By fV bW,ht⟩
 |succ fuel ih =>
  intro n listed a w hn ve fV KW Ej Gd ht;refine⟨fun hr=>?_,fun i hi=>?_⟩
  .have bW:∀i,i<l.length->listed.getD i false=true:=fun i hi=>tZ eH fV hr (i+1) i η hi
   obtain rfl:n=l.length:=by
    rcases zO n l.length with h|h
    .exact absurd ((Gd n).1 (bW n h)) (Ov _)
    .omega
   rw[Nat.sub_self]at ht;exact ht
  .obtain⟨h1,o,h2,vz⟩:=mem_ready.1 hi
   have ho:l[i]?=some o:=Gw;have aX:i<l.length:=(iN.1 ho).1;have JF:¬listed.getD i false=true:=by rw[←pZ η,h1];simp
   have C9:∀j,iK l i j=true->j≠i->listed.getD j false=true:=fun j hj hne=>tY Ej ho vz hj hne;have gN:=Ei (listed:=listed) (i:=i) η;have C8:n<=i:=by
    rcases zO i n with h|h
    .exact absurd ((Gd i).2 h) JF
    .exact h
   obtain rfl:i=n:=by
    rcases zO n i with h|h
    .exact absurd ((Gd n).1 (C9 n (ve i C8 aX n h) η)) (Ov _)
    .omega
   obtain⟨k,hk⟩:∃k,l.length-i=k+1:=⟨l.length-i-1,η⟩;rw[hk]at ht;refine wpOp_mono (fun a' w' h=>?_) ht;refine ih (i+1) _ a' w' aX (fun i' h' h2'=>ve i' η h2') (by simpa using fV) (by have:=JE fV aX h1;omega) ?_ ?_ ?_
   .intro j x hx hj e he JG
    refine(gN _).2 (.inl ?_);rcases(gN j).1 hj with hj|rfl
    .exact Ej j x hx hj e he JG
    .rw[ho]at hx
     cases hx
     exact vz e he JG
   .intro j;rw[gN j,Gd j];omega
   .rw[show l.length-(i+1)=k by omega];exact h
theorem Ln{Q':Exit->Act->κ->Prop}:∀(os:List Oper) (n:Nat) (a:Act) (w:κ),l.drop n=os->wpList P l.toArray Q' os a w->Rl P l Q' (l.length-n) n a w
 | [],n,a,w,hd,h=>by
  have:l.length<=n:=by simpa using hd
  rw[aiE this];exact h
 |o::os,n,a,w,hd,h=>by
  have aX:n<l.length:=by
   rcases zO n l.length with h'|h'
   .exact h'
   .rw[Jt h']at hd;cases hd
  rw[List.drop_eq_getElem_cons aX]at hd;injection hd with h1 h2
  obtain⟨k,hk⟩:∃k,l.length-n=k+1:=⟨l.length-n-1,η⟩;rw[hk];show wpOp P l.toArray Q' n (Rl P l Q' k (n+1)) a w
  refine wpOp_mono (K:=wpList P l.toArray Q' os) (fun a' w' h'=>?_) ?_
  .have:=Ln os (n+1) a' w' h2 h';rw[show l.length-(n+1)=k by omega]at this;exact this
  .have ho:l[n]?=some o:=by rw[bf aX,h1]
   unfold wpOp;rw[show l.toArray[n]?=some o from by simpa using ho];exact h
end
def mK:ξ->Option Nat
 | .pointer (some a)=>some a.block
 | .slice (some a) _ _=>some a.block
 |_=>none
def Ek(F1 F2 i:Nat)(v:ξ)(w w':κ):Prop:=i=F1\/i=F2->∃b,mK v=some b/\w.heap.size<=b/\b<w'.heap.size
def vA(F1 F2 n:Nat)(u1 u2:ξ):Prop:=F1<n->F2<n->F1≠F2->mK u1≠mK u2
section
variable (P:oT) (R:κ->κ->Prop) (w0:κ) (Rs:Nat->κ->κ->Prop) (J:Nat->κ->Prop) (F1 F2:Nat) (l:List Oper) (Q:Act->κ->Prop)
def Rm(i:Nat)(o:Oper)(a:Act)(G:κ->Prop)(q:m7):Prop :=
 ∀w,R w0 w->J i w->G w->zU P (fun v w'=>(R w w'/\Rs i w w'/\Ek F1 F2 i v w w')/\si q v w') ((execOp a.eval o).run P w)
def kX:List m7->List Oper->Nat->Act->ξ->ξ->((Nat->Bool)->κ->Prop)->Prop
 | [],[],i,a,u1,u2,Φ=>∀w,R w0 w->vA F1 F2 i u1 u2->Φ (fun _=>true) w->Q a w
 |q::qs,o::os,i,a,u1,u2,Φ =>
  (if kV o (yielded l.toArray a.tmps) then Rm P R w0 Rs J F1 F2 i o a (Φ (iK l i)) q else q=.inl undef/\i≠F1/\i≠F2) /\
  (match q with
   | .inl u=>kX qs os (i+1) (a.put o.dst u) (if i=F1 then u else u1) (if i=F2 then u else u2) Φ
   | .inr p=>(∀j,j≠i->iK l i j=false->∀v w w',p v w->Rs j w w'->p v w')/\∀v,kX qs os (i+1) (a.put o.dst v) (if i=F1 then v else u1) (if i=F2 then v else u2) (fun d w=>(d i=true->p v w)/\Φ d w))
 |_,_,_,_,_,_,_=>False
end
section
variable {P:oT}{R:κ->κ->Prop}{w0:κ}{Rs:Nat->κ->κ->Prop}{J:Nat->κ->Prop}{F1 F2:Nat}{l:List Oper}{Q:Act->κ->Prop}
theorem DE(eH:stat l=true){a0:Act}{σ:Nat->ξ}(n0:Nat)(zZ:n0<=l.length)(gX:List m7)(WN:gX.length=n0)(vB:∀i q,gX[i]?=some q->fits q (σ i)):∀(qs:List m7) (os:List Oper) (i:Nat) (a:Act) (u1 u2:ξ) (Φ:(Nat->Bool)->κ->Prop),i+os.length=n0->(∀k,k<os.length->os[k]?=l[i+k]?)->(∀k,qs[k]?=gX[i+k]?)->kX P R w0 Rs J F1 F2 l Q qs os i a u1 u2 Φ->vw l a0 (· < i) σ a->(F1<i->u1=σ F1)->(F2<i->u2=σ F2)->(∀d w,(∀j q,j<i->gX[j]?=some q->d j=true->si q (σ j) w)->Φ d w)->(∀j o,i<=j->j<n0->l[j]?=some o->∃a q,gX[j]?=some q/\vw l a0 (· < j) σ a/\(if kV o (yielded l.toArray a.tmps) then Rm P R w0 Rs J F1 F2 j o a (fun w=>∀k q,k<j->gX[k]?=some q->iK l j k=true->si q (σ k) w) q else q=.inl undef/\j≠F1/\j≠F2))/\(∃a,vw l a0 (· < n0) σ a/\∀w,R w0 w->vA F1 F2 n0 (σ F1) (σ F2)->(∀j q,gX[j]?=some q->j<n0->si q (σ j) w)->Q a w)
 | [],[],i,a,u1,u2,Φ,jI,hl,hq,h,hf,GZ,JH,υ=>by
  have hi:i=n0:=by simpa using jI
  subst hi;refine⟨fun j o hj OG ho=>η,a,hf,fun w hw gT bW=>h w hw (fun h1 h2 h3=>by rw[GZ h1,JH h2];exact gT h1 h2 h3) (υ _ _ fun j q hj qw _=>bW j q qw hj)⟩
 | [],_::_,_,_,_,_,_,_,_,_,h,_,_,_,_=>h.elim
 |_::_,[],_,_,_,_,_,_,_,_,h,_,_,_,_=>h.elim
 |q::qs,o::os,i,a,u1,u2,Φ,jI,hl,hq,h,hf,GZ,JH,υ=>by
  simp only[lf]at jI hl;have ho:l[i]?=some o:=by simpa using (hl 0 η).symm
  have Rq:gX[i]?=some q:=by simpa using (hq 0).symm
  have G3:∀k,k<os.length->os[k]?=l[i+1+k]?:=fun k hk=>by have:=hl (k+1) η;simp only[Js]at this;rw[this];congr 1;omega
  have vC:∀k,qs[k]?=gX[i+1+k]?:=fun k=>by have:=hq (k+1);simp only[Js]at this;rw[this];congr 1;omega
  have vD:∀v,σ i=v->vw l a0 (· < i+1) σ (a.put o.dst v):=fun v hv=>hf.put eH ho v (fun _ _ _=>rfl) hv (fun j=>η);obtain⟨lp,kz⟩:=h;have Tf:=vB i q Rq;have yG:∀v,σ i=v->F1<i+1->(if i=F1 then v else u1)=σ F1:=fun v hv aX=>by
   by_cases e:i=F1
   .rw[if_pos e,←hv,e]
   .rw[if_neg e];exact GZ η
  have Lo:∀v,σ i=v->F2<i+1->(if i=F2 then v else u2)=σ F2:=fun v hv aX=>by
   by_cases e:i=F2
   .rw[if_pos e,←hv,e]
   .rw[if_neg e];exact JH η
  have key:(∀j o,i+1<=j->j<n0->l[j]?=some o->∃a q,gX[j]?=some q/\vw l a0 (· < j) σ a /\
    (if kV o (yielded l.toArray a.tmps) then Rm P R w0 Rs J F1 F2 j o a (fun w=>∀k q,k<j->gX[k]?=some q->iK l j k=true->si q (σ k) w) q else q=.inl undef/\j≠F1/\j≠F2)) /\
   (∃a,vw l a0 (· < n0) σ a/\∀w,R w0 w->vA F1 F2 n0 (σ F1) (σ F2)->(∀j q,gX[j]?=some q->j<n0->si q (σ j) w)->Q a w):=by
   cases q with
   |inl u=>exact DE eH n0 zZ gX WN vB qs os (i+1) _ _ _ Φ η G3 vC kz (vD u Tf) (yG u Tf) (Lo u Tf) fun d w bW=>υ d w fun j q hj qw hd=>bW j q η qw hd
   |inr p =>refine DE eH n0 zZ gX WN vB qs os (i+1) _ _ _ _ η G3 vC (kz.2 (σ i)) (vD _ rfl) (yG _ rfl) (Lo _ rfl) fun d w bW=>⟨fun hd=>?_,υ d w fun j q hj qw hd=>bW j q η qw hd⟩;exact bW i _ η Rq hd
  refine⟨fun j x hj OG hx=>?_,key.2⟩;rcases zO i j with aX|C8
  .exact key.1 j x aX OG hx
  .obtain rfl:j=i:=by omega
   rw[ho]at hx;cases hx
   refine⟨a,q,Rq,hf,?_⟩;by_cases hw:kV o (yielded l.toArray a.tmps)=true
   .rw[if_pos hw]at lp⊢;intro w hR hJ hG;exact lp w hR hJ (υ _ _ fun k q hk qw hb=>hG k q hk qw hb)
   .rw[if_neg hw]at lp⊢;exact lp
theorem El:∀(qs:List m7) (os:List Oper) (i:Nat) (a:Act) (u1 u2:ξ) (Φ:(Nat->Bool)->κ->Prop),kX P R w0 Rs J F1 F2 l Q qs os i a u1 u2 Φ->qs.length=os.length
 | [],[],_,_,_,_,_,_=>rfl
 | [],_::_,_,_,_,_,_,h=>h.elim
 |_::_,[],_,_,_,_,_,h=>h.elim
 |q::qs,o::os,i,a,u1,u2,Φ,h=>by
  have:=h.2;simp only[lf];cases q with
  |inl u=>rw[El qs os _ _ _ _ _ this]
  |inr p=>rw[El qs os _ _ _ _ _ (this.2 undef)]
theorem Bz:∀(qs:List m7) (os:List Oper) (i:Nat) (a:Act) (u1 u2:ξ) (Φ:(Nat->Bool)->κ->Prop),kX P R w0 Rs J F1 F2 l Q qs os i a u1 u2 Φ->∀k p,qs[k]?=some (.inr p)->∀j,j≠i+k->iK l (i+k) j=false->∀v w w',p v w->Rs j w w'->p v w'
 | [],_,_,_,_,_,_,_,k,p,hp=>by simp at hp
 |_::_,[],_,_,_,_,_,h,_,_,_=>h.elim
 |q::qs,o::os,i,a,u1,u2,Φ,h,0,p,hp=>by
  have:=h.2;simp at hp
  subst hp;exact this.1
 |q::qs,o::os,i,a,u1,u2,Φ,h,k+1,p,hp=>by
  have:=h.2;simp only[Js]at hp;intro j hj hb;rw[show i+(k+1)=i+1+k by omega]at hb;cases q with
  |inl u=>exact Bz qs os _ _ _ _ _ this k p hp j η hb
  |inr p'=>exact Bz qs os _ _ _ _ _ (this.2 undef) k p hp j η hb
theorem Gz{o:Oper}{b:Act}{G:κ->Prop}{q:m7}(ho:l[i]?=some o)(hs:∀cs b,o.op≠.select cs b)(G4:∀t∈o.looksAt l.toArray,a.tmps[t]?=b.tmps[t]?)(h:if kV o (yielded l.toArray a.tmps) then Rm P R w0 Rs J F1 F2 i o a G q else q=.inl undef/\i≠F1/\i≠F2)(hR:R w0 w)(hJ:J i w)(hG:G w)(hrefl:R w w)(iy:Rs i w w)(hK:∀v w',R w w'->Rs i w w'->Ek F1 F2 i v w w'->si q v w'->K (b.put o.dst v) w'):wpOp P l.toArray Q' i K b w:=by
 unfold wpOp;rw[show l.toArray[i]?=some o from by simpa using ho];simp only;rw[←CC G4];split
 .rename_i hw;rw[if_pos hw]at h;have h1:=h w hR hJ hG;rw[CB hs G4]at h1;exact .inl (zX (fun v w' hv=>hK v w' hv.1.1 hv.1.2.1 hv.1.2.2 hv.2) h1)
 .rename_i hw;rw[if_neg (by simpa using hw)]at h;obtain⟨rfl,GA,Ge⟩:=h;exact hK _ _ hrefl iy (fun e=>by rcases e with e|e;exact absurd e GA;exact absurd e Ge) rfl
def ahp(P:oT)(l:List Oper)(Q':Exit->Act->κ->Prop)(n0:Nat)(a:Act)(w:κ):Prop :=
 ∀(fuel:Nat) (listed:Array Bool),listed.size=l.length->gM l listed<=fuel->OD l (fun i=>listed.getD i false=true)->(∀j,listed.getD j false=true↔j<n0)->wpAny P .any l.toArray Q' fuel listed a w
def WO(P:oT)(l:List Oper)(Q:Act->κ->Prop)(Q':Exit->Act->κ->Prop)(n0:Nat):Prop :=
 (n0=l.length/\∀a w,Q a w->Q' .normal a w) \/
 (n0<l.length/\(∀i,n0<=i->i<l.length->∀j,j<n0->iK l i j=true)/\∀a w,Q a w->ahp P l Q' n0 a w)
theorem OH(eH:stat l=true)(hrefl:∀w,R w w)(iy:∀i w,Rs i w w)(dU:∀a b,R a b->a.heap.size<=b.heap.size)(yH:∀j i,i≠j->∀w w',J j w->Rs i w w'->J j w')(jK:∀a b c,R a b->R b c->R a c)(n0:Nat)(vE:WO P l Q Q' n0)(gX:List m7)(WN:gX.length=n0)(WQ:∀k p,gX[k]?=some (.inr p)->∀j,j≠k->iK l k j=false->∀v w w',p v w->Rs j w w'->p v w')(hos:Lc.length=n0)(afu:∀k,k<Lc.length->Lc[k]?=l[k]?)(WR:kX P R w0 Rs J F1 F2 l Q gX Lc 0 a0 undef undef (fun _ _=>True)):∀(fuel:Nat) (listed:Array Bool) (a:Act) (w:κ) (σ:Nat->ξ),listed.size=l.length->gM l listed<=fuel->R w0 w->(∀i,¬listed.getD i false=true->J i w)->((∀i,i=F1\/i=F2->listed.getD i false=true->∃b,mK (σ i)=some b/\b<w.heap.size)/\(F1≠F2->listed.getD F1 false=true->listed.getD F2 false=true->mK (σ F1)≠mK (σ F2)))->OD l (fun i=>listed.getD i false=true)->(∀i,n0<=i->¬listed.getD i false=true)->(∀i q,gX[i]?=some q->fits q (σ i))->(∀i q,gX[i]?=some q->listed.getD i false=true->si q (σ i) w)->vw l a0 (fun i=>listed.getD i false=true) σ a->wpAny P .any l.toArray Q' fuel listed a w:=by
 have zZ:n0<=l.length:=by rcases vE with h|h<;>omega
 intro fuel;induction fuel with
 |zero =>
  intro listed a w σ fV KW hR hJ hF Ej sM vB aT hf;have hz:gM l listed=0:=η;have bW:∀i,i<l.length->listed.getD i false=true:=by intro i hi;unfold gM at hz;rw[aiC]at hz;have:=hz i S9;rw[←pZ η];simpa using this
  rcases vE with ⟨hn,hQ⟩|⟨hn,_,_⟩
  .obtain⟨_,b,hb,OI⟩:=DE eH n0 zZ gX WN vB gX Lc 0 a0 _ _ _ η Ri bT WR (vw.start a0 σ bT) (fun h=>η) (fun h=>η) (fun _ _ _=>trivial)
   have vf:b=a:=by refine vw.afv (S:=fun i=>listed.getD i false=true) (σ:=σ) ⟨hb.1,hb.2.1,fun t hx=>hb.2.2.1 t fun i o ho hi=>hx i o ho (bW i η),fun i o t ho hi hd aX=>hb.2.2.2 i o t ho (by have:=(iN.1 ho).1;show i<n0;omega) hd aX⟩ hf
   subst vf;exact⟨By fV bW,hQ _ _ (OI w hR (fun h1 h2 h3=>hF.2 h3 (bW _ η) (bW _ η)) fun j q hq hj=>aT j q hq (bW j η))⟩
  .exact absurd (bW n0 η) (sM n0 (aq _))
 |succ fuel ih =>
  intro listed a w σ fV KW hR hJ hF Ej sM vB aT hf;obtain⟨OJ,b,hb,OI⟩:=DE eH n0 zZ gX WN vB gX Lc 0 a0 _ _ _ η Ri bT WR (vw.start a0 σ bT) (fun h=>η) (fun h=>η) (fun _ _ _=>trivial);have gf:(∀i,i<n0->listed.getD i false=true)->Q a w:=by
   intro bW;have vf:b=a:=by
    refine vw.afv (S:=fun i=>listed.getD i false=true) (σ:=σ) ⟨hb.1,hb.2.1,fun t hx=>hb.2.2.1 t fun i o ho hi=>hx i o ho (bW i hi),fun i o t ho hi hd aX=>hb.2.2.2 i o t ho ?_ hd aX⟩ hf;show i<n0
    rcases zO i n0 with h|h
    .exact h
    .exact absurd hi (sM i h)
   subst vf;exact OI w hR (fun h1 h2 h3=>hF.2 h3 (bW _ h1) (bW _ h2)) fun j q hq hj=>aT j q hq (bW j hj)
  refine⟨fun hr=>?_,fun i hi=>?_⟩
  .have bW:∀i,i<l.length->listed.getD i false=true:=fun i hi=>tZ eH fV hr (i+1) i η hi
   rcases vE with ⟨hn,hQ⟩|⟨hn,_,_⟩
   .exact hQ _ _ (gf fun i hi=>bW i η)
   .exact absurd (bW n0 η) (sM n0 (aq _))
  .obtain⟨h1,o,h2,vz⟩:=mem_ready.1 hi
   have ho:l[i]?=some o:=Gw;have aX:i<l.length:=(iN.1 ho).1;have JF:¬listed.getD i false=true:=by rw[←pZ η,h1];simp
   have C9:∀j,iK l i j=true->j≠i->listed.getD j false=true:=fun j hj hne=>tY Ej ho vz hj hne;have gN:=Ei (listed:=listed) (i:=i) η;have En:∀(i:Nat) (v:ξ) (w':κ),¬listed.getD i false=true->(∀j,(listed.setIfInBounds i true).getD j false=true↔listed.getD j false=true\/j=i)->w.heap.size<=w'.heap.size->Ek F1 F2 i v w w' ->
     ((∀k,k=F1\/k=F2->(listed.setIfInBounds i true).getD k false=true->∃b,mK (if k=i then v else σ k)=some b/\b<w'.heap.size)/\(F1≠F2->(listed.setIfInBounds i true).getD F1 false=true->(listed.setIfInBounds i true).getD F2 false=true->mK (if F1=i then v else σ F1)≠mK (if F2=i then v else σ F2))):=by
    intro i v w' JF gN akG iU;refine⟨fun k hk G3=>?_,fun h12 oh vp=>?_⟩
    .by_cases e:k=i
     .rw[if_pos e];obtain⟨b,ng,_,hb3⟩:=iU (e▸hk);exact⟨b,ng,hb3⟩
     .rw[if_neg e];obtain⟨b,ng,sj⟩:=hF.1 k hk (((gN k).1 G3).resolve_right e);exact⟨b,ng,η⟩
    .by_cases e1:F1=i
     .have e2:¬F2=i:=fun e2=>h12 (e1.trans e2.symm);rw[if_pos e1,if_neg e2];obtain⟨b,ng,sj,_⟩:=iU (.inl e1.symm);obtain⟨b',OK,agf⟩:=hF.1 F2 (.inr rfl) (((gN F2).1 vp).resolve_right e2);rw[ng,OK];intro e;have:=kI.inj e;omega
     .rw[if_neg e1]
      have h1:=((gN F1).1 oh).resolve_right e1;by_cases e2:F2=i
      .rw[if_pos e2];obtain⟨b,ng,sj,_⟩:=iU (.inr e2.symm);obtain⟨b',OK,agf⟩:=hF.1 F1 (.inl rfl) h1;rw[ng,OK];intro e;have:=kI.inj e;omega
      .rw[if_neg e2];exact hF.2 h12 h1 (((gN F2).1 vp).resolve_right e2)
   by_cases jI:i<n0
   .obtain⟨c,q,hq,hc,lp⟩:=OJ i o (Nat.zero_le _) jI ho
    have G4:∀t∈o.looksAt l.toArray,c.tmps[t]?=a.tmps[t]?:=by
     refine hc.agree hf fun t ht j x hx hd=>?_;rcases GY eH ho hx ht hd with rfl|⟨hj,hbj⟩|⟨hj,hbj⟩
     .exact⟨fun h=>absurd h (Ov _),fun h=>absurd h JF⟩
     .exact⟨fun _=>C9 j hbj η,fun _=>hj⟩
     .exact⟨fun h=>absurd h hj,fun h=>absurd (yF Ej h hbj) JF⟩
    refine Gz ho (Lm eH ho) G4 lp hR (hJ i JF) (fun k q' hk vC JG=>aT k q' vC (C9 k JG η)) (hrefl w) (iy i w) fun v w' fO Da iU WS=>?_;refine ih _ _ w' (fun j=>if j=i then v else σ j) (by simpa using fV) ?_ (jK _ _ _ hR fO) (fun j hj=>yH j i (fun e=>hj ((gN j).2 (.inr e.symm))) _ _ (hJ j (fun h=>hj ((gN j).2 (.inl h)))) Da) (En i v w' JF gN (dU _ _ fO) iU) ?_ ?_ ?_ ?_ ?_
    .have j5:gM l (listed.setIfInBounds i true)<gM l listed:=by
      refine zY (i:=i) (fun x hx=>?_) ?_ ?_ _ (by simpa using aX)
      .by_cases WM:x=i
       .subst WM;rw[h1];rfl
       .have:i≠x:=fun e=>WM e.symm;rw[Ju,Ws this,←Ju]at hx;exact hx
      .rw[h1];rfl
      .simp[Rg,fV,aX]
     omega
    .intro j x hx hj e he JG
     refine(gN _).2 (.inl ?_);rcases(gN j).1 hj with hj|rfl
     .exact Ej j x hx hj e he JG
     .rw[ho]at hx
      cases hx
      exact vz e he JG
    .intro j hj hjs
     rcases(gN j).1 hjs with hjs|rfl
     .exact sM j hj hjs
     .omega
    .intro j q' vC
     show fits q' (if j=i then v else σ j)
     split
     .rename_i hj
      subst hj;rw[hq]at vC;cases vC
      cases q with
      |inl u=>exact WS
      |inr p=>trivial
     .exact vB j q' vC
    .intro j q' vC hj
     show si q' (if j=i then v else σ j) w'
     split
     .rename_i Gy
      subst Gy;rw[hq]at vC;cases vC
      exact WS
     .rename_i Gy
      have hold:=aT j q' vC (((gN j).1 hj).resolve_right Gy);cases q' with
      |inl u=>exact hold
      |inr p=>exact WQ j p vC i (fun e=>Gy e.symm) (by
        cases hb:iK l j i with
        |false=>rfl
        |true=>exact absurd (yF Ej (((gN j).1 hj).resolve_right Gy) hb) JF) _ _ _ hold Da
    .exact hf.put eH ho v (fun j _ hne=>by simp[hne]) bT gN
   .rcases vE with ⟨hn,_⟩|⟨hn,bW,hT⟩
    .omega
    .have N1:∀j,j<n0->listed.getD j false=true:=fun j hj=>C9 j (bW i η aX j hj) η
     refine(hT _ _ (gf N1) (fuel+1) listed fV KW Ej (fun j=>⟨fun h=>?_,N1 j⟩)).2 i hi;rcases zO j n0 with h3|h3
     .exact h3
     .exact absurd h (sM j h3)
section
variable(hm:P.follows .mixedOrders=true)(eH:stat l=true)(hrefl:∀w,R w w)(iy:∀i w,Rs i w w)(dU:∀a b,R a b->a.heap.size<=b.heap.size)(yH:∀j i,i≠j->∀w w',J j w->Rs i w w'->J j w')(jK:∀a b c,R a b->R b c->R a c)(qI:R w0 w0.drew)(WT:∀i,J i w0.drew)(qs:List m7)
include hm eH hrefl iy dU yH jK qI WT
theorem sN(n0:Nat)(vE:WO P l Q Q' n0)(hos:Lc.length=n0)(afu:∀k,k<Lc.length->Lc[k]?=l[k]?)(h:kX P R w0 Rs J F1 F2 l Q qs Lc 0 a undef undef (fun _ _=>True)):(Code.region id l.toArray true).wp P Q' a w0:=by
 refine wp_region_any hm ?_;refine OH eH hrefl iy dU yH jK n0 vE qs ((El _ _ _ _ _ _ _ h).trans hos) (fun k p hp j hj hb=>Bz _ _ _ _ _ _ _ h k p hp j (by rw[mZ];exact hj) (by rw[mZ];exact hb)) hos afu h _ _ _ _ (fun i=>match qs[i]? with|some (.inl u)=>u|_=>undef) bT ?_ qI (fun i _=>WT i) ⟨fun i _ hi=>aft,fun _ hi=>aft⟩ ?_ ?_ ?_ ?_ (vw.start _ _ ?_)
 .refine aF List.countP_le_length ?_;simp
 .intro i o ho hi;simp[Rg]at hi
 .intro i _ hi;simp[Rg]at hi
 .intro i q hq;simp only[hq];cases q<;>simp[fits]
 .intro i q hq hi;simp[Rg]at hi
 .intro i hi;simp[Rg]at hi
theorem vF(h:kX P R w0 Rs J F1 F2 l (fun a w=>Q' .normal a w) qs l 0 a undef undef (fun _ _=>True)):(Code.region id l.toArray true).wp P Q' a w0 :=
 sN hm eH hrefl iy dU yH jK qI WT qs l.length (.inl ⟨rfl,fun _ _ h=>h⟩) rfl (fun _ _=>rfl) h
end
theorem iW(n:Nat)(hlen:n<l.length)(bW:((List.range l.length).all fun i=>decide (i<n) || (List.range i).all (fun j=>iK l i j))=true)(hm:P.follows .mixedOrders=true)(eH:stat l=true)(hrefl:∀w,R w w)(iy:∀i w,Rs i w w)(dU:∀a b,R a b->a.heap.size<=b.heap.size)(yH:∀j i,i≠j->∀w w',J j w->Rs i w w'->J j w')(jK:∀a b c,R a b->R b c->R a c)(qI:R w0 w0.drew)(WT:∀i,J i w0.drew)(qs:List m7)(h:kX P R w0 Rs J F1 F2 l (fun a w=>wpList P l.toArray Q' (l.drop n) a w) qs (l.take n) 0 a undef undef (fun _ _=>True)):(Code.region id l.toArray true).wp P Q' a w0:=by
 have hbf:∀i,n<=i->i<l.length->∀j,j<i->iK l i j=true:=fun i hi hl j hj=>by
  rw[Gs]at bW;have:=bW i (by simpa using hl);rw[Wu]at this;rcases this with h|h
  .have:=of_decide_eq_true h;omega
  .rw[Gs]at h;exact h j (by simpa using hj)
 refine sN hm eH hrefl iy dU yH jK qI WT qs n (.inr ⟨hlen,fun i hi hl j hj=>hbf i hi hl j η,fun a w h fuel listed fV KW Ej Gd=>OE eH fuel n listed a w η hbf fV KW Ej Gd (Ln _ n a w rfl h)⟩) dw (fun k hk=>?_) h;rw[aiA,if_pos (by simp at hk;omega)]
end
section
variable {P:oT}{R:κ->κ->Prop}{w0:κ}{Rs:Nat->κ->κ->Prop}{J:Nat->κ->Prop}{F1 F2:Nat}{l:List Oper}{Q:Act->κ->Prop}
variable {o:Oper}{os:List Oper}{qs:List m7}{i:Nat}{a:Act}{u1 u2:ξ}{Φ:(Nat->Bool)->κ->Prop}
theorem aP(h:∀w,R w0 w->vA F1 F2 i u1 u2->Φ (fun _=>true) w->Q a w):kX P R w0 Rs J F1 F2 l Q [] [] i a u1 u2 Φ:=h
theorem j7(DF:i≠F1)(DG:i≠F2)(hrefl:∀w,R w w)(iy:∀i w,Rs i w w)(hw:kV o (yielded l.toArray a.tmps)=true)(bU:∀w,R w0 w->J i w->Φ (iK l i) w->(execOp a.eval o).run P w=.ok (.value u) w)(h:kX P R w0 Rs J F1 F2 l Q qs os (i+1) (a.put o.dst u) (if i=F1 then u else u1) (if i=F2 then u else u2) Φ):kX P R w0 Rs J F1 F2 l Q (.inl u::qs) (o::os) i a u1 u2 Φ:=by refine⟨?_,h⟩;rw[if_pos hw];intro w hR hJ υ;rw[bU w hR hJ υ];exact⟨⟨hrefl w,iy i w,fun e=>by rcases e with e|e;exact absurd e DF;exact absurd e DG⟩,rfl⟩
theorem Th(DF:i≠F1)(DG:i≠F2)(hw:kV o (yielded l.toArray a.tmps)=false)(h:kX P R w0 Rs J F1 F2 l Q qs os (i+1) (a.put o.dst undef) (if i=F1 then undef else u1) (if i=F2 then undef else u2) Φ):kX P R w0 Rs J F1 F2 l Q (.inl undef::qs) (o::os) i a u1 u2 Φ:=by
 refine⟨?_,h⟩;rw[if_neg (by rw[hw];simp)]
 exact⟨rfl,DF,DG⟩
section
variable{p:ξ->κ->Prop}
theorem aE(DF:i≠F1)(DG:i≠F2)(eH:∀j,j≠i->∀v w w',p v w->Rs j w w'->p v w')(hw:kV o (yielded l.toArray a.tmps)=true)(bU:∀w,R w0 w->J i w->Φ (iK l i) w->∃u w',(execOp a.eval o).run P w=.ok (.value u) w'/\R w w'/\Rs i w w'/\p u w')(h:∀v,kX P R w0 Rs J F1 F2 l Q qs os (i+1) (a.put o.dst v) (if i=F1 then v else u1) (if i=F2 then v else u2) (fun d w=>(d i=true->p v w)/\Φ d w)):kX P R w0 Rs J F1 F2 l Q (.inr p::qs) (o::os) i a u1 u2 Φ:=by refine⟨?_,fun j hj _=>eH j hj,h⟩;rw[if_pos hw];intro w hR hJ υ;obtain⟨u,w',hu,fO,Da,hp⟩:=bU w hR hJ υ;rw[hu];exact⟨⟨fO,Da,fun e=>by rcases e with e|e;exact absurd e DF;exact absurd e DG⟩,hp⟩
theorem G5(DF:i≠F1)(DG:i≠F2)(eH:∀j,j≠i->iK l i j=false->∀v w w',p v w->Rs j w w'->p v w')(hw:kV o (yielded l.toArray a.tmps)=true)(bU:∀w,R w0 w->J i w->Φ (iK l i) w->∃u w',(execOp a.eval o).run P w=.ok (.value u) w'/\R w w'/\Rs i w w'/\p u w')(h:∀v,kX P R w0 Rs J F1 F2 l Q qs os (i+1) (a.put o.dst v) (if i=F1 then v else u1) (if i=F2 then v else u2) (fun d w=>(d i=true->p v w)/\Φ d w)):kX P R w0 Rs J F1 F2 l Q (.inr p::qs) (o::os) i a u1 u2 Φ:=by refine⟨?_,eH,h⟩;rw[if_pos hw];intro w hR hJ υ;obtain⟨u,w',hu,fO,Da,hp⟩:=bU w hR hJ υ;rw[hu];exact⟨⟨fO,Da,fun e=>by rcases e with e|e;exact absurd e DF;exact absurd e DG⟩,hp⟩
theorem Eo(eH:∀j,j≠i->∀v w w',p v w->Rs j w w'->p v w')(hw:kV o (yielded l.toArray a.tmps)=true)(bU:∀w,R w0 w->J i w->Φ (iK l i) w->∃u w',(execOp a.eval o).run P w=.ok (.value u) w'/\(∃b,mK u=some b/\w.heap.size<=b/\b<w'.heap.size)/\R w w'/\Rs i w w'/\p u w')(h:∀v,kX P R w0 Rs J F1 F2 l Q qs os (i+1) (a.put o.dst v) (if i=F1 then v else u1) (if i=F2 then v else u2) (fun d w=>(d i=true->p v w)/\Φ d w)):kX P R w0 Rs J F1 F2 l Q (.inr p::qs) (o::os) i a u1 u2 Φ:=by refine⟨?_,fun j hj _=>eH j hj,h⟩;rw[if_pos hw];intro w hR hJ υ;obtain⟨u,w',hu,iU,fO,Da,hp⟩:=bU w hR hJ υ;rw[hu];exact⟨⟨fO,Da,fun _=>iU⟩,hp⟩
theorem BB(DF:i≠F1)(DG:i≠F2)(eH:∀j,j≠i->∀v w w',p v w->Rs j w w'->p v w')(hw:kV o (yielded l.toArray a.tmps)=true)(bU:∀w,(execOp a.eval o).run P w=.ok (.enter f args) w)(mL:∀w,R w0 w->J i w->Φ (iK l i) w->τ P f args w fun e w'=>∃v,e=.returned v/\R w w'/\Rs i w w'/\p v w')(h:∀v,kX P R w0 Rs J F1 F2 l Q qs os (i+1) (a.put o.dst v) (if i=F1 then v else u1) (if i=F2 then v else u2) (fun d w=>(d i=true->p v w)/\Φ d w)):kX P R w0 Rs J F1 F2 l Q (.inr p::qs) (o::os) i a u1 u2 Φ:=by refine⟨?_,fun j hj _=>eH j hj,h⟩;rw[if_pos hw];intro w hR hJ υ;rw[bU w];exact(mL w hR hJ υ).mono fun e w' ⟨v,hv,h1,h2,h3⟩=>⟨v,hv,⟨h1,h2,fun e=>by rcases e with e|e;exact absurd e DF;exact absurd e DG⟩,h3⟩
end
theorem nF(DF:i≠F1)(DG:i≠F2)(hw:kV o (yielded l.toArray a.tmps)=true)(bU:∀w,(execOp a.eval o).run P w=.ok (.enter f args) w)(mL:∀w,R w0 w->J i w->Φ (iK l i) w->τ P f args w fun e w'=>e=.returned u/\R w w'/\Rs i w w')(h:kX P R w0 Rs J F1 F2 l Q qs os (i+1) (a.put o.dst u) (if i=F1 then u else u1) (if i=F2 then u else u2) Φ):kX P R w0 Rs J F1 F2 l Q (.inl u::qs) (o::os) i a u1 u2 Φ:=by refine⟨?_,h⟩;rw[if_pos hw];intro w hR hJ υ;rw[bU w];exact(mL w hR hJ υ).mono fun e w' h=>⟨u,h.1,⟨h.2.1,h.2.2,fun e=>by rcases e with e|e;exact absurd e DF;exact absurd e DG⟩,rfl⟩
end
section
variable {P:oT}{R:κ->κ->Prop}{w0:κ}{l:List Oper}{Q:Act->κ->Prop}
theorem rL{F:Nat}:∀(qs:List m7) (os:List Oper) (i:Nat) (a:Act) (u1 u2:ξ) (Φ:(Nat->Bool)->κ->Prop),i+os.length<=F->lex P R w0 l Q qs os i a Φ->kX P R w0 (fun _=>R) (fun _ _=>True) F F l Q qs os i a u1 u2 Φ
 | [],[],_,_,_,_,_,_,h=>fun w hw _ υ=>h w hw υ
 | [],_::_,_,_,_,_,_,_,h=>h.elim
 |_::_,[],_,_,_,_,_,_,h=>h.elim
 |q::qs,o::os,i,a,u1,u2,Φ,hF,h=>by
  rw[lf]at hF;have hi:i≠F:=η;refine⟨?_,?_⟩
  .have h1:=h.1
   by_cases hw:kV o (yielded l.toArray a.tmps)=true
   .rw[if_pos hw]at h1⊢
    intro w hR _ hG;have k:=h1 w hR hG;generalize (execOp a.eval o).run P w=r at k⊢;have iU:∀v w',Ek F F i v w w':=fun _ _ hh=>absurd hh η;rcases r with ⟨n,w'⟩|_|_|_
    .cases n
     all_goals first
      |exact⟨⟨k.1,k.1,iU _ _⟩,k.2⟩
      |exact τ.mono (fun e VY ⟨v,hv,h1,h2⟩=>⟨v,hv,⟨h1,h1,iU _ _⟩,h2⟩) k
      |exact k.mono fun e VY ⟨v,hv,h1,h2⟩=>⟨v,hv,⟨h1,h1,iU _ _⟩,h2⟩
      |exact k.elim
    all_goals exact k.elim
   .rw[if_neg hw]at h1⊢;exact⟨h1,hi,hi⟩
  .have h2:=h.2
   cases q with
   |inl u=>exact rL _ _ _ _ _ _ _ η h2
   |inr p=>exact⟨fun _ _ _=>h2.1,fun v=>rL _ _ _ _ _ _ _ η (h2.2 v)⟩
theorem GB(hm:P.follows .mixedOrders=true)(eH:stat l=true)(hrefl:∀w,R w w)(jK:∀a b c,R a b->R b c->R a c)(qI:R w0 w0.drew)(qs:List m7)(h:lex P R w0 l (fun a w=>Q' .normal a w) qs l 0 a (fun _ _=>True))(dU:∀a b,R a b->a.heap.size<=b.heap.size:=by exact fun _ _ h=>Below.size h):(Code.region id l.toArray true).wp P Q' a w0 :=
 vF hm eH hrefl (fun _=>hrefl) dU (fun _ _ _ _ _ _ _=>trivial) jK qI (fun _=>trivial) qs (rL (F:=l.length) _ _ _ _ _ _ _ η h)
theorem xQ(n:Nat)(hlen:n<l.length)(bW:((List.range l.length).all fun i=>decide (i<n) || (List.range i).all (fun j=>iK l i j))=true)(hm:P.follows .mixedOrders=true)(eH:stat l=true)(hrefl:∀w,R w w)(jK:∀a b c,R a b->R b c->R a c)(qI:R w0 w0.drew)(qs:List m7)(h:lex P R w0 l (fun a w=>wpList P l.toArray Q' (l.drop n) a w) qs (l.take n) 0 a (fun _ _=>True))(dU:∀a b,R a b->a.heap.size<=b.heap.size:=by exact fun _ _ h=>Below.size h):(Code.region id l.toArray true).wp P Q' a w0 :=
 iW n hlen bW hm eH hrefl (fun _=>hrefl) dU (fun _ _ _ _ _ _ _=>trivial) jK qI (fun _=>trivial) qs (rL (F:=l.length) _ _ _ _ _ _ _ dw h)
end
section
variable {P:oT}{R:κ->κ->Prop}{w0:κ}{l:List Oper}{Q:Act->κ->Prop}
variable {o:Oper}{os:List Oper}{qs:List m7}{i:Nat}{a:Act}{Φ:(Nat->Bool)->κ->Prop}
theorem lex_nil(h:∀w,R w0 w->Φ (fun _=>true) w->Q a w):lex P R w0 l Q [] [] i a Φ:=h
theorem lT(hrefl:∀w,R w w)(hw:kV o (yielded l.toArray a.tmps)=true)(bU:∀w,R w0 w->Φ (iK l i) w->(execOp a.eval o).run P w=.ok (.value u) w)(h:lex P R w0 l Q qs os (i+1) (a.put o.dst u) Φ):lex P R w0 l Q (.inl u::qs) (o::os) i a Φ:=by refine⟨?_,h⟩;rw[if_pos hw];intro w hR υ;rw[bU w hR υ];exact⟨hrefl w,rfl⟩
theorem WU(hw:kV o (yielded l.toArray a.tmps)=false)(h:lex P R w0 l Q qs os (i+1) (a.put o.dst undef) Φ):lex P R w0 l Q (.inl undef::qs) (o::os) i a Φ:=by refine⟨?_,h⟩;rw[if_neg (by rw[hw];simp)]
section
variable{p:ξ->κ->Prop}(eH:∀v w w',p v w->R w w'->p v w')(hw:kV o (yielded l.toArray a.tmps)=true)
include eH hw
theorem dL(bU:∀w,R w0 w->Φ (iK l i) w->∃u w',(execOp a.eval o).run P w=.ok (.value u) w'/\R w w'/\p u w')(h:∀v,lex P R w0 l Q qs os (i+1) (a.put o.dst v) (fun d w=>(d i=true->p v w)/\Φ d w)):lex P R w0 l Q (.inr p::qs) (o::os) i a Φ:=by refine⟨?_,eH,h⟩;rw[if_pos hw];intro w hR υ;obtain⟨u,w',hu,fO,hp⟩:=bU w hR υ;rw[hu];exact⟨fO,hp⟩
theorem vG(bU:∀w,(execOp a.eval o).run P w=.ok (.enter f args) w)(mL:∀w,R w0 w->Φ (iK l i) w->τ P f args w fun e w'=>∃v,e=.returned v/\R w w'/\p v w')(h:∀v,lex P R w0 l Q qs os (i+1) (a.put o.dst v) (fun d w=>(d i=true->p v w)/\Φ d w)):lex P R w0 l Q (.inr p::qs) (o::os) i a Φ:=by refine⟨?_,eH,h⟩;rw[if_pos hw];intro w hR υ;rw[bU w];exact mL w hR υ
end
theorem ck(hw:kV o (yielded l.toArray a.tmps)=true)(bU:∀w,(execOp a.eval o).run P w=.ok (.enter f args) w)(mL:∀w,R w0 w->Φ (iK l i) w->τ P f args w fun e w'=>e=.returned u/\R w w')(h:lex P R w0 l Q qs os (i+1) (a.put o.dst u) Φ):lex P R w0 l Q (.inl u::qs) (o::os) i a Φ:=by refine⟨?_,h⟩;rw[if_pos hw];intro w hR υ;rw[bU w];exact(mL w hR υ).mono fun e w' h=>⟨u,h.1,h.2,rfl⟩
end
theorem pu:(∀(l:List Value) d t v,Act.put ⟨l.toArray,d⟩ (some t) v=⟨(l.set t v).toArray,d⟩)/\(∀a v,Act.put a none v=a)/\(∀(α:Type) (a b:α) ys,(a::ys).set 0 b=b::ys)/\∀(α:Type) (a b:α) ys i,(a::ys).set (i+1) b=a::ys.set i b :=
 ⟨fun l d t v=>by simp[rC],fun _ _=>rfl,fun _ _ _ _=>rfl,fun _ _ _ _ _=>rfl⟩
theorem tk:(∀(α:Type) n (a:α) ys,(a::ys).take (n+1)=a::ys.take n)/\∀(α:Type) (ys:List α),ys.take 0=[]:=⟨fun _ _ _ _=>rfl,fun _ _=>rfl⟩
theorem dk:(∀(α:Type) n (a:α) ys,(a::ys).drop (n+1)=ys.drop n)/\∀(α:Type) (ys:List α),ys.drop 0=ys:=⟨fun _ _ _ _=>rfl,fun _ _=>rfl⟩
theorem aj{a b:Prop}(h:a)(k:b):a/\b:=⟨h,k⟩
section
variable {P:oT}{R:κ->κ->Prop}{w0:κ}{l:List Oper}{Q:Act->κ->Prop}{o:Oper}{os:List Oper}{qs:List m7}{i:Nat}{a a2:Act}{Φ:(Nat->Bool)->κ->Prop}
theorem iO{F:World->Prop}(f:∀w,R w0 w->Φ (iK l i) w->F w)(h:lex P R w0 l Q qs os (i+1) a2 Φ)(hw:Region.wanted o (yielded l.toArray a.tmps)=true:=by rfl)(hr:∀w,R w w:=by exact Ext.refl)(bU:(∀w,R w0 w->Φ (iK l i) w->F w)->∀w,R w0 w->Φ (iK l i) w->(execOp a.eval o).run P w=.ok (.value u) w:=by intro F W hR υ;have dd:=F W hR υ;clear F;go_simp;first|done|with_reducible rfl)(ha:a.put o.dst u=a2:=by simp only[pu];rfl):lex P R w0 l Q (.inl u::qs) (o::os) i a Φ:=lT hr hw (bU f) (ha▸h)
theorem lU(_:True)(h:lex P R w0 l Q qs os (i+1) a2 Φ)(hw:Region.wanted o (yielded l.toArray a.tmps)=false:=by rfl)(ha:a.put o.dst undef=a2:=by simp only[pu];rfl):lex P R w0 l Q (.inl undef::qs) (o::os) i a Φ:=WU hw (ha▸h)
theorem jD{H:Prop}(k:H)(h:lex P R w0 l Q qs os (i+1) a2 Φ)(hw:Region.wanted o (yielded l.toArray a.tmps)=true:=by rfl)(bU:∀w,(execOp a.eval o).run P w=.ok (.enter f args) w:=by intro W;go_simp;exact⟨rfl,rfl⟩)(mL:H->∀w,R w0 w->Φ (iK l i) w->Calls P f args w fun e w'=>e=.returned u/\R w w':=by intro H W hR υ;refine(H W hR).mono ?_;rintro e w' ⟨rfl,ee⟩;exact⟨rfl,by first|exact ee|(subst ee;exact Ext.refl _)⟩)(ha:a.put o.dst u=a2:=by simp only[pu];rfl):lex P R w0 l Q (.inl u::qs) (o::os) i a Φ:=ck hw bU (mL k) (ha▸h)
theorem iL{a:Act}(_:True)(qs:List m7)(h:lex P Ext w0 l (fun a w=>Q' .normal a w) qs l 0 a (fun _ _=>True))(hm:P.follows .mixedOrders=true:=by kernel_rfl)(eH:stat l=true:=by kernel_rfl):(Code.region id l.toArray true).wp P Q' a w0:=GB hm eH Ext.refl (fun _ _ _=>Ext.trans) (Ext.drew _) qs h
theorem lG{a:Act}(n:Nat)(qs:List m7)(h:lex P Ext w0 l (fun a w=>wpList P l.toArray Q' (l.drop n) a w) qs (l.take n) 0 a (fun _ _=>True))(hlen:n<l.length:=by decide)(bW:((List.range l.length).all fun i=>decide (i<n) || (List.range i).all (fun j=>iK l i j))=true:=by kernel_rfl)(hm:P.follows .mixedOrders=true:=by kernel_rfl)(eH:stat l=true:=by kernel_rfl):(Code.region id l.toArray true).wp P Q' a w0:=xQ n hlen bW hm eH Ext.refl (fun _ _ _=>Ext.trans) (Ext.drew _) qs h
end
section
variable {P:oT}{w0:κ}{l:List Oper}{Q:Act->κ->Prop}{o:Oper}{os:List Oper}{qs:List m7}{i:Nat}{a a2:Act}{Φ:(Nat->Bool)->κ->Prop}{u:ξ}
theorem jq{R:World->World->Prop}(h:∀w,R w0 w->Q a w):lex P R w0 l Q [] [] i a Φ:=lex_nil fun w k _=>h w k
section
variable(k0:w0.cell? p0=some v0)
include k0
theorem nh(h:lex P Ext w0 l Q qs os (i+1) a2 Φ)(hw:Region.wanted o (yielded l.toArray a.tmps)=true:=by rfl)(bU:(∀w,Ext w0 w->Φ (iK l i) w->w.cell? p0=some v0)->∀w,Ext w0 w->Φ (iK l i) w->(execOp a.eval o).run P w=.ok (.value u) w:=by intro F W hR υ;have dd:=F W hR υ;clear F;go_simp;first|done|with_reducible rfl)(ha:a.put o.dst u=a2:=by simp only[pu];rfl):lex P Ext w0 l Q (.inl u::qs) (o::os) i a Φ:=iO (fun w h _=>h.cell k0) h hw Ext.refl bU ha
theorem kZ(k1:w0.cell? p1=some v1)(h:lex P Ext w0 l Q qs os (i+1) a2 Φ)(hw:Region.wanted o (yielded l.toArray a.tmps)=true:=by rfl)(bU:(∀w,Ext w0 w->Φ (iK l i) w->w.cell? p0=some v0/\w.cell? p1=some v1)->∀w,Ext w0 w->Φ (iK l i) w->(execOp a.eval o).run P w=.ok (.value u) w:=by intro F W hR υ;have dd:=F W hR υ;clear F;go_simp;first|done|with_reducible rfl)(ha:a.put o.dst u=a2:=by simp only[pu];rfl):lex P Ext w0 l Q (.inl u::qs) (o::os) i a Φ:=iO (fun w h _=>aj (h.cell k0) (h.cell k1)) h hw Ext.refl bU ha
theorem DH(k1:w0.cell? p1=some v1)(k2:w0.cell? p2=some v2)(h:lex P Ext w0 l Q qs os (i+1) a2 Φ)(hw:Region.wanted o (yielded l.toArray a.tmps)=true:=by rfl)(bU:(∀w,Ext w0 w->Φ (iK l i) w->w.cell? p0=some v0/\w.cell? p1=some v1/\w.cell? p2=some v2)->∀w,Ext w0 w->Φ (iK l i) w->(execOp a.eval o).run P w=.ok (.value u) w:=by intro F W hR υ;have dd:=F W hR υ;clear F;go_simp;first|done|with_reducible rfl)(ha:a.put o.dst u=a2:=by simp only[pu];rfl):lex P Ext w0 l Q (.inl u::qs) (o::os) i a Φ:=iO (fun w h _=>aj (h.cell k0) (aj (h.cell k1) (h.cell k2))) h hw Ext.refl bU ha
theorem VZ(k1:w0.cell? p1=some v1)(k2:w0.cell? p2=some v2)(k3:w0.cell? p3=some v3)(h:lex P Ext w0 l Q qs os (i+1) a2 Φ)(hw:Region.wanted o (yielded l.toArray a.tmps)=true:=by rfl)(bU:(∀w,Ext w0 w->Φ (iK l i) w->w.cell? p0=some v0/\w.cell? p1=some v1/\w.cell? p2=some v2/\w.cell? p3=some v3)->∀w,Ext w0 w->Φ (iK l i) w->(execOp a.eval o).run P w=.ok (.value u) w:=by intro F W hR υ;have dd:=F W hR υ;clear F;go_simp;first|done|with_reducible rfl)(ha:a.put o.dst u=a2:=by simp only[pu];rfl):lex P Ext w0 l Q (.inl u::qs) (o::os) i a Φ:=iO (fun w h _=>aj (h.cell k0) (aj (h.cell k1) (aj (h.cell k2) (h.cell k3)))) h hw Ext.refl bU ha
theorem lx5(k1:w0.cell? p1=some v1)(k2:w0.cell? p2=some v2)(k3:w0.cell? p3=some v3)(k4:w0.cell? p4=some v4)(h:lex P Ext w0 l Q qs os (i+1) a2 Φ)(hw:Region.wanted o (yielded l.toArray a.tmps)=true:=by rfl)(bU:(∀w,Ext w0 w->Φ (iK l i) w->w.cell? p0=some v0/\w.cell? p1=some v1/\w.cell? p2=some v2/\w.cell? p3=some v3/\w.cell? p4=some v4)->∀w,Ext w0 w->Φ (iK l i) w->(execOp a.eval o).run P w=.ok (.value u) w:=by intro F W hR υ;have dd:=F W hR υ;clear F;go_simp;first|done|with_reducible rfl)(ha:a.put o.dst u=a2:=by simp only[pu];rfl):lex P Ext w0 l Q (.inl u::qs) (o::os) i a Φ:=iO (fun w h _=>aj (h.cell k0) (aj (h.cell k1) (aj (h.cell k2) (aj (h.cell k3) (h.cell k4))))) h hw Ext.refl bU ha
theorem WV(k1:w0.cell? p1=some v1)(k2:w0.cell? p2=some v2)(k3:w0.cell? p3=some v3)(k4:w0.cell? p4=some v4)(k5:w0.cell? p5=some v5)(h:lex P Ext w0 l Q qs os (i+1) a2 Φ)(hw:Region.wanted o (yielded l.toArray a.tmps)=true:=by rfl)(bU:(∀w,Ext w0 w->Φ (iK l i) w->w.cell? p0=some v0/\w.cell? p1=some v1/\w.cell? p2=some v2/\w.cell? p3=some v3/\w.cell? p4=some v4/\w.cell? p5=some v5)->∀w,Ext w0 w->Φ (iK l i) w->(execOp a.eval o).run P w=.ok (.value u) w:=by intro F W hR υ;have dd:=F W hR υ;clear F;go_simp;first|done|with_reducible rfl)(ha:a.put o.dst u=a2:=by simp only[pu];rfl):lex P Ext w0 l Q (.inl u::qs) (o::os) i a Φ:=iO (fun w h _=>aj (h.cell k0) (aj (h.cell k1) (aj (h.cell k2) (aj (h.cell k3) (aj (h.cell k4) (h.cell k5)))))) h hw Ext.refl bU ha
theorem lx7(k1:w0.cell? p1=some v1)(k2:w0.cell? p2=some v2)(k3:w0.cell? p3=some v3)(k4:w0.cell? p4=some v4)(k5:w0.cell? p5=some v5)(k6:w0.cell? p6=some v6)(h:lex P Ext w0 l Q qs os (i+1) a2 Φ)(hw:Region.wanted o (yielded l.toArray a.tmps)=true:=by rfl)(bU:(∀w,Ext w0 w->Φ (iK l i) w->w.cell? p0=some v0/\w.cell? p1=some v1/\w.cell? p2=some v2/\w.cell? p3=some v3/\w.cell? p4=some v4/\w.cell? p5=some v5/\w.cell? p6=some v6)->∀w,Ext w0 w->Φ (iK l i) w->(execOp a.eval o).run P w=.ok (.value u) w:=by intro F W hR υ;have dd:=F W hR υ;clear F;go_simp;first|done|with_reducible rfl)(ha:a.put o.dst u=a2:=by simp only[pu];rfl):lex P Ext w0 l Q (.inl u::qs) (o::os) i a Φ:=iO (fun w h _=>aj (h.cell k0) (aj (h.cell k1) (aj (h.cell k2) (aj (h.cell k3) (aj (h.cell k4) (aj (h.cell k5) (h.cell k6))))))) h hw Ext.refl bU ha
theorem lx8(k1:w0.cell? p1=some v1)(k2:w0.cell? p2=some v2)(k3:w0.cell? p3=some v3)(k4:w0.cell? p4=some v4)(k5:w0.cell? p5=some v5)(k6:w0.cell? p6=some v6)(k7:w0.cell? p7=some v7)(h:lex P Ext w0 l Q qs os (i+1) a2 Φ)(hw:Region.wanted o (yielded l.toArray a.tmps)=true:=by rfl)(bU:(∀w,Ext w0 w->Φ (iK l i) w->w.cell? p0=some v0/\w.cell? p1=some v1/\w.cell? p2=some v2/\w.cell? p3=some v3/\w.cell? p4=some v4/\w.cell? p5=some v5/\w.cell? p6=some v6/\w.cell? p7=some v7)->∀w,Ext w0 w->Φ (iK l i) w->(execOp a.eval o).run P w=.ok (.value u) w:=by intro F W hR υ;have dd:=F W hR υ;clear F;go_simp;first|done|with_reducible rfl)(ha:a.put o.dst u=a2:=by simp only[pu];rfl):lex P Ext w0 l Q (.inl u::qs) (o::os) i a Φ:=iO (fun w h _=>aj (h.cell k0) (aj (h.cell k1) (aj (h.cell k2) (aj (h.cell k3) (aj (h.cell k4) (aj (h.cell k5) (aj (h.cell k6) (h.cell k7)))))))) h hw Ext.refl bU ha
theorem lx9(k1:w0.cell? p1=some v1)(k2:w0.cell? p2=some v2)(k3:w0.cell? p3=some v3)(k4:w0.cell? p4=some v4)(k5:w0.cell? p5=some v5)(k6:w0.cell? p6=some v6)(k7:w0.cell? p7=some v7)(k8:w0.cell? p8=some v8)(h:lex P Ext w0 l Q qs os (i+1) a2 Φ)(hw:Region.wanted o (yielded l.toArray a.tmps)=true:=by rfl)(bU:(∀w,Ext w0 w->Φ (iK l i) w->w.cell? p0=some v0/\w.cell? p1=some v1/\w.cell? p2=some v2/\w.cell? p3=some v3/\w.cell? p4=some v4/\w.cell? p5=some v5/\w.cell? p6=some v6/\w.cell? p7=some v7/\w.cell? p8=some v8)->∀w,Ext w0 w->Φ (iK l i) w->(execOp a.eval o).run P w=.ok (.value u) w:=by intro F W hR υ;have dd:=F W hR υ;clear F;go_simp;first|done|with_reducible rfl)(ha:a.put o.dst u=a2:=by simp only[pu];rfl):lex P Ext w0 l Q (.inl u::qs) (o::os) i a Φ:=iO (fun w h _=>aj (h.cell k0) (aj (h.cell k1) (aj (h.cell k2) (aj (h.cell k3) (aj (h.cell k4) (aj (h.cell k5) (aj (h.cell k6) (aj (h.cell k7) (h.cell k8))))))))) h hw Ext.refl bU ha
theorem agh(k1:w0.cell? p1=some v1)(k2:w0.cell? p2=some v2)(k3:w0.cell? p3=some v3)(k4:w0.cell? p4=some v4)(k5:w0.cell? p5=some v5)(k6:w0.cell? p6=some v6)(k7:w0.cell? p7=some v7)(k8:w0.cell? p8=some v8){p9:Addr}{v9:Value}(k9:w0.cell? p9=some v9)(h:lex P Ext w0 l Q qs os (i+1) a2 Φ)(hw:Region.wanted o (yielded l.toArray a.tmps)=true:=by rfl)(bU:(∀w,Ext w0 w->Φ (iK l i) w->w.cell? p0=some v0/\w.cell? p1=some v1/\w.cell? p2=some v2/\w.cell? p3=some v3/\w.cell? p4=some v4/\w.cell? p5=some v5/\w.cell? p6=some v6/\w.cell? p7=some v7/\w.cell? p8=some v8/\w.cell? p9=some v9)->∀w,Ext w0 w->Φ (iK l i) w->(execOp a.eval o).run P w=.ok (.value u) w:=by intro F W hR υ;have dd:=F W hR υ;clear F;go_simp;first|done|with_reducible rfl)(ha:a.put o.dst u=a2:=by simp only[pu];rfl):lex P Ext w0 l Q (.inl u::qs) (o::os) i a Φ:=iO (fun w h _=>aj (h.cell k0) (aj (h.cell k1) (aj (h.cell k2) (aj (h.cell k3) (aj (h.cell k4) (aj (h.cell k5) (aj (h.cell k6) (aj (h.cell k7) (aj (h.cell k8) (h.cell k9)))))))))) h hw Ext.refl bU ha
end
end
section
variable {P:oT}{R:κ->κ->Prop}{w0:κ}{Rs:Nat->κ->κ->Prop}{J:Nat->κ->Prop}{F1 F2:Nat}{l:List Oper}{Q:Act->κ->Prop}{o:Oper}{os:List Oper}{qs:List m7}{i:Nat}{a:Act}{u1 u2:ξ}{Φ:(Nat->Bool)->κ->Prop}{p:ξ->κ->Prop}{f:FuncId}{args:Array ξ}
theorem BC(eH:∀v w w',p v w->R w w'->p v w')(mL:∀w,R w0 w->Φ (iK l i) w->Calls P f args w fun e w'=>∃v,e=.returned v/\R w w'/\p v w')(h:∀v,lex P R w0 l Q qs os (i+1) (a.put o.dst v) (fun d w=>(d i=true->p v w)/\Φ d w))(hw:Region.wanted o (yielded l.toArray a.tmps)=true:=by rfl)(bU:∀w,(execOp a.eval o).run P w=.ok (.enter f args) w:=by intro W;go_simp;exact⟨rfl,rfl⟩):lex P R w0 l Q (.inr p::qs) (o::os) i a Φ:=vG eH hw bU mL h
theorem uI(DF:i≠F1)(DG:i≠F2)(eH:∀j,j≠i->∀v w w',p v w->Rs j w w'->p v w')(mL:∀w,R w0 w->J i w->Φ (iK l i) w->Calls P f args w fun e w'=>∃v,e=.returned v/\R w w'/\Rs i w w'/\p v w')(h:∀v,kX P R w0 Rs J F1 F2 l Q qs os (i+1) (a.put o.dst v) (if i=F1 then v else u1) (if i=F2 then v else u2) (fun d w=>(d i=true->p v w)/\Φ d w))(hw:Region.wanted o (yielded l.toArray a.tmps)=true:=by rfl)(bU:∀w,(execOp a.eval o).run P w=.ok (.enter f args) w:=by intro W;go_simp;exact⟨rfl,rfl⟩):kX P R w0 Rs J F1 F2 l Q (.inr p::qs) (o::os) i a u1 u2 Φ:=BB DF DG eH hw bU mL h
end
def bt(l:aD)(k:Nat):Nat:=(l.getD k 0).toNat
def lH(l:aD)(k:Nat):Prop:=k<l.length/\bt l k / 64=2
instance (l k):Decidable (lH l k):=by unfold lH;infer_instance
def c2(l:aD):Nat:=(bt l 0 % 32)*64+bt l 1 % 64
def c3(l:aD):Nat:=(bt l 0 % 16)*4096+(bt l 1 % 64)*64+bt l 2 % 64
def c4(l:aD):Nat:=(bt l 0 % 8)*262144+(bt l 1 % 64)*4096+(bt l 2 % 64)*64+bt l 3 % 64
def dec(l:aD):Nat×Nat :=
 if bt l 0<128 then (bt l 0,1)
 else if bt l 0 / 32=6/\lH l 1 then (if 128<=c2 l then (c2 l,2) else (65533,1))
 else if bt l 0 / 16=14/\lH l 1/\lH l 2 then (if 2048<=c3 l/\¬(55296<=c3 l/\c3 l<57344) then (c3 l,3) else (65533,1))
 else if bt l 0 / 8=30/\lH l 1/\lH l 2/\lH l 3 then (if 65536<=c4 l/\c4 l<=1114111 then (c4 l,4) else (65533,1))
 else (65533,1)
theorem G6(l:aD)(k:Nat):bt l k<256:=(l.getD k 0).toNat_lt
theorem aa4(l:aD)(p k:Nat):bt (l.drop p) k=bt l (p+k):=by unfold bt;rw[cO,cO,Wr]
theorem adY(l:aD)(i:Nat):((bs l).get! i).toNat=bt l i:=by
 unfold bt bs;show(l.toArray[i]!).toNat=_
 rw[cO];by_cases h:i<l.length
 .simp[h]
 .simp[h];rfl
theorem aa5(l:aD)(p k:Nat):(decide (p+k<(bs l).size)&&(bt (l.drop p) k / 64==2))=decide (lH (l.drop p) k):=by rw[S2];simp only[rB,decide_eq_true_eq,beq_iff_eq];unfold lH;rw[mJ,Bq];exact and_congr_left fun _=>η
theorem agi(l:aD):c2 l<2048/\c3 l<65536/\c4 l<2097152:=by unfold c2 c3 c4;omega
theorem rM{α:Type}{q:Prop}[Decidable p][Decidable q](h:p↔q)(a b:α):(if p then a else b)=if q then a else b:=by
 by_cases hp:p
 .rw[if_pos hp,if_pos (h.mp hp)]
 .rw[if_neg hp,if_neg fun hq=>hp (h.mpr hq)]
theorem Ti(l:aD)(p:Nat):Utf8.decode (bs l) p=dec (l.drop p):=by
 have hb:∀k,((bs l).get! (p+k)).toNat=bt (l.drop p) k:=fun k=>by rw[adY,aa4]
 have hc:=agi (l.drop p);simp only[Utf8.decode,hb,aa5];generalize hl:l.drop p=m;rw[hl]at hc;unfold dec;have hv:∀c:Nat,Utf8.valid (c:Int)=decide (¬(55296<=c/\c<57344)/\c<=1114111):=fun c=>by rw[Utf8.valid,S2];simp only[Wu,rB,decide_eq_true_eq];omega
 simp only[rB,decide_eq_true_eq,beq_iff_eq,hv,Utf8.runeError,ge_iff_le];unfold c2 c3 c4 at*;have hx:bt m 0 % 16*4096+bt m 1 % 64*64+bt m 2 % 64<=1114111:=η;clear hb hv hl;by_cases h1:bt m 0<128
 .simp only[h1,if_true]
 by_cases h2:bt m 0 / 32=6/\lH m 1
 .simp only[h1,h2,and_self,if_true,if_false]
 by_cases h3:bt m 0 / 16=14/\lH m 1/\lH m 2
 .have h3':(bt m 0 / 16=14/\lH m 1)/\lH m 2:=⟨⟨h3.1,h3.2.1⟩,h3.2.2⟩;rw[if_neg h1,if_neg h2,if_pos h3',if_neg h1,if_neg h2,if_pos h3];refine rM ?_ _ _;exact⟨fun h=>⟨h.1,h.2.1⟩,fun h=>⟨h.1,h.2,hx⟩⟩
 have h3':¬((bt m 0 / 16=14/\lH m 1)/\lH m 2):=fun h=>h3 ⟨h.1.1,h.1.2,h.2⟩;by_cases h4:bt m 0 / 8=30/\lH m 1/\lH m 2/\lH m 3
 .have h4':((bt m 0 / 8=30/\lH m 1)/\lH m 2)/\lH m 3:=⟨⟨⟨h4.1,h4.2.1⟩,h4.2.2.1⟩,h4.2.2.2⟩;rw[if_neg h1,if_neg h2,if_neg h3',if_pos h4',if_neg h1,if_neg h2,if_neg h3,if_pos h4];refine rM ?_ _ _;exact⟨fun h=>⟨h.1,h.2.2⟩,fun h=>⟨h.1,η,h.2⟩⟩
 have h4':¬(((bt m 0 / 8=30/\lH m 1)/\lH m 2)/\lH m 3):=fun h=>h4 ⟨h.1.1.1,h.1.1.2,h.1.2,h.2⟩;rw[if_neg h1,if_neg h2,if_neg h3',if_neg h4',if_neg h1,if_neg h2,if_neg h3,if_neg h4]
def yj(r:Nat):Nat:=if r<128 then 1 else if r<2048 then 2 else if r<65536 then 3 else 4
theorem Aa(l:aD):bt l 0<128/\dec l=(bt l 0,1)\/(128<=bt l 0/\lH l 1/\bt l 0 / 32=6/\128<=c2 l/\dec l=(c2 l,2))\/(128<=bt l 0/\lH l 1/\lH l 2/\bt l 0 / 16=14/\2048<=c3 l/\¬(55296<=c3 l/\c3 l<57344)/\dec l=(c3 l,3))\/(128<=bt l 0/\lH l 1/\lH l 2/\lH l 3/\bt l 0 / 8=30/\65536<=c4 l/\c4 l<=1114111/\dec l=(c4 l,4))\/(128<=bt l 0/\dec l=(65533,1)):=by
 unfold dec;by_cases h1:bt l 0<128
 .rw[if_pos h1];exact .inl ⟨h1,rfl⟩
 have h1':128<=bt l 0:=η;rw[if_neg h1];refine .inr ?_;by_cases h2:bt l 0 / 32=6/\lH l 1
 .rw[if_pos h2]
  by_cases h:128<=c2 l
  .rw[if_pos h];exact .inl ⟨h1',h2.2,h2.1,h,rfl⟩
  .rw[if_neg h];exact .inr (.inr (.inr ⟨h1',rfl⟩))
 rw[if_neg h2];refine .inr ?_;by_cases h3:bt l 0 / 16=14/\lH l 1/\lH l 2
 .rw[if_pos h3]
  by_cases h:2048<=c3 l/\¬(55296<=c3 l/\c3 l<57344)
  .rw[if_pos h];exact .inl ⟨h1',h3.2.1,h3.2.2,h3.1,h.1,h.2,rfl⟩
  .rw[if_neg h];exact .inr (.inr ⟨h1',rfl⟩)
 rw[if_neg h3];refine .inr ?_;by_cases h4:bt l 0 / 8=30/\lH l 1/\lH l 2/\lH l 3
 .rw[if_pos h4]
  by_cases h:65536<=c4 l/\c4 l<=1114111
  .rw[if_pos h];exact .inl ⟨h1',h4.2.1,h4.2.2.1,h4.2.2.2,h4.1,h.1,h.2,rfl⟩
  .rw[if_neg h];exact .inr ⟨h1',rfl⟩
 rw[if_neg h4];exact .inr ⟨h1',rfl⟩
theorem wP(l:aD):1<=(dec l).2/\(dec l).2<=4:=by rcases Aa l with ⟨_,e⟩|⟨_,_,_,_,e⟩|⟨_,_,_,_,_,_,e⟩|⟨_,_,_,_,_,_,_,e⟩|⟨_,e⟩<;>rw[e]<;>dsimp only<;>omega
theorem OL{l:aD}(hl:0<l.length):(dec l).2<=l.length:=by
 rcases Aa l with ⟨_,e⟩|⟨_,h,_,_,e⟩|⟨_,_,h,_,_,_,e⟩|⟨_,_,_,h,_,_,_,e⟩|⟨_,e⟩<;>rw[e]
 .exact hl
 .exact h.1
 .exact h.1
 .exact h.1
 .exact hl
theorem Ep(l:aD):(dec l).1<=1114111:=by have hc:=agi l;rcases Aa l with ⟨_,e⟩|⟨_,_,_,_,e⟩|⟨_,_,_,_,_,_,e⟩|⟨_,_,_,_,_,_,_,e⟩|⟨_,e⟩<;>rw[e]<;>dsimp only<;>omega
theorem WW(l:aD):yj (dec l).1=(dec l).2↔((dec l).1≠65533\/(dec l).2=3):=by have hc:=agi l;unfold yj;rcases Aa l with ⟨_,e⟩|⟨_,_,_,_,e⟩|⟨_,_,_,_,_,_,e⟩|⟨_,_,_,_,_,_,_,e⟩|⟨_,e⟩<;>rw[e]<;>dsimp only<;>(repeat' split)<;>omega
theorem aa6{l:aD}(h:bt l 0<128):dec l=(bt l 0,1):=by unfold dec;rw[if_pos h]
def N2:Nat->List UInt8->List (Nat×Nat)
 |0,_=>[]
 |f+1,l=>if l=[] then [] else dec l::N2 f (l.drop (dec l).2)
def rs(l:aD):List (Nat×Nat):=N2 l.length l
theorem Er:∀f g (l:aD),l.length<=f->l.length<=g->N2 f l=N2 g l
 |0,0,_,_,_=>rfl
 |0,g+1,l,h,_=>by rw[rz (Nat.le_zero.mp h)];simp[N2]
 |f+1,0,l,_,h=>by rw[rz (Nat.le_zero.mp h)];simp[N2]
 |f+1,g+1,l,h,h'=>by
  unfold N2;split
  .rfl
  .have:=(wP l).1;rw[Er f g _ tU tU]
theorem adZ:rs []=[]:=rfl
theorem Rt{l:aD}(h:l≠[]):rs l=dec l::rs (l.drop (dec l).2):=by
 have h0:=List.length_pos_iff.mpr h;have h1:=(wP l).1;unfold rs;obtain⟨n,hn⟩:∃n,l.length=n+1:=⟨l.length-1,η⟩;conv=>lhs;rw[hn,N2,if_neg h]
 rw[Er n _ _ tU (aq _)]
theorem WX{l:aD}{p:Nat}(h:p<l.length):rs (l.drop p)=dec (l.drop p)::rs (l.drop (p+(dec (l.drop p)).2)):=by rw[Rt (by intro e;have:=congrArg List.length e;simp at this;omega),List.drop_drop]
theorem OM{l:aD}{p:Nat}(h:l.length<=p):rs (l.drop p)=[]:=by rw[Jt h];rfl
theorem akD(l:aD):(rs l).length<=l.length:=by
 suffices ∀f (l:aD),(N2 f l).length<=f from this _ _
 intro f;induction f with
 |zero=>intro l;simp[N2]
 |succ f ih=>intro l;unfold N2;split<;>simp[ih]
theorem wQ{l:aD}{p:Nat}(h:p<l.length):1<=(dec (l.drop p)).2/\p+(dec (l.drop p)).2<=l.length:=by have:=OL (l:=l.drop p) tU;rw[Bq]at this;exact⟨(wP _).1,η⟩
def rN(x:Nat×Nat):Bool:=x.1 != 65533 || x.2==3
def G7(l:aD):Bool:=(rs l).all rN
def kA(x:Nat×Nat):Bool:=decide (32<=x.1)&&x.1 != 127
def gY(l:aD):Bool:=(rs l).all kA&&decide (1<=(rs l).length)&&decide ((rs l).length<=20)&&G7 l
abbrev dM:=Int×Int×Int×Int
def kB(o:dM):ξ:=.agg #[o.1,o.2.1,o.2.2.1,o.2.2.2]
def ocs(o:dM):List ξ:=[o.1,o.2.1,o.2.2.1,o.2.2.2]
def Ab(l:List dM):List ξ:=l.flatMap ocs
def okI(n:Int):Prop:=-9223372036854775808<=n/\n<=9223372036854775807
def okO(o:dM):Prop:=okI o.1/\okI o.2.1/\okI o.2.2.1/\okI o.2.2.2
theorem BD(o:dM)(l:List dM):Ab (o::l)=ocs o++Ab l:=rfl
theorem nG(o:dM):(ocs o).length=4:=rfl
theorem vH:∀l:List dM,(Ab l).length=l.length*4
 | []=>rfl
 |o::l=>by rw[BD,eU,nG,vH l,lf];omega
theorem Lp:∀(l:List dM) (k j:Nat) (hk:k<l.length),j<4->(Ab l)[k*4+j]?=(ocs l[k])[j]?
 |o::l,0,j,_,hj=>by rw[BD,Nat.zero_mul,mZ,List.getElem?_append_left (by rw[nG];exact hj)];rfl
 |o::l,k+1,j,hk,hj=>by rw[BD,List.getElem?_append_right (by rw[nG];omega),nG,show(k+1)*4+j-4=k*4+j by omega,Lp l k j Ta hj];rfl
theorem Lq(l:List dM):∀u∈Ab l,u.oneCell'=true:=by intro u hu;obtain⟨o,_,ho⟩:=List.mem_flatMap.1 hu;simp only[ocs,List.mem_cons,List.not_mem_nil,or_false]at ho;rcases ho with rfl|rfl|rfl|rfl<;>rfl
def Ro(w:κ)(A:aS)(n c:Nat)(l:List dM):Prop:=Rd w 4 A n c (Ab l)
section
variable{A:aS}{l:List dM}(h:Ro w A n c l)
include h
theorem Ro.len:n=l.length:=by have:=h.1;rw[vH]at this;omega
theorem Ro.ext(he:Ext w w'):Ro w' A n c l:=Rd.ext h he
theorem Ro.max:n<=c/\c<=maxLen:=⟨h.2.1,h.2.2.1⟩
theorem Ro.at_(hk:k<l.length):∃b o,A=some ⟨b,o,none⟩/\w.cell? ⟨b,o+k*4,none⟩=some (.int .i64 l[k].1)/\w.cell? ⟨b,o+k*4+1,none⟩=some (.int .i64 l[k].2.1)/\w.cell? ⟨b,o+k*4+2,none⟩=some (.int .i64 l[k].2.2.1)/\w.cell? ⟨b,o+k*4+3,none⟩=some (.int .i64 l[k].2.2.2):=by
 have hn:=h.len;obtain⟨b,o,e,hc⟩:=h.2.2.2 η;have hg:∀j (hj:j<4),w.cell? ⟨b,o+k*4+j,none⟩=some ((ocs l[k])[j]'(by rw[nG];exact hj)):=fun j hj=>by rw[sK];refine hc _ _ ?_;rw[Lp l k j hk hj,bf (by rw[nG];exact hj)]
 exact⟨b,o,e,hg 0 Γ,hg 1 Γ,hg 2 Γ,hg 3 Γ⟩
end
def mH(n:Int):Bool:=decide (-2147483648<=n)&&decide (n<=2147483647)
def eT(o:dM):Bool:=mH o.1&&mH o.2.1&&mH o.2.2.1&&mH o.2.2.2
def nu(t:aD)(l:List dM):Bool:=gY t&&decide (1<=l.length)&&decide (l.length<=64)&&l.all eT
def OO(o:dM):List Int:=[o.1,o.2.1,o.2.2.1,o.2.2.2]
def agj(t:aD)(l:List dM):List UInt8:=qH t++aV l.length++qG (l.flatMap OO)
def iR(c:Int):Int :=
 if c=0 then 0 else if c=9\/c=15 then 1 else if c=1\/c=2\/c=10\/c=11\/c=12\/c=13\/c=14 then 2 else if 3<=c/\c<=8 then 3 else -1
def iz(n:Int):Bool:=decide (0<=n)&&decide (n<=31)
def toI(m:Nat)(n:Int):Bool:=decide (0<=n)&&decide (n<=m)
def lq(o:dM)(m:Nat):Bool :=
 if o.1=0 then o.2.1==0&&o.2.2.1==0&&o.2.2.2==0
 else if o.1=1 then iz o.2.1&&o.2.2.2==0
 else if o.1=9 then toI m o.2.1&&o.2.2.1==0&&o.2.2.2==0
 else if o.1=10 then iz o.2.1&&toI m o.2.2.1&&o.2.2.2==0
 else if o.1=15 then iz o.2.1&&o.2.2.1==0&&o.2.2.2==0
 else if o.1=2\/11<=o.1/\o.1<=14 then iz o.2.1&&iz o.2.2.1&&o.2.2.2==0
 else if 3<=o.1/\o.1<=8 then iz o.2.1&&iz o.2.2.1&&iz o.2.2.2
 else false
def uJ(m:Nat):Nat->List dM->Int
 |_,[]=>-1
 |k,o::l=>if lq o m then uJ m (k+1) l else k
def fD(t:aD)(l:List dM):Int:=if nu t l then uJ l.length 0 l else -2
end Go.Proofs.YtffcefoadaogbaaGreat
