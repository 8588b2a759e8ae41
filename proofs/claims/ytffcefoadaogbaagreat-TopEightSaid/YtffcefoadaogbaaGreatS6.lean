/- A part of the proof. -/
import Derived.Test.YtffcefoadaogbaaGreatS5
namespace Go.Proofs.YtffcefoadaogbaaGreat
open Go.RowKit
open Go.Proofs.Tryz
set_option linter.all false
set_option maxRecDepth 100000
set_option maxHeartbeats 16000000
open Go.World renaming frozen?->uM,block_lt_of_cell?->mG,grownBy->cX,alloc->aB,setCell->dG
open _root_.Nat renaming lt_of_lt_of_le->eM,le_refl->aq,zero_le->aM,le_trans->aF,mul_one->pK
open _root_.Option renaming some->kI
open Go.RowKit.Below renaming heap_setCell->uc
open _root_.List renaming getElem?_append_left->kn,length_cons->lf,length_drop->Bq,getElem_drop->Ix,length_append->eU,length_nil->BF,append_assoc->ic,drop_length->Db,append_nil->Af,getD_eq_getElem?_getD->cO,getElem_mem->dH,range->dJ,range_succ->uP,flatMap_append->ny,length_singleton->iD,map_append->gS
open Go.IntKind renaming i64->cQ
open Go.IntWalk renaming i64_in->pS
open _root_.Array renaming getElem?_eq_some_iff->gy
open _root_.UInt8 renaming toNat_inj->acZ
open Go renaming World->κ,Value->ξ,Calls->τ,TypeId->aY,IntKind->oU
variable{B0 b base c free g i k n o:Nat}{C:aS}{F:Nat->Prop}{G S:FuncId}{P:Program}{T e:aY}{cs xs:List ξ}{d:Bool}{gs:List (Nat×List Int)}{l:aD}{rep:κ->List Int->Bool->Prop}{rf:Nat->Int}{vs:Nat->Nat->Int}{w w':κ}{x xc y z:Int}
theorem tf(e:w'.heap[g]?=w.heap[g]?):w'.cell? (g,o)=w.cell? (g,o):=by simp only[κ.cell?,e]
theorem Ph(e:w'.heap[g]?=w.heap[g]?):w'.frozen? (g,o)=w.frozen? (g,o):=by simp only[uM,e]
theorem Room.fc(h:Room w b g n rf vs)(hb:w'.heap[b]?=w.heap[b]?)(hg:w'.heap[g]?=w.heap[g]?)(hs:w.heap.size<=w'.heap.size):Room w' b g n rf vs :=
 ⟨h.ne,(tf hb).trans h.hd,h.small,fun k hk=>(tf hg).trans (h.refs k hk),fun k i hk hi=>(tf hg).trans (h.oX k i hk hi),fun o=>(Ph hg).trans (h.free o),eM h.lt hs⟩
theorem Room.ltb(h:Room w b g n rf vs):b<w.heap.size:=mG w _ h.hd
theorem Room.ο{T T':Tg}{S:Nat->Prop}(h:Room w b g n rf vs)(hT:Ξ S w T w' T')(hb:¬S (T b))(hg:¬S (T g)):Room w' b g n rf vs :=
 h.fc (hT.block b h.ltb hb) (hT.block g h.lt hg) hT.size
def J3(p:jJ):List ξ:=p.pg.map (fun k:Nat=>ξ.int .i64 ((k:Int)+1))++[.int .i64 1]
def za(rb mb last:Nat):List ξ:=[π rb,.map (some mb),.int .i64 (last:Nat)]
structure dY(w:κ)(T:Tg)(t b rb g mb n:Nat)(rf:Nat->Int)(vs:Nat->Nat->Int)(pm ps:List jJ)(last:Nat):Prop where
 hd:Has w T t b (za rb mb last)
 tm:T mb=t+1
 tr:T rb=t+2
 tg:T g=t+3
 Ay:∃D,w.ownsMap prog 110 LW mb pm.length D/\DM D pm
 room:Room w rb g n rf vs
 vh:∀p∈ps,Has w T (t+4) p.bl (J3 p)
abbrev fT(w:κ)(T:Tg)(t b rb g mb n:Nat)(rf:Nat->Int)(vs:Nat->Nat->Int)(ps:List jJ)(last:Nat):Prop:=dY w T t b rb g mb n rf vs ps ps last
section
variable {w w':κ}{T T':Tg}{t b rb g mb n last:Nat}{rf:Nat->Int}{vs:Nat->Nat->Int}{pm ps:List jJ}
section
variable{k:aY}{R:ξ->Option (DataW Nat×List MemPlace)}{b n:Nat}{D:DataW Nat}(h:w.ownsMap P k R b n D)
include h
theorem jV(e:w'.heap[b]?=w.heap[b]?):w'.ownsMap P k R b n D:=by obtain⟨es,clock,hb,F,hs,hD⟩:=h;exact⟨es,clock,e.trans hb,F,hs,hD⟩
theorem GJ:w.ownsMap P k R b (Maps.size D) D:=by obtain⟨es,clock,hb,F,hs,rfl⟩:=h;refine⟨es,clock,hb,F,?_,rfl⟩;simp[Maps.size,length_sorted]
end
theorem dY.ο{S:Nat->Prop}(h:dY w T t b rb g mb n rf vs pm ps last)(hT:Ξ S w T w' T')(hs:∀k,In t 5 k->¬S k):dY w' T' t b rb g mb n rf vs pm ps last:=by obtain⟨D,h1,h2⟩:=h.Ay;have i0:In t 5 t:=cN;have i1:In t 5 (t+1):=cN;have i2:In t 5 (t+2):=cN;have i3:In t 5 (t+3):=cN;have i4:In t 5 (t+4):=cN;exact⟨h.hd.ο hT (hs _ i0),(hT.tag mb h1.lt).trans h.tm,(hT.tag rb h.room.ltb).trans h.tr,(hT.tag g h.room.lt).trans h.tg,⟨D,jV h1 (hT.block mb h1.lt (by rw[h.tm];exact hs _ i1)),h2⟩,h.room.ο hT (by rw[h.tr];exact hs _ i2) (by rw[h.tg];exact hs _ i3),fun p hp=>(h.vh p hp).ο hT (hs _ i4)⟩
section
variable(h:dY w T t b rb g mb n rf vs pm ps last)
include h
theorem dY.ext(e:Ext w w'):dY w' T t b rb g mb n rf vs pm ps last:=by obtain⟨D,h1,h2⟩:=h.Ay;exact⟨h.hd.ext e,h.tm,h.tr,h.tg,⟨D,jV h1 (e.block mb h1.lt),h2⟩,h.room.ext e,fun p hp=>(h.vh p hp).ext e⟩
theorem dY.left(ht:0<t){ju:Nat->Int}{nj:Nat->Nat->Int}(hr:Room w' rb g n ju nj)(hg:w.grownBy w' (some g)):dY w' T t b rb g mb n ju nj pm ps last:=by obtain⟨D,h1,h2⟩:=h.Ay;have hne:∀{x tt:Nat},T x=tt->tt≠t+3->some g≠some x:=fun hx hn e=>hn (by rw[←hx,←kI.inj e];exact h.tg);exact⟨h.hd.grown hg (hne h.hd.1 η),h.tm,h.tr,h.tg,⟨D,jV h1 (hg.block mb h1.lt (fun e=>hne h.tm η e.symm)),h2⟩,hr,fun p hp=>(h.vh p hp).grown hg (hne (h.vh p hp).1 η)⟩
theorem dY.turned(hu:Θ w T)(hg:w.grownBy w' (some g)):Ξ (In t 5) w T w' T:=Ξ.om hu hg fun k hk=>by cases hk;rw[h.tg];unfold In;omega
theorem dY.aby(hu:Θ w T)(x:Nat):Ξ (· = t) w T (w.setCell (b,2) (.int .i64 (x:Nat))) T/\dY (w.setCell (b,2) (.int .i64 (x:Nat))) T t b rb g mb n rf vs pm ps x:=by obtain⟨D,h1,h2⟩:=h.Ay;obtain⟨hT,hH⟩:=h.hd.put (S:=(· = t)) hu 2 (.int .i64 (x:Nat)) rfl;have n1:∀{y tt:Nat},T y=tt->tt≠t->¬(T y=t):=fun h1 h2 h3=>h2 (h1.symm.trans h3);exact⟨hT,hH,h.tm,h.tr,h.tg,⟨D,jV h1 (hT.block mb h1.lt (n1 h.tm η)),h2⟩,h.room.ο hT (n1 h.tr η) (n1 h.tg η),fun p hp=>(h.vh p hp).ο hT η⟩
theorem dY.other{a:Addr}(ha:T a.block=t+4)(hn:∀p∈ps,p.bl≠a.block)(v:ξ):dY (w.setCell a v) T t b rb g mb n rf vs pm ps last:=by obtain⟨D,h1,h2⟩:=h.Ay;have n1:∀{y tt:Nat},T y=tt->tt≠t+4->a.block≠y:=fun h1 h2 h3=>h2 (h1.symm.trans (h3▸ha));have hb:∀{y:Nat},a.block≠y->(w.setCell a v).heap[y]?=w.heap[y]?:=fun hne=>uc w a v _ (fun e=>hne e.symm);exact⟨h.hd.nH (n1 h.hd.1 η) v,h.tm,h.tr,h.tg,⟨D,jV h1 (hb (n1 h.tm η)),h2⟩,h.room.fc (hb (n1 h.tr η)) (hb (n1 h.tg η)) C4,fun p hp=>(h.vh p hp).nH (fun e=>hn p hp e.symm) v⟩
theorem dY.ahR{ps':List jJ}(hs:∀p∈ps',p∈ps):dY w T t b rb g mb n rf vs pm ps' last:=⟨h.hd,h.tm,h.tr,h.tg,h.Ay,h.room,fun p hp=>h.vh p (hs p hp)⟩
theorem dY.map(ht:0<t){D:DataW Nat}{pm':List jJ}(hm:w'.ownsMap prog 110 LW mb pm'.length D)(hD:DM D pm')(hg:w.grownBy w' (some mb)):dY w' T t b rb g mb n rf vs pm' ps last:=by have hne:∀{x tt:Nat},T x=tt->tt≠t+1->some mb≠some x:=fun hx hn e=>hn (by rw[←hx,←kI.inj e];exact h.tm);exact⟨h.hd.grown hg (hne h.hd.1 η),h.tm,h.tr,h.tg,⟨D,hm,hD⟩,h.room.fc (hg.block rb h.room.ltb (fun e=>hne h.tr η e.symm)) (hg.block g h.room.lt (fun e=>hne h.tg η e.symm)) hg.size,fun p hp=>(h.vh p hp).grown hg (hne (h.vh p hp).1 η)⟩
theorem dY.RQ(hu:Θ w T)(hg:w.grownBy w' (some mb)):Ξ (In t 5) w T w' T:=Ξ.om hu hg fun k hk=>by cases hk;rw[h.tm];unfold In;omega
end
def aZ(w:κ)(T:Tg)(t b n free last:Nat)(gs:List (Nat×List Int)):Prop :=
 ∃rb g mb rf vs ps,fT w T t b rb g mb n rf vs ps last/\vg n rf ps last/\free+used n rf=n/\gs=ps.map fun p=>(p.id,fR vs p)
theorem aZ.ο{S:Nat->Prop}(h:aZ w T t b n free last gs)(hT:Ξ S w T w' T')(hs:∀k,In t 5 k->¬S k):aZ w' T' t b n free last gs:=by obtain⟨rb,g,mb,rf,vs,ps,h1,h2⟩:=h;exact⟨rb,g,mb,rf,vs,ps,h1.ο hT hs,h2⟩
theorem aZ.ext(h:aZ w T t b n free last gs)(e:Ext w w'):aZ w' T t b n free last gs:=by obtain⟨rb,g,mb,rf,vs,ps,h1,h2⟩:=h;exact⟨rb,g,mb,rf,vs,ps,h1.ext e,h2⟩
theorem aZ.ahS(h:aZ w T t b n free last gs):n<=free+4*gs.length:=by obtain⟨rb,g,mb,rf,vs,ps,h1,h2,h3,rfl⟩:=h;have:=jG.ql _ h2.held;rw[tc h2.four]at this;rw[List.length_map];omega
end
theorem TP{f:FuncId}{args:Array ξ}{v:Ending}(h:τ P f args w fun e w'=>e=v/\w=w'):τ P f args w fun e w'=>e=v/\w'=w:=h.mono fun _ _ h=>⟨h.1,h.2.symm⟩
theorem ahT{x:Nat}(h:x<4611686018427387904):(Lit.int .i64 (x:Int)).wf=true:=by
 show(decide ((-9223372036854775808:Int)<=x)&&decide ((x:Int)<=9223372036854775807))=true
 rw[Bool.and_eq_true];exact⟨zF η,zF η⟩
section
variable {w w':κ}{T T':Tg}{t b rb g mb n last:Nat}{rf:Nat->Int}{vs:Nat->Nat->Int}{ps:List jJ}{p:jJ}
theorem E8{x:Nat}(h:x<4611686018427387904):keyOf prog 110 (.int .i64 (x:Nat))=some (.int .i64 (x:Nat)):=Maps.keyOf_int_mk underlying110 (ahT h)
theorem XY(w:κ):(zeroValue 215).run prog w=.ok (.pointer none) w:=ey
section
variable(h:fT w T t b rb g mb n rf vs ps last)(hi:(ps.map jJ.id).Nodup)(hp:p∈ps)(hx:p.id<4611686018427387904)
include h hi hp hx
theorem TQ:(Instr.lookup 221 (.map (some mb)) (.int .i64 (p.id:Nat)) false).run prog w=.ok (π p.bl) w:=by obtain⟨D,h1,h2⟩:=h.Ay;obtain⟨v,l,bU,hv⟩:=h1.lookup (Maps.int_keyed underlying110) underlying221 (XY w) (zd:=.nil) (zp:=[]) rfl (E8 hx);rw[h2.at_ hi hp]at hv;rw[XW hv]at bU;exact bU
theorem Az:τ prog 102 #[π b,.int .i64 (p.id:Nat)] w fun e w'=>e=.returned (π p.bl)/\w'=w:=by have L:=TQ h hi hp hx;have c1:=h.hd.zc 1;unfold π at*;clear h;go_enter func102,ntmps102;go_wp2;go_ret;exact⟨rfl,rfl⟩
end
theorem TR(h:Room w rb g n rf vs):τ prog 188 #[π rb] w fun e w'=>e=.returned (.int .i64 ((n:Nat)-(used n rf:Nat)))/\Ext w w':=by
 have HU:=θ fun W (e:Ext w W)=>LM (h.ext e);have c0:=h.hd;have hs:=h.small;have hu:=ql n rf;have hw:=ej ((n:Int)-(used n rf:Nat));unfold π;clear h;go_enter func188,ntmps188;go_wp2_with fail;apply iL trivial;repeat apply nh c0
 apply jD (fun W hR=>HU.o W hR);repeat apply iO (fun _ _ _=>trivial)
 refine lex_nil ?_;intro Wx ak υ;go_wp2;go_ret;exact⟨rfl,ak⟩
section
variable(h:fT w T t b rb g mb n rf vs ps last)
include h
theorem xg:w.cell? b=some (π rb):=h.hd.zc 0
theorem LX(k:Nat):τ prog 162 #[π b,.int .i64 (k:Nat)] w fun e w'=>e=.returned (.bool (decide (k+used n rf<=n)))/\Ext w w':=by
 have HF:=θ (TR h.room);have c0:=xg h;unfold π at*;clear h;by_cases hk:k+used n rf<=n
 .have d1:=dQ ((k:Int)<=(n:Nat)-(used n rf:Nat));rw[zF hk];go_enter func162,ntmps162;go_wp2_with fail;refine HF.o.mono ?_;rintro e w1 ⟨rfl,e1⟩;go_wp2;go_ret;exact⟨rfl,e1⟩
 .have d1:=dh ((k:Int)<=(n:Nat)-(used n rf:Nat));rw[zG hk];go_enter func162,ntmps162;go_wp2_with fail;refine HF.o.mono ?_;rintro e w1 ⟨rfl,e1⟩;go_wp2;go_ret;exact⟨rfl,e1⟩
theorem TS:τ prog 125 #[π b] w fun e w'=>e=.returned (π rb)/\w'=w:=by have c0:=xg h;unfold π at*;clear h;go_enter func125,ntmps125;go_wp2;go_ret;exact⟨rfl,rfl⟩
end
theorem TT(p:jJ)(h:p.pg[i]?=some k):(J3 p)[i]?=some (.int .i64 ((k:Int)+1)):=by unfold J3;have:=(List.getElem?_eq_some_iff.1 h).1;rw[kn (by simpa using this),List.getElem?_map,h];rfl
theorem XZ(h:fT w T t b rb g mb n rf vs ps last)(ho:vg n rf ps last)(hl:last<4611686018427387904)(hp:p∈ps)(hi:i<32):τ prog 298 #[π b,.int .i64 (p.id:Nat),.int .i64 (i:Nat)] w fun e w'=>e=.returned (.tuple #[.int .i32 (cellOf vs p i),.bool true])/\Ext w w':=by
 have HA:=θ (Az h ho.ids hp (Nat.lt_of_le_of_lt (ho.low p hp) hl));have c0:=xg h;obtain⟨k,h1,h2,h3,h4⟩:=ho.slot hp hi;have c1:=(h.vh p hp).cell (TT p h1);have HG:=θ fun W (e:Ext w W)=>TP (aa7 (h.room.ext e) (pg:=(k:Int)+1) (k:=k) ⟨h3,rfl,η⟩ (i:=i % 8) η);have hc:cellOf vs p i=vs k (i % 8):=by unfold cellOf;rw[h2]
 rw[hc];have d1:(i:Int) / 8=((i / 8:Nat):Int):=η;have d2:(i:Int).tmod 8=((i % 8:Nat):Int):=by rw[Int.tmod_eq_emod_of_nonneg η];omega
 have ng:i / 8<4:=η;generalize hq:i / 8=q at*;generalize hr:i % 8=r at*;have hbi:((q:Int)<4)=True:=eq_true η;have w1:cQ.wrap (q:Int)=q:=pS _ η;have w2:cQ.wrap (r:Int)=r:=pS _ η;clear hc h1 h2 h ho;unfold π at*;go_enter func298,ntmps298;go_wp2_with fail;refine HA.o.mono ?_;rintro e w1 ⟨rfl,rfl⟩;go_wp2_with fail;apply iL trivial;repeat apply kZ c0 c1
 apply jD (fun W hR=>HG.o W hR);repeat apply iO (fun _ _ _=>trivial)
 refine lex_nil ?_;intro Wx ak υ;go_wp2;go_ret2
 exact⟨rfl,ak⟩
end
def iE(c:UInt8):List UInt8->Nat
 | []=>0
 |x::l=>if x=c then iE c l+1 else 0
theorem J4(c:UInt8):∀l:List UInt8,iE c l<=l.length
 | []=>aq _
 |x::l=>by
  unfold iE;split
  .simp only[lf];have:=J4 c l;omega
  .simp
theorem qz(c:UInt8)(l:aD):iE c (c::l)=iE c l+1:=by simp[iE]
theorem RR{c:UInt8}:∀(l:aD) (k:Nat),k<=l.length->(∀j (h:j<k) (h2:j<l.length),l[j]=c)->(∀h:k<l.length,l[k]≠c)->iE c l=k
 | [],k,hk,_,_=>by simp at hk;subst hk;rfl
 |x::l,0,_,_,h=>by unfold iE;rw[if_neg];exact h bT
 |x::l,k+1,hk,ha,h=>by have hx:x=c:=ha 0 η bT;subst hx;rw[qz,RR l k Ta (fun j hj h2=>ha (j+1) η Gw) (fun h2=>h Gw)]
def ko(a:UInt8)(l:aD):List UInt8 :=
 match l with
 | []=>[]
 |c::r=>aV ((iE c (c::r):Nat):Int)++[c ^^^ a]++ko c ((c::r).drop (iE c (c::r)))
termination_by l.length
decreasing_by simp only[Bq,qz,lf];omega
def eF(l:aD):List UInt8:=ko 0 l
theorem th(a:UInt8):ko a []=[]:=by unfold ko;rfl
theorem zb(a c:UInt8)(r:aD):ko a (c::r)=aV ((iE c (c::r):Nat):Int)++[c ^^^ a]++ko c ((c::r).drop (iE c (c::r))):=by rw[ko]
theorem cI(n:Int):(aV n).length<=10:=JC 10 _
theorem rE.CE:∀j,j≠k->∀v w w',rE base e xs v w->oM k C j w w'->rE base e xs v w':=by
 rintro j hj v w w' ⟨B,m,d,hv,h⟩ hR;rcases hR with ⟨h1,_⟩|hg
 .exact absurd h1 hj
 .exact⟨B,m,d,hv,h.ext hg⟩
def pe(B0:Nat)(T:aY)(cs:List ξ)(v:ξ)(w:κ):Prop:=∃g,v=.slice (some ⟨g,0,none⟩) cs.length cs.length/\B0<=g/\w.heap[g]?=some (.cells cs.toArray T (0,0))
theorem pe.aQ(hC:∀g,bn C=some g->g<B0):∀j,j≠i->∀v w w',pe B0 T cs v w->oM k C j w w'->pe B0 T cs v w':=by
 rintro j _ v w w' ⟨g,hv,hg,h⟩ hR;refine⟨g,hv,hg,?_⟩;have aX:=(gy.1 h).1;rcases hR with ⟨_,kS⟩|he
 .rw[kS.block g aX (fun e=>by have:=hC g e.symm;omega)];exact h
 .rw[he.block g aX];exact h
theorem pe.rd{v:ξ}(h:pe B0 T cs v w)(hm:cs.length<=maxLen):∃g,v=.slice (some ⟨g,0,none⟩) cs.length cs.length/\Rd w 1 (some ⟨g,0,none⟩) cs.length cs.length cs/\B0<=g:=by obtain⟨g,hv,hg,h⟩:=h;refine⟨g,hv,⟨bT,aq _,hm,fun _=>⟨g,0,rfl,fun j u hu=>?_⟩⟩,hg⟩;rw[cell_of_row _ _ _ _ _ _ h];simpa using hu
theorem vU{size:Nat}{A:aS}(h:Own w base e size A n c xs):∀g,bn A=some g->g<w.heap.size:=fun g hg=>by obtain⟨a,ha,rfl⟩:=Option.map_eq_some_iff.1 hg;exact(h.gU a ha).2
theorem TU(a b:UInt8):bits .xor .u8 (a.toNat:Int) (b.toNat:Int)=((a ^^^ b).toNat:Int):=by rw[u8_xor_nat _ _ a.toNat_lt b.toNat_lt,UInt8.toNat_xor]
theorem Iy{a:UInt8}{e:Nat}(hk:k<l.length)(he:e<=l.length)(aX:k<e)(ha:∀j (h:k<=j) (h2:j<e) (h3:j<l.length),l[j]=l[k])(hn:∀h:e<l.length,l[e]≠l[k]):ko a (l.drop k)=aV (((e-k:Nat):Nat):Int)++[l[k] ^^^ a]++ko l[k] (l.drop e):=by
 have hd:l.drop k=l[k]::l.drop (k+1):=List.drop_eq_getElem_cons hk;have hr:iE l[k] (l.drop k)=e-k:=RR _ _ tU (fun j hj h2=>by
  rw[Ix];exact ha _ η η (by rw[Bq]at h2;omega)) (fun h=>by
  rw[Ix];have e2:k+(e-k)=e:=η;simp only[e2];exact hn _)
 rw[hd]at hr⊢;rw[zb,hr,←hd,List.drop_drop,show k+(e-k)=e by omega]
def RS(T:aY)(w:κ)(l:aD)(v a i:ξ)(wr:κ):Prop :=
 ∃(k:Nat) (B:aS) (m d:Nat) (p:aD) (x:UInt8),i=.int .i64 (k:Nat)/\k<=l.length/\v=.slice B m d/\a=.int .u8 (x.toNat:Nat)/\Own wr w.heap.size T 1 B m d (dK p)/\p.length<=11*k/\p++ko x (l.drop k)=eF l/\Ext w wr
theorem RT(h:Rb w (some ⟨b,o,none⟩) n c l)(h0:0<n):b<w.heap.size:=Rd.lt h η _ rfl
theorem jB(w:κ){o:Oper}{a:Act}(s x:Operand)(t:aY)(ho:o.op=.call {callee:=.builtin .append,args:=#[s,x],argTypes:=#[t,t]})(base:Nat)(e:aY)(i:TypeInfo)(z:ξ)(bytes:Nat)(ht:P.underlying t=some (.slice e))(hi:P.info? e=some i)(hz:i.zero=some z)(dU:i.size=1)(og:i.bytes=bytes)(C5:z.cells.size=1)(A:aS)(n c:Nat)(xs:List ξ)(hs:a.eval s=.slice A n c)(fS:Own w base e 1 A n c xs)(A':aS)(m c':Nat)(news:List ξ)(hx:a.eval x=.slice A' m c')(hr:Rd w 1 A' m c' news)(h1:∀u∈news,u.oneCell'=true)(C6:n+m<=maxLen)(gB:(n+m)*bytes<=140737488355328)(j6:base<=w.heap.size):∃u w',(execOp a.eval o).run P w=.ok (.value u) w'/\gR A w w'/\oM k A k w w'/\rE base e (xs++news) u w':=by obtain⟨u,w',bU,kS,B,d,hu,wV,hw'⟩:=mN (P:=P) w s x t ho base e i z 1 bytes ht hi hz dU og C5 Γ A n c xs hs fS A' m c' news hx hr h1 C6 gB j6;exact⟨u,w',bU,kS,.inl ⟨rfl,kS⟩,B,_,d,hu,wV⟩
section
variable(w:κ)(A:aS)(n c:Nat)(l:aD)(hb:Rb w A n c l)(ahU:l.length<=1000)
include hb ahU
theorem X4:τ prog 328 #[.slice A n c] w (Made w 5 1 (dK (eF l))):=by
 obtain⟨i0,hi,dx,dA,dN⟩:=info_parts dX;have hn:=hb.len;subst hn;have hmx:=hb.max;unfold maxLen at hmx;obtain⟨r,hr⟩:∃r,eF l=r:=⟨_,rfl⟩;rw[hr];have HR:=θ hr;clear hr;go_enter func328,ntmps328;go_wp2_with fail;go_loopw [3,4,5] (fun v a i wr=>RS 5 w l v a i wr) (fun _ _ i _=>l.length-(intOf i).toNat)
 case atStart=>exact⟨0,none,0,0,[],0,rfl,aM _,rfl,rfl,Own.dR _ _ _ _,aM _,rfl,Ext.refl _⟩
 case round =>
  obtain⟨k,B,m,d,p,x,rfl,hk,rfl,rfl,ho,hp,kz,hx⟩:=hrel;by_cases jk:k<l.length
  .have jm:k<l.length:=by omega
   have LY:0<l.length:=η;have eH:=fun e h1 h2 h3 h4=>Iy (a:=x) (e:=e) jm h1 h2 h3 h4;have kR:=θ eH;have LZ:=θ kz;have Hp:=θ hp;clear eH kz hp;have Bl:=hb.ext hx;obtain⟨b,o,rfl,hc⟩:=Bl.at_ jm;obtain⟨u,hu⟩:∃u,l[k]=u:=⟨_,rfl⟩;rw[hu]at hc;have Hu:=θ hu;clear hu;go_wp2_with fail;go_loopw [6] (fun i wx=>∃e:Nat,i=.int .i64 (e:Nat)/\k<=e/\e<=l.length/\(∀j (h:k<=j) (h2:j<e) (h3:j<l.length),l[j]=u)/\Ext wr wx) (fun i _=>l.length-(intOf i).toNat)
   case atStart=>exact⟨k,rfl,aq _,η,fun j h h2=>η,Ext.refl _⟩
   case round =>
    obtain⟨e,rfl,X5,hen,bW,J5⟩:=hrel;have oc:=θ bW;clear bW;by_cases BX:e<l.length
    .have agt:e<l.length:=by omega
     have hbe:=Bl.ext J5;obtain⟨b',o',N8,hce⟩:=hbe.at_ agt;obtain⟨rfl,rfl⟩:b'=b/\o'=o:=by injection N8 with h;injection h with h1 h2 _;exact⟨h1.symm,h2.symm⟩
     have sW:=J5.cell hc;obtain⟨y,hy⟩:∃y,l[e]=y:=⟨_,rfl⟩;rw[hy]at hce;have Hy:=θ hy;clear N8 hy hbe;by_cases huy:y=u
     .subst huy
      go_wp2_with fail;apply iL trivial;repeat first|apply kZ sW hce|apply lU trivial
      refine lex_nil ?_;intro W1 jN υ;clear υ;go_wp2;go_roundw
      case rel=>exact⟨e+1,cR,η,η,fun j h h2 h3=>by
       by_cases he:j=e
       .subst he;exact Hy.o
       .exact oc.o j h η h3,J5.trans jN⟩
      case measure=>exact dB
     .have hne:((y.toNat:Int)==(u.toNat:Int))=false:=by rw[beq_eq_false_iff_ne];intro h;exact huy (acZ.1 η)
      have aX:k<e:=by
       rcases Nat.lt_or_ge k e with h|h
       .exact h
       .obtain rfl:e=k:=by omega
        exact absurd (Hy.o.symm.trans Hu.o) huy
      have E9:Hq (∀h:e<l.length,l[e]≠u):=θ fun h=>by rw[Hy.o];exact huy
      go_wp2_with fail;apply iL trivial;repeat first|apply kZ sW hce|apply lU trivial
      refine lex_nil ?_;intro W1 jN υ;clear υ;go_wp2_with fail;have xW:=hx.trans (J5.trans jN);have Gv:=ho.ext (J5.trans jN);have X6:=(J5.trans jN).cell hc;have lE:w.heap.size<=W1.heap.size:=xW.size;have agu:b'<w.heap.size:=RT hb LY;have yb:bn B≠some b':=fun e9=>afl;have Dl:∀g,bn B=some g->g<W1.heap.size:=vU Gv;have vQ:m<=11*k:=afc;obtain⟨q,hq⟩:∃q:Nat,e=k+q:=⟨e-k,η⟩;have agv:=TU u x;have vD:=cI (q:Nat);have akW:q<=1000:=η;have sq:(e:Int)-(k:Int)=(q:Nat):=η;have ahV:cQ.wrap ((e:Int)-(k:Int))=(q:Nat):=by rw[sq];exact pS _ η
      clear sq;have Hq:=θ hq;clear hq;apply Ar 12 (gR B) (oM 4 B) (gJ 4 w.heap.size 5 B m d (dK p)) (gJ.start Gv);simp only[tk];repeat apply gF (fun _ _ _ _=>trivial)
      apply uI (p:=rE w.heap.size 5 (dK (p++aV (q:Nat)))) Γ Γ rE.CE
      .intro W hR hJ υ;refine(kg w.heap.size B m d p (q:Nat) W η η (hJ rfl) η (aF lE hR.size)).mono ?_;rintro e W' ⟨B,m,d,rfl,ho,hg,_⟩;exact⟨_,rfl,hg,.inl ⟨rfl,hg⟩,B,m,d,rfl,ho⟩
      intro v1;simp only[pu];repeat apply gF (fun _ h _ _=>h.cell X6 yb)
      apply aE (p:=pe W1.heap.size 5 [.int .u8 ((u ^^^ x).toNat:Nat)]) Γ Γ (pe.aQ Dl)
      .rfl
      .intro W hR hJ υ;refine⟨.slice W.heap.size ([.int .u8 ((u ^^^ x).toNat:Nat)]).length ([.int .u8 ((u ^^^ x).toNat:Nat)]).length,W.alloc (.cells ([.int .u8 ((u ^^^ x).toNat:Nat)]).toArray 5),?_,(Ext.alloc _ _).grownBy _,.inr (Ext.alloc _ _),W.heap.size,rfl,hR.size,heap_alloc_new W _⟩;go_simp;first|done|rfl
      intro v2;simp only[pu];refine aP ?_;intro W2 jO _ υ;obtain⟨g,rfl,Dn,hg⟩:=pe.rd (υ.1 rfl) (by simp[maxLen]);obtain⟨D,Dm,Dd,rfl,uF⟩:=υ.2.1 rfl;simp only[dk];clear υ;have hDm:Dm=m+(aV (q:Nat)).length:=by have:=uF.len;have h9:=Gv.len;simp only[ay,eU,pK]at this h9;omega
      have eD:Ext w W2:=Ext.own xW jO Gv.ax;have c2:=jO.cell X6 yb;have fo:some b'≠bn D:=fun e9=>afi;go_wp2_with (at_builtin;refine aN _ rfl _ _ 30 rfl w.heap.size 5 i0 (.int .u8 0) 1 1 underlying30 hi dx dA dN rfl Γ D Dm Dd _ rfl uF _ _ _ _ rfl Dn gA afn dw eD.size ?_;intro E Ed VV fQ fN oY;have c3:=cX.cell fN c2 fo);go_roundw
      case rel =>
       refine⟨e,E,_,Ed,p++aV (q:Nat)++[u ^^^ x],u,rfl,η,rfl,rfl,?_,?_,?_,Ext.own eD fN uF.ax⟩
       .rw[aJ,←hDm];exact fQ
       .have:=Hp.o;simp only[eU,lf,BF];omega
       .rw[←LZ.o,kR.o e η η (fun j h1 h2 h3=>afo) (fun h=>by rw[Hu.o];exact E9.o h),Hu.o,show e-k=q by have:=Hq.o;omega];simp[ic]
      case measure=>exact dB
    .have aX:k<e:=by omega
     have E9:Hq (∀h:e<l.length,l[e]≠u):=θ fun h=>η;obtain⟨b',rfl⟩:∃b',b'=b:=⟨_,rfl⟩;go_wp2_with fail;apply iL trivial;repeat first|apply iO (fun _ _ _=>trivial)|apply lU trivial
     refine lex_nil ?_;intro W1 jN υ;clear υ;go_wp2_with fail;have xW:=hx.trans (J5.trans jN);have Gv:=ho.ext (J5.trans jN);have X6:=(J5.trans jN).cell hc;have lE:w.heap.size<=W1.heap.size:=xW.size;have agu:b'<w.heap.size:=RT hb LY;have yb:bn B≠some b':=fun e9=>afl;have Dl:∀g,bn B=some g->g<W1.heap.size:=vU Gv;have vQ:m<=11*k:=afc;obtain⟨q,hq⟩:∃q:Nat,e=k+q:=⟨e-k,η⟩;have agv:=TU u x;have vD:=cI (q:Nat);have akW:q<=1000:=η;have sq:(e:Int)-(k:Int)=(q:Nat):=η;have ahV:cQ.wrap ((e:Int)-(k:Int))=(q:Nat):=by rw[sq];exact pS _ η
     clear sq;have Hq:=θ hq;clear hq;apply Ar 12 (gR B) (oM 4 B) (gJ 4 w.heap.size 5 B m d (dK p)) (gJ.start Gv);simp only[tk];repeat apply gF (fun _ _ _ _=>trivial)
     apply uI (p:=rE w.heap.size 5 (dK (p++aV (q:Nat)))) Γ Γ rE.CE
     .intro W hR hJ υ;refine(kg w.heap.size B m d p (q:Nat) W η η (hJ rfl) η (aF lE hR.size)).mono ?_;rintro e W' ⟨B,m,d,rfl,ho,hg,_⟩;exact⟨_,rfl,hg,.inl ⟨rfl,hg⟩,B,m,d,rfl,ho⟩
     intro v1;simp only[pu];repeat apply gF (fun _ h _ _=>h.cell X6 yb)
     apply aE (p:=pe W1.heap.size 5 [.int .u8 ((u ^^^ x).toNat:Nat)]) Γ Γ (pe.aQ Dl)
     .rfl
     .intro W hR hJ υ;refine⟨.slice W.heap.size ([.int .u8 ((u ^^^ x).toNat:Nat)]).length ([.int .u8 ((u ^^^ x).toNat:Nat)]).length,W.alloc (.cells ([.int .u8 ((u ^^^ x).toNat:Nat)]).toArray 5),?_,(Ext.alloc _ _).grownBy _,.inr (Ext.alloc _ _),W.heap.size,rfl,hR.size,heap_alloc_new W _⟩;go_simp;first|done|rfl
     intro v2;simp only[pu];refine aP ?_;intro W2 jO _ υ;obtain⟨g,rfl,Dn,hg⟩:=pe.rd (υ.1 rfl) (by simp[maxLen]);obtain⟨D,Dm,Dd,rfl,uF⟩:=υ.2.1 rfl;simp only[dk];clear υ;have hDm:Dm=m+(aV (q:Nat)).length:=by have:=uF.len;have h9:=Gv.len;simp only[ay,eU,pK]at this h9;omega
     have eD:Ext w W2:=Ext.own xW jO Gv.ax;have c2:=jO.cell X6 yb;have fo:some b'≠bn D:=fun e9=>afi;go_wp2_with (at_builtin;refine aN _ rfl _ _ 30 rfl w.heap.size 5 i0 (.int .u8 0) 1 1 underlying30 hi dx dA dN rfl Γ D Dm Dd _ rfl uF _ _ _ _ rfl Dn gA afn dw eD.size ?_;intro E Ed VV fQ fN oY;have c3:=cX.cell fN c2 fo);go_roundw
     case rel =>
      refine⟨e,E,_,Ed,p++aV (q:Nat)++[u ^^^ x],u,rfl,η,rfl,rfl,?_,?_,?_,Ext.own eD fN uF.ax⟩
      .rw[aJ,←hDm];exact fQ
      .have:=Hp.o;simp only[eU,lf,BF];omega
      .rw[←LZ.o,kR.o e η η (fun j h1 h2 h3=>afo) (fun h=>by rw[Hu.o];exact E9.o h),Hu.o,show e-k=q by have:=Hq.o;omega];simp[ic]
     case measure=>exact dB
  .obtain rfl:k=l.length:=by omega
   have gf:p=r:=by rw[←HR.o,←kz,Db,th,Af]
   subst gf;go_wp2;go_ret;exact⟨B,m,d,rfl,ho,hx⟩
theorem TV:τ prog 32 #[.slice A n c] w (Made w 5 1 (dK (eF l))):=by
 obtain⟨i0,hi,dx,dA,dN⟩:=info_parts dX;have hn:=hb.len;subst hn;have hmx:=hb.max;unfold maxLen at hmx;obtain⟨r,hr⟩:∃r,eF l=r:=⟨_,rfl⟩;rw[hr];have HR:=θ hr;clear hr;go_enter func32,ntmps32;go_wp2_with fail;go_loopw [3,4,5] (fun v a i wr=>RS 5 w l v a i wr) (fun _ _ i _=>l.length-(intOf i).toNat)
 case atStart=>exact⟨0,none,0,0,[],0,rfl,aM _,rfl,rfl,Own.dR _ _ _ _,aM _,rfl,Ext.refl _⟩
 case round =>
  obtain⟨k,B,m,d,p,x,rfl,hk,rfl,rfl,ho,hp,kz,hx⟩:=hrel;by_cases jk:k<l.length
  .have jm:k<l.length:=by omega
   have LY:0<l.length:=η;have eH:=fun e h1 h2 h3 h4=>Iy (a:=x) (e:=e) jm h1 h2 h3 h4;have kR:=θ eH;have LZ:=θ kz;have Hp:=θ hp;clear eH kz hp;have Bl:=hb.ext hx;obtain⟨b,o,rfl,hc⟩:=Bl.at_ jm;obtain⟨u,hu⟩:∃u,l[k]=u:=⟨_,rfl⟩;rw[hu]at hc;have Hu:=θ hu;clear hu;go_wp2_with fail;go_loopw [6] (fun i wx=>∃q:Nat,i=.int .i64 (q:Nat)/\1<=q/\k+q<=l.length/\(∀j (h:k<=j) (h2:j<k+q) (h3:j<l.length),l[j]=u)/\Ext wr wx) (fun i _=>l.length-(intOf i).toNat)
   case atStart=>exact⟨1,rfl,η,η,fun j h h2 h3=>by(obtain rfl:j=k:=η);exact Hu.o,Ext.refl _⟩
   case round =>
    obtain⟨q,rfl,X5,hen,bW,J5⟩:=hrel;obtain⟨e,he0⟩:∃e,k+q=e:=⟨_,rfl⟩;have hwr:cQ.wrap ((k:Int)+(q:Int))=((e:Nat):Int):=by rw[pS _ η];omega
    have hq9:q<=1000/\k<e/\q<=e:=η;rw[he0]at hen bW;have He0:=θ he0;clear he0;have oc:=θ bW;clear bW;by_cases BX:e<l.length
    .have agt:e<l.length:=by omega
     have hbe:=Bl.ext J5;obtain⟨b',o',N8,hce⟩:=hbe.at_ agt;obtain⟨rfl,rfl⟩:b'=b/\o'=o:=by injection N8 with h;injection h with h1 h2 _;exact⟨h1.symm,h2.symm⟩
     have sW:=J5.cell hc;obtain⟨y,hy⟩:∃y,l[e]=y:=⟨_,rfl⟩;rw[hy]at hce;have Hy:=θ hy;clear N8 hy hbe;by_cases huy:y=u
     .subst huy
      go_wp2_with fail;apply iL trivial;repeat first|apply kZ sW hce|apply lU trivial
      refine lex_nil ?_;intro W1 jN υ;clear υ;go_wp2;go_roundw
      case rel=>exact⟨q+1,cR,η,by have:=He0.o;omega,fun j h h2 h3=>by
       have h9:=He0.o;by_cases he:j=e
       .subst he;exact Hy.o
       .exact oc.o j h η h3,J5.trans jN⟩
      case measure=>exact dB
     .have hne:((y.toNat:Int)==(u.toNat:Int))=false:=by rw[beq_eq_false_iff_ne];intro h;exact huy (acZ.1 η)
      have E9:Hq (∀h:e<l.length,l[e]≠u):=θ fun h=>by rw[Hy.o];exact huy
      go_wp2_with fail;apply iL trivial;repeat first|apply kZ sW hce|apply lU trivial
      refine lex_nil ?_;intro W1 jN υ;clear υ;go_wp2_with fail;have xW:=hx.trans (J5.trans jN);have Gv:=ho.ext (J5.trans jN);have X6:=(J5.trans jN).cell hc;have lE:w.heap.size<=W1.heap.size:=xW.size;have agu:b'<w.heap.size:=RT hb LY;have yb:bn B≠some b':=fun e9=>afl;have Dl:∀g,bn B=some g->g<W1.heap.size:=vU Gv;have vQ:m<=11*k:=afc;have agv:=TU u x;have vD:=cI (q:Nat);apply Ar 11 (gR B) (oM 3 B) (gJ 3 w.heap.size 5 B m d (dK p)) (gJ.start Gv);simp only[tk];repeat apply gF (fun _ _ _ _=>trivial)
      apply uI (p:=rE W1.heap.size 5 (dK (aV (q:Nat)))) Γ Γ (rE.aQ Dl)
      .intro W hR hJ υ;refine(ou (q:Nat) W η η).mono ?_;rintro e W' ⟨B,m,d,rfl,ho,hg,_⟩;exact⟨_,rfl,(dV hg).grownBy _,.inr (dV hg),B,m,d,rfl,ho.mono hR.size⟩
      intro v1;simp only[pu];apply aE (p:=rE w.heap.size 5 (dK p++dK (aV (q:Nat)))) Γ Γ rE.CE
      .rfl
      .intro W hR hJ υ
       obtain⟨B2,m2,d2,rfl,xY⟩:=υ.1 rfl;have Fa:m2=(aV (q:Nat)).length:=by have:=xY.len;rw[ay]at this;omega
       exact jB W _ _ 30 rfl w.heap.size 5 i0 (.int .u8 0) 1 underlying30 hi dx dA dN rfl B m d (dK p) rfl (hJ rfl) B2 m2 d2 _ rfl xY.rd (ez _) iQ η (aF lE hR.size)
      intro v3;simp only[pu];repeat apply gF (fun _ h _ _=>h.cell X6 yb)
      apply aE (p:=pe W1.heap.size 5 [.int .u8 ((u ^^^ x).toNat:Nat)]) Γ Γ (pe.aQ Dl)
      .rfl
      .intro W hR hJ υ;refine⟨.slice W.heap.size ([.int .u8 ((u ^^^ x).toNat:Nat)]).length ([.int .u8 ((u ^^^ x).toNat:Nat)]).length,W.alloc (.cells ([.int .u8 ((u ^^^ x).toNat:Nat)]).toArray 5),?_,(Ext.alloc _ _).grownBy _,.inr (Ext.alloc _ _),W.heap.size,rfl,hR.size,heap_alloc_new W _⟩;go_simp;first|done|rfl
      intro v2;simp only[pu];refine aP ?_;intro W2 jO _ υ;obtain⟨g,rfl,Dn,hg⟩:=pe.rd (υ.1 rfl) (by simp[maxLen]);obtain⟨D,Dm,Dd,rfl,uF⟩:=υ.2.1 rfl;simp only[dk];clear υ;have hDm:Dm=m+(aV (q:Nat)).length:=by have:=uF.len;have h9:=Gv.len;simp only[ay,eU,pK]at this h9;omega
      have eD:Ext w W2:=Ext.own xW jO Gv.ax;have c2:=jO.cell X6 yb;have fo:some b'≠bn D:=fun e9=>afi;go_wp2_with (at_builtin;refine aN _ rfl _ _ 30 rfl w.heap.size 5 i0 (.int .u8 0) 1 1 underlying30 hi dx dA dN rfl Γ D Dm Dd _ rfl uF _ _ _ _ rfl Dn gA afn dw eD.size ?_;intro E Ed VV fQ fN oY;have c3:=cX.cell fN c2 fo);go_roundw
      case rel =>
       refine⟨e,E,_,Ed,p++aV (q:Nat)++[u ^^^ x],u,rfl,η,rfl,rfl,?_,?_,?_,Ext.own eD fN uF.ax⟩
       .rw[aJ,aJ,←hDm];exact fQ
       .have:=Hp.o;simp only[eU,lf,BF];omega
       .rw[←LZ.o,kR.o e η η (fun j h1 h2 h3=>afo) (fun h=>by rw[Hu.o];exact E9.o h),Hu.o,show e-k=q by have:=He0.o;omega];simp[ic]
      case measure=>exact dB
    .have aX:k<e:=by omega
     have E9:Hq (∀h:e<l.length,l[e]≠u):=θ fun h=>η;obtain⟨b',rfl⟩:∃b',b'=b:=⟨_,rfl⟩;go_wp2_with fail;apply iL trivial;repeat first|apply iO (fun _ _ _=>trivial)|apply lU trivial
     refine lex_nil ?_;intro W1 jN υ;clear υ;go_wp2_with fail;have xW:=hx.trans (J5.trans jN);have Gv:=ho.ext (J5.trans jN);have X6:=(J5.trans jN).cell hc;have lE:w.heap.size<=W1.heap.size:=xW.size;have agu:b'<w.heap.size:=RT hb LY;have yb:bn B≠some b':=fun e9=>afl;have Dl:∀g,bn B=some g->g<W1.heap.size:=vU Gv;have vQ:m<=11*k:=afc;have agv:=TU u x;have vD:=cI (q:Nat);apply Ar 11 (gR B) (oM 3 B) (gJ 3 w.heap.size 5 B m d (dK p)) (gJ.start Gv);simp only[tk];repeat apply gF (fun _ _ _ _=>trivial)
     apply uI (p:=rE W1.heap.size 5 (dK (aV (q:Nat)))) Γ Γ (rE.aQ Dl)
     .intro W hR hJ υ;refine(ou (q:Nat) W η η).mono ?_;rintro e W' ⟨B,m,d,rfl,ho,hg,_⟩;exact⟨_,rfl,(dV hg).grownBy _,.inr (dV hg),B,m,d,rfl,ho.mono hR.size⟩
     intro v1;simp only[pu];apply aE (p:=rE w.heap.size 5 (dK p++dK (aV (q:Nat)))) Γ Γ rE.CE
     .rfl
     .intro W hR hJ υ
      obtain⟨B2,m2,d2,rfl,xY⟩:=υ.1 rfl;have Fa:m2=(aV (q:Nat)).length:=by have:=xY.len;rw[ay]at this;omega
      exact jB W _ _ 30 rfl w.heap.size 5 i0 (.int .u8 0) 1 underlying30 hi dx dA dN rfl B m d (dK p) rfl (hJ rfl) B2 m2 d2 _ rfl xY.rd (ez _) iQ η (aF lE hR.size)
     intro v3;simp only[pu];repeat apply gF (fun _ h _ _=>h.cell X6 yb)
     apply aE (p:=pe W1.heap.size 5 [.int .u8 ((u ^^^ x).toNat:Nat)]) Γ Γ (pe.aQ Dl)
     .rfl
     .intro W hR hJ υ;refine⟨.slice W.heap.size ([.int .u8 ((u ^^^ x).toNat:Nat)]).length ([.int .u8 ((u ^^^ x).toNat:Nat)]).length,W.alloc (.cells ([.int .u8 ((u ^^^ x).toNat:Nat)]).toArray 5),?_,(Ext.alloc _ _).grownBy _,.inr (Ext.alloc _ _),W.heap.size,rfl,hR.size,heap_alloc_new W _⟩;go_simp;first|done|rfl
     intro v2;simp only[pu];refine aP ?_;intro W2 jO _ υ;obtain⟨g,rfl,Dn,hg⟩:=pe.rd (υ.1 rfl) (by simp[maxLen]);obtain⟨D,Dm,Dd,rfl,uF⟩:=υ.2.1 rfl;simp only[dk];clear υ;have hDm:Dm=m+(aV (q:Nat)).length:=by have:=uF.len;have h9:=Gv.len;simp only[ay,eU,pK]at this h9;omega
     have eD:Ext w W2:=Ext.own xW jO Gv.ax;have c2:=jO.cell X6 yb;have fo:some b'≠bn D:=fun e9=>afi;go_wp2_with (at_builtin;refine aN _ rfl _ _ 30 rfl w.heap.size 5 i0 (.int .u8 0) 1 1 underlying30 hi dx dA dN rfl Γ D Dm Dd _ rfl uF _ _ _ _ rfl Dn gA afn dw eD.size ?_;intro E Ed VV fQ fN oY;have c3:=cX.cell fN c2 fo);go_roundw
     case rel =>
      refine⟨e,E,_,Ed,p++aV (q:Nat)++[u ^^^ x],u,rfl,η,rfl,rfl,?_,?_,?_,Ext.own eD fN uF.ax⟩
      .rw[aJ,aJ,←hDm];exact fQ
      .have:=Hp.o;simp only[eU,lf,BF];omega
      .rw[←LZ.o,kR.o e η η (fun j h1 h2 h3=>afo) (fun h=>by rw[Hu.o];exact E9.o h),Hu.o,show e-k=q by have:=He0.o;omega];simp[ic]
     case measure=>exact dB
  .obtain rfl:k=l.length:=by omega
   have gf:p=r:=by rw[←HR.o,←kz,Db,th,Af]
   subst gf;go_wp2;go_ret;exact⟨B,m,d,rfl,ho,hx⟩
end
def Rn(w:κ)(R:Nat)(t:aD)(A:aS)(n c:Nat)(M:ξ)(frame:Int)(Pa:aS)(pn pc:Nat)(k:Nat):Prop :=
 w.cell? R=some (.string (bs t))/\w.cell? (R,1)=some (.slice A n c)/\w.cell? (R,2)=some M/\w.cell? (R,3)=some (frame:ξ) /\
  w.cell? (R,4)=some (.slice Pa pn pc)/\w.cell? (R,5)=some (k:ξ)/\w.frozen? (R,5)=false
section
variable(w:κ)
theorem ahW(R:Nat)(Pa:aS)(pn pc:Nat)(ν:aD)(hr:w.cell? (R,4)=some (.slice Pa pn pc))(hp:Rb w Pa pn pc ν)(jX:Int)(ho:jQ jX):τ prog 177 #[.pointer R,.int .i32 jX] w fun e w'=>e=.returned (.int .i32 (Lt ν jX))/\w'=w:=by
 have hmx:=hp.max;unfold maxLen at hmx;unfold jQ at ho;by_cases h0:jX<0
 .have hv:Lt ν jX=0:=if_pos h0;rw[hv];clear hv;go_enter func177,ntmps177;go_wp2;go_ret;exact⟨rfl,rfl⟩
 have hn:=hp.len;subst hn;by_cases h1:jX.toNat<ν.length
 .obtain⟨pb,po,rfl,hc⟩:=hp.at_ h1
  have hv:Lt ν jX=(ν[jX.toNat].toNat:Nat):=by unfold Lt bt;rw[if_neg h0,cO,List.getElem?_eq_getElem h1];rfl
  have hw:jX<ν.length:=η;rw[hv];clear hv;generalize ν[jX.toNat]=u at*;have hu:=u.toNat_lt;generalize u.toNat=v at*;go_enter func177,ntmps177;go_wp2;go_ret;exact⟨rfl,rfl⟩
 .have hv:Lt ν jX=0:=by unfold Lt bt;rw[if_neg h0,cO,List.getElem?_eq_none η];rfl
  have hw:(ν.length:Int)<=jX:=η;rw[hv];clear hv;go_enter func177,ntmps177;go_wp2;go_ret;exact⟨rfl,rfl⟩
theorem TW(R b T:Nat)(t:aD)(A:aS)(n c:Nat)(frame:Int)(Pa:aS)(pn pc k:Nat)(ν:aD)(g:List Int)(hM:vR T b F rep G S)(hr:Rn w R t A n c (.iface T (.pointer b)) frame Pa pn pc k)(hg:rep w g d)(aT:pI g)(x y z:Int)(y0:0<=y)(y1:y<=31):τ prog 153 #[.pointer R,kB (2,x,y,z)] w fun e w'=>e=.returned (.int .i32 (mq t ν frame g (2,x,y,z)))/\Ext w w':=by
 have hv:mq t ν frame g (2,x,y,z)=gj g y:=rfl;rw[hv];clear hv;unfold kB;have e0:=Ext.alloc w (.cells #[(2:Int),x,y,z] 127);obtain⟨r0,r1,r2,r3,r4,r5,r6⟩:=hr;have r0:=e0.cell r0;have r2:=e0.cell r2;have r3:=e0.cell r3;have r4:=e0.cell r4;have hg:=hM.ext hg e0;have hm:=hM.gm;have he:=hM.ge;go_enter func153,ntmps153;go_wp2_with fail;generalize hW:aB w _=W at*;have J6:W.cell? w.heap.size=some (.int .i64 2):=qF;have y2:W.cell? (w.heap.size,2)=some (y:ξ):=qF;have y3:W.cell? (w.heap.size,3)=some (z:ξ):=qF;clear hW;apply iL trivial;repeat apply kZ r2 y2
 apply ck
 .rfl
 .intro W';go_simp;exact⟨rfl,rfl⟩
 .intro W' hR υ;refine(hM.gc _ g d y (hM.ext hg hR) y0 y1).mono ?_;rintro e w' ⟨rfl,h9⟩;exact⟨rfl,h9⟩
 simp only[pu];repeat apply iO (fun _ _ _=>trivial)
 refine lex_nil ?_;intro W1 jN υ;clear υ;go_wp2;go_ret;exact⟨rfl,e0.trans jN⟩
theorem X7(R b T:Nat)(t:aD)(A:aS)(n c:Nat)(frame:Int)(Pa:aS)(pn pc k:Nat)(ν:aD)(g:List Int)(hM:vR T b F rep G S)(hr:Rn w R t A n c (.iface T (.pointer b)) frame Pa pn pc k)(hg:rep w g d)(aT:pI g)(x y z:Int)(y0:0<=y)(y1:y<=31)(hp:Rb w Pa pn pc ν):τ prog 153 #[.pointer R,kB (11,x,y,z)] w fun e w'=>e=.returned (.int .i32 (mq t ν frame g (11,x,y,z)))/\Ext w w':=by
 have hv:mq t ν frame g (11,x,y,z)=Lt ν (gj g y):=rfl;rw[hv];clear hv;have N9:=kf aT y;have hp:=hp.ext (Ext.alloc w (.cells #[(11:Int),x,y,z] 127));unfold kB;have e0:=Ext.alloc w (.cells #[(11:Int),x,y,z] 127);obtain⟨r0,r1,r2,r3,r4,r5,r6⟩:=hr;have r0:=e0.cell r0;have r2:=e0.cell r2;have r3:=e0.cell r3;have r4:=e0.cell r4;have hg:=hM.ext hg e0;have hm:=hM.gm;have he:=hM.ge;go_enter func153,ntmps153;go_wp2_with fail;generalize hW:aB w _=W at*;have J6:W.cell? w.heap.size=some (.int .i64 11):=qF;have y2:W.cell? (w.heap.size,2)=some (y:ξ):=qF;have y3:W.cell? (w.heap.size,3)=some (z:ξ):=qF;clear hW;apply iL trivial;repeat apply kZ r2 y2
 apply ck
 .rfl
 .intro W';go_simp;exact⟨rfl,rfl⟩
 .intro W' hR υ;refine(hM.gc _ g d y (hM.ext hg hR) y0 y1).mono ?_;rintro e w' ⟨rfl,h9⟩;exact⟨rfl,h9⟩
 simp only[pu];repeat apply iO (fun _ _ _=>trivial)
 apply ck
 .rfl
 .intro W';go_simp;exact⟨rfl,rfl⟩
 .intro W' hR υ;refine(ahW _ R Pa pn pc ν (hR.cell r4) (hp.ext hR) _ N9).mono ?_;rintro e w' ⟨rfl,rfl⟩;exact⟨rfl,Ext.refl _⟩
 simp only[pu];repeat apply iO (fun _ _ _=>trivial)
 refine lex_nil ?_;intro W1 jN υ;clear υ;go_wp2;go_ret;exact⟨rfl,e0.trans jN⟩
theorem Pj(R b T:Nat)(t:aD)(A:aS)(n c:Nat)(frame:Int)(Pa:aS)(pn pc k:Nat)(ν:aD)(g:List Int)(hM:vR T b F rep G S)(hr:Rn w R t A n c (.iface T (.pointer b)) frame Pa pn pc k)(hg:rep w g d)(aT:pI g)(x y z:Int)(y0:0<=y)(y1:y<=31):τ prog 153 #[.pointer R,kB (12,x,y,z)] w fun e w'=>e=.returned (.int .i32 (mq t ν frame g (12,x,y,z)))/\Ext w w':=by
 have hv:mq t ν frame g (12,x,y,z)=gj g (ue (gj g y):Nat):=rfl;rw[hv];clear hv;have N9:=kf aT y;have aX:=DI (gj g y);unfold kB;have e0:=Ext.alloc w (.cells #[(12:Int),x,y,z] 127);obtain⟨r0,r1,r2,r3,r4,r5,r6⟩:=hr;have r0:=e0.cell r0;have r2:=e0.cell r2;have r3:=e0.cell r3;have r4:=e0.cell r4;have hg:=hM.ext hg e0;have hm:=hM.gm;have he:=hM.ge;go_enter func153,ntmps153;go_wp2_with fail;generalize hW:aB w _=W at*;have J6:W.cell? w.heap.size=some (.int .i64 12):=qF;have y2:W.cell? (w.heap.size,2)=some (y:ξ):=qF;have y3:W.cell? (w.heap.size,3)=some (z:ξ):=qF;clear hW;apply iL trivial;repeat apply kZ r2 y2
 apply ck
 .rfl
 .intro W';go_simp;exact⟨rfl,rfl⟩
 .intro W' hR υ;refine(hM.gc _ g d y (hM.ext hg hR) y0 y1).mono ?_;rintro e w' ⟨rfl,h9⟩;exact⟨rfl,h9⟩
 simp only[pu];repeat apply iO (fun _ _ _=>trivial)
 apply ck
 .rfl
 .intro W';go_simp;exact⟨rfl,rfl⟩
 .intro W' hR υ;refine(Xo _ _ N9).mono ?_;rintro e w' ⟨rfl,rfl⟩;exact⟨rfl,Ext.refl _⟩
 simp only[pu];repeat apply iO (fun _ _ _=>trivial)
 apply ck
 .rfl
 .intro W';go_simp;exact⟨rfl,rfl⟩
 .intro W' hR υ;refine(hM.gc _ g d _ (hM.ext hg hR) η η).mono ?_;rintro e w' ⟨rfl,h9⟩;exact⟨rfl,h9⟩
 simp only[pu];repeat apply iO (fun _ _ _=>trivial)
 refine lex_nil ?_;intro W1 jN υ;clear υ;go_wp2;go_ret;exact⟨rfl,e0.trans jN⟩
theorem Pm(R b T:Nat)(t:aD)(A:aS)(n c:Nat)(frame:Int)(Pa:aS)(pn pc k:Nat)(ν:aD)(g:List Int)(hM:vR T b F rep G S)(hr:Rn w R t A n c (.iface T (.pointer b)) frame Pa pn pc k)(hg:rep w g d)(aT:pI g)(x y z:Int)(y0:0<=y)(y1:y<=31)(ht:t.length<=1099511627776):τ prog 153 #[.pointer R,kB (14,x,y,z)] w fun e w'=>e=.returned (.int .i32 (mq t ν frame g (14,x,y,z)))/\Ext w w':=by
 have hv:mq t ν frame g (14,x,y,z)=((atL t (gj g y):Nat):Int):=rfl;rw[hv];clear hv;have N9:=kf aT y;unfold jQ at N9;have hwr:=ej (gj g y);unfold kB;have e0:=Ext.alloc w (.cells #[(14:Int),x,y,z] 127);obtain⟨r0,r1,r2,r3,r4,r5,r6⟩:=hr;have r0:=e0.cell r0;have r2:=e0.cell r2;have r3:=e0.cell r3;have r4:=e0.cell r4;have hg:=hM.ext hg e0;have hm:=hM.gm;have he:=hM.ge;go_enter func153,ntmps153;go_wp2_with fail;generalize hW:aB w _=W at*;have J6:W.cell? w.heap.size=some (.int .i64 14):=qF;have y2:W.cell? (w.heap.size,2)=some (y:ξ):=qF;have y3:W.cell? (w.heap.size,3)=some (z:ξ):=qF;clear hW;apply iL trivial;repeat apply DH r0 r2 y2
 apply ck
 .rfl
 .intro W';go_simp;exact⟨rfl,rfl⟩
 .intro W' hR υ;refine(hM.gc _ g d y (hM.ext hg hR) y0 y1).mono ?_;rintro e w' ⟨rfl,h9⟩;exact⟨rfl,h9⟩
 simp only[pu];repeat apply iO (fun _ _ _=>trivial)
 apply ck
 .rfl
 .intro W';go_simp;exact⟨rfl,rfl⟩
 .intro W' hR υ;refine(aek _ t ht _ η η).mono ?_;rintro e w' ⟨rfl,h9⟩;exact⟨rfl,h9⟩
 simp only[pu];repeat apply iO (fun _ _ _=>trivial)
 refine lex_nil ?_;intro W1 jN υ;clear υ;go_wp2;go_ret;exact⟨rfl,e0.trans jN⟩
theorem TX(R b T:Nat)(t:aD)(A:aS)(n c:Nat)(frame:Int)(Pa:aS)(pn pc k:Nat)(ν:aD)(g:List Int)(hM:vR T b F rep G S)(hr:Rn w R t A n c (.iface T (.pointer b)) frame Pa pn pc k)(hg:rep w g d)(x y z:Int): τ prog 153 #[.pointer R,kB (1,x,y,z)] w fun e w'=>e=.returned (.int .i32 (mq t ν frame g (1,x,y,z)))/\Ext w w':=by have hv:mq t ν frame g (1,x,y,z)=Ew y:=rfl;rw[hv];clear hv;unfold kB;have e0:=Ext.alloc w (.cells #[(1:Int),x,y,z] 127);obtain⟨r0,r1,r2,r3,r4,r5,r6⟩:=hr;have r0:=e0.cell r0;have r2:=e0.cell r2;have r3:=e0.cell r3;have r4:=e0.cell r4;have hg:=hM.ext hg e0;go_enter func153,ntmps153;go_wp2_with fail;generalize hW:aB w _=W at*;have J6:W.cell? w.heap.size=some (.int .i64 1):=qF;have y2:W.cell? (w.heap.size,2)=some (y:ξ):=qF;clear hW;go_ret;exact⟨by simp[mg],e0⟩
theorem Pn(R b T:Nat)(t:aD)(A:aS)(n c:Nat)(frame:Int)(Pa:aS)(pn pc k:Nat)(ν:aD)(g:List Int)(hM:vR T b F rep G S)(hr:Rn w R t A n c (.iface T (.pointer b)) frame Pa pn pc k)(hg:rep w g d)(x y z:Int): τ prog 153 #[.pointer R,kB (15,x,y,z)] w fun e w'=>e=.returned (.int .i32 (mq t ν frame g (15,x,y,z)))/\Ext w w':=by have hv:mq t ν frame g (15,x,y,z)=Ew frame:=rfl;rw[hv];clear hv;unfold kB;have e0:=Ext.alloc w (.cells #[(15:Int),x,y,z] 127);obtain⟨r0,r1,r2,r3,r4,r5,r6⟩:=hr;have r0:=e0.cell r0;have r2:=e0.cell r2;have r3:=e0.cell r3;have r4:=e0.cell r4;have hg:=hM.ext hg e0;go_enter func153,ntmps153;go_wp2_with fail;generalize hW:aB w _=W at*;have J6:W.cell? w.heap.size=some (.int .i64 15):=qF;have y2:W.cell? (w.heap.size,2)=some (y:ξ):=qF;clear hW;go_ret;exact⟨by simp[mg];unfold Ew;omega,e0⟩
theorem TY(R b T:Nat)(t:aD)(A:aS)(n c:Nat)(frame:Int)(Pa:aS)(pn pc k:Nat)(ν:aD)(g:List Int)(hM:vR T b F rep G S)(hr:Rn w R t A n c (.iface T (.pointer b)) frame Pa pn pc k)(hg:rep w g d)(kc x y z:Int)(y0:0<=y)(y1:y<=31)(z0:0<=z)(z1:z<=31)(k0:3<=kc)(k1:kc<=8):τ prog 153 #[.pointer R,kB (kc,x,y,z)] w fun e w'=>e=.returned (.int .i32 (mq t ν frame g (kc,x,y,z)))/\Ext w w':=by
 have hv:mq t ν frame g (kc,x,y,z)=Bv kc (gj g y) (gj g z):=by unfold mq;rw[if_neg η,if_neg η,if_neg η,if_neg η,if_neg η,if_neg η]
 rw[hv];clear hv;have n1:(kc==1)=false:=kO;have n2:(kc==2)=false:=kO;have n11:(kc==11)=false:=kO;have n12:(kc==12)=false:=kO;have n14:(kc==14)=false:=kO;have n15:(kc==15)=false:=kO;unfold kB;have e0:=Ext.alloc w (.cells #[kc,x,y,z] 127);obtain⟨r0,r1,r2,r3,r4,r5,r6⟩:=hr;have r0:=e0.cell r0;have r2:=e0.cell r2;have r3:=e0.cell r3;have r4:=e0.cell r4;have hg:=hM.ext hg e0;have hm:=hM.gm;have he:=hM.ge;go_enter func153,ntmps153;go_wp2_with fail;generalize hW:aB w _=W at*;have J6:W.cell? w.heap.size=some (kc:ξ):=qF;have y2:W.cell? (w.heap.size,2)=some (y:ξ):=qF;have y3:W.cell? (w.heap.size,3)=some (z:ξ):=qF;clear hW;apply iL trivial;repeat apply kZ r2 y2
 apply ck
 .rfl
 .intro W';go_simp;exact⟨rfl,rfl⟩
 .intro W' hR υ;refine(hM.gc _ g d y (hM.ext hg hR) y0 y1).mono ?_;rintro e w' ⟨rfl,h9⟩;exact⟨rfl,h9⟩
 simp only[pu];repeat apply iO (fun _ _ _=>trivial)
 refine lex_nil ?_;intro W1 jN υ;clear υ;have r0:=jN.cell r0;have r2:=jN.cell r2;have r3:=jN.cell r3;have y2:=jN.cell y2;have J6:=jN.cell J6;have y3:=jN.cell y3;have hg:=hM.ext hg jN;go_wp2_with fail;apply iL trivial;repeat apply DH r2 J6 y3
 apply ck
 .rfl
 .intro W';go_simp;exact⟨rfl,rfl⟩
 .intro W' hR υ;refine(hM.gc _ g d z (hM.ext hg hR) z0 z1).mono ?_;rintro e w' ⟨rfl,h9⟩;exact⟨rfl,h9⟩
 simp only[pu];repeat apply iO (fun _ _ _=>trivial)
 apply ck
 .rfl
 .intro W';go_simp;exact⟨rfl,rfl⟩
 .intro W' hR υ;refine(aea _ kc _ _).mono ?_;rintro e w' ⟨rfl,rfl⟩;exact⟨rfl,Ext.refl _⟩
 simp only[pu];repeat apply iO (fun _ _ _=>trivial)
 refine lex_nil ?_;intro W2 jO υ;clear υ;go_wp2;go_ret;exact⟨rfl,(e0.trans jN).trans jO⟩
end
structure mB(w w':κ)(R:Nat)(F:Nat->Prop):Prop where
 os:w'.os=w.os
 tape:w'.tape=w.tape
 output:w'.output=w.output
 size:w.heap.size<=w'.heap.size
 block:∀k,k<w.heap.size->k≠R->¬F k->w'.heap[k]?=w.heap[k]?
section
variable {w w' a c:κ}{R:Nat}{F:Nat->Prop}
theorem mB.refl(w:κ)(R:Nat)(F:Nat->Prop):mB w w R F:=⟨rfl,rfl,rfl,aq _,fun _ _ _ _=>rfl⟩
theorem mB.trans(h:mB w a R F)(k:mB a c R F):mB w c R F :=
 ⟨k.os.trans h.os,k.tape.trans h.tape,k.output.trans h.output,aF h.size k.size,fun i hi h1 h2=>(k.block i (eM hi h.size) h1 h2).trans (h.block i hi h1 h2)⟩
theorem mB.ai(h:Ext w w')(R:Nat)(F:Nat->Prop):mB w w' R F:=⟨h.os,h.tape,h.output,h.size,fun k hk _ _=>h.block k hk⟩
theorem mB.L3(h:fY F w w')(R:Nat):mB w w' R F:=⟨h.os,h.tape,h.output,h.size,fun k hk _ h2=>h.block k hk h2⟩
theorem mB.L4(w:κ)(R:Nat)(F:Nat->Prop)(o:Nat)(u:ξ):mB w (w.setCell (R,o) u) R F :=
 ⟨rfl,rfl,rfl,C4,fun k hk h1 _=>uc w _ u k h1⟩
theorem mB.ia(h:mB w a R F){p:Addr}(hp:w.heap.size<=p.block)(u:ξ):mB w (a.setCell p u) R F :=
 ⟨h.os,h.tape,h.output,by simp[dG];exact h.size,fun k js h1 h2=>(uc a p u k η).trans (h.block k js h1 h2)⟩
end
section
variable {w w':κ}{R b:Nat}{t:aD}{A:aS}{n c:Nat}{M:ξ}{frame:Int}{Pa:aS}{pn pc k:Nat}
section
variable(h:Rn w R t A n c M frame Pa pn pc k)
include h
theorem Rn.lt:R<w.heap.size:=mG w _ h.1
theorem Rn.dD(e:w'.heap[R]?=w.heap[R]?):Rn w' R t A n c M frame Pa pn pc k:=by obtain⟨h0,h1,h2,h3,h4,h5,h6⟩:=h;have hc:∀j,w'.cell? ⟨R,j,none⟩=w.cell? ⟨R,j,none⟩:=fun j=>κ.cell?_of_block (a:=⟨R,j,none⟩) e;exact⟨(hc 0).trans h0,(hc 1).trans h1,(hc 2).trans h2,(hc 3).trans h3,(hc 4).trans h4,(hc 5).trans h5,by simp only[uM]at h6⊢;rw[e];exact h6⟩
theorem Rn.ext(e:Ext w w'):Rn w' R t A n c M frame Pa pn pc k:=h.dD (e.block R h.lt)
theorem Rn.at_(k':Nat):Rn (w.setCell (R,5) (k':ξ)) R t A n c M frame Pa pn pc k':=by obtain⟨h0,h1,h2,h3,h4,h5,h6⟩:=h;refine⟨?_,?_,?_,?_,?_,?_,?_⟩<;>go_simp
theorem Rn.pq(hne:R≠b)(o:Nat)(u:ξ):Rn (w.setCell (b,o) u) R t A n c M frame Pa pn pc k:=h.dD (uc w _ u R hne)
end
end
def Fb(w:κ)(R:Nat)(F:Nat->Prop)(rep:κ->List Int->Bool->Prop)(t:aD)(A:aS)(n c:Nat)(M:ξ)(frame:Int)(Pa:aS)(pn pc k:Nat)(d:Bool)(X:List Int)(go:Bool)(e:Ending)(w':κ):Prop :=
 e=.returned (.bool go)/\Rn w' R t A n c M frame Pa pn pc k/\(∃g' d',rep w' g' d'/\pI g'/\(d'=false->d=false/\g'=X))/\mB w w' R F
section
variable(w:κ)(R b T:Nat)(t:aD)(A:aS)(n c:Nat)(l:List dM)(frame:Int)(Pa:aS)(pn pc k:Nat)(ν:aD)(g:List Int)(hM:vR T b F rep G S)(hr:Rn w R t A n c (.iface T (.pointer b)) frame Pa pn pc k)(hl:Ro w A n c l)(hp:Rb w Pa pn pc ν)(hg:rep w g d)(aT:pI g)(hne:¬F R)(hk:k<l.length)(h64:l.length<=64)(ht:t.length<=1099511627776)(ho:l[k]=(xc,x,y,z))
include hM hr hl hp hg aT hne hk h64 ht ho
theorem X8(hx:xc=0):τ prog 112 #[.pointer R] w (Fb w R F rep t A n c (.iface T (.pointer b)) frame Pa pn pc (k+1) d g false):=by
 obtain⟨ab,ao,rfl,o0,o1,o2,o3⟩:=hl.at_ hk;have hn:=hl.len;have hmx:=hl.max;unfold maxLen at hmx;rw[ho]at o0 o1 o2 o3;clear ho;dsimp only at o0 o1 o2 o3
 obtain⟨r0,r1,r2,r3,r4,r5,r6⟩:=id hr;subst hx;go_enter func112,ntmps112;go_wp2_with fail;apply lG 12;simp only[tk];repeat apply WV r1 r5 o0 o1 o2 o3
 apply dL (p:=fun u W=>∃g0,u=.pointer (some ⟨g0,0,none⟩)/\w.heap.size<=g0/\W.heap[g0]?=some (.cells #[(0:Int),(0:Int),(0:Int),(0:Int)] 127 (0,0))) (fun _ _ _ ⟨g,hv,hg,h⟩ he=>⟨g,hv,hg,(he.block g (gy.1 h).1).trans h⟩)
 .rfl
 .intro W hR υ;refine⟨.pointer W.heap.size,W.alloc (.cells #[(0:Int),(0:Int),(0:Int),(0:Int)] 127),?_,Ext.alloc _ _,W.heap.size,rfl,hR.size,heap_alloc_new W _⟩;go_simp;first|done|rfl
 intro v2;simp only[pu];refine lex_nil ?_;intro W hR υ;obtain⟨g0,rfl,nC,qE⟩:=υ.1 rfl;simp only[dk];clear υ r0 r1 r2 r3 r4 r5 r6 o0 o1 o2 o3;have yq:R≠g0:=S7;have vc:¬F g0:=fun e=>S5;have Gi:=hr.ext hR;have um:=hM.ext hg hR;have c1:mB w W R F:=mB.ai hR R F;obtain⟨r0,r1,r2,r3,r4,r5,r6⟩:=id Gi;have J6:W.cell? g0=some (.int .i64 0):=pU;have y1c:W.cell? (g0,1)=some (.int .i64 0):=pU;have y2c:W.cell? (g0,2)=some (.int .i64 0):=pU;have y3c:W.cell? (g0,3)=some (.int .i64 0):=pU;have z0c:W.frozen? g0=false:=pX;have z1c:W.frozen? (g0,1)=false:=pX;have z2c:W.frozen? (g0,2)=false:=pX;have z3c:W.frozen? (g0,3)=false:=pX;go_wp2_with fail;generalize hV:dG (dG (dG (dG (dG W _ _) _ _) _ _) _ _) _ _=V at*;have rV:Rn V R t (some ⟨ab,ao,none⟩) n c (.iface T (.pointer b)) frame Pa pn pc (k+1):=by subst hV;exact((((Gi.pq yq 0 _).pq yq 1 _).pq yq 2 _).pq yq 3 _).at_ (k+1)
 have gV:rep V g d:=by subst hV;exact hM.set (hM.set (hM.set (hM.set (hM.set um _ _ vc) _ _ vc) _ _ vc) _ _ vc) _ _ hne
 have cV:mB w V R F:=by subst hV;exact((((c1.ia nC _).ia nC _).ia nC _).ia nC _).trans (mB.L4 _ R F 5 _)
 go_ret;exact⟨rfl,rV,⟨g,d,gV,aT,fun h=>⟨h,rfl⟩⟩,cV⟩
theorem X9(hx:xc=9){X:Nat}(hX:x=X):τ prog 112 #[.pointer R] w (Fb w R F rep t A n c (.iface T (.pointer b)) frame Pa pn pc X d g true):=by
 obtain⟨ab,ao,rfl,o0,o1,o2,o3⟩:=hl.at_ hk;have hn:=hl.len;have hmx:=hl.max;unfold maxLen at hmx;rw[ho]at o0 o1 o2 o3;clear ho;dsimp only at o0 o1 o2 o3
 obtain⟨r0,r1,r2,r3,r4,r5,r6⟩:=id hr;subst hx hX;go_enter func112,ntmps112;go_wp2_with fail;apply lG 12;simp only[tk];repeat apply WV r1 r5 o0 o1 o2 o3
 apply dL (p:=fun u W=>∃g0,u=.pointer (some ⟨g0,0,none⟩)/\w.heap.size<=g0/\W.heap[g0]?=some (.cells #[(0:Int),(0:Int),(0:Int),(0:Int)] 127 (0,0))) (fun _ _ _ ⟨g,hv,hg,h⟩ he=>⟨g,hv,hg,(he.block g (gy.1 h).1).trans h⟩)
 .rfl
 .intro W hR υ;refine⟨.pointer W.heap.size,W.alloc (.cells #[(0:Int),(0:Int),(0:Int),(0:Int)] 127),?_,Ext.alloc _ _,W.heap.size,rfl,hR.size,heap_alloc_new W _⟩;go_simp;first|done|rfl
 intro v2;simp only[pu];refine lex_nil ?_;intro W hR υ;obtain⟨g0,rfl,nC,qE⟩:=υ.1 rfl;simp only[dk];clear υ r0 r1 r2 r3 r4 r5 r6 o0 o1 o2 o3;have yq:R≠g0:=S7;have vc:¬F g0:=fun e=>S5;have Gi:=hr.ext hR;have um:=hM.ext hg hR;have c1:mB w W R F:=mB.ai hR R F;obtain⟨r0,r1,r2,r3,r4,r5,r6⟩:=id Gi;have J6:W.cell? g0=some (.int .i64 0):=pU;have y1c:W.cell? (g0,1)=some (.int .i64 0):=pU;have y2c:W.cell? (g0,2)=some (.int .i64 0):=pU;have y3c:W.cell? (g0,3)=some (.int .i64 0):=pU;have z0c:W.frozen? g0=false:=pX;have z1c:W.frozen? (g0,1)=false:=pX;have z2c:W.frozen? (g0,2)=false:=pX;have z3c:W.frozen? (g0,3)=false:=pX;go_wp2_with fail;generalize hV:dG (dG (dG (dG (dG W _ _) _ _) _ _) _ _) _ _=V at*;have rV:Rn V R t (some ⟨ab,ao,none⟩) n c (.iface T (.pointer b)) frame Pa pn pc (k+1):=by subst hV;exact((((Gi.pq yq 0 _).pq yq 1 _).pq yq 2 _).pq yq 3 _).at_ (k+1)
 have gV:rep V g d:=by subst hV;exact hM.set (hM.set (hM.set (hM.set (hM.set um _ _ vc) _ _ vc) _ _ vc) _ _ vc) _ _ hne
 have cV:mB w V R F:=by subst hV;exact((((c1.ia nC _).ia nC _).ia nC _).ia nC _).trans (mB.L4 _ R F 5 _)
 go_ret;exact⟨rfl,rV.at_ X,⟨g,d,hM.set gV _ _ hne,aT,fun h=>⟨h,rfl⟩⟩,cV.trans (mB.L4 V R F 5 _)⟩
theorem Ya(hx:xc=10)(x0:0<=x)(x1:x<=31){Y:Nat}(hY:y=Y)(hz:gj g x=0):τ prog 112 #[.pointer R] w (Fb w R F rep t A n c (.iface T (.pointer b)) frame Pa pn pc Y d g true):=by
 obtain⟨ab,ao,rfl,o0,o1,o2,o3⟩:=hl.at_ hk;have hn:=hl.len;have hmx:=hl.max;unfold maxLen at hmx;rw[ho]at o0 o1 o2 o3;clear ho;dsimp only at o0 o1 o2 o3
 obtain⟨r0,r1,r2,r3,r4,r5,r6⟩:=id hr;subst hx hY;have dA:(gj g x==0)=true:=by rw[hz];rfl
 clear hz;have hm:=hM.gm;have he:=hM.ge;go_enter func112,ntmps112;go_wp2_with fail;apply lG 12;simp only[tk];repeat apply WV r1 r5 o0 o1 o2 o3
 apply dL (p:=fun u W=>∃g0,u=.pointer (some ⟨g0,0,none⟩)/\w.heap.size<=g0/\W.heap[g0]?=some (.cells #[(0:Int),(0:Int),(0:Int),(0:Int)] 127 (0,0))) (fun _ _ _ ⟨g,hv,hg,h⟩ he=>⟨g,hv,hg,(he.block g (gy.1 h).1).trans h⟩)
 .rfl
 .intro W hR υ;refine⟨.pointer W.heap.size,W.alloc (.cells #[(0:Int),(0:Int),(0:Int),(0:Int)] 127),?_,Ext.alloc _ _,W.heap.size,rfl,hR.size,heap_alloc_new W _⟩;go_simp;first|done|rfl
 intro v2;simp only[pu];refine lex_nil ?_;intro W hR υ;obtain⟨g0,rfl,nC,qE⟩:=υ.1 rfl;simp only[dk];clear υ r0 r1 r2 r3 r4 r5 r6 o0 o1 o2 o3;have yq:R≠g0:=S7;have vc:¬F g0:=fun e=>S5;have Gi:=hr.ext hR;have um:=hM.ext hg hR;have c1:mB w W R F:=mB.ai hR R F;obtain⟨r0,r1,r2,r3,r4,r5,r6⟩:=id Gi;have J6:W.cell? g0=some (.int .i64 0):=pU;have y1c:W.cell? (g0,1)=some (.int .i64 0):=pU;have y2c:W.cell? (g0,2)=some (.int .i64 0):=pU;have y3c:W.cell? (g0,3)=some (.int .i64 0):=pU;have z0c:W.frozen? g0=false:=pX;have z1c:W.frozen? (g0,1)=false:=pX;have z2c:W.frozen? (g0,2)=false:=pX;have z3c:W.frozen? (g0,3)=false:=pX;go_wp2_with fail;generalize hV:dG (dG (dG (dG (dG W _ _) _ _) _ _) _ _) _ _=V at*;have rV:Rn V R t (some ⟨ab,ao,none⟩) n c (.iface T (.pointer b)) frame Pa pn pc (k+1):=by subst hV;exact((((Gi.pq yq 0 _).pq yq 1 _).pq yq 2 _).pq yq 3 _).at_ (k+1)
 have gV:rep V g d:=by subst hV;exact hM.set (hM.set (hM.set (hM.set (hM.set um _ _ vc) _ _ vc) _ _ vc) _ _ vc) _ _ hne
 have cV:mB w V R F:=by subst hV;exact((((c1.ia nC _).ia nC _).ia nC _).ia nC _).trans (mB.L4 _ R F 5 _)
 have v0:V.cell? g0=some (.int .i64 10):=ir;have v1:V.cell? (g0,1)=some (x:ξ):=ir;have v2:V.cell? (g0,2)=some (Y:ξ):=ir;have v3:V.cell? (g0,3)=some (z:ξ):=ir;clear hV r0 r1 r2 r3 r4 r5 r6 J6 y1c y2c y3c z0c z1c z2c z3c qE Gi um c1 hR hl;obtain⟨r0,r1,r2,r3,r4,r5,r6⟩:=id rV;apply iL trivial;repeat apply kZ r2 v1
 apply ck
 .rfl
 .intro W';go_simp;exact⟨rfl,rfl⟩
 .intro W' hR υ;refine(hM.gc _ g d x (hM.ext gV hR) x0 x1).mono ?_;rintro e w' ⟨rfl,h9⟩;exact⟨rfl,h9⟩
 simp only[pu];repeat apply iO (fun _ _ _=>trivial)
 refine lex_nil ?_;intro W1 jN υ;clear υ;have rW:=rV.ext jN;have gW:=hM.ext gV jN;have cW:=cV.trans (mB.ai jN R F);have v2:=jN.cell v2;obtain⟨r0,r1,r2,r3,r4,r5,r6⟩:=id rW;go_wp2;go_ret;exact⟨rfl,rW.at_ Y,⟨g,d,hM.set gW _ _ hne,aT,fun h=>⟨h,rfl⟩⟩,cW.trans (mB.L4 _ R F 5 _)⟩
theorem Po(hx:xc=10)(x0:0<=x)(x1:x<=31)(hz:gj g x≠0):τ prog 112 #[.pointer R] w (Fb w R F rep t A n c (.iface T (.pointer b)) frame Pa pn pc (k+1) d g true):=by
 obtain⟨ab,ao,rfl,o0,o1,o2,o3⟩:=hl.at_ hk;have hn:=hl.len;have hmx:=hl.max;unfold maxLen at hmx;rw[ho]at o0 o1 o2 o3;clear ho;dsimp only at o0 o1 o2 o3
 obtain⟨r0,r1,r2,r3,r4,r5,r6⟩:=id hr;subst hx;have dA:(gj g x==0)=false:=by rw[beq_eq_false_iff_ne];exact hz
 clear hz;have hm:=hM.gm;have he:=hM.ge;go_enter func112,ntmps112;go_wp2_with fail;apply lG 12;simp only[tk];repeat apply WV r1 r5 o0 o1 o2 o3
 apply dL (p:=fun u W=>∃g0,u=.pointer (some ⟨g0,0,none⟩)/\w.heap.size<=g0/\W.heap[g0]?=some (.cells #[(0:Int),(0:Int),(0:Int),(0:Int)] 127 (0,0))) (fun _ _ _ ⟨g,hv,hg,h⟩ he=>⟨g,hv,hg,(he.block g (gy.1 h).1).trans h⟩)
 .rfl
 .intro W hR υ;refine⟨.pointer W.heap.size,W.alloc (.cells #[(0:Int),(0:Int),(0:Int),(0:Int)] 127),?_,Ext.alloc _ _,W.heap.size,rfl,hR.size,heap_alloc_new W _⟩;go_simp;first|done|rfl
 intro v2;simp only[pu];refine lex_nil ?_;intro W hR υ;obtain⟨g0,rfl,nC,qE⟩:=υ.1 rfl;simp only[dk];clear υ r0 r1 r2 r3 r4 r5 r6 o0 o1 o2 o3;have yq:R≠g0:=S7;have vc:¬F g0:=fun e=>S5;have Gi:=hr.ext hR;have um:=hM.ext hg hR;have c1:mB w W R F:=mB.ai hR R F;obtain⟨r0,r1,r2,r3,r4,r5,r6⟩:=id Gi;have J6:W.cell? g0=some (.int .i64 0):=pU;have y1c:W.cell? (g0,1)=some (.int .i64 0):=pU;have y2c:W.cell? (g0,2)=some (.int .i64 0):=pU;have y3c:W.cell? (g0,3)=some (.int .i64 0):=pU;have z0c:W.frozen? g0=false:=pX;have z1c:W.frozen? (g0,1)=false:=pX;have z2c:W.frozen? (g0,2)=false:=pX;have z3c:W.frozen? (g0,3)=false:=pX;go_wp2_with fail;generalize hV:dG (dG (dG (dG (dG W _ _) _ _) _ _) _ _) _ _=V at*;have rV:Rn V R t (some ⟨ab,ao,none⟩) n c (.iface T (.pointer b)) frame Pa pn pc (k+1):=by subst hV;exact((((Gi.pq yq 0 _).pq yq 1 _).pq yq 2 _).pq yq 3 _).at_ (k+1)
 have gV:rep V g d:=by subst hV;exact hM.set (hM.set (hM.set (hM.set (hM.set um _ _ vc) _ _ vc) _ _ vc) _ _ vc) _ _ hne
 have cV:mB w V R F:=by subst hV;exact((((c1.ia nC _).ia nC _).ia nC _).ia nC _).trans (mB.L4 _ R F 5 _)
 have v0:V.cell? g0=some (.int .i64 10):=ir;have v1:V.cell? (g0,1)=some (x:ξ):=ir;have v2:V.cell? (g0,2)=some (y:ξ):=ir;have v3:V.cell? (g0,3)=some (z:ξ):=ir;clear hV r0 r1 r2 r3 r4 r5 r6 J6 y1c y2c y3c z0c z1c z2c z3c qE Gi um c1 hR hl;obtain⟨r0,r1,r2,r3,r4,r5,r6⟩:=id rV;apply iL trivial;repeat apply kZ r2 v1
 apply ck
 .rfl
 .intro W';go_simp;exact⟨rfl,rfl⟩
 .intro W' hR υ;refine(hM.gc _ g d x (hM.ext gV hR) x0 x1).mono ?_;rintro e w' ⟨rfl,h9⟩;exact⟨rfl,h9⟩
 simp only[pu];repeat apply iO (fun _ _ _=>trivial)
 refine lex_nil ?_;intro W1 jN υ;clear υ;have rW:=rV.ext jN;have gW:=hM.ext gV jN;have cW:=cV.trans (mB.ai jN R F);obtain⟨r0,r1,r2,r3,r4,r5,r6⟩:=id rW;go_wp2;go_ret;exact⟨rfl,rW,⟨g,d,gW,aT,fun h=>⟨h,rfl⟩⟩,cW⟩
theorem Yb(hx:xc=13)(x0:0<=x)(x1:x<=31)(y0:0<=y)(y1:y<=31):τ prog 112 #[.pointer R] w (Fb w R F rep t A n c (.iface T (.pointer b)) frame Pa pn pc (k+1) d (oo g (ue (gj g x):Nat) (gj g y)) true):=by
 obtain⟨ab,ao,rfl,o0,o1,o2,o3⟩:=hl.at_ hk;have hn:=hl.len;have hmx:=hl.max;unfold maxLen at hmx;rw[ho]at o0 o1 o2 o3;clear ho;dsimp only at o0 o1 o2 o3
 obtain⟨r0,r1,r2,r3,r4,r5,r6⟩:=id hr;subst hx;have N9:=kf aT x;have aX:=DI (gj g x);have hm:=hM.gm;have he:=hM.ge;have hms:=hM.sm;have hes:=hM.se;go_enter func112,ntmps112;go_wp2_with fail;apply lG 12;simp only[tk];repeat apply WV r1 r5 o0 o1 o2 o3
 apply dL (p:=fun u W=>∃g0,u=.pointer (some ⟨g0,0,none⟩)/\w.heap.size<=g0/\W.heap[g0]?=some (.cells #[(0:Int),(0:Int),(0:Int),(0:Int)] 127 (0,0))) (fun _ _ _ ⟨g,hv,hg,h⟩ he=>⟨g,hv,hg,(he.block g (gy.1 h).1).trans h⟩)
 .rfl
 .intro W hR υ;refine⟨.pointer W.heap.size,W.alloc (.cells #[(0:Int),(0:Int),(0:Int),(0:Int)] 127),?_,Ext.alloc _ _,W.heap.size,rfl,hR.size,heap_alloc_new W _⟩;go_simp;first|done|rfl
 intro v2;simp only[pu];refine lex_nil ?_;intro W hR υ;obtain⟨g0,rfl,nC,qE⟩:=υ.1 rfl;simp only[dk];clear υ r0 r1 r2 r3 r4 r5 r6 o0 o1 o2 o3;have yq:R≠g0:=S7;have vc:¬F g0:=fun e=>S5;have Gi:=hr.ext hR;have um:=hM.ext hg hR;have c1:mB w W R F:=mB.ai hR R F;obtain⟨r0,r1,r2,r3,r4,r5,r6⟩:=id Gi;have J6:W.cell? g0=some (.int .i64 0):=pU;have y1c:W.cell? (g0,1)=some (.int .i64 0):=pU;have y2c:W.cell? (g0,2)=some (.int .i64 0):=pU;have y3c:W.cell? (g0,3)=some (.int .i64 0):=pU;have z0c:W.frozen? g0=false:=pX;have z1c:W.frozen? (g0,1)=false:=pX;have z2c:W.frozen? (g0,2)=false:=pX;have z3c:W.frozen? (g0,3)=false:=pX;go_wp2_with fail;generalize hV:dG (dG (dG (dG (dG W _ _) _ _) _ _) _ _) _ _=V at*;have rV:Rn V R t (some ⟨ab,ao,none⟩) n c (.iface T (.pointer b)) frame Pa pn pc (k+1):=by subst hV;exact((((Gi.pq yq 0 _).pq yq 1 _).pq yq 2 _).pq yq 3 _).at_ (k+1)
 have gV:rep V g d:=by subst hV;exact hM.set (hM.set (hM.set (hM.set (hM.set um _ _ vc) _ _ vc) _ _ vc) _ _ vc) _ _ hne
 have cV:mB w V R F:=by subst hV;exact((((c1.ia nC _).ia nC _).ia nC _).ia nC _).trans (mB.L4 _ R F 5 _)
 have v0:V.cell? g0=some (.int .i64 13):=ir;have v1:V.cell? (g0,1)=some (x:ξ):=ir;have v2:V.cell? (g0,2)=some (y:ξ):=ir;have v3:V.cell? (g0,3)=some (z:ξ):=ir;clear hV r0 r1 r2 r3 r4 r5 r6 J6 y1c y2c y3c z0c z1c z2c z3c qE Gi um c1 hR hl;obtain⟨r0,r1,r2,r3,r4,r5,r6⟩:=id rV;apply iL trivial;repeat apply kZ r2 v1
 apply ck
 .rfl
 .intro W';go_simp;exact⟨rfl,rfl⟩
 .intro W' hR υ;refine(hM.gc _ g d x (hM.ext gV hR) x0 x1).mono ?_;rintro e w' ⟨rfl,h9⟩;exact⟨rfl,h9⟩
 simp only[pu];repeat apply iO (fun _ _ _=>trivial)
 apply ck
 .rfl
 .intro W';go_simp;exact⟨rfl,rfl⟩
 .intro W' hR υ;refine(Xo _ _ N9).mono ?_;rintro e w' ⟨rfl,rfl⟩;exact⟨rfl,Ext.refl _⟩
 simp only[pu];repeat apply iO (fun _ _ _=>trivial)
 refine lex_nil ?_;intro W1 jN υ;clear υ;have rV:=rV.ext jN;have gV:=hM.ext gV jN;have cV:=cV.trans (mB.ai jN R F);have v0:=jN.cell v0;have v1:=jN.cell v1;have v2:=jN.cell v2;have v3:=jN.cell v3;obtain⟨r0,r1,r2,r3,r4,r5,r6⟩:=id rV;go_wp2_with fail;apply lG 14;simp only[tk];repeat apply kZ r2 v2
 apply ck
 .rfl
 .intro W';go_simp;exact⟨rfl,rfl⟩
 .intro W' hR υ;refine(hM.gc _ g d y (hM.ext gV hR) y0 y1).mono ?_;rintro e w' ⟨rfl,h9⟩;exact⟨rfl,h9⟩
 simp only[pu];repeat apply iO (fun _ _ _=>trivial)
 refine lex_nil ?_;intro W2 jO υ;clear υ;simp only[dk];have rW:=rV.ext jO;have gW:=hM.ext gV jO;have cW:=cV.trans (mB.ai jO R F);go_wp2_with fail;refine(hM.sc _ g d _ _ gW aT (kf aT y) η η).mono ?_;rintro e w2 ⟨rfl,mW,agw⟩;have rW2:=rW.dD (mW.block R rW.lt hne);go_wp2;go_ret;exact⟨rfl,rW2,agw,cW.trans (mB.L3 mW R)⟩
theorem one_set(hx:xc≠0/\xc≠9/\xc≠10/\xc≠13)(x0:0<=x)(x1:x<=31)(hval:∀W,Rn W R t A n c (.iface T (.pointer b)) frame Pa pn pc (k+1)->rep W g d->Rb W Pa pn pc ν->τ prog 153 #[.pointer R,kB (xc,x,y,z)] W fun e w'=>e=.returned (.int .i32 (mq t ν frame g (xc,x,y,z)))/\Ext W w')(LF:∀V,mB w V R F->Rb V Pa pn pc ν):τ prog 112 #[.pointer R] w (Fb w R F rep t A n c (.iface T (.pointer b)) frame Pa pn pc (k+1) d (oo g x (mq t ν frame g (xc,x,y,z))) true):=by
 obtain⟨ab,ao,rfl,o0,o1,o2,o3⟩:=hl.at_ hk;have hn:=hl.len;have hmx:=hl.max;unfold maxLen at hmx;rw[ho]at o0 o1 o2 o3;clear ho;dsimp only at o0 o1 o2 o3
 obtain⟨r0,r1,r2,r3,r4,r5,r6⟩:=id hr;have n0:(xc==0)=false:=kO;have n9:(xc==9)=false:=kO;have n10:(xc==10)=false:=kO;have n13:(xc==13)=false:=kO;clear hx;unfold kB at hval;have akX:=θ hval;clear hval;have akY:=Rw t ν frame aT (xc,x,y,z);generalize mq t ν frame g (xc,x,y,z)=v at*;have hms:=hM.sm;have hes:=hM.se;go_enter func112,ntmps112;go_wp2_with fail;apply lG 12;simp only[tk];repeat apply WV r1 r5 o0 o1 o2 o3
 apply dL (p:=fun u W=>∃g0,u=.pointer (some ⟨g0,0,none⟩)/\w.heap.size<=g0/\W.heap[g0]?=some (.cells #[(0:Int),(0:Int),(0:Int),(0:Int)] 127 (0,0))) (fun _ _ _ ⟨g,hv,hg,h⟩ he=>⟨g,hv,hg,(he.block g (gy.1 h).1).trans h⟩)
 .rfl
 .intro W hR υ;refine⟨.pointer W.heap.size,W.alloc (.cells #[(0:Int),(0:Int),(0:Int),(0:Int)] 127),?_,Ext.alloc _ _,W.heap.size,rfl,hR.size,heap_alloc_new W _⟩;go_simp;first|done|rfl
 intro v2;simp only[pu];refine lex_nil ?_;intro W hR υ;obtain⟨g0,rfl,nC,qE⟩:=υ.1 rfl;simp only[dk];clear υ r0 r1 r2 r3 r4 r5 r6 o0 o1 o2 o3;have yq:R≠g0:=S7;have vc:¬F g0:=fun e=>S5;have Gi:=hr.ext hR;have um:=hM.ext hg hR;have c1:mB w W R F:=mB.ai hR R F;obtain⟨r0,r1,r2,r3,r4,r5,r6⟩:=id Gi;have J6:W.cell? g0=some (.int .i64 0):=pU;have y1c:W.cell? (g0,1)=some (.int .i64 0):=pU;have y2c:W.cell? (g0,2)=some (.int .i64 0):=pU;have y3c:W.cell? (g0,3)=some (.int .i64 0):=pU;have z0c:W.frozen? g0=false:=pX;have z1c:W.frozen? (g0,1)=false:=pX;have z2c:W.frozen? (g0,2)=false:=pX;have z3c:W.frozen? (g0,3)=false:=pX;go_wp2_with fail;generalize hV:dG (dG (dG (dG (dG W _ _) _ _) _ _) _ _) _ _=V at*;have rV:Rn V R t (some ⟨ab,ao,none⟩) n c (.iface T (.pointer b)) frame Pa pn pc (k+1):=by subst hV;exact((((Gi.pq yq 0 _).pq yq 1 _).pq yq 2 _).pq yq 3 _).at_ (k+1)
 have gV:rep V g d:=by subst hV;exact hM.set (hM.set (hM.set (hM.set (hM.set um _ _ vc) _ _ vc) _ _ vc) _ _ vc) _ _ hne
 have cV:mB w V R F:=by subst hV;exact((((c1.ia nC _).ia nC _).ia nC _).ia nC _).trans (mB.L4 _ R F 5 _)
 have pV:Rb V Pa pn pc ν:=LF V cV;have v0:V.cell? g0=some (xc:ξ):=ir;have v1:V.cell? (g0,1)=some (x:ξ):=ir;have v2:V.cell? (g0,2)=some (y:ξ):=ir;have v3:V.cell? (g0,3)=some (z:ξ):=ir;clear hV r0 r1 r2 r3 r4 r5 r6 J6 y1c y2c y3c z0c z1c z2c z3c qE Gi um c1 hR hl;obtain⟨r0,r1,r2,r3,r4,r5,r6⟩:=id rV;apply lG 11;simp only[tk];repeat apply lx5 r2 v0 v1 v2 v3
 apply ck
 .rfl
 .intro W';go_simp;exact⟨rfl,rfl⟩
 .intro W' hR υ;refine(akX.o _ (rV.ext hR) (hM.ext gV hR) (pV.ext hR)).mono ?_;rintro e w' ⟨rfl,h9⟩;exact⟨rfl,h9⟩
 simp only[pu];repeat apply iO (fun _ _ _=>trivial)
 refine lex_nil ?_;intro W1 jN υ;clear υ;simp only[dk];have rW:=rV.ext jN;have gW:=hM.ext gV jN;have cW:=cV.trans (mB.ai jN R F);go_wp2_with fail;refine(hM.sc _ g d _ _ gW aT akY x0 x1).mono ?_;rintro e w2 ⟨rfl,mW,agw⟩;have rW2:=rW.dD (mW.block R rW.lt hne);go_wp2;go_ret;exact⟨rfl,rW2,agw,cW.trans (mB.L3 mW R)⟩
end
def Quiet(cf:Cf)(c:Cr)(mk:List Nat):Prop:=∀i,i<cf.n->(c.words i).1=0\/mk.length<(c.words i).1\/(0<(c.words i).1/\(c.words i).1<=mk.length/\mk.getD ((c.words i).1-1) 0=(c.words i).2)
section
variable {w w':κ}{T T':Tg}{t b:Nat}{cf:Cf}{me qb:Nat}{ps:Nat->Nat}{c:Cr}{mk:List Nat}
theorem Pq(h:ct w T t b cf me qb ps c mk)(hk:bz cf me c mk)(hu:Θ w T)(x:UInt8):τ prog 287 #[π b,.int .u8 (x.toNat:Nat)] w (Does (In t 22) w T ((c.iB me cf.χ:Nat):ξ) fun w' T'=>ct w' T' t b cf me qb ps (c.ν me cf.χ x) mk):=by
 have lD:me<c.ls.length:=by rw[hk.len];exact hk.me
 have hm8:=hk.ok.n8;have KY:=hk.me;have H1:=θ (rT h);have H2:=θ fun W (e:Ext w W)=>qy (h.ext e) hk;have H3:=θ fun W (e:Ext w W)=>ie (h.BW.ext e) (by rw[hk.len];exact hk.ok.n8) η hk.short;have H4:=θ fun W (e:Ext w W)=>lZ (h.BW.ext e) (by rw[hk.len];exact hk.ok.n8) lD;have H5:=θ fun W (e:Ext w W) (hl:c.ls[me].length<1000)=>LL ((h.BW.line me lD).ext e) (hu.ext e) x hl;have hm:(c.head me)=c.ls[me].length:=by simp[Cr.head,Cr.nr,cO,lD]
 have hmi:(c.nr me)=c.ls[me]:=by simp[Cr.nr,cO,lD]
 have iU:c.front<=1000:=aF (jt _ _ (dH lD)) (hk.short _ (dH lD));have sS:c.head me<=1000:=by rw[hm];exact hk.short _ (dH lD)
 have hfh:c.front<=c.head me:=by rw[hm];exact jt _ _ (dH lD)
 have Hu:=θ hu;have Hh:=θ h;obtain⟨PA,pc,MA,mc,EA,ec,h1,_,_,_⟩:=h.bn;obtain⟨c0,c1,c2,c3,c4,c5,c6,c7,c8,c9,lK,oA,Dk,yp,ya,K1⟩:=coreC h1;have HP:c.iB me cf.χ=if c.closed then 6 else if 1000<=c.head me then 4 else if cf.χ<=c.head me-c.front then 5 else 0:=rfl
 have HN:c.ν me cf.χ x=if c.iB me cf.χ=0 then {c with ls:=c.ls.set me (c.nr me++[x])} else c:=rfl
 have hF:cn c.ls=c.front:=rfl;rw[hF]at H3;unfold π at*;clear h h1 hu c0 c2 c3 c5 c6 c7 c8 c9 oA Dk yp ya;by_cases j5:c.closed=true
 .rw[if_pos j5]at HP;rw[HP,if_neg Γ]at HN;rw[HP,HN];rw[j5]at H1;clear HP HN;go_enter func287,ntmps287;go_wp2_with fail;refine H1.o.mono ?_;rintro e w1 ⟨rfl,rfl⟩;go_wp2;go_ret;exact⟨rfl,T,Ξ.refl _ Hu.o,Hh.o⟩
 rw[if_neg j5]at HP;have Pt:c.closed=false:=Lj;rw[Pt]at H1;by_cases oC:1000<=c.head me
 .rw[if_pos oC]at HP;rw[HP,if_neg Γ]at HN;rw[HP,HN];have jF:=dQ ((1000:Int)<=(c.head me:Int));clear HP HN;go_enter func287,ntmps287;go_wp2_with fail;refine H1.o.mono ?_;rintro e w1 ⟨rfl,rfl⟩;go_wp2_with fail;refine(H2.o _ (Ext.refl _)).mono ?_;rintro e w2 ⟨rfl,e2⟩;go_wp2;go_ret;exact⟨rfl,T,Ξ.ai _ Hu.o e2,Hh.o.ext e2⟩
 rw[if_neg oC]at HP;have Di:=dh (1000<=c.head me) oC;have jF:=dh ((1000:Int)<=(c.head me:Int));have pz:=ej ((c.head me:Int)-(c.front:Int));by_cases eH:cf.χ<=c.head me-c.front
 .rw[if_pos eH]at HP
  rw[HP,if_neg Γ]at HN;rw[HP,HN];have Gj:=dQ ((cf.χ:Int)<=(c.head me:Int)-(c.front:Int));clear HP HN;generalize c.head me=hd at*;generalize c.front=fr at*;go_enter func287,ntmps287;go_wp2_with fail;refine H1.o.mono ?_;rintro e w1 ⟨rfl,rfl⟩;go_wp2_with fail;refine(H2.o _ (Ext.refl _)).mono ?_;rintro e w2 ⟨rfl,e2⟩;go_wp2_with fail;replace c4:=e2.cell c4;replace lK:=e2.cell lK;apply lG 13;simp only[tk];repeat apply iO (fun _ _ _=>trivial)
  apply jD (fun W hR=>H2.o W (e2.trans hR));repeat apply nh lK
  apply jD (fun W hR=>H3.o W (e2.trans hR));repeat apply nh c4
  refine jq fun Wx ak=>?_;simp only[dk];go_wp2;go_ret;exact⟨rfl,T,Ξ.ai _ Hu.o (e2.trans ak),Hh.o.ext (e2.trans ak)⟩
 .rw[if_neg eH]at HP
  rw[HP,if_pos rfl,hmi]at HN;rw[HP,HN];have Gj:=dh ((cf.χ:Int)<=(c.head me:Int)-(c.front:Int));have K2:c.ls[me].length<1000:=η;have Hl9:=θ K2;clear HP HN hm hmi;generalize c.head me=hd at*;generalize c.front=fr at*;go_enter func287,ntmps287;go_wp2_with fail;refine H1.o.mono ?_;rintro e w1 ⟨rfl,rfl⟩;go_wp2_with fail;refine(H2.o _ (Ext.refl _)).mono ?_;rintro e w2 ⟨rfl,e2⟩;go_wp2_with fail;have c4':=e2.cell c4;have afC:=e2.cell lK;apply lG 13;simp only[tk];repeat apply iO (fun _ _ _=>trivial)
  apply jD (fun W hR=>H2.o W (e2.trans hR));repeat apply nh afC
  apply jD (fun W hR=>H3.o W (e2.trans hR));repeat apply nh c4'
  refine jq fun Wx ak=>?_;clear c4' afC;simp only[dk];go_wp2_with fail;have e3:=e2.trans ak;have c1':=e3.cell c1;have afC:=e3.cell lK;clear ak;rename_i Wx;apply lG 11;simp only[tk];repeat apply kZ c1' afC
  apply jD (fun W hR=>H4.o W (e3.trans hR));repeat apply iO (fun _ _ _=>trivial)
  refine jq fun Wx ak=>?_;simp only[dk];go_wp2_with fail;have e4:=e3.trans ak;refine(H5.o _ e4 Hl9.o).mono ?_;rintro e w5 ⟨rfl,T5,kT,hL5⟩;go_wp2;go_ret;exact⟨rfl,T5,((Ξ.ai _ Hu.o e4).trans (kT.sub η η)),(Hh.o.ext e4).line lD kT hL5⟩
theorem tu{α:Type}(f:Nat->List α)(k:Nat)(hf:∀i,(f i).length=k):∀n:Nat,((dJ n).flatMap f).length=n*k
 |0=>by simp
 |n+1=>by rw[uP,ny,eU,tu f k hf n,Nat.succ_mul];simp[hf]
theorem rU{α:Type}(f:Nat->List α)(k:Nat)(hf:∀i,(f i).length=k):∀(n i j:Nat),i<n->j<k->((dJ n).flatMap f)[i*k+j]?=(f i)[j]?
 |0,i,j,h,_=>absurd h η
 |n+1,i,j,h,hj=>by
  rw[uP,ny];have hlen:((dJ n).flatMap f).length=n*k:=tu f k hf n;by_cases hi:i<n
  .have h9:(i+1)*k<=n*k:=Nat.mul_le_mul_right _ hi;rw[Nat.add_mul,Nat.one_mul]at h9;have h1:i*k+j<n*k:=η;rw[kn (by rw[hlen];exact h1)];exact rU f k hf n i j hi hj
  .obtain rfl:i=n:=by omega
   rw[List.getElem?_append_right Bu,hlen];simp
theorem vV(c:Cr)(n:Nat){j:Nat}(hi:i<n)(hj:j<5):((dJ n).flatMap (nZ c))[i*5+j]?=(nZ c i)[j]?:=rU (nZ c) 5 (fun _=>rfl) n i j hi hj
theorem uq{PA:aS}{pc:Nat}(h:Row w T t 297 5 PA cf.n pc ((dJ cf.n).flatMap (nZ c)))(hi:i<cf.n):∃g,PA=some ⟨g,0,none⟩/\w.cell? ⟨g,i*5,none⟩=some ((c.has i:Nat):ξ)/\w.cell? ⟨g,i*5+1,none⟩=some ((c.heard i:Nat):ξ)/\w.cell? ⟨g,i*5+2,none⟩=some (((c.words i).1:Nat):ξ)/\w.cell? ⟨g,i*5+3,none⟩=some (.int .u32 ((c.words i).2:Nat))/\w.cell? ⟨g,i*5+4,none⟩=some (.bool false)/\(∀o,w.frozen? ⟨g,i*5+o,none⟩=false):=by
 obtain⟨g,hg,h0,_,_⟩:=h.at_ ((vV c cf.n hi (j:=0) Γ).trans rfl);refine⟨g,hg,h0,?_,?_,?_,?_,fun o=>?_⟩
 .obtain⟨g',e,h1,_⟩:=h.at_ ((vV c cf.n hi (j:=1) Γ).trans rfl);rw[hg]at e;cases e;exact h1
 .obtain⟨g',e,h1,_⟩:=h.at_ ((vV c cf.n hi (j:=2) Γ).trans rfl);rw[hg]at e;cases e;exact h1
 .obtain⟨g',e,h1,_⟩:=h.at_ ((vV c cf.n hi (j:=3) Γ).trans rfl);rw[hg]at e;cases e;exact h1
 .obtain⟨g',e,h1,_⟩:=h.at_ ((vV c cf.n hi (j:=4) Γ).trans rfl);rw[hg]at e;cases e;exact h1
 .rcases h.1.2 with ⟨h0,_⟩|⟨g',cap,cur,Lo,_,Oa,_⟩
  .rw[hg]at h0;cases h0
  .rw[hg]at Lo
   injection Lo with h1 _ _
   injection h1 with h1
   injection h1 with h1 _ _
   subst h1;simp only[uM,Oa];simp
theorem xh(h:ct w T t b cf me qb ps c mk)(hk:bz cf me c mk)(hq:Quiet cf c mk):τ prog 194 #[π b] w fun e w'=>e=.returned (.tuple #[])/\Ext w w':=by
 have lD:=hk.marks;have N6:=hk.words;obtain⟨PA,pc,MA,mc,EA,ec,h1,h2,h3,_⟩:=h.bn;obtain⟨c0,c1,c2,c3,c4,c5,c6,c7,c8,c9,lK,oA,Dk,yp,ya,K1⟩:=coreC h1;have J1:=h2.rd.2.1;have Yc:=h2.rd.2.2.1;have Yd:=h3.rd.2.2.1;unfold maxLen at Yc Yd;have Hp:=θ fun i (hi:i<cf.n)=>uq h2 hi;have Hm:=θ fun i (hi:i<mk.length)=>h3.at_ (i:=i) (v:=.int .u32 ((mk.getD i 0:Nat):Int)) (by simp[cO,hi]);have Hq:=θ hq;have Hwd:=θ N6;unfold π;clear h h1 h2 h3 hk hq N6 c0 c1 c2 c3 c4 c5 c6 c7 c8 c9 lK yp ya K1;go_enter func194,ntmps194;go_wp2_with fail;go_loopw [9] (fun iv wr=>∃k:Nat,iv=.int .i64 (k:Nat)/\k<=cf.n/\Ext w wr) (fun iv _=>cf.n-(intOf iv).toNat)
 case atStart=>exact⟨0,rfl,aM _,Ext.refl _⟩
 case round =>
  obtain⟨k,rfl,jk,he⟩:=hrel;by_cases jm:k<cf.n
  .obtain⟨g,rfl,p0,p1,p2,p3,p4,_⟩:=Hp.o k jm
   have hqk:=Hq.o k jm;obtain⟨pz,xZ⟩:=Hwd.o k;generalize (c.words k).1=f at*;generalize (c.words k).2=s at*;replace p2:=he.cell p2;replace p3:=he.cell p3;replace p4:=he.cell p4;have d11:=he.cell oA;have d12:=he.cell Dk;clear p0 p1;rcases hqk with rfl|hqk|⟨Ye,hfm,Yf⟩
   .go_wp2_with fail
    apply iL trivial;repeat first|apply nh p2|apply lU trivial
    refine jq fun Wx ak=>?_;go_wp2;go_roundw
    case rel=>exact⟨k+1,cR,η,he.trans ak⟩
    case measure=>exact dB
   .have e1:=dh ((f:Int)<1)
    have E7:=dh (f<1);have Yg:=dQ (mk.length<f) hqk;go_wp2_with fail;apply iL trivial;repeat first|apply kZ p2 d12|apply lU trivial
    refine jq fun Wx ak=>?_;go_wp2;go_roundw
    case rel=>exact⟨k+1,cR,η,he.trans ak⟩
    case measure=>exact dB
   .have e1:=dh ((f:Int)<1)
    have E7:=dh (f<1);have Yg:=dh (mk.length<f);obtain⟨f1,GA⟩:∃f1,f-1=f1:=⟨_,rfl⟩;rw[GA]at Yf;have hw:cQ.wrap ((f:Int)-1)=(f1:Nat):=by rw[pS _ η];omega
    have agx:f1<mk.length:=η;obtain⟨gm,rfl,Pu,_,_⟩:=Hm.o f1 agx;rw[Yf]at Pu;replace Pu:=he.cell Pu;clear Yf GA;go_wp2_with fail;apply iL trivial;repeat first|apply lx5 p2 p3 p4 d12 Pu|apply lU trivial
    refine jq fun Wx ak=>?_;go_wp2;go_roundw
    case rel=>exact⟨k+1,cR,η,he.trans ak⟩
    case measure=>exact dB
  .obtain rfl:k=cf.n:=by omega
   go_wp2_with fail;go_end0
   exact⟨rfl,he⟩
end
theorem L5:(prog.info? 32).map (fun i=>(i.zero,i.size,i.bytes))=some (some (.int .u32 0),1,4):=ey
theorem J7:(prog.info? 197).map (fun i=>(i.zero,i.size,i.bytes))=some (some (.agg #[.nilIface]),1,16):=ey
section
variable {w w':κ}{T T':Tg}{t b:Nat}{cf:Cf}{me qb:Nat}{ps:Nat->Nat}{c:Cr}{mk:List Nat}
theorem TZ(h:ct w T t b cf me qb ps c mk)(hk:bz cf me c mk)(hu:Θ w T)(s:Nat)(hs:s<4294967296)(hm:mk.length<1000)(hq:Quiet cf c (mk++[s])):τ prog 173 #[π b,.int .u32 (s:Nat)] w (Does (In t 22) w T (.tuple #[]) fun w' T'=>ct w' T' t b cf me qb ps c (mk++[s])):=by
 obtain⟨i0,hi,dx,dA,dN⟩:=info_parts L5;obtain⟨PA,pc,MA,mc,EA,ec,h1,h2,h3,h4⟩:=h.bn;have Yh:bz cf me c (mk++[s]):=⟨hk.ok,hk.me,hk.len,hk.short,hk.now,hk.bx,hk.has,hk.heard,hk.words,by rw[eU,iD];omega,fun x hx=>by
  rcases List.mem_append.1 hx with hx|hx
  .exact hk.yI x hx
  .rw[List.mem_singleton.1 hx];exact hs⟩
 have Dk:=(coreC h1).Dk;have hne:=h1.jY h3 η;have ho:=h3.1;have hd:=dh ((1000:Int)<=(mk.length:Int));have zW:=dh (1000<=mk.length);have H1:=θ h1;have H2:=θ h2;have H3:=θ h3;have H4:=θ h4;have HQ:=θ h.BW;have Yi:=θ fun W T9 (h9:ct W T9 t b cf me qb ps c (mk++[s]))=>xh h9 Yh hq;unfold π at*;clear h h1 h2 h3 h4 hk hq Yh;go_enter func173,ntmps173;go_wp2_with (at_builtin;refine ag _ rfl _ _ 79 rfl 0 32 i0 (.int .u32 0) 1 4 underlying79 hi dx dA dN rfl Γ MA mk.length mc _ rfl ho 1 _ rfl rfl gA iQ η (aM _) ?_;intro E Ed wy fQ fN oY;obtain⟨d12,f12⟩:=H1.o.DN fN hne 12 rfl);obtain⟨hT,hR⟩:=H3.o.append hu fQ fN oY;have hH:=H1.o.ο hT η;obtain⟨bq,oZ⟩:=hH.put (S:=(· = t)) hT.Δ 12 (.slice E (mk.length+1) Ed) rfl;have CF:ct (wy.setCell (b,12) (.slice E (mk.length+1) Ed)) (give T (went MA E) (t+2)) t b cf me qb ps c (mk++[s]):=by
  refine⟨⟨PA,pc,E,Ed,EA,ec,?_,?_,?_,?_⟩,?_⟩
  .rw[eU,iD];exact oZ.is rfl
  .exact(H2.o.ο hT η).ο bq η
  .rw[eU,iD,gS];exact hR.ο bq η
  .exact(H4.o.ο hT η).ο bq η
  .exact(HQ.o.ο hT (fun k _=>η)).ο bq (fun k _=>η)
 refine(Yi.o _ _ CF).mono ?_;rintro e w3 ⟨rfl,e3⟩;go_wp2_with fail;go_end0
 refine⟨rfl,_,((hT.mono fun k hk=>?_).trans (bq.mono fun k hk=>?_)).ext e3,CF.ext e3⟩
 .exact r9
 .exact r9
theorem Iz{T0:Tg}(h:ct w T0 t b cf me qb ps c mk)(hk:bz cf me c mk)(hu:Θ w T0)(k p:Nat)(Dp:(k=1\/k=2)/\p<8):τ prog 215 #[π b,.agg #[k,p,(0:Int)]] w (Does (In t 22) w T0 (.tuple #[]) fun w' T'=>ct w' T' t b cf me qb ps {c with bx:=c.bx++[(k,p)]} mk):=by
 obtain⟨i0,hi,dx,dA,dN⟩:=info_parts J7;obtain⟨PA,pc,MA,mc,EA,ec,h1,h2,h3,h4⟩:=h.bn;have yp:=(coreC h1).yp;have hne:=h1.jY h4 η;have V3:=hk.bx;have H1:=θ h1;have H2:=θ h2;have H3:=θ h3;have H4:=θ h4;have HQ:=θ h.BW;have Hof:=θ fun W=>ael W (k:Nat) (p:Nat) 0 (by rcases Dp.1 with rfl|rfl<;>(simp[afA];omega));unfold π at*;clear h h1 h2 h3 h4 hk;have aiR:evW (k:Nat) (p:Nat) 0=wZ (k,p):=rfl;rw[aiR]at Hof;obtain⟨ty,hX⟩:∃ty,wZ (k,p)=.iface ty (.agg #[.int .i64 (p:Nat)]):=by
  rcases Dp.1 with rfl|rfl
  .exact⟨_,rfl⟩
  .exact⟨_,rfl⟩
 have HX:=θ hX;rw[hX]at Hof;clear aiR Dp hX;go_enter func215,ntmps215;go_wp2_with fail;refine(Hof.o _).mono ?_;rintro e w1 ⟨rfl,e1⟩;have x1:Ext w w1:=(Ext.alloc _ _).trans e1;go_wp2_with fail;generalize KZ:aB w1 _=w0;have x0:Ext w w0:=by subst KZ;exact x1.trans (Ext.alloc _ _)
 have q4:w0.cell? w1.heap.size=some (.iface ty (.agg #[p])):=by subst KZ;go_simp
 have Fc:=x1.size;clear KZ;have fO:=H4.o.ext x0;have jU:=hu.ext x0;have d13:=x0.cell yp;have hnq:bn EA≠some w1.heap.size:=fun e=>by have:=H4.o.lt e;omega
 clear yp;have eL:=(fO).1;have cU:=(fO).cond;have mA:sA (t+3) (fun v _ _=>v=(.agg #[.iface ty (.agg #[p])])):=fun _ _ _ _ _ h _=>h;have eo:∀(v:ξ) (w:κ) (T:Tg),v=(.agg #[.iface ty (.agg #[p])])->v.cells.toList.length=1/\∀y∈v.cells.toList,y.oneCell'=true:=by rintro v w T rfl;exact⟨rfl,Gu⟩
 apply Ar 10 (gR EA) (oM 7 EA) (BL 7 197 1 EA c.bx.length ec (c.bx.map wZ)) (BL.start eL);simp only[tk];repeat apply gF (fun _ h _ _=>aj (h.cell d13 hne) (h.cell q4 hnq))
 apply aE (p:=dI T0 w0.heap.size (fun v _ _=>v=(.agg #[.iface ty (.agg #[p])])) 197) Γ Γ (dI.aQ mA cU _)
 .rfl
 .intro W hR hJ υ;have hB:=dI.made (e:=197) mA hR.size (show uO T0 w0.heap.size (fun v _ _=>v=(.agg #[.iface ty (.agg #[p])])) (.agg #[.iface ty (.agg #[p])]) W from⟨T0,fun _ _=>rfl,fun k hk=>jU k (aF hR.size hk),rfl⟩);refine⟨_,_,?_,(Ext.alloc _ _).grownBy _,.inr (Ext.alloc _ _),hB⟩;go_simp;first|done|rfl
 intro v2;simp only[pu];apply aE (p:=mO T0 w0.heap.size (fun v _ _=>v=(.agg #[.iface ty (.agg #[p])])) (t+3) EA 197 1 (c.bx.length+1) (c.bx.map wZ)) Γ Γ (fun j hj v w w9 h hR=>mO.aQ j hj v w w9 h mA hR)
 .rfl
 .intro W hR hJ υ;exact dF W _ _ 152 rfl 197 i0 (.agg #[.nilIface]) 1 16 underlying152 hi dx dA dN rfl Γ EA c.bx.length ec ((c.bx.map wZ)) rfl (hJ rfl) v2 rfl (υ.1 rfl) eo iQ η cU mA hR.size
 intro v3;simp only[pu];repeat apply gF (fun _ _ _ _=>trivial)
 refine aP ?_;intro W hR gT υ;obtain⟨u1,T1,E,Ed,rfl,cw,BU,ja,pJ⟩:=(υ.1 rfl).fin hR cU;clear υ gT;simp only[dk];have hH:=(H1.o.ext x0).ο cw η;have d13:=hH.zc 13;have f13:=hH.free 13;go_wp2_with fail;go_end0
 obtain⟨bq,oZ⟩:=hH.put (S:=(· = t)) cw.Δ 13 (.slice E (c.bx.length+1) Ed) rfl;refine⟨rfl,T1,((Ξ.ai _ hu x0).trans (cw.mono fun k hk=>?_)).trans (bq.mono fun k hk=>?_),⟨PA,pc,MA,mc,E,Ed,?_,?_,?_,?_⟩,?_⟩
 .exact r9
 .exact r9
 .rw[eU,iD];exact oZ.is rfl
 .exact((H2.o.ext x0).ο cw η).ο bq η
 .exact((H3.o.ext x0).ο cw η).ο bq η
 .rw[eU,iD,gS];refine(ja.ο bq η).to ?_;rw[BU,List.map_cons,List.map_nil,HX.o];rfl
 .exact((HQ.o.ext x0).ο cw (fun k _=>η)).ο bq (fun k _=>η)
end
end Go.Proofs.YtffcefoadaogbaaGreat
