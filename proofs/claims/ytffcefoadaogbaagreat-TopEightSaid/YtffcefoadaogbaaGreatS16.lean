/- A part of the proof. -/
import Derived.Test.YtffcefoadaogbaaGreatS14
import Derived.Test.YtffcefoadaogbaaGreatS15
namespace Go.Proofs.YtffcefoadaogbaaGreat
open Go.RowKit
open Go.Proofs.Tryz
set_option linter.all false
set_option maxRecDepth 100000
set_option maxHeartbeats 16000000
open Go.Value renaming int->af
open _root_.List renaming replicate->cP,length_append->eU,length_map->xN,length_take->tN,take_add_one->oz,map_append->gS,take_of_length_le->jL,mem_append->BG,mem_map->fK,getElem?_eq_getElem->bf,map_map->CV,map_cons->mF,cons_append->zN,mem_cons_of_mem->xS,mem_cons_self->C2,Sublist->ZQ,mem_of_getElem?->sO,getElem?_map->iZ,getElem?_eq_some_iff->iN,mem_singleton->sP,mem_cons->Ad,length_singleton->iD,getElem?_append_left->kn,getElem?_append_right->ij
open _root_.Option renaming some->kI
open _root_.Prod renaming fst->eu
open _root_.Nat renaming le_trans->aF,zero_le->aM,le_refl->aq,lt_of_lt_of_le->eM
open Go.World renaming alloc->aB,setCell->dG,block_lt_of_cell?->mG
open _root_.UInt8 renaming ofNat->eB
open Go renaming World->κ,Value->ξ,Calls->τ
variable{A B E:aS}{Ed base c d cZ g i k m n size:Nat}{G:List Int}{P:Bool->Prop}{S:Nat->Prop}{e:TypeId}{gs:List (Nat×List Int)}{h9:aS×Nat}{hs:List (Option Addr×Nat)}{ks:List Bool}{wy:κ}{x:Br}{xs:List ξ}{α:Type}
section
variable {w w':κ}{T T':Tg}{t b rb g mb n last:Nat}{rf:Nat->Int}{vs:Nat->Nat->Int}{ps:List jJ}{p:jJ}
theorem Qv{P:Program}{vs:List ξ}{fn:Func}{p q:Tmp}{ty:TypeId}(h:fn.results = #[.cell p ty,.tmp q])(tmps:Array ξ)(hp:tmps.getD p undef=.pointer b){n:Nat}{T:TypeId}(hg:sH w b T vs)(hn:vs.length=n)(hu:P.underlying ty=some (.array n e))(hi:(P.info? ty).map (·.size)=some n):(results fn tmps).run P w=.ok (.tuple #[.agg vs.toArray,tmps.getD q undef]) w:=by have JP:tmps[p]?.getD undef=.pointer b:=Td;simp[results,h,JP,asAddr,J2 hu hi hg hn]
def Cq(G:List Int)(i:Nat):List ξ:=(G.take i).map (af .i32)++cP (32-i) (af .i32 0)
theorem Nf(hG:G.length=32)(hi:i<=32):(Cq G i).length=32:=by unfold Cq;rw[eU,xN,tN,List.length_replicate];omega
theorem ZR(hG:G.length=32)(hi:i<32){x:Int}(hx:G[i]?=some x):(Cq G i).set i (.int .i32 x)=Cq G (i+1):=by
 unfold Cq;have hl:((G.take i).map (af .i32)).length=i:=by rw[xN,tN];omega
 rw[List.set_append_right _ _ η,hl,Nat.sub_self,oz,hx,gS,List.append_assoc];congr 1
 rw[show 32-i=(32-(i+1))+1 by omega,List.replicate_succ];rfl
theorem ZS(hG:G.length=32):Cq G 32=G.map (af .i32):=by unfold Cq;rw[jL η];simp
theorem ZT(G:List Int)(i:Nat):∀u∈Cq G i,u.oneCell'=true:=by
 intro u hu;rcases BG.1 hu with hu|hu
 .obtain⟨x,_,rfl⟩:=fK.1 hu;rfl
 .rw[List.eq_of_mem_replicate hu];rfl
theorem Qw(h:fT w T t b rb g mb n rf vs ps last)(ho:vg n rf ps last)(hp:p∈ps)(hl:last<4611686018427387903):τ prog 280 #[π b,p.id] w fun e w'=>e=.returned (.tuple #[.agg (jj (fR vs p)),.bool true])/\Ext w w':=by
 obtain⟨i,hi,hz⟩:∃i,prog.info? 205=some i/\i.zero=some (.agg (cP 32 (af .i32 0)).toArray):=by
  have h9:=uB;cases hq:prog.info? 205 with
  |none=>rw[hq]at h9;cases h9
  |some i=>rw[hq]at h9;exact⟨i,rfl,Ll⟩
 have HA:=θ fun W (e:Ext w W)=>Az (h.ext e) ho.ids hp (Nat.lt_of_le_of_lt (ho.low p hp) η);have HG:=θ fun W (e:Ext w W) i (hi:i<32)=>XZ (h.ext e) ho η hp hi;have hGl:=yY vs p;have afL:=θ fun i (hi:i<32)=>E5 vs p hi;have DK:(Cq (fR vs p) 0).length=32:=Nf hGl η;have hz':i.zero=some (.agg (Cq (fR vs p) 0).toArray):=hz;have YP:=θ fun i (hi:i<32) x=>ZR hGl hi (x:=x);have afJ:=θ fun i (hi:i<=32)=>Nf hGl hi;have bW:=ZS hGl;have sB:=θ (ZT (fR vs p));have oc:=θ bW;unfold π jj at*;clear h ho hz hGl bW;go_enter func280,ntmps280;go_upto_region 1 with (first|(with_reducible refine bA rfl 205 rfl hi hz' ?_;intro W1 FA x1 s1))
 go_upto_region 2 with (first|(with_reducible refine bA rfl 205 rfl hi hz' ?_;intro W2 hA2 x2 s2))
 obtain⟨g4,YJ⟩:∃g4,g4=w.heap.size:=⟨_,rfl⟩;obtain⟨g6,hg6⟩:∃g6,g6=W1.heap.size:=⟨_,rfl⟩;rw[←YJ]at FA⊢;rw[←hg6]at hA2⊢;have H4:=θ (show w.heap.size<=g4 by omega);have H6:=θ (show g4<g6 by omega);have FA:=FA.ext x2;have xx:=x1.trans x2;clear YJ hg6 s1 s2 x1 x2;go_wp2_with fail;refine(HA.o _ xx).mono ?_;rintro e w3 ⟨rfl,hw⟩;subst hw;go_wp2_with fail;go_loopw [13] (fun iv wr=>∃i:Nat,iv=.int .i64 (i:Nat)/\i<=32/\sH wr g4 205 (Cq (fR vs p) 0)/\sH wr g6 205 (Cq (fR vs p) i)/\Ext w wr) (fun iv _=>32-(intOf iv).toNat)
 case atStart=>exact⟨0,rfl,Γ,FA,hA2,xx⟩
 case round =>
  obtain⟨i,rfl,hi,mo,oQ,hx⟩:=hrel;by_cases agY:i<32
  .have HGi:=θ (HG.o wr hx i agY)
   have Kp:=θ mo;have Kh:=θ oQ;clear mo oQ;go_wp2_with fail;refine HGi.o.mono ?_;rintro e w4 ⟨rfl,e4⟩;have oQ:=Kh.o.ext e4;have iU:=oQ.free i;have hlen:=afJ.o i hi;obtain⟨u1,GZ⟩:∃u1,(Cq (fR vs p) i)[i]?=some u1:=⟨_,bf η⟩;have hc:=oQ.cell GZ;have gN:=oQ.set i (.int .i32 (cellOf vs p i));rw[YP.o i agY _ (afL.o i agY)]at gN;have mo:=(Kp.o.ext e4).grown (gG w4 ⟨g6,i,none⟩ (.int .i32 (cellOf vs p i))) (fun e=>by have:=H6.o;have h9:g6=g4:=kI.inj e;omega);have hx4:=Ext.ags (hx.trans e4) (p:=⟨g6,i,none⟩) (show w.heap.size<=g6 by have:=H4.o;have:=H6.o;omega) (.int .i32 (cellOf vs p i));clear oQ Kp Kh hlen GZ;go_wp2;go_roundw
   case rel=>exact⟨i+1,cR,η,mo,gN,hx4⟩
   exact dB
  .obtain rfl:i=32:=by omega
   rw[oc.o]at oQ;have hl6:=afJ.o 32 Γ;rw[oc.o]at hl6;have eo:=sB.o 32;rw[oc.o]at eo;generalize xA:(fR vs p).map (af .i32)=us at*;go_wp2_with (first|(with_reducible refine fH rfl 205 (.tmp 6) rfl rfl underlying205 bu oQ hl6 ?_)|(with_reducible refine bF rfl 205 (.tmp 4) (.tmp 26) rfl rfl rfl mo hl6 DK bu eo ?_;intro Z bZ gZ sZ));have eZ:=Ext.own (B:=some ⟨g4,0,none⟩) hx gZ (fun k hk=>by have h9:g4=k:=kI.inj hk;have:=H4.o;omega);exact bodyPost_ret (Qv rfl _ rfl bZ hl6 underlying205 bu) rfl ⟨by rw[xA];rfl,eZ⟩
end
section
variable {w w':κ}{T T':Tg}{t b n free last:Nat}{gs:List (Nat×List Int)}{x:Nat}{g:List Int}
def nS(gs:List (Nat×List Int))(x:Nat):List (Nat×List Int):=gs.filter fun q=>q.1 != x
def pq(gs:List (Nat×List Int))(x i:Nat)(y:Int):List (Nat×List Int):=gs.map fun q=>(q.1,if q.1=x then q.2.set i y else q.2)
theorem Ng{q:Nat×List Int}:q∈nS gs x↔q∈gs/\q.1≠x:=by simp[nS,List.mem_filter]
theorem Vc(vs:Nat->Nat->Int)(ps:List jJ)(x:Nat):(td ps x).map (fun p=>(p.id,fR vs p))=nS (ps.map fun p=>(p.id,fR vs p)) x:=by unfold td nS;rw[List.filter_map];rfl
section
variable(h:aZ w T t b n free last gs)
include h
theorem aZ.ids:(gs.map eu).Nodup/\∀q∈gs,q.1<=last:=by obtain⟨rb,g,mb,rf,vs,ps,h1,h2,h3,rfl⟩:=h;refine⟨by rw[CV];exact h2.ids,fun q hq=>?_⟩;obtain⟨p,hp,rfl⟩:=fK.1 hq;exact h2.low p hp
theorem aZ.ZU:∀q∈gs,q.2.length=32:=by obtain⟨rb,g,mb,rf,vs,ps,h1,h2,h3,rfl⟩:=h;intro q hq;obtain⟨p,hp,rfl⟩:=fK.1 hq;exact yY _ _
theorem D4(hx:x∈gs.map eu)(hu:Θ w T)(ht:0<t)(hl:last<4611686018427387903)(hn:gs.length<=1000):τ prog 77 #[π b,x] w fun e w'=>e=.returned (.bool true)/\Ξ (In t 5) w T w' T/\∃cZ,free<=cZ/\aZ w' T t b n cZ last (nS gs x):=by obtain⟨rb,g,mb,rf,vs,ps,h1,h2,h3,rfl⟩:=h;rw[CV]at hx;obtain⟨p,hp,rfl⟩:=fK.1 hx;refine(UO h1 h2 hp hu ht hl age).mono ?_;rintro e w' ⟨rfl,hT,ju,k1,k2,k3⟩;have hle:=ql n ju;exact⟨rfl,hT,n-used n ju,η,rb,g,mb,ju,vs,_,k1,k2,η,(Vc vs ps p.id).symm⟩
theorem abU(hx:(x,g)∈gs)(hu:Θ w T)(ht:0<t)(hl:last<4611686018427387903)(hn:gs.length<=1000):τ prog 72 #[π b,x] w (cG (In t 5) w T fun v w' T'=>v=.tuple #[((last+1:Nat):Int),.bool true]/\aZ w' T' t b n free (last+1) (gs++[(last+1,g)])):=by
 obtain⟨rb,gr,mb,rf,vs,ps,h1,h2,h3,rfl⟩:=h;obtain⟨p,hp,e⟩:=fK.1 hx;cases e
 refine(UM h1 h2 hp hu ht hl age).mono ?_;rintro e w' ⟨v,rfl,T',hT,rfl,nb,ju,k1,k2,k3⟩;refine⟨_,rfl,T',hT,rfl,rb,gr,mb,ju,vs,_,k1,k2,η,?_⟩;rw[gS];rfl
theorem at_make(hf:4<=free)(hg:g.length=32)(hu:Θ w T)(ht:0<t)(hl:last<4611686018427387903)(hn:gs.length<=1000):τ prog 142 #[π b,.agg (jj g)] w (cG (In t 5) w T fun v w' T'=>v=.tuple #[((last+1:Nat):Int),.bool true]/\aZ w' T' t b n (free-4) (last+1) (gs++[(last+1,g)])):=by
 obtain⟨rb,gr,mb,rf,vs,ps,h1,h2,h3,rfl⟩:=h;refine(Vb h1 h2 hu ht hl age g hg η).mono ?_;rintro e w' ⟨v,rfl,T',hT,rfl,nb,ju,nj,pg,k1,k2,k3,k4,k5⟩;refine⟨_,rfl,T',hT,rfl,rb,gr,mb,ju,nj,_,k1,k2,η,?_⟩;rw[gS,mF,List.map_nil,k5];congr 1
 exact List.map_congr_left fun q hq=>by rw[k4 q hq]
theorem aeE(k:Nat):τ prog 162 #[π b,k] w fun e w'=>e=.returned (.bool (decide (k<=free)))/\Ext w w':=by obtain⟨rb,gr,mb,rf,vs,ps,h1,h2,h3,rfl⟩:=h;have:=LX h1 k;rwa[show decide (k+used n rf<=n)=decide (k<=free) from decide_eq_decide.2 η]at this
theorem ZV(hx:(x,g)∈gs)(hl:last<4611686018427387903):τ prog 280 #[π b,x] w fun e w'=>e=.returned (.tuple #[.agg (jj g),.bool true])/\Ext w w':=by
 obtain⟨rb,gr,mb,rf,vs,ps,h1,h2,h3,rfl⟩:=h;obtain⟨p,hp,e⟩:=fK.1 hx;cases e
 exact Qw h1 h2 hp hl
theorem ZW(hx:x∈gs.map eu)(hl:last<4611686018427387903):τ prog 127 #[π b,x] w fun e w'=>(∃B d,e=.returned (.slice B 4 d))/\Ext w w':=by obtain⟨rb,gr,mb,rf,vs,ps,h1,h2,h3,rfl⟩:=h;rw[CV]at hx;obtain⟨p,hp,rfl⟩:=fK.1 hx;exact(Fy h1 h2 hp hl).mono fun _ _ ⟨B,d,h1,_,h2⟩=>⟨⟨B,d,h1⟩,h2⟩
end
end

def kr{α:Type}:List α->List Bool->List α
 |x::l,k::ks=>if k then x::kr l ks else kr l ks
 |_,_=>[]
def left(gs:List (Nat×List Int)):List Br->List Bool->List (Nat×List Int)
 |x::l,k::ks=>left (if k then gs else nS gs x.jP) l ks
 |_,_=>gs
theorem Nh{α:Type}(x:α)(k:Bool):∀(l:List α) (ks:List Bool),ks.length=l.length->kr (l++[x]) (ks++[k])=if k then kr l ks++[x] else kr l ks
 | [],[],_=>by cases k<;>rfl
 |y::l,q::ks,h=>by rw[zN,zN,kr,kr,Nh x k l ks Lh];cases q<;>cases k<;>simp
 | [],q::ks,h=>by simp at h
 |y::l,[],h=>by simp at h
theorem I6(x:Br)(k:Bool):∀(gs:List (Nat×List Int)) (l:List Br) (ks:List Bool),ks.length=l.length->left gs (l++[x]) (ks++[k])=if k then left gs l ks else nS (left gs l ks) x.jP
 |gs,[],[],_=>by cases k<;>rfl
 |gs,y::l,q::ks,h=>by rw[zN,zN,left,left,I6 x k _ l ks Lh]
 |gs,[],q::ks,h=>by simp at h
 |gs,y::l,[],h=>by simp at h
theorem Ni:∀{gs:List (Nat×List Int)}{l:List Br}{ks:List Bool}{q:Nat×List Int},q∈gs->(∀x∈l,x.jP≠q.1)->q∈left gs l ks
 |gs,[],ks,q,h,_=>h
 |gs,x::l,[],q,h,_=>h
 |gs,x::l,k::ks,q,h,hn=>by
  rw[left];refine Ni ?_ fun y hy=>hn y (xS _ hy);split
  .exact h
  .exact Ng.2 ⟨h,fun e=>hn x C2 e.symm⟩
theorem wu:∀{gs:List (Nat×List Int)}{l:List Br}{ks:List Bool},(left gs l ks).Sublist gs
 |gs,[],ks=>ZQ.refl _
 |gs,x::l,[]=>ZQ.refl _
 |gs,x::l,k::ks=>by
  rw[left];refine(wu (l:=l) (ks:=ks)).trans ?_;split
  .exact ZQ.refl _
  .exact List.filter_sublist
theorem nY{α:Type}:∀(l:List α) (ks:List Bool),(kr l ks).Sublist l
 | [],_=>by simp[kr]
 |x::l,[]=>by simp[kr]
 |x::l,k::ks=>by
  rw[kr];split
  .exact(nY l ks).cons_cons x
  .exact(nY l ks).cons x
theorem D5{α β:Type}:∀(l:List α) (m:List β) (ks:List Bool),l.length=m.length->(kr l ks).length=(kr m ks).length
 | [],[],ks,_=>by cases ks<;>rfl
 |x::l,y::m,[],_=>rfl
 |x::l,y::m,k::ks,h=>by
  rw[kr,kr];cases k
  .simpa using D5 l m ks Lh
  .simpa using D5 l m ks Lh
 | [],_::_,_,h=>by simp at h
 |_::_,[],_,h=>by simp at h
theorem KI{α β:Type}:∀(l:List α) (m:List β) (ks:List Bool) (i:Nat) (x:α) (y:β),l.length=m.length->(kr l ks)[i]?=some x->(kr m ks)[i]?=some y->∃j:Nat,l[j]?=some x/\m[j]?=some y
 |a::l,c::m,k::ks,i,x,y,h,hx,hy=>by
  rw[kr]at hx hy;cases k
  .obtain⟨j,h1,h2⟩:=KI l m ks i x y Lh (by simpa using hx) (by simpa using hy);exact⟨j+1,by simpa using h1,Gw⟩
  .cases i with
   |zero=>exact⟨0,by simpa using hx,by simpa using hy⟩
   |succ i =>obtain⟨j,h1,h2⟩:=KI l m ks i x y Lh (by simpa using hx) (by simpa using hy);exact⟨j+1,by simpa using h1,Gw⟩
 | [],_,ks,i,x,y,_,hx,_=>by simp[kr]at hx
 |_::_,[],ks,i,x,y,h,_,_=>by simp at h
 |_::_,_::_,[],i,x,y,_,hx,_=>by simp[kr]at hx
theorem AY{α:Type}:∀(l:List α) (ks:List Bool),(∀k∈ks,k=false)->kr l ks=[]
 | [],_,_=>by simp[kr]
 |x::l,[],_=>by simp[kr]
 |x::l,k::ks,h=>by rw[kr,h k C2];simpa using AY l ks fun k hk=>h k (xS _ hk)
theorem I7{l:List Br}(hx:l[k]?=some x)(SF:(l.map Br.jP).Nodup)(jI:∀x∈l,x.jP∈gs.map eu):x.jP∈(left gs (l.take k) ks).map eu:=by
 obtain⟨q,hq,e⟩:=fK.1 (jI x (sO hx));refine fK.2 ⟨q,Ni hq fun y hy h=>?_,e⟩;obtain⟨j,hj⟩:=List.mem_iff_getElem?.1 hy;rw[List.getElem?_take]at hj;split at hj
 .rename_i JV
  have h1:(l.map Br.jP)[j]?=some x.jP:=by rw[iZ,hj];simp[h,e]
  have h2:(l.map Br.jP)[k]?=some x.jP:=by rw[iZ,hx];rfl
  obtain⟨h3,h3'⟩:=iN.1 h1;obtain⟨h4,h4'⟩:=iN.1 h2;have:=(List.getElem_inj SF).1 (h3'.trans h4'.symm);omega
 .cases hj
section
variable {w w' wr:κ}{T T':Tg}{t b sb dz last aL fr ts n free dg:Nat}{l:List Br}{gs:List (Nat×List Int)}
theorem dY.kept{rb mb:Nat}{rf:Nat->Int}{vs:Nat->Nat->Int}{pm ps:List jJ}(h:dY w T t b rb g mb n rf vs pm ps last)(ht:0<t)(hk:Kept T T'):dY w T' t b rb g mb n rf vs pm ps last :=
 ⟨h.hd.kept η hk,(hk mb (by rw[h.tm];omega)).trans h.tm,(hk rb (by rw[h.tr];omega)).trans h.tr,(hk g (by rw[h.tg];omega)).trans h.tg,h.Ay,h.room,fun p hp=>(h.vh p hp).kept η hk⟩
theorem aZ.kept(h:aZ w T t b n free last gs)(ht:0<t)(hk:Kept T T'):aZ w T' t b n free last gs:=by obtain⟨rb,g,mb,rf,vs,ps,h1,h2⟩:=h;exact⟨rb,g,mb,rf,vs,ps,h1.kept ht hk,h2⟩
def iJ(w:κ)(T:Tg)(sb fr ts n free dg:Nat)(l:List Br)(hs:List (Option Addr×Nat))(gs:List (Nat×List Int))(P:Bool->Prop)(lv iv:ξ)(wr:κ):Prop :=
 ∃(k:Nat) (ks:List Bool) (B:aS) (d cZ:Nat),iv=.int .i64 (k:Nat)/\k<=l.length/\ks.length=k/\(∀q∈ks,P (!q))/\lv=.slice B (kr (l.take k) ks).length d/\Own wr w.heap.size 136 5 B (kr (l.take k) ks).length d (oH fr (kr (l.take k) ks) (kr (hs.take k) ks)) /\
  free<=cZ/\aZ wr T ts sb n cZ dg (left gs (l.take k) ks)/\Ξ (In ts 5) w T wr T
def AZ(t b sb dz last aL fr ts n free dg:Nat)(l:List Br)(gs:List (Nat×List Int))(P:Bool->Prop)(v:ξ)(w':κ)(T':Tg):Prop :=
 ∃(r:Int) (ks:List Bool) (ep cZ:Nat),v=.int .i64 r/\ks.length=l.length/\(∀q∈ks,P (!q))/\free<=cZ/\ep<=aL+1/\aZ w' T' ts sb n cZ dg (left gs l ks)/\fB w' T' t b sb dz last ep fr (kr l ks)
theorem FL{l:List α}{x:α}(h:l[k]?=some x):l.take (k+1)=l.take k++[x]:=by rw[oz,h];rfl
theorem qC{l:List α}{x:α}(h:l[k]?=some x)(hk:ks.length=k)(q:Bool):kr (l.take (k+1)) (ks++[q])=if q then kr (l.take k) ks++[x] else kr (l.take k) ks:=by have jm:=(iN.1 h).1;rw[FL h,Nh x q _ _ (by rw[hk,tN];omega)]
theorem FM(h:l[k]?=some x)(hk:ks.length=k)(q:Bool):left gs (l.take (k+1)) (ks++[q])=if q then left gs (l.take k) ks else nS (left gs (l.take k) ks) x.jP:=by have jm:=(iN.1 h).1;rw[FL h,I6 x q _ _ _ (by rw[hk,tN];omega)]
theorem iJ.gone{tL:Nat}(hx:l[k]?=some x)(hh:hs[k]?=some h9)(hk:ks.length=k)(hP:∀q∈ks,P (!q))(Nj:P true)(hO:Own wy w.heap.size 136 5 B (kr (l.take k) ks).length d (oH fr (kr (l.take k) ks) (kr (hs.take k) ks)))(hf:free<=cZ)(Ge:cZ<=tL)(hS:aZ wy T ts sb n tL dg (nS (left gs (l.take k) ks) x.jP))(hT:Ξ (In ts 5) w T wy T):iJ w T sb fr ts n free dg l hs gs P (.slice B (kr (l.take k) ks).length d) (.int .i64 ((k+1:Nat):Int)) wy:=by
 have jm:=(iN.1 hx).1;refine⟨k+1,ks++[false],B,d,tL,rfl,jm,by simp[hk],fun q hq=>?_,?_,?_,aF hf Ge,?_,hT⟩
 .rcases BG.1 hq with hq|hq
  .exact hP q hq
  .rw[sP.1 hq];exact Nj
 .rw[qC hx hk];rfl
 .rw[qC hx hk,qC hh hk];exact hO
 .rw[FM hx hk];exact hS
theorem iJ.stays{w3:κ}(hx:l[k]?=some x)(hh:hs[k]?=some h9)(hl:hs.length=l.length)(hk:ks.length=k)(hP:∀q∈ks,P (!q))(Nj:P false)(hO:Own w3 w.heap.size 136 5 B (kr (l.take k) ks).length d (oH fr (kr (l.take k) ks) (kr (hs.take k) ks)))(hf:free<=cZ)(hS:aZ w3 T ts sb n cZ dg (left gs (l.take k) ks))(hT:Ξ (In ts 5) w T w3 T)(hu:Θ w T)(zL:0<ts)(fQ:Own wy w.heap.size 136 5 E ((kr (l.take k) ks).length+1) Ed (oH fr (kr (l.take k) ks) (kr (hs.take k) ks)++we fr x h9))(hg:w3.grownBy wy (bn B)):iJ w T sb fr ts n free dg l hs gs P (.slice E ((kr (l.take k) ks).length+1) Ed) (.int .i64 ((k+1:Nat):Int)) wy:=by
 have jm:=(iN.1 hx).1;have bq:Ξ (· = 0) w3 T wy T:=Ξ.om hT.Δ hg fun g hg=>hu g (hO.ax g hg);refine⟨k+1,ks++[true],E,Ed,cZ,rfl,jm,by simp[hk],fun q hq=>?_,?_,?_,hf,?_,hT.grown hg fun g hg=>.inr (hO.ax g hg)⟩
 .rcases BG.1 hq with hq|hq
  .exact hP q hq
  .rw[sP.1 hq];exact Nj
 .rw[qC hx hk];simp
 .rw[qC hx hk,qC hh hk,if_pos rfl,if_pos rfl,eU,AP fr x h9 _ _ (D5 _ _ _ (by rw[tN,tN,hl]))];exact fQ
 .rw[FM hx hk];exact hS.ο bq fun j hj=>Jw
section
variable(h:Own w base e size B m d xs)
include h
theorem Own.fc(hb:∀k,bn B=some k->w'.heap[k]?=w.heap[k]?):Own w' base e size B m d xs:=by
 refine⟨h.1,?_⟩;rcases h.2 with h2|⟨g,cap,cur,hv,vc,hg,rest⟩
 .exact .inl h2
 .refine .inr ⟨g,cap,cur,hv,vc,?_,rest⟩
  injection hv with h1 _ _
  rw[hb g (by rw[h1];rfl)];exact hg
theorem Own.Gf(hk:bn B=some k):k<w.heap.size:=by obtain⟨a,ha,rfl⟩:=Option.map_eq_some_iff.1 hk;exact(h.gU a ha).2
theorem Own.ο(hT:Ξ S w T w' T')(h0:∀k,base<=k->T k=0)(hs:¬S 0):Own w' base e size B m d xs :=
 h.fc fun k hk=>hT.block k (h.Gf hk) (by rw[h0 k (h.ax k hk)];exact hs)
end
theorem iJ.fin(hu:Θ w T)(ht:0<t)(zL:0<ts)(FN:t+2<=ts\/ts+5<=t)(hl:hs.length=l.length)(hm8:l.length<=dz)(hH:Has w T t b [π sb,dz,.slice A l.length c,last,aL])(vk:∀(i:Nat) x h,l[i]?=some x->hs[i]?=some h->Sp w T h.1 x.ν.length h.2 x.ν)(hk:ks.length=l.length)(hP:∀q∈ks,P (!q))(hO:Own wr w.heap.size 136 5 B (kr l ks).length d (oH fr (kr l ks) (kr hs ks)))(hf:free<=cZ)(hS:aZ wr T ts sb n cZ dg (left gs l ks))(hT:Ξ (In ts 5) w T wr T):∃T1,Ξ (fun j=>j=t\/j=t+1\/In ts 5 j) w T wr T1/\Has wr T1 t b [π sb,dz,.slice A l.length c,last,aL]/\∀W ep,Ξ (· = t) wr T1 W T1->Has W T1 t b [π sb,dz,.slice B (kr l ks).length d,last,(ep:Nat)]->aZ W T1 ts sb n cZ dg (left gs l ks)/\fB W T1 t b sb dz last ep fr (kr l ks):=by
 have hK:∀k,went none B k=true->bn B=some k:=fun k hk=>by simp only[went,decide_eq_true_eq]at hk;exact hk.1
 have Nk:Kept T (give T (went none B) (t+1)):=Kept.give fun k hk=>hu k (hO.ax k (hK k hk));have cw:Ξ (fun j=>j=t\/j=t+1\/In ts 5 j) w T wr (give T (went none B) (t+1)):=Ξ.give (hT.mono fun j hj=>.inr (.inr hj)) _ _ fun k hk=>⟨hO.ax k (hK k hk),hO.Gf (hK k hk)⟩;have Sf:¬In ts 5 t:=cN;refine⟨_,cw,(hH.ο hT Sf).kept η Nk,fun W ep US hHW=>?_⟩;have mz:Row wr (give T (went none B) (t+1)) (t+1) 136 5 B (kr l ks).length d (oH fr (kr l ks) (kr hs ks)):=⟨hO.mono (aM _),fun k hk=>wR (by simp only[went,decide_eq_true_eq];exact⟨hk,kW⟩)⟩;have h0:¬(fun j=>j=t\/j=t+1\/In ts 5 j) 0:=by
  show ¬(0=t\/0=t+1\/In ts 5 0)
  unfold In;omega
 refine⟨(hS.kept zL Nk).ο US fun j hj e=>by subst e;exact Sf hj,⟨aF (nY l ks).length_le hm8,B,d,kr hs ks,(D5 _ _ _ hl.symm).symm,hHW,mz.ο US η,fun i x h hi hh=>?_⟩⟩;obtain⟨j,h1,h2⟩:=KI l hs ks i x h hl.symm hi hh;exact((vk j x h h1 h2).ο cw h0).ο US η
end
section
variable {w w' wr:κ}{T T':Tg}{t b sb dz last aL fr ts n free dg:Nat}{l:List Br}{gs:List (Nat×List Int)}{P:Bool->Prop}
theorem I8(kb:Nat)(h:fB w T t b sb dz last aL fr l)(hm:dz<=8)(hS:aZ w T ts sb n free dg gs)(hu:Θ w T)(ht:0<t)(zL:0<ts)(FN:t+2<=ts\/ts+5<=t)(yy:dg<4611686018427387903)(hep:aL<4611686018427387903)(hn:gs.length<=1000)(SF:(l.map Br.jP).Nodup)(jI:∀x∈l,x.jP∈gs.map eu)(HW:∀W x h,Ξ (In ts 5) w T W T->x∈l->Sp W T h.1 x.ν.length h.2 x.ν->τ prog 294 #[GP fr x h,.pointer kb] W fun e w'=>(∃r,e=.returned (.bool r)/\P r)/\Ext W w'):τ prog 293 #[π b,.func (.func 294) #[] #[.pointer kb]] w (cG (fun j=>j=t\/j=t+1\/In ts 5 j) w T (AZ t b sb dz last aL fr ts n free dg l gs P)):=by
 obtain⟨i0,hi,dx,dA,dN⟩:=info_parts DW;have mj:=aF h.tH hm;obtain⟨A,c,hs,a1,a2,a3,a4⟩:=h.bn;have b2:=a2.zc 2;have Dn:=a3.rd.2;have Sf:¬In ts 5 t:=cN;have ZX:¬In ts 5 (t+1):=cN;have Uc:¬In ts 5 0:=cN;have eH:iJ w T sb fr ts n free dg l hs gs P (.slice none 0 0) (.int .i64 ((0:Nat):Int)) w:=⟨0,[],none,0,free,rfl,aM _,rfl,fun q hq=>by simp at hq,by simp[kr],by simpa [kr,oH] using Own.dR _ _ _ _,aq _,by simpa [left] using hS,Ξ.refl _ hu⟩;have kR:=θ eH;have AO:=θ a1;have K5:=θ a2;have Oh:=θ a3;have Sk:=θ a4;have HM:=θ h.tH;have HHW:=θ HW;have Hnd:=θ SF;have Hin:=θ jI;have HUN:=θ hu;obtain⟨N,hN⟩:∃N,N=l.length:=⟨_,rfl⟩;have HN:=θ hN;rw[←hN]at b2 mj Dn;have hmx:=Dn.2.1;unfold maxLen at hmx;unfold π at*;clear h hS a1 a2 a3 a4 eH HW SF jI hu hN Dn;go_enter func293,ntmps293;go_wp2_with fail;go_loopw [6,21] (fun lv iv wr=>iJ w T sb fr ts n free dg l hs gs P lv iv wr) (fun _ iv _=>N-(intOf iv).toNat)
 case atStart=>exact kR.o
 case round =>
  obtain⟨k,ks,B,d,cZ,rfl,hk,K4,hP,rfl,hO,hf,hS,hT⟩:=hrel;rw[←HN.o]at hk;by_cases jk:k<N
  .obtain⟨x,hx⟩:∃x,l[k]?=some x:=⟨_,bf (by rw[←HN.o];exact jk)⟩
   obtain⟨h9,hh⟩:∃h,hs[k]?=some h:=⟨_,bf (by rw[AO.o,←HN.o];exact jk)⟩;have a3:=Oh.o.ο hT ZX;have q:=fun j v hv=>tG fr l hs k x h9 hx hh j v hv;obtain⟨g,rfl,k0,_,_⟩:=a3.at_ (q 0 _ rfl);obtain⟨g',e',k1,_,_⟩:=a3.at_ (q 1 _ rfl);cases e'
   obtain⟨g',e',k2,_,_⟩:=a3.at_ (q 2 _ rfl);cases e'
   obtain⟨g',e',k3,_,_⟩:=a3.at_ (q 3 _ rfl);cases e'
   obtain⟨g',e',k4,_,_⟩:=a3.at_ (q 4 _ rfl);cases e'
   rw[Nat.add_zero]at k0;clear q a3;have vk:=Sk.o k x h9 hx hh;have HHx:=θ fun W (US:Ξ (In ts 5) w T W T)=>HHW.o W x h9 US (sO hx) (vk.ο US Uc);have ZY:=θ fun wy Nj tL hO Ge hS hT=>iJ.gone (T:=T) (sb:=sb) (fr:=fr) (ts:=ts) (n:=n) (dg:=dg) (gs:=gs) (B:=B) (d:=d) (w:=w) (P:=P) (wy:=wy) (tL:=tL) hx hh K4 hP Nj hO hf Ge hS hT;have FO:=θ fun w3 wy Nj E Ed hO hS hT fQ hg=>iJ.stays (T:=T) (sb:=sb) (fr:=fr) (ts:=ts) (n:=n) (dg:=dg) (gs:=gs) (B:=B) (d:=d) (w:=w) (P:=P) (w3:=w3) (wy:=wy) (E:=E) (Ed:=Ed) hx hh AO.o K4 hP Nj hO hf hS hT HUN.o zL fQ hg;have agZ:=I7 (ks:=ks) hx Hnd.o Hin.o;have hlen:=aF (wu (gs:=gs) (l:=l.take k) (ks:=ks)).length_le hn;have eo:∀u∈we fr x h9,u.oneCell'=true:=by
    intro u hu;simp[we]at hu
    rcases hu with rfl|rfl|rfl|rfl|rfl<;>rfl
   have sB:=θ eo;have HO:=θ hO;have HS:=θ hS;have HT:=θ hT;have ZZ:(kr (l.take k) ks).length<=k:=by have:=(nY (l.take k) ks).length_le;rw[tN]at this;omega
   obtain⟨A9,c9⟩:=h9;unfold GP we at HHx;unfold we at FO sB;dsimp only at HHx FO sB
   clear hx hh vk K4 hP hO hS hT eo;generalize (kr (l.take k) ks).length=m at*;generalize oH fr (kr (l.take k) ks) (kr (hs.take k) ks)=xs at*;generalize left gs (l.take k) ks=gs2 at*;generalize x.ν.length=pl at*;generalize x.id=i1 at*;generalize x.done=i3 at*;generalize x.jP=i4 at*;go_upto_region 8 with fail
   have b1:=Has.new wr (fun _=>0) [i1,fr,.slice A9 pl c9,i3,i4] 136 rfl;have vZ:=Ext.alloc wr (.cells #[i1,fr,.slice A9 pl c9,i3,i4] 136);generalize hW:aB wr _=W at*;obtain⟨gv,DV⟩:∃gv,gv=wr.heap.size:=⟨_,rfl⟩;rw[←DV]at b1⊢;clear hW DV k0 k1 k2 k3 k4;have j0:=b1.zc 0;have j1:=b1.zc 1;have j2:=b1.zc 2;have j3:=b1.zc 3;have j4:=b1.zc 4;go_wp2_with fail;refine(HHx.o W (HT.o.ext vZ)).mono ?_;rintro e w3 ⟨⟨r,rfl,hPr⟩,e3⟩;have Oj:=vZ.trans e3;have cT:=HT.o.ext Oj;have AL:=HS.o.ext Oj;have U5:=HO.o.ext Oj;have b3:=b1.ext e3;clear j0 j1 j2 j3 j4 b1;cases r with
   |true =>
    have b0:=(K5.o.ο cT Sf).zc 0;have j4:=b3.zc 4;have Vd:=θ fun W (e:Ext w3 W)=>D4 (AL.ext e) agZ (cT.Δ.ext e) zL yy hlen;unfold π at Vd;clear b3 AL;go_wp2_with fail;apply lG 6;simp only[tk];repeat apply kZ b0 j4
    refine jq fun Wx ak=>?_;simp only[dk];go_wp2_with fail;refine(Vd.o Wx ak).mono ?_;rintro e w5 ⟨rfl,kT,tL,Ge,Qu⟩;have hO5:=(U5.ext ak).ο kT HUN.o Uc;have ag0:=(cT.ext ak).trans kT;clear kT cT U5;go_wp2;go_roundw
    case rel=>exact ZY.o w5 hPr tL hO5 Ge Qu ag0
    exact dB
   |false =>
    have j0:=b3.zc 0;have j1:=b3.zc 1;have j2:=b3.zc 2;have j3:=b3.zc 3;have j4:=b3.zc 4;have N3:=sB.o;have alP:=cT.size;clear b3;go_wp2_with (at_builtin;refine ag _ rfl _ _ 166 rfl _ 136 i0 brZ 5 56 underlying166 hi dx dA dN rfl Γ B m d _ rfl U5 1 _ rfl rfl N3 iQ η η ?_;intro E Ed wy fQ fN oY);go_roundw
    case rel=>exact FO.o w3 wy hPr E Ed U5 AL cT fQ fN
    exact dB
  .obtain rfl:k=N:=by omega
   have Di:=dh (k<k);have vr:l.take k=l:=jL (by rw[←HN.o];exact aq _);have hth:hs.take k=hs:=jL (by rw[AO.o,←HN.o];exact aq _);rw[vr,hth]at hO;rw[vr]at hS;have ZZ:=(nY l ks).length_le;rw[←HN.o]at ZZ;obtain⟨T1,cw,lJ,gf⟩:=iJ.fin (fr:=fr) (P:=P) HUN.o ht zL FN AO.o HM.o K5.o Sk.o (K4.trans HN.o) hP hO hf hS hT;have l8:=θ cw;have AA:=θ gf;have HF:=θ hf;have HPP:=θ hP;have Hks:=θ (K4.trans HN.o);rw[vr];have c2:=lJ.zc 2;have f2:=lJ.free 2;obtain⟨bq,oZ⟩:=lJ.put (S:=(· = t)) cw.Δ 2 (.slice B (kr l ks).length d) rfl;have jr:=θ bq;have Oe:=θ oZ;clear hO hS hT cw gf hP hf K4 vr hth bq oZ lJ;generalize hm9:(kr l ks).length=m at*;by_cases TA:m<k
   .have hw9:=ej ((aL:Int)+1)
    go_upto_region 13 with fail
    generalize hW:dG wr _ _=W2 at*;clear hW c2 f2;have c4:=Oe.o.zc 4;have f4:=Oe.o.free 4;obtain⟨cT,CO⟩:=Oe.o.put (S:=(· = t)) jr.o.Δ 4 (.int .i64 ((aL+1:Nat):Int)) rfl;have rY:((aL+1:Nat):Int)=(aL:Int)+1:=η;have HF9:=θ (AA.o _ (aL+1) (jr.o.trans cT) CO);have GN:=θ (l8.o.trans ((jr.o.trans cT).mono fun j hj=>.inl hj));rw[rY]at HF9 GN;clear cT CO;go_wp2;go_ret;exact⟨_,rfl,T1,GN.o,_,ks,aL+1,cZ,rfl,Hks.o,HPP.o,HF.o,aq _,HF9.o⟩
   .have HF9:=θ (AA.o _ aL jr.o Oe.o);have GN:=θ (l8.o.trans (jr.o.mono fun j hj=>.inl hj));go_wp2;go_ret;exact⟨_,rfl,T1,GN.o,_,ks,aL,cZ,rfl,Hks.o,HPP.o,HF.o,Nat.le_succ _,HF9.o⟩
theorem Qx (h:fB w T t b sb dz last aL fr l)(hm:dz<=8)(hS:aZ w T ts sb n free dg gs)(hu:Θ w T)(ht:0<t)(zL:0<ts)(FN:t+2<=ts\/ts+5<=t)(yy:dg<4611686018427387903)(hep:aL<4611686018427387903)(hn:gs.length<=1000)(SF:(l.map Br.jP).Nodup)(jI:∀x∈l,x.jP∈gs.map eu)(HW:∀W x h,Ξ (In ts 5) w T W T->x∈l->Sp W T h.1 x.ν.length h.2 x.ν->τ prog 324 #[GP fr x h] W fun e w'=>(∃r,e=.returned (.bool r)/\P r)/\Ext W w'):τ prog 293 #[π b,.func (.func 324) #[] #[]] w (cG (fun j=>j=t\/j=t+1\/In ts 5 j) w T (AZ t b sb dz last aL fr ts n free dg l gs P)):=by
 obtain⟨i0,hi,dx,dA,dN⟩:=info_parts DW;have mj:=aF h.tH hm;obtain⟨A,c,hs,a1,a2,a3,a4⟩:=h.bn;have b2:=a2.zc 2;have Dn:=a3.rd.2;have Sf:¬In ts 5 t:=cN;have ZX:¬In ts 5 (t+1):=cN;have Uc:¬In ts 5 0:=cN;have eH:iJ w T sb fr ts n free dg l hs gs P (.slice none 0 0) (.int .i64 ((0:Nat):Int)) w:=⟨0,[],none,0,free,rfl,aM _,rfl,fun q hq=>by simp at hq,by simp[kr],by simpa [kr,oH] using Own.dR _ _ _ _,aq _,by simpa [left] using hS,Ξ.refl _ hu⟩;have kR:=θ eH;have AO:=θ a1;have K5:=θ a2;have Oh:=θ a3;have Sk:=θ a4;have HM:=θ h.tH;have HHW:=θ HW;have Hnd:=θ SF;have Hin:=θ jI;have HUN:=θ hu;obtain⟨N,hN⟩:∃N,N=l.length:=⟨_,rfl⟩;have HN:=θ hN;rw[←hN]at b2 mj Dn;have hmx:=Dn.2.1;unfold maxLen at hmx;unfold π at*;clear h hS a1 a2 a3 a4 eH HW SF jI hu hN Dn;go_enter func293,ntmps293;go_wp2_with fail;go_loopw [6,21] (fun lv iv wr=>iJ w T sb fr ts n free dg l hs gs P lv iv wr) (fun _ iv _=>N-(intOf iv).toNat)
 case atStart=>exact kR.o
 case round =>
  obtain⟨k,ks,B,d,cZ,rfl,hk,K4,hP,rfl,hO,hf,hS,hT⟩:=hrel;rw[←HN.o]at hk;by_cases jk:k<N
  .obtain⟨x,hx⟩:∃x,l[k]?=some x:=⟨_,bf (by rw[←HN.o];exact jk)⟩
   obtain⟨h9,hh⟩:∃h,hs[k]?=some h:=⟨_,bf (by rw[AO.o,←HN.o];exact jk)⟩;have a3:=Oh.o.ο hT ZX;have q:=fun j v hv=>tG fr l hs k x h9 hx hh j v hv;obtain⟨g,rfl,k0,_,_⟩:=a3.at_ (q 0 _ rfl);obtain⟨g',e',k1,_,_⟩:=a3.at_ (q 1 _ rfl);cases e'
   obtain⟨g',e',k2,_,_⟩:=a3.at_ (q 2 _ rfl);cases e'
   obtain⟨g',e',k3,_,_⟩:=a3.at_ (q 3 _ rfl);cases e'
   obtain⟨g',e',k4,_,_⟩:=a3.at_ (q 4 _ rfl);cases e'
   rw[Nat.add_zero]at k0;clear q a3;have vk:=Sk.o k x h9 hx hh;have HHx:=θ fun W (US:Ξ (In ts 5) w T W T)=>HHW.o W x h9 US (sO hx) (vk.ο US Uc);have ZY:=θ fun wy Nj tL hO Ge hS hT=>iJ.gone (T:=T) (sb:=sb) (fr:=fr) (ts:=ts) (n:=n) (dg:=dg) (gs:=gs) (B:=B) (d:=d) (w:=w) (P:=P) (wy:=wy) (tL:=tL) hx hh K4 hP Nj hO hf Ge hS hT;have FO:=θ fun w3 wy Nj E Ed hO hS hT fQ hg=>iJ.stays (T:=T) (sb:=sb) (fr:=fr) (ts:=ts) (n:=n) (dg:=dg) (gs:=gs) (B:=B) (d:=d) (w:=w) (P:=P) (w3:=w3) (wy:=wy) (E:=E) (Ed:=Ed) hx hh AO.o K4 hP Nj hO hf hS hT HUN.o zL fQ hg;have agZ:=I7 (ks:=ks) hx Hnd.o Hin.o;have hlen:=aF (wu (gs:=gs) (l:=l.take k) (ks:=ks)).length_le hn;have eo:∀u∈we fr x h9,u.oneCell'=true:=by
    intro u hu;simp[we]at hu
    rcases hu with rfl|rfl|rfl|rfl|rfl<;>rfl
   have sB:=θ eo;have HO:=θ hO;have HS:=θ hS;have HT:=θ hT;have ZZ:(kr (l.take k) ks).length<=k:=by have:=(nY (l.take k) ks).length_le;rw[tN]at this;omega
   obtain⟨A9,c9⟩:=h9;unfold GP we at HHx;unfold we at FO sB;dsimp only at HHx FO sB
   clear hx hh vk K4 hP hO hS hT eo;generalize (kr (l.take k) ks).length=m at*;generalize oH fr (kr (l.take k) ks) (kr (hs.take k) ks)=xs at*;generalize left gs (l.take k) ks=gs2 at*;generalize x.ν.length=pl at*;generalize x.id=i1 at*;generalize x.done=i3 at*;generalize x.jP=i4 at*;go_upto_region 8 with fail
   have b1:=Has.new wr (fun _=>0) [i1,fr,.slice A9 pl c9,i3,i4] 136 rfl;have vZ:=Ext.alloc wr (.cells #[i1,fr,.slice A9 pl c9,i3,i4] 136);generalize hW:aB wr _=W at*;obtain⟨gv,DV⟩:∃gv,gv=wr.heap.size:=⟨_,rfl⟩;rw[←DV]at b1⊢;clear hW DV k0 k1 k2 k3 k4;have j0:=b1.zc 0;have j1:=b1.zc 1;have j2:=b1.zc 2;have j3:=b1.zc 3;have j4:=b1.zc 4;go_wp2_with fail;refine(HHx.o W (HT.o.ext vZ)).mono ?_;rintro e w3 ⟨⟨r,rfl,hPr⟩,e3⟩;have Oj:=vZ.trans e3;have cT:=HT.o.ext Oj;have AL:=HS.o.ext Oj;have U5:=HO.o.ext Oj;have b3:=b1.ext e3;clear j0 j1 j2 j3 j4 b1;cases r with
   |true =>
    have b0:=(K5.o.ο cT Sf).zc 0;have j4:=b3.zc 4;have Vd:=θ fun W (e:Ext w3 W)=>D4 (AL.ext e) agZ (cT.Δ.ext e) zL yy hlen;unfold π at Vd;clear b3 AL;go_wp2_with fail;apply lG 6;simp only[tk];repeat apply kZ b0 j4
    refine jq fun Wx ak=>?_;simp only[dk];go_wp2_with fail;refine(Vd.o Wx ak).mono ?_;rintro e w5 ⟨rfl,kT,tL,Ge,Qu⟩;have hO5:=(U5.ext ak).ο kT HUN.o Uc;have ag0:=(cT.ext ak).trans kT;clear kT cT U5;go_wp2;go_roundw
    case rel=>exact ZY.o w5 hPr tL hO5 Ge Qu ag0
    exact dB
   |false =>
    have j0:=b3.zc 0;have j1:=b3.zc 1;have j2:=b3.zc 2;have j3:=b3.zc 3;have j4:=b3.zc 4;have N3:=sB.o;have alP:=cT.size;clear b3;go_wp2_with (at_builtin;refine ag _ rfl _ _ 166 rfl _ 136 i0 brZ 5 56 underlying166 hi dx dA dN rfl Γ B m d _ rfl U5 1 _ rfl rfl N3 iQ η η ?_;intro E Ed wy fQ fN oY);go_roundw
    case rel=>exact FO.o w3 wy hPr E Ed U5 AL cT fQ fN
    exact dB
  .obtain rfl:k=N:=by omega
   have Di:=dh (k<k);have vr:l.take k=l:=jL (by rw[←HN.o];exact aq _);have hth:hs.take k=hs:=jL (by rw[AO.o,←HN.o];exact aq _);rw[vr,hth]at hO;rw[vr]at hS;have ZZ:=(nY l ks).length_le;rw[←HN.o]at ZZ;obtain⟨T1,cw,lJ,gf⟩:=iJ.fin (fr:=fr) (P:=P) HUN.o ht zL FN AO.o HM.o K5.o Sk.o (K4.trans HN.o) hP hO hf hS hT;have l8:=θ cw;have AA:=θ gf;have HF:=θ hf;have HPP:=θ hP;have Hks:=θ (K4.trans HN.o);rw[vr];have c2:=lJ.zc 2;have f2:=lJ.free 2;obtain⟨bq,oZ⟩:=lJ.put (S:=(· = t)) cw.Δ 2 (.slice B (kr l ks).length d) rfl;have jr:=θ bq;have Oe:=θ oZ;clear hO hS hT cw gf hP hf K4 vr hth bq oZ lJ;generalize hm9:(kr l ks).length=m at*;by_cases TA:m<k
   .have hw9:=ej ((aL:Int)+1)
    go_upto_region 13 with fail
    generalize hW:dG wr _ _=W2 at*;clear hW c2 f2;have c4:=Oe.o.zc 4;have f4:=Oe.o.free 4;obtain⟨cT,CO⟩:=Oe.o.put (S:=(· = t)) jr.o.Δ 4 (.int .i64 ((aL+1:Nat):Int)) rfl;have rY:((aL+1:Nat):Int)=(aL:Int)+1:=η;have HF9:=θ (AA.o _ (aL+1) (jr.o.trans cT) CO);have GN:=θ (l8.o.trans ((jr.o.trans cT).mono fun j hj=>.inl hj));rw[rY]at HF9 GN;clear cT CO;go_wp2;go_ret;exact⟨_,rfl,T1,GN.o,_,ks,aL+1,cZ,rfl,Hks.o,HPP.o,HF.o,aq _,HF9.o⟩
   .have HF9:=θ (AA.o _ aL jr.o Oe.o);have GN:=θ (l8.o.trans (jr.o.mono fun j hj=>.inl hj));go_wp2;go_ret;exact⟨_,rfl,T1,GN.o,_,ks,aL,cZ,rfl,Hks.o,HPP.o,HF.o,Nat.le_succ _,HF9.o⟩
end
section
variable {w w' wr:κ}{T T':Tg}{t b sb dz last aL fr ts n free dg:Nat}{l:List Br}{gs:List (Nat×List Int)}
theorem FP(fr:Nat)(x:Br)(h:aS×Nat):GP fr x h=.agg #[x.id,fr,.slice h.1 x.ν.length h.2,x.done,x.jP]:=rfl
theorem Ve(w:κ)(x:Br)(h:aS×Nat):τ prog 324 #[GP fr x h] w fun e w'=>(∃r,e=.returned (.bool r)/\r=true)/\Ext w w':=by rw[FP];go_enter func324,ntmps324;go_wp2;go_ret;exact⟨⟨_,rfl,rfl⟩,Ext.alloc _ _⟩
theorem Z0(w:κ)(x:Br)(h:aS×Nat):τ prog 291 #[GP fr x h] w fun e w'=>e=.returned (.bool false)/\Ext w w':=by rw[FP];go_enter func291,ntmps291;go_wp2;go_ret;exact⟨rfl,Ext.alloc _ _⟩
theorem Vf(w:κ)(kb:Nat)(hk:w.cell? kb=some (.func (.func 291) #[] #[]))(x:Br)(h:aS×Nat):τ prog 294 #[GP fr x h,.pointer kb] w fun e w'=>(∃r,e=.returned (.bool r)/\r=true)/\Ext w w':=by have HM:=θ fun W=>Z0 (fr:=fr) W x h;rw[FP]at*;generalize x.ν.length=pl at*;generalize x.id=i1 at*;generalize x.done=i3 at*;generalize x.jP=i4 at*;have jm:kb<w.heap.size:=mG w _ hk;go_enter func294,ntmps294;go_wp2_with fail;refine(HM.o _).mono ?_;rintro e w1 ⟨rfl,e1⟩;go_wp2;go_ret;exact⟨⟨_,rfl,rfl⟩,(Ext.alloc _ _).trans e1⟩
theorem Z1(w:κ)(kb mb:Nat)(hk:w.cell? kb=some (.func (.func 278) #[π mb] #[]))(x:Br)(h:aS×Nat)(HC:∀W,Ext w W->τ prog 278 #[π mb,GP fr x h] W fun e w'=>(∃r,e=.returned (.bool r))/\Ext W w'):τ prog 294 #[GP fr x h,.pointer kb] w fun e w'=>(∃r,e=.returned (.bool r)/\True)/\Ext w w':=by have HM:=θ HC;rw[FP]at*;generalize x.ν.length=pl at*;generalize x.id=i1 at*;generalize x.done=i3 at*;generalize x.jP=i4 at*;have jm:kb<w.heap.size:=mG w _ hk;unfold π at*;clear HC;go_enter func294,ntmps294;go_wp2_with fail;refine(HM.o _ (Ext.alloc _ _)).mono ?_;rintro e w1 ⟨⟨r,rfl⟩,e1⟩;go_wp2;go_ret;exact⟨⟨_,rfl,trivial⟩,(Ext.alloc _ _).trans e1⟩
section
variable(h:fB w T t b sb dz last aL fr l)(hm:dz<=8)(hS:aZ w T ts sb n free dg gs)(hu:Θ w T)(ht:0<t)(zL:0<ts)(FN:t+2<=ts\/ts+5<=t)(yy:dg<4611686018427387903)(hep:aL<4611686018427387903)(hn:gs.length<=1000)(SF:(l.map Br.jP).Nodup)(jI:∀x∈l,x.jP∈gs.map eu)
include h hm hS hu ht zL FN yy hep hn SF jI
theorem Qy:τ prog 310 #[π b] w (cG (fun j=>j=t\/j=t+1\/In ts 5 j) w T (AZ t b sb dz last aL fr ts n free dg l gs (· = true))):=by have HD:=θ (Qx (P:=(· = true)) h hm hS hu ht zL FN yy hep hn SF jI fun W x h _ _ _=>Ve W x h);unfold π at*;clear h hS;go_enter func310,ntmps310;go_wp2_with fail;refine HD.o.mono ?_;rintro e w1 ⟨v,rfl,T1,cw,r,ks,ep,cZ,rfl,hq⟩;go_wp2;go_ret;exact⟨_,rfl,T1,cw,r,ks,ep,cZ,rfl,hq⟩
theorem FQ:τ prog 277 #[π b,.func (.func 291) #[] #[]] w (cG (fun j=>j=t\/j=t+1\/In ts 5 j) w T (AZ t b sb dz last aL fr ts n free dg l gs (· = true))):=by
 have x1:=Ext.alloc w (.cells #[.func (.func 291) #[] #[]] 227);have b1:=(Has.new w (fun _=>0) [.func (.func 291) #[] #[]] 227 rfl);have hkb:T w.heap.size=0:=hu _ (aq _);have vq:=b1.zc 0;have Uc:¬In ts 5 0:=cN;have HD:=θ (I8 (P:=(· = true)) w.heap.size (h.ext x1) hm (hS.ext x1) (hu.ext x1) ht zL FN yy hep hn SF jI fun W x h hT _ _=>Vf W w.heap.size ((tf (hT.block _ b1.lt (by rw[hkb];exact Uc))).trans vq) x h);unfold π at*;clear h hS b1 vq;go_enter func277,ntmps277;go_upto_region 1 with fail
 generalize hW:aB w _=W0 at*;obtain⟨gm,qT⟩:∃gm,gm=w.heap.size:=⟨_,rfl⟩;rw[←qT]at HD⊢;clear hW qT;go_wp2_with fail;refine HD.o.mono ?_;rintro e w1 ⟨v,rfl,T1,cw,r,ks,ep,cZ,rfl,hq⟩;go_wp2;go_ret;exact⟨_,rfl,T1,(Ξ.ai _ hu x1).trans cw,r,ks,ep,cZ,rfl,hq⟩
end
theorem GS(mb:Nat)(h:fB w T t b sb dz last aL fr l)(hm:dz<=8)(hS:aZ w T ts sb n free dg gs)(hu:Θ w T)(ht:0<t)(zL:0<ts)(FN:t+2<=ts\/ts+5<=t)(yy:dg<4611686018427387903)(hep:aL<4611686018427387903)(hn:gs.length<=1000)(SF:(l.map Br.jP).Nodup)(jI:∀x∈l,x.jP∈gs.map eu)(HC:∀W x h,Ξ (In ts 5) w T W T->x∈l->Sp W T h.1 x.ν.length h.2 x.ν->τ prog 278 #[π mb,GP fr x h] W fun e w'=>(∃r,e=.returned (.bool r))/\Ext W w'):τ prog 277 #[π b,.func (.func 278) #[π mb] #[]] w (cG (fun j=>j=t\/j=t+1\/In ts 5 j) w T (AZ t b sb dz last aL fr ts n free dg l gs (fun _=>True))):=by
 have x1:=Ext.alloc w (.cells #[.func (.func 278) #[π mb] #[]] 227);have b1:=(Has.new w (fun _=>0) [.func (.func 278) #[π mb] #[]] 227 rfl);have hkb:T w.heap.size=0:=hu _ (aq _);have vq:=b1.zc 0;have Uc:¬In ts 5 0:=cN;have HD:=θ (I8 (P:=fun _=>True) w.heap.size (h.ext x1) hm (hS.ext x1) (hu.ext x1) ht zL FN yy hep hn SF jI fun W x h hT hx vk=>Z1 W w.heap.size mb ((tf (hT.block _ b1.lt (by rw[hkb];exact Uc))).trans vq) x h fun W2 e=>HC W2 x h (((Ξ.ai _ hu x1).trans hT).ext e) hx (vk.ext e));unfold π at*;clear h hS b1 vq HC;go_enter func277,ntmps277;go_upto_region 1 with fail
 generalize hW:aB w _=W0 at*;obtain⟨gm,qT⟩:∃gm,gm=w.heap.size:=⟨_,rfl⟩;rw[←qT]at HD⊢;clear hW qT;go_wp2_with fail;refine HD.o.mono ?_;rintro e w1 ⟨v,rfl,T1,cw,r,ks,ep,cZ,rfl,hq⟩;go_wp2;go_ret;exact⟨_,rfl,T1,(Ξ.ai _ hu x1).trans cw,r,ks,ep,cZ,rfl,hq⟩
end
def Vg(gs:List (Nat×List Int))(x:Nat)(g:List Int):List (Nat×List Int):=gs.map fun q=>(q.1,if q.1=x then g else q.2)
theorem Z2(gs:List (Nat×List Int))(x:Nat)(g:List Int):(Vg gs x g).map eu=gs.map eu:=by unfold Vg;rw[CV];rfl
theorem Cs:∀{gs:List (Nat×List Int)},(gs.map eu).Nodup->∀{p q},p∈gs->q∈gs->p.1=q.1->p=q
 | [],_,p,q,hp,_,_=>by simp at hp
 |a::l,hn,p,q,hp,hq,e=>by
  rw[mF,List.nodup_cons]at hn;rcases Ad.1 hp with h1|h1
  .rcases Ad.1 hq with h2|h2
   .rw[h1,h2]
   .exact absurd (fK.2 ⟨q,h2,by rw[←e,h1]⟩) hn.1
  .rcases Ad.1 hq with h2|h2
   .exact absurd (fK.2 ⟨p,h1,by rw[e,h2]⟩) hn.1
   .exact Cs hn.2 h1 h2 e
theorem Z3{x:Nat}{g:List Int}(h:x∈gs.map eu):(x,g)∈Vg gs x g:=by obtain⟨q,hq,rfl⟩:=fK.1 h;exact fK.2 ⟨q,hq,by rw[if_pos rfl]⟩
structure Wk where
 busy:Bool
 id:Int
 ep:Int
 x:Nat
 done:Nat
 zA:Bool
def Nl(tp:aD)(A:aS)(n d tb jb sb:Nat)(k:Wk):List ξ:=[.string (bs tp),.slice A n d,π tb,π jb,π sb,.bool k.busy,.int .i64 k.id,.int .i64 k.ep,.int .i64 (k.x:Nat),.int .i64 (k.done:Nat),.bool k.zA]
section
variable {w w':κ}{T T':Tg}{ts sb n free last b tw tb jb:Nat}{gs:List (Nat×List Int)}{tp:aD}{A:aS}{an ad:Nat}{k:Wk}
def SG:Wk:=⟨false,0,0,0,0,false⟩
theorem aeF(w:κ)(T:Tg)(hu:Θ w T)(tw:Nat)(tp:aD)(A:aS)(an ad tb jb sb:Nat):τ prog 141 #[fX tp A an ad,π tb,π jb,π sb] w (cG (fun _=>False) w T fun v w' T'=>∃b,v=π b/\Has w' T' tw b (Nl tp A an ad tb jb sb SG)):=by have x1:=Ext.alloc w (.cells #[.string (bs tp),.slice A an ad] 65);obtain⟨ru,GI⟩:=Has.fresh (hu.ext x1) (Nl tp A an ad tb jb sb SG) 134 tw;rw[show(w.alloc (.cells #[.string (bs tp),.slice A an ad] 65)).heap.size=w.heap.size+1 by simp]at ru GI;have o6:=θ ((Ξ.ai (fun _=>False) hu x1).trans ru);have HH0:=θ GI;unfold π fX Nl SG π at*;clear ru GI;go_enter func141,ntmps141;go_wp2;go_ret;exact⟨_,rfl,_,o6.o,_,rfl,HH0.o⟩
theorem abV(h:Has w T tw b (Nl tp A an ad tb jb sb k)):τ prog 76 #[π b] w fun e w'=>e=.returned (.bool k.busy)/\w'=w:=by have c5:=h.zc 5;unfold π;clear h;go_enter func76,ntmps76;go_wp2;go_ret;exact⟨rfl,rfl⟩
def SH(T:Tg)(ts sb n free last b tw tb jb:Nat)(gs:List (Nat×List Int))(tp:aD)(A:aS)(an ad:Nat)(k:Wk)(v:ξ)(w':κ)(T':Tg):Prop :=
 (∃r,v=.bool r)/\T'=T/\Has w' T tw b (Nl tp A an ad tb jb sb {k with busy:=false})/\∃cZ,free<=cZ/\aZ w' T ts sb n cZ last (if k.busy=true then nS gs k.x else gs)
theorem abW(h:Has w T tw b (Nl tp A an ad tb jb sb k))(hS:aZ w T ts sb n free last gs)(hu:Θ w T)(zL:0<ts)(htw:¬In ts 5 tw)(hl:last<4611686018427387903)(hn:gs.length<=1000)(hx:k.busy=true->k.x∈gs.map eu):τ prog 49 #[π b] w (cG (fun j=>j=tw\/In ts 5 j) w T (SH T ts sb n free last b tw tb jb gs tp A an ad k)):=by
 have HB:=θ fun W (e:Ext w W)=>abV (h.ext e);cases hb:k.busy with
 |false =>rw[hb]at HB;have kR:=θ (show SH T ts sb n free last b tw tb jb gs tp A an ad k (.bool false) w T from⟨⟨_,rfl⟩,rfl,by rw[←hb];exact h,free,aq _,by rw[hb,if_neg Γ];exact hS⟩);clear h hS hx hb;unfold π at*;go_enter func49,ntmps49;go_wp2_with fail;refine(HB.o w (Ext.refl _)).mono ?_;rintro e w1 ⟨rfl,hw⟩;subst hw;go_wp2;go_ret;exact⟨_,rfl,T,Ξ.refl _ hu,kR.o⟩
 |true =>
  rw[hb]at HB;have HD:=θ fun W (e:Ext w W)=>D4 (hS.ext e) (hx hb) (hu.ext e) zL hl hn;have c4:=h.zc 4;have c8:=h.zc 8;have HH:=θ h;have Hb:=θ hb;clear h hS hx hb;obtain⟨kb,ki,ke,kx,kd,kp⟩:=k;unfold π at*;dsimp only at*
  go_enter func49,ntmps49;go_wp2_with fail;refine(HB.o w (Ext.refl _)).mono ?_;rintro e w1 ⟨rfl,hw⟩;subst hw;go_wp2_with fail;apply lG 8;simp only[tk];repeat apply kZ c4 c8
  refine jq fun Wx ak=>?_;simp only[dk];go_wp2_with fail;refine(HD.o Wx ak).mono ?_;rintro e w3 ⟨rfl,cT,aif,hf3,AL⟩;have CO:=(HH.o.ext ak).ο cT htw;have c5:=CO.zc 5;have f5:=CO.free 5;obtain⟨mE,Wm⟩:=CO.put (S:=(· = tw)) cT.Δ 5 (.bool false) rfl;have HT:=θ (((Ξ.ai (fun j=>j=tw\/In ts 5 j) hu ak).trans (cT.mono fun j hj=>.inr hj)).trans (mE.mono fun j hj=>.inl hj));have kR:=θ (show SH T ts sb n free last b tw tb jb gs tp A an ad ⟨kb,ki,ke,kx,kd,kp⟩ (.bool true) (w3.setCell (b,5) (.bool false)) T from⟨⟨_,rfl⟩,rfl,Wm,aif,hf3,by rw[if_pos Hb.o];exact AL.ο mE (fun j hj e=>htw (e▸hj))⟩);clear CO cT mE Wm AL;go_wp2;go_ret;exact⟨_,rfl,T,HT.o,kR.o⟩
end
section
variable {w w':κ}{T T':Tg}{ts sb n free last b tw tb jb tj ot fr:Nat}{gs:List (Nat×List Int)}{tp:aD}{ops:List dM}{A:aS}{an ad:Nat}{k:Wk}
theorem Sp.at_{n:Nat}{ps:vo}(h:Sp w T A n c ps){k:Nat}(hk:k<ps.length):∃b o Ai ni ci,A=some ⟨b,o,none⟩/\w.cell? ⟨b,o+k,none⟩=some (.slice Ai ni ci)/\Rb w Ai ni ci ps[k]/\(0<ni->∀q,bn Ai=some q->T q=0):=by have hl:=h.len;obtain⟨hs,q1,q2,q3,q4⟩:=h;have hh:=bf (show k<hs.length by omega);obtain⟨q5,q6⟩:=q4 k _ _ hh (bf hk);obtain⟨g5,o5,rfl,uL⟩:=q1.2.2.2 η;exact⟨g5,o5,hs[k].1,hs[k].2.1,hs[k].2.2,rfl,uL k _ (by rw[iZ,hh];rfl),q5,fun h0=>q6 (by rw[←q5.len];exact h0)⟩
end


def aih(tp:aD)(ops:List dM)(fr:Nat)(l:List Br)(gs:List (Nat×List Int))(last:Nat)(k:Wk)(l':List Br)(K8:List (Nat×List Int))(yC:Nat)(k':Wk):Prop :=
 (l'=l/\K8=gs/\yC=last/\k'=k) \/
 (k.busy=false/\l'=l/\yC=last+1/\∃id ep i x g,UT id l=some i/\l[i]?=some x/\x.done<x.ν.length/\(x.jP,g)∈gs/\k'=⟨true,id,ep,last+1,x.done,false⟩/\K8=gs++[(last+1,g)]) \/
 (k.busy=true/\l'=l/\yC=last/\k'={k with busy:=false}/\K8=nS gs k.x) \/
 (k.busy=true/\k.zA=false/\l'=l/\yC=last/\k'={k with zA:=true}/\∃(i:Nat) (x:Br) (g:List Int) (h:k.done<x.ν.length),UT k.id l=some i/\l[i]?=some x/\(k.x,g)∈gs/\K8=Vg gs k.x (nx tp x.ν[k.done] ((fr:Int)+(k.done:Nat)) ops g).1) \/
 (k.busy=true/\k.zA=true/\yC=last/\k'={k with busy:=false}/\∃i x,UT k.id l=some i/\l[i]?=some x/\x.done<k.done+1/\l'=l.set i {x with done:=k.done+1,jP:=k.x}/\K8=nS gs x.jP)
section
variable {w w' w1:κ}{g n c1 c2 c3 c4:Nat}
theorem merge_right(w:κ)(c:Nat)(h:Zs w g n)(hn:n<=256)(a m:Nat)(ha:a+1<m)(hb:m+1<=n)(hC:Cmp w g c1 c2 c3 c4):τ prog 331 #[.slice g n c,a,m,((m+1:Nat):Int),vX c1 c2 c3 c4] w fun e w'=>e=.returned (.tuple #[])/\Sw g n w w':=by
 have HZ0:=θ h;have HC:=θ fun W (hs:Sw g n w W)=>hC.grown hs.1;have pz:IntKind.i64.wrap (((m+1:Nat):Int)-(m:Int))=1:=by rw[IntWalk.i64_in _ η];omega
 have KZ:=ej ((m:Int)-(a:Int));have he0:((m:Int)-(a:Int)==1)=false:=kO;obtain⟨b,hm⟩:∃b,b=m+1:=⟨_,rfl⟩;have Hm:=θ hm;rw[←hm]at pz⊢;have hna:(m<n)=True:=eq_true η;have alg:=dQ (m<n);unfold vX;clear h hC hm;go_enter func331,ntmps331;go_wp2_with fail;go_loopw [14,15] (fun iv jv wr=>∃i j:Nat,iv=.int .i64 (i:Nat)/\jv=.int .i64 (j:Nat)/\a<=i/\i<=j/\j<=m/\Sw g n w wr) (fun iv jv _=>(intOf jv).toNat-(intOf iv).toNat)
 case atStart=>exact⟨a,m,rfl,rfl,η,η,η,Sw.refl HZ0.o⟩
 case round =>
  obtain⟨i,j,rfl,rfl,hi1,yh,hjb,hS⟩:=hrel;have HS:=θ hS;have HZ:=θ hS.2;have HCx:=θ (HC.o wr hS);clear hS;by_cases aX:i<j
  .obtain⟨h,hh,hih,hhj⟩:∃h:Nat,((i:Int)+(j:Int)) / 2=(h:Nat)/\i<=h/\h<j:=⟨(i+j) / 2,η,η,η⟩
   have hnh:(h<n)=True:=eq_true η;have ai8:=dQ (h<n);have hwh:=ej ((h:Int)+1);go_wp2_with fail;clear hh;apply Ar 10 (zR g n) (fun _=>zR g n) (fun _ _=>True) (fun _=>trivial);simp only[tk];repeat apply gF (fun _ _ _ _=>trivial)
   apply aE (p:=vW) Γ Γ vW.aQ
   .rfl
   .intro W hR hJ υ;obtain⟨x,h1,_⟩:=hR.2 HZ.o (m) η;refine⟨_,W,?_,zR.refl _,zR.refl _,x,rfl⟩;go_simp;first|done|rfl
   intro v4;simp only[pu];repeat apply gF (fun _ _ _ _=>trivial)
   apply aE (p:=vW) Γ Γ vW.aQ
   .rfl
   .intro W hR hJ υ;obtain⟨x,h1,_⟩:=hR.2 HZ.o (h) η;refine⟨_,W,?_,zR.refl _,zR.refl _,x,rfl⟩;go_simp;first|done|rfl
   intro v8;simp only[pu];apply uI (p:=zi) Γ Γ zi.aQ
   .intro W hR hJ υ;obtain⟨x1,rfl⟩:=υ.2.1 rfl;obtain⟨x2,rfl⟩:=υ.1 rfl;refine(HCx.o W x1 x2 hR.1).mono ?_;rintro e w' ⟨⟨q,rfl⟩,ee⟩;exact⟨_,rfl,zR.ai ee,zR.ai ee,q,rfl⟩
   intro v9;simp only[pu];refine aP ?_;intro Wx zm gT υ;obtain⟨q,rfl⟩:=υ.1 rfl;clear υ gT;simp only[dk];have MQ:=θ (HS.o.trans (zm.sw HZ.o));clear zm;by_cases hq:q<0
   .go_wp2_with fail
    go_roundw
    case rel=>exact⟨i,h,rfl,rfl,η,η,η,MQ.o⟩
    exact dB
   .go_wp2_with fail
    go_roundw
    case rel=>exact⟨h+1,j,cR,rfl,η,η,η,MQ.o⟩
    exact dB
  .go_wp2_with fail
   go_loopw [17] (fun kv wx=>∃k:Nat,kv=.int .i64 (k:Nat)/\i<=k/\k<=m/\Sw g n w wx) (fun kv _=>(intOf kv).toNat)
   case atStart=>exact⟨m,rfl,η,η,HS.o⟩
   case round =>
    obtain⟨k,rfl,Gn,zJ,hS⟩:=hrel;have HS:=θ hS;have HZ:=θ hS.2;clear hS;by_cases hki:i<k
    .have Ss:=ej ((k:Int)-1)
     have KX:(1<=(k:Int)/\(k:Int)-1<(n:Int))=True:=eq_true η;have BR:((k:Int)-1).toNat=k-1:=η;have hn3:(k<n)=True:=eq_true η;go_wp2_with fail;apply GG (zR g n) (fun _=>zR g n) (fun _ _=>True) (fun _=>trivial);repeat apply gF (fun _ _ _ _=>trivial)
     apply aE (p:=vW) Γ Γ vW.aQ
     .rfl
     .intro W hR hJ υ;obtain⟨x,h1,_⟩:=hR.2 HZ.o (k-1) η;refine⟨_,W,?_,zR.refl _,zR.refl _,x,rfl⟩;go_simp;first|done|rfl
     intro v9;simp only[pu];repeat apply gF (fun _ _ _ _=>trivial)
     apply aE (p:=vW) Γ Γ vW.aQ
     .rfl
     .intro W hR hJ υ;obtain⟨x,h1,_⟩:=hR.2 HZ.o (k) η;refine⟨_,W,?_,zR.refl _,zR.refl _,x,rfl⟩;go_simp;first|done|rfl
     intro YQ;simp only[pu];repeat apply gF (fun _ _ _ _=>trivial)
     apply gQ (p:=fun _ _=>True) Γ Γ (fun _ _ _ _ _ _ _=>trivial)
     .rfl
     .intro W hR hJ υ;obtain⟨y,h1,h2⟩:=hR.2 HZ.o (k) η;obtain⟨x,hx⟩:=υ.2.1 rfl;refine⟨W.setCell ⟨_,k,none⟩ (.int .u8 (x.toNat:Nat)),?_,zR.set W _ _ (k) x,zR.set W _ _ (k) x,trivial⟩;simp only[hx];go_simp;first|done|rfl
     intro v15;simp only[Act.put];repeat apply gF (fun _ _ _ _=>trivial)
     apply gQ (p:=fun _ _=>True) Γ Γ (fun _ _ _ _ _ _ _=>trivial)
     .rfl
     .intro W hR hJ υ;obtain⟨y,h1,h2⟩:=hR.2 HZ.o (k-1) η;obtain⟨x,hx⟩:=υ.2.1 rfl;refine⟨W.setCell ⟨_,k-1,none⟩ (.int .u8 (x.toNat:Nat)),?_,zR.set W _ _ (k-1) x,zR.set W _ _ (k-1) x,trivial⟩;simp only[hx];go_simp;first|done|rfl
     intro v17;simp only[Act.put];refine aP ?_;intro Wx zm gT υ;clear υ gT;have AL:=HS.o.trans (zm.sw HZ.o);clear zm;go_wp2;go_roundw
     case rel=>exact⟨k-1,OB,η,η,AL⟩
     exact dB
    .go_wp2_with fail;exact bodyPost_ret (results_none rfl _ _ _) rfl ⟨rfl,HS.o⟩
end
section
variable {w w' w1:κ}{g n c1 c2 c3 c4:Nat}
theorem I9(w0:κ)(c:Nat)(hn:n<=256)(hC:Cmp w0 g c1 c2 c3 c4):∀k,agX w0 g n c c1 c2 c3 c4 k
 |0=>fun W a m b hS hk ha hm hb=>by omega
 |k+1=>fun W a m b hS hk ha hm hb=>by
  have hCW:=hC.grown hS.1;by_cases h1:a+1=m
  .subst h1;exact P7 W c hS.2 hn a b η hb hCW
  .by_cases h2:m+1=b
   .subst h2;exact merge_right W c hS.2 hn a m η hb hCW
   .exact Qt W c hS.2 hn a m b k η η hb hk hCW fun W2 a2 m2 b2 K3 zJ h3 h4 h5=>I9 w0 c hn hC k W2 a2 m2 b2 (hS.trans K3) zJ h3 h4 h5
section
variable(w:κ)(c:Nat)(h:Zs w g n)(hn:n<=256)(hC:Cmp w g c1 c2 c3 c4)
include h hn hC
theorem Nm:τ prog 325 #[.slice g n c,n,vX c1 c2 c3 c4] w fun e w'=>e=.returned (.tuple #[])/\Sw g n w w':=by
 have ajp:=θ fun W (hs:Sw g n w W) a b h1 h2=>Fv W c hs.2 hn a b h1 h2 (hC.grown hs.1);have HM:=θ fun W (hs:Sw g n w W) a m b h1 h2 h3=>I9 w c hn hC (b-a) W a m b hs (aq _) h1 h2 h3;have HZ:=θ h;unfold vX at*;clear h hC;go_enter func325,ntmps325;go_wp2_with fail;go_loopw [7,8] (fun av bv wr=>∃a b:Nat,av=.int .i64 (a:Nat)/\bv=.int .i64 (b:Nat)/\(b<=a+20/\a+20<=b)/\a<=n/\Sw g n w wr) (fun _ bv _=>n+20-(intOf bv).toNat)
 case atStart=>exact⟨0,20,rfl,rfl,η,aM _,Sw.refl HZ.o⟩
 case round =>
  obtain⟨a,b,rfl,rfl,vf,han,hS⟩:=hrel;by_cases hbn:b<=n
  .have pz:=ej ((b:Int)+20)
   have HX:=θ (ajp.o wr hS a b han hbn);have HS:=θ hS;clear hS;go_wp2_with fail;refine HX.o.mono ?_;rintro e w3 ⟨rfl,AL⟩;have HS3:=θ (HS.o.trans AL);clear AL;go_wp2;go_roundw
   case rel=>exact⟨b,b+20,rfl,cR,η,hbn,HS3.o⟩
   exact dB
  .have HX:=θ (ajp.o wr hS a n han (aq _))
   have HS:=θ hS;clear hS;go_wp2_with fail;refine HX.o.mono ?_;rintro e w3 ⟨rfl,AL⟩;have hS4:=HS.o.trans AL;clear AL;go_wp2_with fail;go_loopw [6] (fun sv wr=>∃s:Nat,sv=.int .i64 (s:Nat)/\20<=s/\s<=600/\Sw g n w wr) (fun sv _=>600-(intOf sv).toNat)
   case atStart=>exact⟨20,rfl,η,η,hS4⟩
   case round =>
    obtain⟨s,rfl,Fc,xE,hS⟩:=hrel;by_cases uh:s<n
    .have xZ:=ej (2*(s:Int))
     have anz:=ej ((s:Int)*2);have HS:=θ hS;clear hS;go_wp2_with fail;go_loopw [7,8] (fun av bv wr=>∃a b:Nat,av=.int .i64 (a:Nat)/\bv=.int .i64 (b:Nat)/\(b<=a+2*s/\a+2*s<=b)/\a<=n/\Sw g n w wr) (fun _ bv _=>n+2*s-(intOf bv).toNat)
     case atStart=>exact⟨0,2*s,rfl,cR,η,aM _,HS.o⟩
     case round =>
      obtain⟨a,b,rfl,rfl,vf,han,hS⟩:=hrel;have Uj:=ej ((a:Int)+(s:Int));have rY:(a:Int)+(s:Int)=((a+s:Nat):Int):=η;by_cases hbn:b<=n
      .have Sd:=ej ((b:Int)+2*(s:Int))
       have HX:=θ (HM.o wr hS a (a+s) b η η hbn);rw[←rY]at HX;have HS:=θ hS;clear hS rY;go_wp2_with fail;refine HX.o.mono ?_;rintro e w5 ⟨rfl,Qu⟩;have HS5:=θ (HS.o.trans Qu);clear Qu;go_wp2;go_roundw
       case rel=>exact⟨b,b+2*s,rfl,cR,η,hbn,HS5.o⟩
       exact dB
      .by_cases KY:a+s<n
       .have hd4:=dQ ((a:Int)+(s:Int)<(n:Int))
        have HX:=θ (HM.o wr hS a (a+s) n η KY (aq _));rw[←rY]at HX;have HS:=θ hS;clear hS rY;go_wp2_with fail;refine HX.o.mono ?_;rintro e w5 ⟨rfl,Qu⟩;have HS5:=θ (HS.o.trans Qu);clear Qu;go_wp2;go_roundw
        case rel=>exact⟨s*2,cR,η,η,HS5.o⟩
        exact dB
       .have hd4:=dh ((a:Int)+(s:Int)<(n:Int))
        have HS:=θ hS;clear hS rY;go_wp2;go_roundw
        case rel=>exact⟨s*2,cR,η,η,HS.o⟩
        exact dB
    .have HS:=θ hS
     clear hS;go_wp2_with fail;go_end0
     exact⟨rfl,HS.o⟩
theorem Vh:τ prog 317 #[.slice g n c,vX c1 c2 c3 c4] w fun e w'=>e=.returned (.tuple #[])/\Sw g n w w':=by
 have HX:=θ (Nm w c h hn hC);unfold vX at*;clear h hC;go_enter func317,ntmps317;go_wp2_with fail;refine HX.o.mono ?_;rintro e w1 ⟨rfl,hS⟩;go_wp2_with fail;go_end0
 exact⟨rfl,hS⟩
end
end
section
variable {w w':κ}
theorem Z4(w:κ)(f:Nat->Nat)(kind:Nat)(hk3:kind≠3)(d1 d2:UInt8)(g1 g2 g3 g4:Nat)(h1:w.cell? g1=some (.int .u8 (d1.toNat:Nat)))(h2:w.cell? g2=some (.int .u8 (d2.toNat:Nat)))(h3:w.cell? g3=some (kind:ξ))(h4:∀v,v<256->w.cell? ⟨g4,v,none⟩=some ((f v:Nat):ξ))(hf:∀v,f v<=2000)(x y:UInt8):τ prog 318 #[.int .u8 (x.toNat:Nat),.int .u8 (y.toNat:Nat),.pointer g1,.pointer g2,.pointer g3,.pointer g4] w fun e w'=>(∃q:Int,e=.returned (q:ξ))/\Ext w w':=by
 have hx:=x.toNat_lt;have hy:=y.toNat_lt;have cx:=h4 x.toNat hx;have cy:=h4 y.toNat hy;have hfx:=hf x.toNat;have hfy:=hf y.toNat;have I1:((kind:Int) != 3)=true:=by rw[bne_iff_ne];omega
 have Ik:Hq (∀k,k<2->∃d:Nat,∀W,(Instr.index 415 (.agg #[.int .u8 (d1.toNat:Nat),.int .u8 (d2.toNat:Nat)]) ((k:Nat):ξ)).run prog W=.ok (.int .u8 (d:Nat)) W):=θ fun k hk=>by
  rcases(η:k=0\/k=1) with rfl|rfl
  .exact⟨d1.toNat,fun W=>rfl⟩
  .exact⟨d2.toNat,fun W=>rfl⟩
 clear h4;generalize f x.toNat=fx at*;generalize f y.toNat=fy at*;generalize x.toNat=xn at*;generalize y.toNat=yn at*;have hx3:((xn:Int)<256)=True:=eq_true η;have hy3:((yn:Int)<256)=True:=eq_true η;have pz:=ej ((fy:Int)-(fx:Int));go_enter func318,ntmps318;go_wp2_with fail;go_loopw [14] (fun iv wr=>∃k:Nat,iv=.int .i64 (k:Nat)/\k<=2/\Ext w wr) (fun iv _=>2-(intOf iv).toNat)
 case atStart=>exact⟨0,rfl,aM _,Ext.refl _⟩
 case round =>
  obtain⟨k,rfl,hk,er⟩:=hrel;by_cases zJ:k<2
  .have zW:=dQ ((k:Int)<2)
   obtain⟨d,hdx⟩:=Ik.o k zJ;have h3r:=er.cell h3;have cxr:=er.cell cx;have cyr:=er.cell cy;go_wp2_with fail;apply iL trivial;repeat first|apply DH h3r cxr cyr|apply lU trivial
   refine jq fun Wx ak=>?_;have ew:=er.trans ak;have cxr:=ak.cell cxr;have cyr:=ak.cell cyr;by_cases hne:fx=fy
   .by_cases hxd:xn=d
    .by_cases hyd:yn=d
     .go_wp2_with fail
      go_roundw
      case rel=>exact⟨k+1,cR,η,ew⟩
      exact dB
     .have e3:((yn:Int)==(d:Int))=false:=by rw[beq_eq_false_iff_ne];omega
      go_wp2;go_ret;exact⟨⟨_,rfl⟩,ew⟩
    .have e2:((xn:Int)==(d:Int))=false:=by rw[beq_eq_false_iff_ne];omega
     by_cases hyd:yn=d
     .go_wp2;go_ret;exact⟨⟨_,rfl⟩,ew⟩
     .have e3:((yn:Int)==(d:Int))=false:=by rw[beq_eq_false_iff_ne];omega
      go_wp2;go_roundw
      case rel=>exact⟨k+1,cR,η,ew⟩
      exact dB
   .have e1:((fx:Int) != (fy:Int))=true:=by rw[bne_iff_ne];omega
    go_wp2_with fail;apply iL trivial;repeat apply kZ cxr cyr
    refine jq fun Wx ak=>?_;go_wp2;go_ret;exact⟨⟨_,rfl⟩,ew.trans ak⟩
  .have zW:=dh ((k:Int)<2);go_wp2;go_ret;exact⟨⟨_,rfl⟩,er⟩
theorem Zs.rb(h:Zs w g n)(hm:m<=n)(hc:m<=c)(hx:c<=maxLen):∃l,Rb w (some ⟨g,0,none⟩) m c l:=by
 have h0:∀i,∃x:UInt8,i<n->w.cell? ⟨g,i,none⟩=some (.int .u8 (x.toNat:Nat)):=fun i=>by
  by_cases hi:i<n
  .obtain⟨x,h1,_⟩:=h i hi;exact⟨x,fun _=>h1⟩
  .exact⟨0,fun h=>absurd h hi⟩
 refine⟨(List.range m).map fun i=>Classical.choose (h0 i),by simp[dK],hc,hx,fun _=>⟨g,0,rfl,fun j u hj=>?_⟩⟩;have hjm:j<m:=by have:=(iN.1 hj).1;simpa [dK] using this
 rw[tW (by simpa using hjm)]at hj;cases hj
 have:=Classical.choose_spec (h0 j) η;simpa using this
theorem Z5(w:κ){kind o:Nat}(h:vl kind o)(A:aS)(n c:Nat)(aa:aD)(hb:Rb w A n c aa)(hl:aa.length<=1000)(r:Nat)(hr:r<=100):τ prog 300 #[tR kind o,.slice A n c,((r:Int)+1:Int)] w fun e w'=>∃g d l,e=.returned (.slice (some ⟨g,0,none⟩) (r+1) d)/\Rb w' (some ⟨g,0,none⟩) (r+1) d l/\Ext w w':=by
 obtain⟨i0,hi,dx,dA,dN⟩:=info_parts dX;obtain⟨j0,hj,ajq,anA,anB⟩:=info_parts tB;rw[tF]at ajq;have hk3:kind≠3:=by rcases h with ⟨rfl,_⟩|⟨rfl,_⟩<;>decide
 have ku:=θ fun W=>AJ W h;have Hw:=θ fun W (e:Ext w W)=>CN W h A n c aa (hb.ext e) η;have Hf:=θ fun W (e:Ext w W)=>IU W h A n c aa (hb.ext e) η;have Hla:=θ fun W (e:Ext w W)=>Mz W A n c aa (hb.ext e);have Yo:=θ fun v=>aF (RD kind o aa v) (show aa.length<=2000 by omega);generalize qM kind o aa=f at*;generalize nJ kind o aa=d1 at*;generalize rO aa=d2 at*;unfold tR at*;clear h hb;go_enter func300,ntmps300;go_wp2_with fail;generalize hV:w.alloc _=V at*;have eV:Ext w V:=by subst hV;exact Ext.alloc _ _
 have b0:V.cell? w.heap.size=some (kind:ξ):=ir;have b1:V.cell? (w.heap.size,1)=some (o:ξ):=ir;have b2:V.cell? (w.heap.size,2)=some (.slice none 0 0):=ir;have hgV:w.heap.size<V.heap.size:=by subst hV;simp
 clear hV;generalize St:w.heap.size=gb at*;clear St;refine(ku.o V).mono ?_;rintro e w1 ⟨rfl,e1⟩;replace b0:=e1.cell b0;replace b1:=e1.cell b1;replace b2:=e1.cell b2;replace eV:=eV.trans e1;replace hgV:=eM hgV e1.size;clear e1;go_wp2_with fail;refine(Hw.o w1 eV).mono ?_;rintro e w2 ⟨rfl,e1⟩;replace b0:=e1.cell b0;replace b1:=e1.cell b1;replace b2:=e1.cell b2;replace eV:=eV.trans e1;replace hgV:=eM hgV e1.size;clear e1;go_upto_region 4 with (first|(with_reducible refine bA rfl 331 rfl hj ajq ?_;intro W1 a1 x1 s1)|(with_reducible refine bF rfl 331 (.tmp 7) (.tmp 17) rfl rfl rfl a1 (cH _) (cH _) dr (mT _) ?_;intro W3 a3 g3 s3))
 have Oa:(some gb:Option Nat)≠some w2.heap.size:=dw;replace b0:=g3.cell (x1.cell b0) Oa;replace b1:=g3.cell (x1.cell b1) Oa;replace b2:=g3.cell (x1.cell b2) Oa;have eW:=Ext.own (B:=some ⟨w2.heap.size,0,none⟩) (eV.trans x1) g3 (fun k hk=>by cases hk;exact eV.size);have Oc:w2.heap.size<W3.heap.size:=a3.lt;obtain⟨g7,hg7⟩:∃g7,g7=w2.heap.size:=⟨_,rfl⟩;rw[←hg7]at a3 Oc⊢;have alQ:gb<g7:=η;clear hg7 g3 x1 a1 s1 s3 eV hgV Oa;go_wp2_with fail;refine(Hf.o W3 eW).mono ?_;rintro e w4 ⟨rfl,e4⟩;replace b0:=e4.cell b0;replace b1:=e4.cell b1;replace b2:=e4.cell b2;replace a3:=a3.ext e4;replace eW:=eW.trans e4;replace Oc:=eM Oc e4.size;clear e4;go_wp2_with fail;refine(Hla.o w4 eW).mono ?_;rintro e w5 ⟨rfl,hw5⟩;subst hw5;go_upto_region 5 with fail
 have x5:=(Ext.alloc w5 (.cells #[.int .u8 (d1.toNat:Nat)] 5)).trans (Ext.alloc _ (.cells #[.int .u8 (d2.toNat:Nat)] 5));have q1:=((Has.new w5 (fun _=>0) [.int .u8 (d1.toNat:Nat)] 5 rfl).ext (Ext.alloc _ (.cells #[.int .u8 (d2.toNat:Nat)] 5))).zc 0;have q2:=(Has.new (w5.alloc (.cells #[.int .u8 (d1.toNat:Nat)] 5)) (fun _=>0) [.int .u8 (d2.toNat:Nat)] 5 (b:=w5.heap.size+1) bT).zc 0;have hz:((w5.alloc (.cells #[.int .u8 (d1.toNat:Nat)] 5)).alloc (.cells #[.int .u8 (d2.toNat:Nat)] 5)).heap.size=w5.heap.size+2:=bT;generalize hW:aB (aB w5 _) _=W5 at*;clear hW;replace b0:=x5.cell b0;replace a3:=a3.ext x5;replace eW:=eW.trans x5;obtain⟨g8,hg8⟩:∃g8,g8=w5.heap.size:=⟨_,rfl⟩;obtain⟨g9,Ko⟩:∃g9,g9=w5.heap.size+1:=⟨_,rfl⟩;rw[←Ko]at q2⊢;rw[←hg8]at q1⊢;have Nd:gb<W5.heap.size/\g7<W5.heap.size/\g8<W5.heap.size/\g9<W5.heap.size:=η;clear hg8 Ko hz x5 b1 b2 Oc alQ;have hCm:=fun W g (hg:W5.grownBy W (some g)) (C8:W5.heap.size<=g) (x y:UInt8)=>Z4 W f kind hk3 d1 d2 g8 g9 gb g7 (hg.cell q1 dw) (hg.cell q2 dw) (hg.cell b0 dw) (fun v hv=>hg.cell (a3.cell (tD f hv)) dw) Yo.o x y;have HCm:=θ hCm;clear hCm q1 q2 b0 a3 Nd;go_wp2_with fail;go_loopw [10,23] (fun v iv wr=>∃(k:Nat) (B:aS) (d:Nat) (l:aD),iv=.int .i64 (k:Nat)/\k<=256/\v=.slice B k d/\Own wr W5.heap.size 5 1 B k d (dK l)/\Ext W5 wr) (fun _ iv _=>256-(intOf iv).toNat)
 case atStart=>exact⟨0,none,0,[],rfl,aM _,rfl,Own.dR _ _ _ _,Ext.refl _⟩
 case round =>
  obtain⟨k,B,d,l,rfl,hk,rfl,ho,er⟩:=hrel;by_cases hkm:k<256
  .have jF:=dQ ((k:Int)<256)
   have hcw:IntKind.u8.wrap (k:Int)=(k:Int):=Ec;have her:=er.size;go_wp2_with (at_builtin;refine ag _ rfl _ _ 30 rfl W5.heap.size 5 i0 (.int .u8 0) 1 1 underlying30 hi dx dA dN rfl Γ B k d _ rfl ho 1 _ rfl rfl gA iQ η her ?_;intro E Ed wy fQ fN oY);go_roundw
   case rel =>
    refine⟨k+1,E,Ed,l++[eB k],cR,η,rfl,?_,Ext.own er fN (fun q hq=>ho.ax q hq)⟩;rw[aJ];have:dK [eB k]=[.int .u8 (k:Nat)]:=by
     simp[dK]
     omega
    rw[this];exact fQ
   case measure=>exact dB
  .obtain rfl:k=256:=by omega
   have mz:Row wr (fun _=>0) 0 5 1 B 256 d (dK l):=⟨ho.mono (aM _),fun _ _=>rfl⟩;have Ol:l.length=256:=Ld;have hz:∃g,B=some ⟨g,0,none⟩/\Zs wr g 256:=by
    obtain⟨g,hg,_⟩:=mz.at_ (i:=0) (tW (l:=l) (k:=0) η);refine⟨g,hg,fun i hi=>?_⟩;obtain⟨g2,kL,hc,hf,_⟩:=mz.at_ (i:=i) (tW (l:=l) (k:=i) η);rw[hg]at kL;cases kL
    exact⟨_,hc,hf⟩
   obtain⟨g,rfl,hZ⟩:=hz;have Oc:W5.heap.size<=g:=ho.ax g rfl;have HS:=θ (Vh (c1:=g8) (c2:=g9) (c3:=gb) (c4:=g7) wr d hZ (aq _) fun W x y hg=>(HCm.o W g ((er.grownBy _).trans hg) Oc x y));have Ir:max ((r:Int)+1) 0=(r:Int)+1:=η;have Fa:min ((r:Int)+1) 256=(r:Int)+1:=η;have hdc:256<=d/\d<=maxLen:=⟨ho.rd.2.1,ho.rd.2.2.1⟩;unfold vX at HS;clear ho mz hZ Ol;go_wp2_with fail;refine HS.o.mono ?_;rintro e w7 ⟨rfl,hS⟩;obtain⟨l7,hl7⟩:=hS.2.rb (m:=r+1) (c:=d) η η hdc.2;have hx:=Ext.own (B:=some ⟨g,0,none⟩) er hS.1 (fun q hq=>by cases hq;exact Oc);have Hl7:=θ hl7;have Hx:=θ (eW.trans hx);have Dn:(r:Int)+1<=(d:Int):=η;have anC:0<=(r:Int)+1:=η;clear hl7 hx hS;go_wp2;go_ret;exact⟨g,d,l7,rfl,Hl7.o,Hx.o⟩
end
theorem uC:(prog.info? 76).map (fun i=>(i.zero,i.size,i.bytes))=some (some (.agg #[(0:Int),(0:Int),.slice none 0 0]),3,40):=ey
def Nn(w:κ)(T:Tg)(t id:Nat)(B:aS)(d:Nat)(ks:List Pk):Prop:=∃hs:List (Option Addr×Nat),hs.length=ks.length/\Row w T t 76 3 B ks.length d (cY id ks hs)/\∀(i:Nat) k h,ks[i]?=some k->hs[i]?=some h->Sb w T h.1 (aG id k).length h.2 (aG id k)
section
variable {w w' w0:κ}{T T':Tg}{t b id d:Nat}{B:aS}{ks:List Pk}
theorem Nn.dR(w:κ)(T:Tg)(t id:Nat):Nn w T t id none 0 []:=⟨[],rfl,Row.dR _ _ _ _ _,fun i k h hi=>Ee⟩
theorem Nn.ext(h:Nn w T t id B d ks)(e:Ext w w'):Nn w' T t id B d ks:=by obtain⟨hs,a1,a2,a3⟩:=h;exact⟨hs,a1,a2.ext e,fun i k h hk hh=>(a3 i k h hk hh).ext e⟩
theorem Nn.app(a1:hs.length=ks.length)(a3:∀(i:Nat) k h,ks[i]?=some k->hs[i]?=some h->Sb w T h.1 (aG id k).length h.2 (aG id k))(hT:Ξ S w T w' T')(h0:¬S 0){k:Pk}{bd:Nat}(hb:Sb w' T' A (aG id k).length bd (aG id k))(hR:Row w' T' t 76 3 E (ks.length+1) Ed (cY id ks hs++jR id k (A,bd))):Nn w' T' t id E Ed (ks++[k]):=by
 refine⟨hs++[(A,bd)],by simp[a1],?_,fun i k' h' js YZ=>?_⟩
 .rw[eU,iD,ux id k _ ks hs a1];exact hR
 .by_cases qV:i<ks.length
  .rw[kn (by rw[a1];exact qV)]at YZ;rw[kn qV]at js;exact(a3 i k' h' js YZ).ο hT h0
  .have Yr:i=ks.length:=by have:=(iN.1 js).1;rw[eU,iD]at this;omega
   subst Yr;rw[ij (aq _)]at js;rw[ij (by rw[a1];exact aq _),a1]at YZ;simp only[Nat.sub_self,List.getElem?_cons_zero,kI.injEq]at YZ js;subst js;subst YZ;exact hb
end
def byP(l:aD)(v:ξ)(w:κ)(T:Tg):Prop:=∃B bd,v=.slice B l.length bd/\Sb w T B l.length bd l
theorem byP.aQ(t:Nat)(ht:0<t)(l:aD):sA t (byP l):=by rintro v w T w' T' ⟨B,bd,rfl,h⟩ hT;exact⟨B,bd,rfl,h.ο hT η⟩
theorem zn.aQ(t:Nat)(ht:0<t)(src dst:Nat)(l:aD):sA t (zn src dst l):=by rintro v w T w' T' ⟨B,bd,rfl,h⟩ hT;exact⟨B,bd,rfl,h.ο hT η⟩
theorem zn.one(src dst:Nat)(l:aD):∀(v:ξ) (w:κ) (T:Tg),zn src dst l v w T->v.cells.toList.length=3/\∀y∈v.cells.toList,y.oneCell'=true:=by rintro v w T ⟨B,bd,rfl,_⟩;exact⟨rfl,by simp[kU,ξ.cells,ξ.oneCell']⟩
theorem Qz{w:κ}{T:Tg}(hu:Θ w T){id:Int}{p:Pk}(hp:mw p)(hid:vb id)(hb:Rb w A n c p.ν):τ prog 13 #[lB id p A n c] w (cG (fun _=>False) w T (byP (aG id p))):=by
 refine(Mg w id p A n c hp hid hb).mono ?_;rintro e w' ⟨B,m,d,rfl,ho,he⟩;have hm:m=(aG id p).length:=by have:=ho.1;simpa [ay] using this.symm
 subst hm;exact⟨_,rfl,T,Ξ.ai _ hu he,B,d,rfl,Sb.abm hu ho⟩
section
variable {w w' w0:κ}{T T':Tg}{t b:Nat}{cf:Cf}{me:Nat}{x:Rx}{c c':Cr}{mk:List Nat}
def aeG(w:κ)(T:Tg)(t id me n:Nat)(f:Nat->Pk)(v iv:ξ)(wr:κ):Prop :=
 ∃(k:Nat) (T':Tg) (B:aS) (m d:Nat),iv=.int .i64 (k:Nat)/\k<=n/\v=.slice B m d/\m=(dZ me k).length/\Ξ (· = t) w T wr T'/\Nn wr T' t id B d ((dZ me k).map f)
end
end Go.Proofs.YtffcefoadaogbaaGreat
