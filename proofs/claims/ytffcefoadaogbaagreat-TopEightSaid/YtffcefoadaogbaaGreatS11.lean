/- A part of the proof. -/
import Derived.Test.YtffcefoadaogbaaGreatS10
namespace Go.Proofs.YtffcefoadaogbaaGreat
open Go.RowKit
open Go.Proofs.Tryz
set_option linter.all false
set_option maxRecDepth 100000
set_option maxHeartbeats 16000000
open _root_.List renaming mem_map->fK,length_append->eU,length_singleton->iD,getElem?_append_left->kn,getElem?_eq_some_iff->iN,getElem?_append_right->ij,getElem?_cons_zero->adk,take_of_length_le->jL,getElem?_eq_getElem->bf,mem_append_right->rX,take_add_one->oz,getElem?_map->iZ,mem_of_getElem?->sO,all_toArray->adl,all_eq_true->Gs,take_take->MF
open Go.World renaming alloc->aB,setCell->dG,cell?_setCell_same'->YV,cell?_setCell_other->Ac,frozen?_setCell->pM,cell?_setCells_out->adm,block_lt_of_cell?->mG
open _root_.Option renaming some->kI,map_eq_some_iff->vu
open _root_.Nat renaming le_refl->aq,le_trans->aF,add_zero->AM,lt_of_le_of_lt->YW,zero_add->mZ,lt_of_lt_of_le->eM,zero_le->aM,add_assoc->sK,min_eq_left->IW
open Go.Value renaming int->af,cells->adn,oneCell'->Zq1
open Go.IntKind renaming i64->cQ
open Go.IntWalk renaming i64_in->pS
open _root_.Array renaming getElem?_eq_some_iff->gy
open Go renaming World->κ,Value->ξ,Calls->τ,Addr->cJ,Operand->pT,TypeId->aY,Result->MG
open Go.RowKit renaming Below->fC
variable{A B:aS}{L:List Nat}{P:Program}{Q:Exit->Act->κ->Prop}{S:Nat->Prop}{T:Tg}{a:Act}{d fr g g' i k n o q tC:Nat}{e:aY}{ops:Array Oper}{ν ps:vo}{rest:List Oper}{ju:Nat->Int}{us:List ξ}{w w' w2 w3 wr:κ}{y z:Int}
section
variable {w w':κ}{T T':Tg}{t b rb g mb n last:Nat}{rf:Nat->Int}{vs:Nat->Nat->Int}{ps:List jJ}{p:jJ}
theorem fT.YX(h:fT w T t b rb g mb n rf vs ps last):∀p∈ps,p.bl≠w.heap.size:=fun p hp e=>by have:=(h.vh p hp).lt;omega
def aib(w:κ)(T:Tg)(t b rb g mb n:Nat)(rf:Nat->Int)(vs:Nat->Nat->Int)(ps:List jJ)(last:Nat)(pg:List Nat)(v:ξ)(w':κ)(T':Tg):Prop :=
 v=.int .i64 ((last+1:Nat):Int)/\∃nb,(∀p∈ps,p.bl≠nb)/\fT w' T' t b rb g mb n rf vs (ps++[⟨last+1,nb,pg⟩]) (last+1)
theorem MH(h:fT w T t b rb g mb n rf vs ps last)(Cg:∀p∈ps,p.id<=last)(hu:Θ w T)(ht:0<t)(hl:last<4611686018427387903)(hn:ps.length<=1000)(k0 k1 k2 k3:Nat)(r:Int):τ prog 104 #[π b,.agg #[((k0:Int)+1:Int),((k1:Int)+1:Int),((k2:Int)+1:Int),((k3:Int)+1:Int),r]] w (cG (In t 5) w T (aib w T t b rb g mb n rf vs ps last [k0,k1,k2,k3])):=by
 have hx:last+1∉ps.map jJ.id:=fun hm=>by obtain⟨p,hp,e⟩:=fK.1 hm;have:=Cg p hp;omega
 obtain⟨ru,GI⟩:=Has.fresh hu [.int .i64 ((k0:Int)+1),.int .i64 ((k1:Int)+1),.int .i64 ((k2:Int)+1),.int .i64 ((k3:Int)+1),.int .i64 r] 219 (t+4);have hS0:=h.ο ru (fun k _ h=>h);have pF:=h.YX;have fV:w.heap.size<(w.alloc (.cells #[((k0:Int)+1:Int),((k1:Int)+1:Int),((k2:Int)+1:Int),((k3:Int)+1:Int),r] 219)).heap.size:=bT;unfold π;go_enter func104,ntmps104;go_upto_region 1 with fail
 generalize cw:give T (one w.heap.size) (t+4)=T1 at*;obtain⟨nb,ai6⟩:∃nb,nb=w.heap.size:=⟨_,rfl⟩;rw[←ai6]at GI pF fV⊢;generalize hW0:aB w _=W0 at*;clear hW0 cw;have o6:=θ ru;have HN:=θ pF;have jU:=ru.Δ;clear ru pF h ai6;have c2:=hS0.hd.zc 2;have f2:=hS0.hd.free 2;obtain⟨vm,hSa⟩:=hS0.aby jU (last+1);have rY:((last+1:Nat):Int)=(last:Int)+1:=η;rw[rY]at vm hSa;have hPa:=GI.ο vm η;have Sg:=θ vm;clear vm GI hS0;have pz:=ej ((last:Int)+1);go_upto_region 2 with fail
 generalize hWa:dG W0 _ _=Wa at*;clear hWa c2 f2;have f1:=hPa.free 4;have e1:=hPa.zc 4;obtain⟨qY,Og⟩:=hPa.put (S:=(· = t+4)) Sg.o.Δ 4 (.int .i64 1) rfl;have MI:=hSa.other (a:=⟨nb,4,none⟩) hPa.1 (fun p hp=>HN.o p hp) (.int .i64 1);have HTb:=θ qY;clear qY hPa hSa;go_upto_region 3 with fail
 generalize hWb:dG Wa _ _=Wb at*;clear hWb f1 e1;have d1:=MI.hd.zc 1;have d2:=MI.hd.zc 2;have HS:=θ MI;have HB:=θ Og;obtain⟨D,hD1,hD2⟩:=MI.Ay;have afM:=E8 (x:=last+1) η;clear MI Og;apply lG 8;simp only[tk];repeat apply kZ d1 d2
 refine jq fun Wx ak=>?_;simp only[dk];have hDx:=jV hD1 (ak.block mb hD1.lt);have c2:=ak.cell d2;rw[rY]at afM c2;have HK:=θ fun(W:κ) (hg:Wx.grownBy W (some mb))=>(tf (hg.block b (HS.o.hd.ext ak).lt (fun e=>by have h1:=HS.o.hd.1;have h2:=HS.o.tm;rw[kI.inj e]at h1;omega))).trans c2;go_wp2_with (first|(at_mapUpdate;refine wpList_mapUpdate_own _ rfl (.tmp 16) (.tmp 20) (.tmp 3) 221 rfl 110 215 (Maps.int_keyed underlying110) underlying221 LW mb ps.length D rfl hDx iQ _ _ _ rfl rfl afM _ _ (XV nb) ?_;intro w9 Sh Ko;have c2:=HK.o w9 Ko));go_ret;have hSx:=HS.o.ext ak;have hux:=HTb.o.Δ.ext ak;rw[←rY]at Sh;have hm:=hSx.map ht (pm':=ps++[⟨last+1,nb,[k0,k1,k2,k3]⟩]) (by rw[eU];exact Sh) (hD2.akP hx) Ko;have hBx:=(HB.o.ext ak).grown Ko (fun e=>by have h1:=HB.o.1;have h2:=HS.o.tm;rw[←kI.inj e]at h1;omega);refine⟨_,rfl,T1,?_,by rw[rY];rfl,nb,HN.o,hm.hd,hm.tm,hm.tr,hm.tg,hm.Ay,hm.room,fun p hp=>?_⟩
 .exact((((o6.o.mono fun k hk=>hk.elim).trans (Sg.o.mono fun k hk=>r9)).trans (HTb.o.mono fun k hk=>r9)).ext ak).trans (hSx.RQ hux Ko)
 .rcases List.mem_append.1 hp with hp|hp
  .exact hm.vh p hp
  .rw[List.mem_singleton.1 hp];exact hBx
end
theorem Own.keep{base:Nat}{size:Nat}{c:Nat}{xs:List ξ}(h:Own w base e size A n c xs)(hg:w.grownBy w' (some g))(hne:∀k,bn A=some k->k≠g):Own w' base e size A n c xs :=
 h.kept hg (by
  rcases hb:bn A with _|k
  .exact .inl rfl
  .exact .inr fun e=>hne k hb (kI.inj e))
theorem Si(w:κ)(src dst:Nat)(A:aS)(d:Nat)(l:aD)(hb:Rb w A l.length d l)(hl:l.length<=1000000):τ prog 118 #[kU src dst A l.length d] w fun e w'=>∃B bd,e=.returned (kU src dst B l.length bd)/\Own w' w.heap.size 5 1 B l.length bd (dK l)/\Ext w w':=by
 have Gh:=θ fun W (e:Ext w W)=>BP W A l.length d l (hb.ext e) hl;unfold kU;clear hb;go_enter func118,ntmps118;go_upto_region 1 with fail
 have b1:=Has.new w (fun _=>0) [src,dst,.slice A l.length d] 176 rfl;have b2:=Has.new (w.alloc (.cells #[src,dst,.slice A l.length d] 176)) (fun _=>0) [(0:Int),(0:Int),.slice none 0 0] 176 rfl;have b1:=b1.ext (Ext.alloc _ (.cells #[(0:Int),(0:Int),.slice none 0 0] 176));have x0:=(Ext.alloc w (.cells #[src,dst,.slice A l.length d] 176)).trans (Ext.alloc _ (.cells #[(0:Int),(0:Int),.slice none 0 0] 176));rw[show(w.alloc (.cells #[src,dst,.slice A l.length d] 176)).heap.size=w.heap.size+1 by simp]at b2;have Hm:=θ (show w.heap.size<=w.heap.size from aq _);have Hr:=θ (show w.heap.size+1<=w.heap.size+1 from aq _);generalize hW:aB (aB w _) _=W0 at*;obtain⟨gm,qT⟩:∃gm,gm=w.heap.size:=⟨_,rfl⟩;obtain⟨gr,kS⟩:∃gr,gr=w.heap.size+1:=⟨_,rfl⟩;rw[←kS]at b2;rw[←qT]at b1;rw[←kS,←qT];have hne:gr≠gm:=η;have Hgm:=θ (show w.heap.size<=gm by omega);have Hgr:=θ (show w.heap.size<=gr by omega);clear hW qT kS Hm Hr;have Kp:=θ b1;have Kh:=θ b2;have k2:=b1.zc 2;have um:=b1.lt;have kL:=b2.lt;clear b1 b2;go_wp2_with fail;refine(Gh.o W0 x0).mono ?_;rintro e w1 ⟨B,m,bd,rfl,ho,e1⟩;obtain rfl:m=l.length:=Ld;have c1:=Kp.o.ext e1;have c2:=Kh.o.ext e1;have k2:=c1.zc 2;have f2:=c1.free 2;have PW:=θ (c1.set 2 (.slice B l.length bd));have HC2:=θ (c2.nH (a:=⟨gm,2,none⟩) (by exact fun e=>hne e.symm) (.slice B l.length bd));have hBg:∀k,bn B=some k->k≠gm/\k≠gr:=fun k hk=>by have:=ho.ax k hk;omega
 have HO:=θ (ho.keep (gG w1 ⟨gm,2,none⟩ (.slice B l.length bd)) (fun k hk=>(hBg k hk).1));have yc:=Ext.ags (x0.trans e1) (p:=⟨gm,2,none⟩) Hgm.o (.slice B l.length bd);clear c1 c2 Kp Kh e1 ho;go_upto_region 2 with fail
 generalize hW2:dG w1 _ _=W2 at*;clear hW2 k2 f2;have CJ:[af .i64 (src:Nat),.int .i64 (dst:Nat),.slice B l.length bd].length=3:=rfl;have DS:[af .i64 0,.int .i64 0,.slice none 0 0].length=3:=rfl;have zI:∀u∈[af .i64 (src:Nat),.int .i64 (dst:Nat),.slice B l.length bd],u.oneCell'=true:=gA;have c1:=PW.o.is (show _=[af .i64 (src:Nat),.int .i64 (dst:Nat),.slice B l.length bd] from rfl);have c2:=HC2.o;go_wp2_with (first|(with_reducible refine bI rfl 176 (.tmp 1) rfl rfl underlying176 fq CJ c1.all ?_)|(with_reducible refine bE rfl 176 (.tmp 2) (.tmp 7) rfl rfl (us:=[.int .i64 (src:Nat),.int .i64 (dst:Nat),.slice B l.length bd]) rfl c2 CJ DS fq zI ?_;intro Z bZ gZ sZ));have eZ:=Ext.own (B:=some ⟨gr,0,none⟩) yc gZ (fun k hk=>by have h9:gr=k:=kI.inj hk;have:=Hgr.o;omega);have hOZ:=(HO.o.keep gZ (fun k hk=>(hBg k hk).2)).mono x0.size;exact bodyPost_ret (sQ rfl _ rfl bZ underlying176 fq) rfl ⟨B,bd,rfl,hOZ,eZ⟩
def jS(w:κ)(T:Tg)(t b id:Nat)(ks:List Pk):Prop:=∃(A:aS) (c:Nat) (hs:List (Option cJ×Nat)),hs.length=ks.length/\Has w T t b [.slice A ks.length c]/\Row w T (t+1) 176 3 A ks.length c (cY id ks hs)/\∀(i:Nat) k h,ks[i]?=some k->hs[i]?=some h->Sb w T h.1 (aG id k).length h.2 (aG id k)
section
variable {w w':κ}{T T':Tg}{t b id:Nat}{ks:List Pk}
theorem jS.ο(h:jS w T t b id ks)(hT:Ξ S w T w' T')(h0:¬S 0)(h1:¬S t)(h2:¬S (t+1)):jS w' T' t b id ks:=by obtain⟨A,c,hs,a1,a2,a3,a4⟩:=h;exact⟨A,c,hs,a1,a2.ο hT h1,a3.ο hT h2,fun i k h hi hk=>(a4 i k h hi hk).ο hT h0⟩
theorem jS.ext(h:jS w T t b id ks)(e:Ext w w'):jS w' T t b id ks:=by obtain⟨A,c,hs,a1,a2,a3,a4⟩:=h;exact⟨A,c,hs,a1,a2.ext e,a3.ext e,fun i k h hi hk=>(a4 i k h hi hk).ext e⟩
theorem abI(w:κ)(T:Tg)(hu:Θ w T)(t id:Nat):τ prog 65 #[] w (cG (fun _=>False) w T fun v w' T'=>∃b,v=π b/\jS w' T' t b id []):=by obtain⟨ru,GI⟩:=Has.fresh hu [.slice none 0 0] 192 t;have o6:=θ ru;have HH0:=θ GI;clear ru GI;go_enter func65,ntmps65;go_wp2;go_ret;exact⟨_,rfl,_,o6.o,w.heap.size,rfl,none,0,[],rfl,HH0.o,Row.dR _ _ _ _ _,fun i k h hi=>Ee⟩
theorem Kq(h:jS w T t b id ks):τ prog 63 #[π b] w fun e w'=>e=.returned (ks.length:ξ)/\w'=w:=by obtain⟨A,c,hs,a1,a2,a3,a4⟩:=h;have c0:=a2.zc 0;unfold π;clear a1 a2 a3 a4;go_enter func63,ntmps63;go_wp2;go_ret;exact⟨rfl,rfl⟩
theorem Sj(h:jS w T t b id ks)(i:Int):τ prog 117 #[π b,i] w fun e w'=>e=.returned (.bool (decide (0<=i/\i<(ks.length:Int))))/\w'=w:=by
 have HL:=θ (Kq h);unfold π at*;by_cases h0:0<=i
 .by_cases h1:i<(ks.length:Int)
  .rw[zF (show 0<=i/\i<(ks.length:Int) from⟨h0,h1⟩)];clear h;go_enter func117,ntmps117;go_wp2_with fail;refine HL.o.mono ?_;rintro e w1 ⟨rfl,rfl⟩;go_wp2;go_ret;exact⟨rfl,rfl⟩
  .have e2:=dh (i<(ks.length:Int)) h1;rw[zG (show ¬(0<=i/\i<(ks.length:Int)) from fun h=>h1 h.2)];clear h;go_enter func117,ntmps117;go_wp2_with fail;refine HL.o.mono ?_;rintro e w1 ⟨rfl,rfl⟩;go_wp2;go_ret;exact⟨rfl,rfl⟩
 .rw[zG (show ¬(0<=i/\i<(ks.length:Int)) from fun h=>h0 h.1)];clear h;go_enter func117,ntmps117;go_wp2;go_ret;exact⟨rfl,rfl⟩
def zn(src dst:Nat)(l:aD)(v:ξ)(w:κ)(T:Tg):Prop:=∃B bd,v=kU src dst B l.length bd/\Sb w T B l.length bd l
theorem UH(hu:Θ w T)(src dst:Nat)(A:aS)(d:Nat)(l:aD)(hb:Rb w A l.length d l)(hl:l.length<=1000000):τ prog 118 #[kU src dst A l.length d] w (cG (fun _=>False) w T (zn src dst l)):=by refine(Si w src dst A d l hb hl).mono ?_;rintro e w' ⟨B,bd,rfl,ho,he⟩;exact⟨_,rfl,T,Ξ.ai _ hu he,B,bd,rfl,Rb.of ho.rd rfl,fun _ k hk=>hu k (ho.ax k hk)⟩
theorem YY{T0:Tg}(h:jS w T0 t b id ks)(hu:Θ w T0)(ht:0<t)(k:Pk)(hp:mw k)(K4:ks.length<=300)(hb:Sb w T0 A (aG id k).length d (aG id k)):τ prog 154 #[π b,kU k.src k.dst A (aG id k).length d] w (Does (In t 2) w T0 (.bool (decide (ks.length<300))) fun w' T'=>jS w' T' t b id (if ks.length<300 then ks++[k] else ks)):=by
 obtain⟨i0,hi,dx,dA,dN⟩:=info_parts Cd;have BX:=ID id k (AE hp);have hNN:=θ h;obtain⟨A0,c,hs,a1,a2,a3,a4⟩:=h;have c0:=a2.zc 0;have b1:=(Has.new w (fun _=>0) [k.src,k.dst,.slice A (aG id k).length d] 176 rfl).2;have x1:=Ext.alloc w (.cells #[k.src,k.dst,.slice A (aG id k).length d] 176);have e1:=dh (1000<(aG id k).length);have E7:=dh ((1000:Int)<((aG id k).length:Int));have AO:=θ a1;have K5:=θ a2;have Oh:=θ a3;have Sk:=θ a4;have hne:=a2.jY a3 η;have Hb:=θ hb;unfold π at*;clear a1 a2 a3 a4 hb;by_cases oC:ks.length<300
 .rw[zF oC,if_pos oC]
  have Yg:=dh ((300:Int)<=(ks.length:Int));generalize hEP:aG id k=EP at*;have HEP:=θ hEP;clear hEP;unfold kU;go_enter func154,ntmps154;go_upto_region 1 with fail
  generalize KZ:aB w _=w0 at*;obtain⟨gm,qT⟩:∃gm,gm=w.heap.size:=⟨_,rfl⟩;rw[←qT]at b1;rw[←qT];have II:T0 gm=0:=hu gm η;have hB:Has w0 T0 0 gm [k.src,k.dst,.slice A EP.length d]:=⟨II,b1⟩;have k0:=hB.zc 0;have k1:=hB.zc 1;have k2:=hB.zc 2;have fO:=Oh.o.ext x1;have pF:=hB.jY fO η;have d0:=x1.cell c0;have jU:=hu.ext x1;clear KZ qT hB b1 II c0;go_wp2_with fail;have mA:sA (t+1) (zn k.src k.dst EP):=by rintro v w T w' T' ⟨B,bd,rfl,h⟩ hT;exact⟨B,bd,rfl,h.ο hT η⟩
  have eo:∀(v:ξ) (w:κ) (T:Tg),zn k.src k.dst EP v w T->v.cells.toList.length=3/\∀y∈v.cells.toList,y.oneCell'=true:=by rintro v w T ⟨B,bd,rfl,_⟩;exact⟨rfl,by simp[kU,adn,Zq1]⟩
  have HC:=fun W (hR:gR A0 w0 W)=>UH (show Θ W T0 from fun k hk=>jU k (aF hR.size hk)) k.src k.dst A d EP ((Hb.o.ext x1).ο (Ξ.om (S:=(· = t+1)) jU hR (fun g hg=>fO.2 g hg)) η).rb η;unfold kU at HC;have eL:=(fO).1;have cU:=(fO).cond;apply Ar 11 (gR A0) (oM 8 A0) (BL 8 176 3 A0 ks.length c (cY id ks hs)) (BL.start eL);simp only[tk];repeat apply gF (fun _ h _ _=>aj (h.cell d0 hne) (aj (h.cell k0 pF) (aj (h.cell k1 pF) (h.cell k2 pF))))
  apply uI (p:=uO T0 w0.heap.size (zn k.src k.dst EP)) Γ Γ (uO.aQ mA cU _)
  .intro W hR hJ υ;exact uO.call (fun k hk=>jU k (aF hR.size hk)) hR.size (HC W hR)
  intro v1;simp only[pu];try ((repeat (apply j7 Γ Γ (gR.refl _) (oM.refl _ _);(· rfl);(· intro W hR hJ υ;go_simp;first|done|with_reducible rfl);simp only[pu])))
  apply aE (p:=dI T0 w0.heap.size (zn k.src k.dst EP) 176) Γ Γ (dI.aQ mA cU _)
  .rfl
  .intro W hR hJ υ;have hF:=υ.1 rfl;have hB:=dI.made (e:=176) mA hR.size hF;obtain⟨T9,EK,yX,TL⟩:=hF;obtain⟨B9,bd9,rfl,vY⟩:=TL;refine⟨_,_,?_,(Ext.alloc _ _).grownBy _,.inr (Ext.alloc _ _),hB⟩;go_simp;first|done|rfl
  intro v2;simp only[pu];apply aE (p:=mO T0 w0.heap.size (zn k.src k.dst EP) (t+1) A0 176 3 (ks.length+1) (cY id ks hs)) Γ Γ (fun j hj v w w9 h hR=>mO.aQ j hj v w w9 h mA hR)
  .rfl
  .intro W hR hJ υ;exact dF W _ _ 190 rfl 176 i0 (.agg #[(0:Int),(0:Int),.slice none 0 0]) 3 40 underlying190 hi dx dA dN rfl Γ A0 ks.length c ((cY id ks hs)) rfl (hJ rfl) v2 rfl (υ.1 rfl) eo iQ η cU mA hR.size
  intro v3;simp only[pu];repeat apply gF (fun _ _ _ _=>trivial)
  refine aP ?_;intro W hR gT υ;obtain⟨u1,T1,E,Ed,rfl,cw,BU,ja,pJ⟩:=(υ.1 rfl).fin hR cU;clear υ gT;simp only[dk];have lJ:=(K5.o.ext x1).ο cw η;have c0:=lJ.zc 0;have f0:=lJ.free 0;obtain⟨bq,oZ⟩:=lJ.put (S:=(· = t)) cw.Δ 0 (.slice E (ks.length+1) Ed) rfl;have l8:=θ cw;have jr:=θ bq;have Oe:=θ oZ;have HR1:=θ ja;clear lJ cw bq oZ ja;go_wp2;go_ret;obtain⟨B,bd,rfl,vY⟩:=BU;refine⟨rfl,T1,((Ξ.ai _ hu x1).trans (l8.o.mono fun k hk=>?_)).trans (jr.o.mono fun k hk=>?_),E,Ed,hs++[(B,bd)],by simp[AO.o],?_,?_,?_⟩
  .exact r9
  .exact r9
  .rw[eU,iD];exact Oe.o
  .rw[eU,iD];refine(HR1.o.ο jr.o η).to ?_;rw[ux id k _ ks hs AO.o];unfold jR;rw[HEP.o];rfl
  .intro i k' h' js YZ
   by_cases qV:i<ks.length
   .rw[kn (by rw[AO.o];exact qV)]at YZ;rw[kn qV]at js;exact(((Sk.o i k' h' js YZ).ext x1).ο l8.o η).ο jr.o η
   .have Yr:i=ks.length:=by have:=(iN.1 js).1;rw[eU,iD]at this;omega
    subst Yr;rw[ij (aq _)]at js;rw[ij (by rw[AO.o];exact aq _),AO.o]at YZ;simp only[Nat.sub_self,adk,kI.injEq]at YZ js;subst YZ;subst js;rw[HEP.o];exact vY.ο jr.o η
 .rw[zG oC,if_neg oC]
  have Yg:=dQ ((300:Int)<=(ks.length:Int));unfold kU;clear e1 E7;have d0:=x1.cell c0;go_enter func154,ntmps154;go_upto_region 1 with fail
  generalize KZ:aB w _=w0 at*;clear KZ b1;go_wp2;go_ret;exact⟨rfl,T0,Ξ.ai _ hu x1,hNN.o.ext x1⟩
end
section
variable {P:Program}{w w':κ}{b:Nat}{vs:List ξ}{T T':Tg}{t:Nat}
theorem Y0{ty:aY}(hu:P.underlying ty=some (.array n e))(hi:(P.info? ty).map (·.size)=some n)(hn:vs.length=n)(h:∀i v,vs[i]?=some v->w.cell? ⟨b,o+i,none⟩=some v):(loadVar ty ⟨b,o,none⟩).run P w=.ok (.agg vs.toArray) w:=by
 have hl:(loadCells ⟨b,o,none⟩ vs.length).run P w=.ok vs.toArray w :=
  run_loadCells_list (P:=P) w ⟨b,o,none⟩ _ (fun j v hv=>by rw[cJ.add_lit];exact h j v hv)
 cases hq:P.info? ty with
 |none=>simp[hq]at hi
 |some i =>
  have hs:i.size=n:=S6;have OR:(isAgg ty).run P w=.ok true w:=by unfold isAgg;rw[Sem.run_bind,run_underlying hu w];simp
  rw[hn]at hl;simp[loadVar,Sem.run_bind,OR,sizeOf,typeInfo,hq,hs,hl]
theorem fU{o:Oper}(ty:aY)(x:pT)(ho:o.op=.load ty x)(hx:a.eval x=.pointer (b,k))(hu:P.underlying ty=some (.array n e))(hi:(P.info? ty).map (·.size)=some n)(hn:vs.length=n)(h:∀i v,vs[i]?=some v->w.cell? ⟨b,k+i,none⟩=some v):(execOp a.eval o).run P w=.ok (.value (.agg vs.toArray)) w:=by unfold execOp;simp only[ho,hx,Instr.loadAt,Instr.sureAddr,Sem.run_bind,Sem.run_pure,MG.andThen_ok,Y0 hu hi hn h]
theorem gI{o:Oper}(rJ:o.guard=none)(ty:aY)(x:pT)(ho:o.op=.load ty x)(hx:a.eval x=.pointer (b,k))(hu:P.underlying ty=some (.array n e))(hi:(P.info? ty).map (·.size)=some n)(hn:vs.length=n)(h:∀i v,vs[i]?=some v->w.cell? ⟨b,k+i,none⟩=some v)(hk:wpList P ops Q rest (a.put o.dst (.agg vs.toArray)) w):wpList P ops Q (o::rest) a w:=by refine wpList_plain rJ fun K hK=>?_;unfold Oper.wp;rw[fU ty x ho hx hu hi hn h];exact hK _ _ hk
theorem Has.Kk:∀(us:List ξ) (k:Nat) (vs:List ξ) (w:κ),Has w T t b vs->Θ w T->k+us.length<=vs.length->Ξ (· = t) w T (w.setCells b k us) T/\Has (w.setCells b k us) T t b (vs.take k++us++vs.drop (k+us.length))
 | [],k,vs,w,h,hu,hk=>by refine⟨Ξ.refl _ hu,?_⟩;rw[List.append_nil,List.length_nil,AM,List.take_append_drop];exact h
 |v::r,k,vs,w,h,hu,hk=>by
  have js:k+(r.length+1)<=vs.length:=Ta;obtain⟨hT,hR⟩:=h.put (S:=(· = t)) hu k v rfl;obtain⟨bq,jO⟩:=Has.Kk r (k+1) (vs.set k v) _ hR hT.Δ agd;refine⟨hT.trans bq,jO.is ?_⟩;have jm:(vs.take k).length=k:=Oz;have h1:(vs.set k v).take (k+1)=vs.take k++[v]:=by rw[Sc vs v η,List.take_append,jm,jL η,show k+1-k=1 by omega];rfl
  have h2:(vs.set k v).drop (k+1+r.length)=vs.drop (k+(v::r).length):=by
   rw[List.drop_set_of_lt η,List.length_cons];congr 1
   omega
  rw[h1,h2];simp
theorem Has.spare(h:Has w T t b vs)(hi:i<vs.length):(w.cell? (b,i)).isSome=true/\w.frozen? (b,i)=false:=by refine⟨?_,h.free i⟩;rw[h.cell (bf hi)];rfl
theorem Ch{o:Oper}(rJ:o.guard=none)(ty:aY)(x y:pT)(ho:o.op=.store ty x y)(hx:a.eval x=.pointer (b,k))(hy:a.eval y=.agg us.toArray)(hn:us.length=n)(hi:(P.info? ty).map (·.size)=some n)(h1:∀u∈us,u.oneCell'=true)(hc:∀j,j<n->(w.cell? ⟨b,k+j,none⟩).isSome=true/\w.frozen? ⟨b,k+j,none⟩=false)(hk:wpList P ops Q rest (a.put o.dst undef) (w.setCells b k us)):wpList P ops Q (o::rest) a w:=by
 subst hn;have eH:=run_storeCells_cells (P:=P) b k us 0 w (fun j hj=>by simpa using (hc j hj).1) (fun j hj=>by simpa using (hc j hj).2) h1;rw[AM]at eH;have hsv:(storeVar ty ⟨b,k,none⟩ (.agg us.toArray)).run P w=.ok () (w.setCells b k us):=by
  cases hq:P.info? ty with
  |none=>simp[hq]at hi
  |some i =>have hs:i.size=us.length:=S6;simp[storeVar,sizeOf,typeInfo,hq,adn,hs,eH]
 refine wpList_plain rJ fun K hK=>?_;unfold Oper.wp execOp;simp only[ho,hx,hy,Instr.storeAt,Instr.sureAddr,Sem.run_bind,Sem.run_pure,MG.andThen_ok,hsv];exact hK _ _ hk
end
theorem MJ:(prog.info? 219).map (·.size)=some 5:=ey
theorem IX:(prog.info? 217).map (·.size)=some 4:=ey
theorem Kr{l:List Nat}(h:l.length=4):∃a b c d,l=[a,b,c,d]:=by
 match l,h with
 | [a,b,c,d],_=>exact⟨a,b,c,d,rfl⟩
theorem Fx(k0 k1 k2 k3:Nat)(h:[k0,k1,k2,k3][k]?=some q)(W:κ):(Instr.index 217 (.agg #[((k0:Int)+1:Int),((k1:Int)+1:Int),((k2:Int)+1:Int),((k3:Int)+1:Int)]) (k:ξ)).run prog W=.ok (.int .i64 ((q:Int)+1)) W:=by
 have h0:∀W,(Instr.index 217 (.agg #[((k0:Int)+1:Int),((k1:Int)+1:Int),((k2:Int)+1:Int),((k3:Int)+1:Int)]) (.int .i64 0)).run prog W=.ok (.int .i64 ((k0:Int)+1)) W:=fun _=>ey;have h1:∀W,(Instr.index 217 (.agg #[((k0:Int)+1:Int),((k1:Int)+1:Int),((k2:Int)+1:Int),((k3:Int)+1:Int)]) (.int .i64 1)).run prog W=.ok (.int .i64 ((k1:Int)+1)) W:=fun _=>ey;have h2:∀W,(Instr.index 217 (.agg #[((k0:Int)+1:Int),((k1:Int)+1:Int),((k2:Int)+1:Int),((k3:Int)+1:Int)]) (.int .i64 2)).run prog W=.ok (.int .i64 ((k2:Int)+1)) W:=fun _=>ey;have h3:∀W,(Instr.index 217 (.agg #[((k0:Int)+1:Int),((k1:Int)+1:Int),((k2:Int)+1:Int),((k3:Int)+1:Int)]) (.int .i64 3)).run prog W=.ok (.int .i64 ((k3:Int)+1)) W:=fun _=>ey;match k,h with
 |0,h=>cases h;exact h0 W
 |1,h=>cases h;exact h1 W
 |2,h=>cases h;exact h2 W
 |3,h=>cases h;exact h3 W
section
variable {w w':κ}{T T':Tg}{t b rb g mb n last:Nat}{rf:Nat->Int}{vs:Nat->Nat->Int}{ps:List jJ}{p:jJ}
section
variable(h:Room w rb g n rf vs)(hh:jG n rf L)(hq:q∈L)(hL:L.length<=100000)
include h hh hq hL
theorem abJ:τ prog 103 #[π rb,((q:Int)+1:Int)] w (Left w rb g n (jE rf q (rf q+1)) vs (.bool true)) :=
 W9 h ⟨hh.1 q hq,rfl,by have:=hh.mem hq;omega⟩ (by have:=hh.mem hq;omega) (by have:=hh.le (hh.1 q hq);omega)
theorem abK:τ prog 110 #[π rb,((q:Int)+1:Int)] w (Left w rb g n (jE rf q (rf q-1)) vs (.bool true)) :=
 Xa h ⟨hh.1 q hq,rfl,by have:=hh.mem hq;omega⟩ (by have:=hh.mem hq;omega) (by have:=hh.le (hh.1 q hq);omega)
end
theorem UI(hh:jG n rf L)(hq:q∈L):used n (jE rf q (rf q+1))=used n rf:=by have h1:=hh.mem hq;have:=vT rf q (rf q+1) n (hh.1 q hq);rw[if_pos η,if_pos η]at this;omega
theorem UJ(hh:jG n rf L)(hq:q∈L):used n (jE rf q (rf q-1))<=used n rf:=by have h1:=hh.mem hq;have:=vT rf q (rf q-1) n (hh.1 q hq);rw[if_pos η]at this;split at this<;>omega
def Ks(w:κ)(T:Tg)(t b rb g mb n:Nat)(rf:Nat->Int)(vs:Nat->Nat->Int)(ps:List jJ)(last:Nat)(p:jJ)(iv:ξ)(wr:κ):Prop :=
 ∃(k:Nat) (ju:Nat->Int),iv=.int .i64 (k:Nat)/\k<=4/\fT wr T t b rb g mb n ju vs ps last/\jG n ju (p.pg.take k++refsOf ps)/\used n ju=used n rf/\Ξ (In t 5) w T wr T
theorem UK{A:List Nat}(h:jG n rf (A++L))(hq:q<n):jG n (jE rf q (rf q+1)) (A++[q]++L):=(h.add hq).perm (by rw[List.append_assoc];exact List.perm_middle.symm)
theorem UL(ht:0<t)(hq:p.pg[k]?=some q)(hk:k<4)(h4:p.pg.length=4)(hp:p∈ps)(hu:Θ wr T)(h:fT wr T t b rb g mb n ju vs ps last)(hh:jG n ju (p.pg.take k++refsOf ps))(xA:used n ju=used n rf)(hT:Ξ (In t 5) w T wr T)(hr:Room w3 rb g n (jE ju q (ju q+1)) vs)(hg:wr.grownBy w3 (some g)):Ks w T t b rb g mb n rf vs ps last p (.int .i64 ((k+1:Nat):Int)) w3:=by have hm:q∈p.pg.take k++refsOf ps:=rX _ (E6 hp hq);refine⟨k+1,_,rfl,η,h.left ht hr hg,?_,(UI hh hm).trans xA,hT.trans (h.turned hu hg)⟩;rw[oz,hq];exact UK hh (hh.1 q hm)
def aex(w:κ)(T:Tg)(t b rb g mb n:Nat)(rf:Nat->Int)(vs:Nat->Nat->Int)(ps:List jJ)(last:Nat)(pg:List Nat)(v:ξ)(w':κ)(T':Tg):Prop :=
 v=.tuple #[((last+1:Nat):Int),.bool true]/\∃nb ju,fT w' T' t b rb g mb n ju vs (ps++[⟨last+1,nb,pg⟩]) (last+1)/\vg n ju (ps++[⟨last+1,nb,pg⟩]) (last+1)/\used n ju=used n rf
theorem UM(h:fT w T t b rb g mb n rf vs ps last)(ho:vg n rf ps last)(hp:p∈ps)(hu:Θ w T)(ht:0<t)(hl:last<4611686018427387903)(hn:ps.length<=1000):τ prog 72 #[π b,p.id] w (cG (In t 5) w T (aex w T t b rb g mb n rf vs ps last p.pg)):=by
 have HA:=θ (Az h ho.ids hp (YW (ho.low p hp) η));have h4:=ho.four p hp;obtain⟨k0,k1,k2,k3,hpg⟩:=Kr h4;have Km:J3 p=[.int .i64 ((k0:Int)+1),.int .i64 ((k1:Int)+1),.int .i64 ((k2:Int)+1),.int .i64 ((k3:Int)+1),.int .i64 1]:=by unfold J3;rw[hpg];rfl
 have hvs:∀i v,[af .i64 ((k0:Int)+1),((k1:Int)+1:Int),((k2:Int)+1:Int),((k3:Int)+1:Int)][i]?=some v->w.cell? ⟨p.bl,0+i,none⟩=some v:=fun i v hv=>by
  rw[mZ];refine(h.vh p hp).cell ?_;rw[Km];match i,hv with
  |0,hv=>exact hv
  |1,hv=>exact hv
  |2,hv=>exact hv
  |3,hv=>exact hv
 have eH:Ks w T t b rb g mb n rf vs ps last p (.int .i64 ((0:Nat):Int)) w:=⟨0,rf,rfl,Γ,h,ho.held,rfl,Ξ.refl _ hu⟩;have kR:=θ eH;have Ho:=θ ho;have Hpg:=θ hpg;have H4:=θ h4;have Hpc:=θ Km;have hL:(refsOf ps).length<=4000:=by rw[tc ho.four];omega
 unfold π at*;clear h ho eH hpg h4 Km;go_enter func72,ntmps72;go_wp2_with fail;refine HA.o.mono ?_;rintro e w1 ⟨rfl,hw⟩;subst hw;go_wp2_with (first|(with_reducible refine gI rfl 217 (.tmp 16) rfl rfl underlying217 IX rfl hvs ?_))
 go_loopw [18] (fun iv wr=>Ks w1 T t b rb g mb n rf vs ps last p iv wr) (fun iv _=>4-(intOf iv).toNat)
 case atStart=>exact kR.o
 case round =>
  obtain⟨k,ju,rfl,hk,hS,hh,xA,hT⟩:=hrel;have hLk:(p.pg.take k++refsOf ps).length<=100000:=by rw[eU,List.length_take];omega
  have c0:=xg hS;unfold π at c0;by_cases Od:k<4
  .obtain⟨q,hq⟩:∃q,p.pg[k]?=some q:=⟨_,bf (by rw[H4.o];exact Od)⟩
   have HH:=θ (abJ hS.room hh (q:=q) (rX _ (E6 hp hq)) hLk);have HF:=θ fun w3 hr hg=>UL (w3:=w3) ht hq Od H4.o hp hT.Δ hS hh xA hT hr hg;unfold π at HH;rw[Hpg.o]at hq;clear hS hh xA hT hLk;have Ik:=Fx k0 k1 k2 k3 hq;go_wp2_with fail;refine HH.o.mono ?_;rintro e w3 ⟨rfl,hr,hg⟩;go_wp2;go_roundw
   case rel=>exact HF.o _ hr hg
   case measure=>exact dB
  .obtain rfl:k=4:=by omega
   have HD:=θ (MH hS Ho.o.low hT.Δ ht η hn k0 k1 k2 k3 1);have bW:=(hS.vh p hp).all;rw[Hpc.o]at bW;have HT:=θ hT;have HHh:=θ hh;have HU:=θ xA;unfold π at HD;clear hS hh xA hT hLk;go_wp2_with (first|(with_reducible refine bI rfl 219 (.tmp 30) rfl rfl underlying219 MJ rfl bW ?_))
   refine HD.o.mono ?_;rintro e w3 ⟨v,rfl,T3,cT,rfl,nb,pF,AL⟩;go_wp2;go_ret2
   refine⟨_,rfl,T3,HT.o.trans cT,rfl,nb,ju,?_,?_,HU.o⟩
   .rw[Hpg.o];exact AL
   .refine Ho.o.add ?_ H4.o pF;have:=HHh.o;rwa[jL (by rw[H4.o];exact aq _)]at this
end
section
variable {w w':κ}{T T':Tg}{t b rb g mb n last:Nat}{rf:Nat->Int}{vs:Nat->Nat->Int}{ps:List jJ}{p:jJ}
theorem MK(hi:(ps.map jJ.id).Nodup)(hp:p∈ps):(refsOf ps).Perm (p.pg++refsOf (td ps p.id)):=by obtain⟨l1,l2,rfl⟩:=List.append_of_mem hp;rw[Pc hi];exact Pd
def Kt(w:κ)(T:Tg)(t b rb g mb n:Nat)(rf:Nat->Int)(vs:Nat->Nat->Int)(ps:List jJ)(last:Nat)(p:jJ)(iv:ξ)(wr:κ):Prop :=
 ∃(k:Nat) (ju:Nat->Int),iv=.int .i64 (k:Nat)/\k<=4/\dY wr T t b rb g mb n ju vs ps (td ps p.id) last/\jG n ju (p.pg.drop k++refsOf (td ps p.id))/\used n ju<=used n rf/\Ξ (In t 5) w T wr T
theorem UN(ht:0<t)(hq:p.pg[k]?=some q)(hk:k<4)(hu:Θ wr T)(h:dY wr T t b rb g mb n ju vs ps (td ps p.id) last)(hh:jG n ju (p.pg.drop k++refsOf (td ps p.id)))(xA:used n ju<=used n rf)(hT:Ξ (In t 5) w T wr T)(hr:Room w3 rb g n (jE ju q (ju q-1)) vs)(hg:wr.grownBy w3 (some g)):Kt w T t b rb g mb n rf vs ps last p (.int .i64 ((k+1:Nat):Int)) w3:=by
 obtain⟨aX,he⟩:=iN.1 hq;have hd:p.pg.drop k=q::p.pg.drop (k+1):=by rw[List.drop_eq_getElem_cons aX,he]
 rw[hd]at hh;exact⟨k+1,_,rfl,η,h.left ht hr hg,hh.sub,aF (UJ hh List.mem_cons_self) xA,hT.trans (h.turned hu hg)⟩
def abL(w:κ)(T:Tg)(t b rb g mb n:Nat)(rf:Nat->Int)(vs:Nat->Nat->Int)(ps:List jJ)(last x:Nat)(e:Ending)(w':κ):Prop :=
 e=.returned (.bool true)/\Ξ (In t 5) w T w' T/\∃ju,fT w' T t b rb g mb n ju vs (td ps x) last/\vg n ju (td ps x) last/\used n ju<=used n rf
theorem UO(h:fT w T t b rb g mb n rf vs ps last)(ho:vg n rf ps last)(hp:p∈ps)(hu:Θ w T)(ht:0<t)(hl:last<4611686018427387903)(hn:ps.length<=1000):τ prog 77 #[π b,p.id] w (abL w T t b rb g mb n rf vs ps last p.id):=by
 have hid:p.id<4611686018427387904:=YW (ho.low p hp) η;have HA:=θ (Az h ho.ids hp hid);have h4:=ho.four p hp;obtain⟨k0,k1,k2,k3,hpg⟩:=Kr h4;have Km:J3 p=[.int .i64 ((k0:Int)+1),.int .i64 ((k1:Int)+1),.int .i64 ((k2:Int)+1),.int .i64 ((k3:Int)+1),.int .i64 1]:=by unfold J3;rw[hpg];rfl
 have hP:=h.vh p hp;rw[Km]at hP;have hM:=(h.ahR (ps':=td ps p.id) fun q hq=>(LV.1 hq).1).other (a:=⟨p.bl,4,none⟩) hP.1 (fun q hq e=>by have:=LV.1 hq;exact this.2 (by rw[LU ho.bls this.1 hp e])) (.int .i64 0);obtain⟨cw,BU⟩:=hP.put (S:=(· = t+4)) hu 4 (.int .i64 0) rfl;have hvs:∀i v,[af .i64 ((k0:Int)+1),((k1:Int)+1:Int),((k2:Int)+1:Int),((k3:Int)+1:Int)][i]?=some v->(w.setCell (p.bl,4) (.int .i64 0)).cell? ⟨p.bl,0+i,none⟩=some v:=fun i v hv=>by
  rw[mZ];refine BU.cell ?_;match i,hv with
  |0,hv=>exact hv
  |1,hv=>exact hv
  |2,hv=>exact hv
  |3,hv=>exact hv
 have eH:Kt w T t b rb g mb n rf vs ps last p (.int .i64 ((0:Nat):Int)) (w.setCell (p.bl,4) (.int .i64 0)):=⟨0,rf,rfl,Γ,hM,ho.held.perm (MK ho.ids hp),aq _,cw.mono fun k hk=>r9⟩;have c4:=hP.zc 4;have f4:=hP.free 4;have hL:(refsOf ps).length<=4000:=by rw[tc ho.four];omega
 have hLd:(refsOf (td ps p.id)).length<=4000:=by have:=(MK ho.ids hp).length_eq;rw[eU]at this;omega
 have kR:=θ eH;have Ho:=θ ho;have Hpg:=θ hpg;have H4:=θ h4;have afM:=E8 (x:=p.id) hid;have c5:=BU.zc 4;unfold π at*;clear h ho eH hpg h4 Km hM cw BU hP;go_enter func77,ntmps77;go_wp2_with fail;refine HA.o.mono ?_;rintro e w1 ⟨rfl,hw⟩;subst hw;go_upto_region 5 with fail
 generalize hW:dG w1 _ _=W at*;clear hW;go_wp2_with (first|(with_reducible refine gI rfl 217 (.tmp 27) rfl rfl underlying217 IX rfl hvs ?_))
 go_loopw [29] (fun iv wr=>Kt w1 T t b rb g mb n rf vs ps last p iv wr) (fun iv _=>4-(intOf iv).toNat)
 case atStart=>exact kR.o
 case round =>
  obtain⟨k,ju,rfl,hk,hS,hh,xA,hT⟩:=hrel;have hLk:(p.pg.drop k++refsOf (td ps p.id)).length<=100000:=by rw[eU,List.length_drop];have:=H4.o;omega
  have c0:wr.cell? b=some (π rb):=hS.hd.zc 0;unfold π at c0;by_cases Od:k<4
  .obtain⟨q,hq⟩:∃q,p.pg[k]?=some q:=⟨_,bf (by rw[H4.o];exact Od)⟩
   have hm:q∈p.pg.drop k++refsOf (td ps p.id):=List.mem_append_left _ (List.mem_iff_getElem?.2 ⟨0,by rw[List.getElem?_drop];exact hq⟩);have HH:=θ (abK hS.room hh hm hLk);have HF:=θ fun w3 hr hg=>UN (w3:=w3) ht hq Od hT.Δ hS hh xA hT hr hg;unfold π at HH;rw[Hpg.o]at hq;clear hS hh xA hT hLk hm;have Ik:=Fx k0 k1 k2 k3 hq;go_wp2_with fail;refine HH.o.mono ?_;rintro e w3 ⟨rfl,hr,hg⟩;go_wp2;go_roundw
   case rel=>exact HF.o _ hr hg
   case measure=>exact dB
  .obtain rfl:k=4:=by omega
   have c1:=hS.hd.zc 1;obtain⟨D,hD1,hD2⟩:=hS.Ay;have HS:=θ hS;have HT:=θ hT;have HHh:=θ hh;have HU:=θ xA;clear hS hh xA hT hLk;go_wp2_with (first|(at_delete;refine wpList_delete_own _ rfl (.tmp 42) (.tmp 43) 221 110 rfl 215 (Maps.int_keyed underlying110) underlying221 LW mb ps.length D rfl hD1 _ _ rfl afM ?_;intro w9 Sh Y6));have hDM:=hD2.akQ p.id;have ht9:=GJ Sh;rw[hDM.size]at ht9;go_ret;refine⟨rfl,HT.o.trans (HS.o.RQ HT.o.Δ Y6.grown),ju,HS.o.map ht ht9 hDM Y6.grown,?_,HU.o⟩;have h9:=HHh.o;rw[List.drop_eq_nil_of_le (by rw[H4.o];exact aq _),List.nil_append]at h9;have sq:(td ps p.id).Sublist ps:=List.filter_sublist;exact⟨h9,fun q hq=>Ho.o.four q (sq.subset hq),Ho.o.ids.sublist (sq.map _),fun q hq=>Ho.o.low q (sq.subset hq),Ho.o.bls.sublist (sq.map _)⟩
end
section
variable {w w':κ}{T T':Tg}{t b rb g mb n last:Nat}{rf:Nat->Int}{vs:Nat->Nat->Int}{ps:List jJ}{p:jJ}
theorem PX(a:cJ)(n c:Nat)(w:κ):(binOp .eql 22 (.slice (some a) n c) (.slice none 0 0)).run prog w=.ok (.bool false) w:=ey
theorem PY(w:κ)(a:cJ)(n c:Nat)(xs:List Int)(hb:Rd w 1 (some a) n c (xs.map (af .i64)))(hn:n<=1000):τ prog 159 #[.slice (some a) n c] w fun e w'=>∃B d,e=.returned (.slice B n d)/\Own w' w.heap.size 3 1 B n d (xs.map (af .i64))/\Ext w w':=by
 obtain⟨i0,hi,dx,dA,dN⟩:=info_parts Mh;have Hb:=θ hb;have eo:∀u∈xs.map (af .i64),u.oneCell'=true:=by intro u hu;obtain⟨x,_,rfl⟩:=fK.1 hu;rfl
 clear hb;have BQ:=PX a n c w;go_enter func159,ntmps159;go_wp2_with (at_builtin;refine aN _ rfl _ _ 22 rfl w.heap.size 3 i0 (.int .i64 0) 1 8 underlying22 hi dx dA dN rfl Γ (some ⟨w.heap.size,0,none⟩) 0 0 [] rfl (Own.made w w.heap.size 3 1 [] 0 (aq _) Γ rfl) (some a) n c _ rfl (Rd.ext Hb.o (Ext.alloc _ _)) eo iQ η bT ?_;intro E Ed wy fQ fN oY);go_ret;rw[mZ]at fQ;exact⟨E,Ed,rfl,fQ,fC.trans (Ext.alloc _ _) (fW fN bT (by intro k hk;cases hk;exact aq _))⟩
def uz(p:jJ):List Int:=p.pg.map fun k:Nat=>(k:Int)+1
theorem Fy(h:fT w T t b rb g mb n rf vs ps last)(ho:vg n rf ps last)(hp:p∈ps)(hl:last<4611686018427387903):τ prog 127 #[π b,p.id] w fun e w'=>∃B d,e=.returned (.slice B 4 d)/\Own w' w.heap.size 3 1 B 4 d ((uz p).map (af .i64))/\Ext w w':=by
 have HA:=θ (Az h ho.ids hp (YW (ho.low p hp) η));have h4:=ho.four p hp;have hP:=h.vh p hp;have hRd:Rd w 1 (some ⟨p.bl,0,none⟩) 4 4 ((uz p).map (af .i64)):=by
  refine⟨by simp[uz,h4],aq _,iQ,fun _=>⟨p.bl,0,rfl,fun j u hu=>?_⟩⟩;rw[mZ];refine hP.cell ?_;unfold J3;rw[kn (by have:=(iN.1 hu).1;simpa [uz] using this)]
  rw[←hu,uz,List.map_map];rfl
 have HC:=θ (PY w ⟨p.bl,0,none⟩ 4 4 (uz p) hRd Γ);unfold π at*;clear h ho hRd hP;go_enter func127,ntmps127;go_wp2_with fail;refine HA.o.mono ?_;rintro e w1 ⟨rfl,hw⟩;subst hw;go_wp2_with fail;refine HC.o.mono ?_;rintro e w2 ⟨B,d,rfl,hB⟩;go_wp2;go_ret;exact⟨B,d,rfl,hB⟩
theorem Y8(r:Nat):(4:Int)*(r:Int)=((4*r:Nat):Int):=η
theorem Y9(w:κ)(T:Tg)(hu:Θ w T)(t:Nat)(ht:0<t)(r:Nat)(h1:1<=r)(h50:r<=50):τ prog 138 #[r] w (cG (fun _=>False) w T fun v w' T'=>∃b,v=π b/\aZ w' T' t b (4*r) (4*r) 0 []):=by
 have HN:=θ (abp w (4*(r:Int)) (4*r) (.inr η) η);have XK:=@run_makeMap prog;have hw:cQ.wrap ((4:Int)*(r:Int))=((4*r:Nat):Int):=by rw[Y8];exact pS _ η
 have Ir:max (r:Int) 0=(r:Int):=η;have Fa:min (r:Int) 50=(r:Int):=η;go_enter func138,ntmps138;go_wp2_with fail;refine HN.o.mono ?_;rintro e w1 ⟨rb,g,rfl,ng,sj,e1,hR⟩;go_wp2_with fail;have CI:=hR.lt;have hrl:=hR.ltb;have hne:=hR.ne;have ru:Hq (∃T1:Tg,T1 (w1.heap.size+1)=t/\T1 w1.heap.size=t+1/\T1 rb=t+2/\T1 g=t+3/\(∀k,k<w.heap.size->T1 k=T k)/\∀k,w1.heap.size+2<=k->T1 k=0):=by
  have hs:=e1.size;refine θ ⟨fun k=>if k=w1.heap.size+1 then t else if k=w1.heap.size then t+1 else if k=rb then t+2 else if k=g then t+3 else T k,if_pos rfl,?_,?_,?_,fun k hk=>?_,fun k hk=>?_⟩
  .simp
  .simp only[if_neg (show rb≠w1.heap.size+1 by omega),if_neg (show rb≠w1.heap.size by omega),if_true]
  .simp only[if_neg (show g≠w1.heap.size+1 by omega),if_neg (show g≠w1.heap.size by omega),if_neg (fun e=>hne e.symm:¬g=rb),if_true]
  .simp only[if_neg (show k≠w1.heap.size+1 by omega),if_neg (show k≠w1.heap.size by omega),if_neg (show k≠rb by omega),if_neg (show k≠g by omega)]
  .simp only[if_neg (show k≠w1.heap.size+1 by omega),if_neg (show k≠w1.heap.size by omega),if_neg (show k≠rb by omega),if_neg (show k≠g by omega)];exact hu k η
 obtain⟨T1,q0,q1,q2,q3,q4,q5⟩:=ru.o;have hm:=κ.ownsMap_made w1 prog 110 LW;have xm:=Ext.alloc w1 (.map #[] 0);have KV:(w1.alloc (.map #[] 0)).heap.size=w1.heap.size+1:=bT;have hb:=Has.new (w1.alloc (.map #[] 0)) T1 (za rb w1.heap.size 0) 223 rfl;have xb:=Ext.alloc (w1.alloc (.map #[] 0)) (.cells (za rb w1.heap.size 0).toArray 223);have Fa:=hm.alloc (.cells (za rb w1.heap.size 0).toArray 223);have jO:=(hR.ext xm).ext xb;have x2:=(e1.trans xm).trans xb;rw[KV,q0]at hb;have Yf:((w1.alloc (.map #[] 0)).alloc (.cells (za rb w1.heap.size 0).toArray 223)).heap.size=w1.heap.size+2:=bT;have hT:Ξ (fun _=>False) w T ((w1.alloc (.map #[] 0)).alloc (.cells (za rb w1.heap.size 0).toArray 223)) T1 :=
  ⟨x2.os,x2.tape,x2.output,x2.size,fun k hk _=>x2.block k hk,q4,fun k hk=>q5 k η⟩
 go_ret;refine⟨_,rfl,T1,hT,w1.heap.size+1,rfl,rb,g,w1.heap.size,fun _=>0,fun _ _=>0,[],⟨hb,q1,q2,q3,⟨.map [],Fa,DM.dR⟩,jO,fun p hp=>by simp at hp⟩,vg.akO _,?_,rfl⟩;rw[BV _ _ (fun _ _=>rfl)];rfl
end
section
variable {w w':κ}{T T':Tg}{t b:Nat}{A:aS}{n c:Nat}
theorem abM(w:κ)(g:Nat)(x a e:Int)(hg:g<w.heap.size)(hx:w.cell? g=some (x:ξ)):τ prog 106 #[.agg #[a,.int .i64 e],.pointer g] w fun e w'=>(∃r:Bool,e=.returned (.bool r))/\Ext w w':=by go_enter func106,ntmps106;go_wp2;go_ret;exact⟨⟨_,rfl⟩,Ext.alloc _ _⟩
section
variable(h:Jr w T t A n c)(hn:n<=16)(g:Nat)(x:Int)(hg:g<w.heap.size)(hx:w.cell? g=some (x:ξ))
include h hn hg hx
theorem UP:τ prog 150 #[.slice A n c,.func (.func 106) #[] #[.pointer g]] w fun e w'=>(∃i:Int,e=.returned (i:ξ))/\Ext w w':=by
 have HP:=θ fun W (e:Ext w W) a e'=>abM W g x a e' (eM hg e.size) (e.cell hx);have Hc:=θ h.cells;have hle:=h.le;have Za:=θ h.none_;clear h hx hg;go_enter func150,ntmps150;go_wp2_with fail;go_loopw [8] (fun iv wr=>∃k:Nat,iv=.int .i64 (k:Nat)/\k<=n/\Ext w wr) (fun iv _=>n-(intOf iv).toNat)
 case atStart=>exact⟨0,rfl,aM _,Ext.refl _⟩
 case round =>
  obtain⟨k,rfl,hk,he⟩:=hrel;by_cases jk:k<n
  .cases A with
   |none=>exact absurd (Za.o rfl) η
   |some a =>
    obtain⟨g9,o,rfl,_,_,h1,_⟩:=Hc.o a rfl;obtain⟨x1,q1⟩:=h1 (k*2) η;obtain⟨x2,q2⟩:=h1 (k*2+1) η;replace q1:=he.cell q1;replace q2:=he.cell q2;rw[←sK]at q2;go_wp2_with fail;refine(HP.o wr he x1 x2).mono ?_;rintro e w3 ⟨⟨r,rfl⟩,e3⟩;cases r with
    |true =>go_wp2;go_ret;exact⟨⟨_,rfl⟩,he.trans e3⟩
    |false =>
     go_wp2;go_roundw
     case rel=>exact⟨k+1,cR,η,he.trans e3⟩
     case measure=>exact dB
  .obtain rfl:k=n:=by omega
   go_wp2;go_ret;exact⟨⟨-1,rfl⟩,he⟩
theorem Ku:τ prog 105 #[.slice A n c,.func (.func 106) #[] #[.pointer g]] w fun e w'=>(∃r:Bool,e=.returned (.bool r))/\Ext w w':=by have HI:=θ (UP h hn g x hg hx);clear h hx hg;go_enter func105,ntmps105;go_wp2_with fail;refine HI.o.mono ?_;rintro e w1 ⟨⟨i,rfl⟩,e1⟩;go_wp2;go_ret;exact⟨⟨_,rfl⟩,e1⟩
end
end
theorem Zb:(prog.info? 132).map (fun i=>(i.zero,i.size,i.bytes))=some (some (.agg #[(0:Int),(0:Int)]),2,16):=ey
section
variable {w w' w0:κ}{T T' T1:Tg}{t b m k:Nat}{A C:aS}{n c:Nat}
theorem xB{p a:cJ}{u:ξ}(h:(w.cell? p).isSome=true)(hp:p.spot=none)(ha:a.spot=none):((w.setCell a u).cell? p).isSome=true:=by
 by_cases e:a=p
 .subst e;rw[YV _ _ _ h];rfl
 .rw[Ac (h:=e)];exact h
theorem Jr.ET(h:Jr w T t C n c):∃xs:List Int,xs.length=n*2/\Rd w 2 C n n (xs.map (af .i64)):=by
 rcases hC:C with _|a
 .have h0:=h.none_ hC;have h1:=h.le;obtain rfl:n=0:=η;exact⟨[],rfl,bT,aq _,aM _,fun h=>η⟩
 .obtain⟨g,o,rfl,ht,hg,h1,h2⟩:=h.cells a hC
  have hx:∃f:Nat->Int,∀j,j<n*2->w.cell? ⟨g,o+j,none⟩=some (.int .i64 (f j)):=by refine⟨fun j=>match w.cell? ⟨g,o+j,none⟩ with|some (.int .i64 x)=>x|_=>0,fun j hj=>?_⟩;obtain⟨x,hx⟩:=h1 j hj;simp only[hx]
  obtain⟨f,hf⟩:=hx;refine⟨(List.range (n*2)).map f,bT,bT,aq _,aF h.le h.max,fun _=>⟨g,o,rfl,fun j u hu=>?_⟩⟩;rw[iZ,iZ]at hu;by_cases hj:j<n*2
  .rw[List.getElem?_range hj]at hu
   cases hu
   exact hf j hj
  .rw[List.getElem?_eq_none (by simpa using hj)]at hu;cases hu
theorem Jr.aey{xs:List Int}(hx:xs.length=n*2)(hn:0<n)(h:Own w m 132 2 B n d (xs.map (af .i64)))(ht:∀k,bn B=some k->T k=t):Jr w T t B n d:=by
 rcases h.2 with ⟨_,h0⟩|⟨g,cap,cur,hv,hb,hg,KX,hm,hs,uG⟩
 .omega
 .injection hv with h1 h2 h3
  subst h1 h3;refine⟨KX,hm,fun e=>(by cases e),fun a ha=>?_⟩;cases ha
  refine⟨g,0,rfl,ht g rfl,(gy.1 hg).1,fun j hj=>?_,fun j hj=>⟨?_,?_⟩⟩
  .refine⟨xs[j]' η,?_⟩;rw[mZ,cell_of_row _ _ _ _ _ _ hg];have:=congrArg (·[j]?) uG;simp only[List.getElem?_take,if_pos hj,iZ,bf (show j<xs.length by omega)]at this;simpa using this
  .rw[mZ,cell_of_row _ _ _ _ _ _ hg];rw[Array.getElem?_eq_getElem (by rw[hs];exact hj)];rfl
  .simp only[κ.frozen?,hg];simp
theorem Jr.room(h:Jr w T t (some ⟨g,o,none⟩) n c)(hn:n<c)(y z:Int):Jr ((w.setCell (g,o+n*2) (y:ξ)).setCell (g,o+n*2+1) (z:ξ)) T t (some ⟨g,o,none⟩) (n+1) c:=by
 obtain⟨g',o',e,ht,hg,h1,h2⟩:=h.cells _ rfl;cases e
 refine⟨hn,h.max,fun e=>(by cases e),fun a ha=>?_⟩;cases ha
 have s0:=(h2 (n*2) η).1;have s1:=(h2 (n*2+1) η).1;rw[←sK]at s1;refine⟨g,o,rfl,ht,by simpa [dG] using hg,fun j hj=>?_,fun j hj=>⟨?_,?_⟩⟩
 .by_cases e1:j=n*2+1
  .subst e1;rw[←sK,YV _ _ _ (xB s1 rfl rfl)];exact⟨z,rfl⟩
  .rw[Ac (h:=fun e=>by injection e with _ e _;omega)]
   by_cases e0:j=n*2
   .subst e0;rw[YV _ _ _ s0];exact⟨y,rfl⟩
   .rw[Ac (h:=fun e=>by injection e with _ e _;omega)];exact h1 j η
 .exact xB (xB (h2 j hj).1 rfl rfl) rfl rfl
 .rw[pM,pM];exact(h2 j hj).2
def UQ(T:Tg)(m t:Nat)(C:aS)(n:Nat)(v:ξ)(w:κ):Prop:=∃B d T',v=.slice B n d/\(∀k,k<m->T' k=T k)/\Θ w T'/\Jr w T' t B n d
def gJj(k:Nat)(T:Tg)(t:Nat)(C:aS)(n c:Nat)(j:Nat)(w:κ):Prop:=j=k->Jr w T t C n c
theorem gJj.aQ:∀j i,i≠j->∀w w',gJj k T t C n c j w->oM k C i w w'->gJj k T t C n c j w':=by
 intro j i yh w w' hJ hR JV;rcases hR with ⟨h,_⟩|h
 .exact absurd (h.trans JV.symm) yh
 .exact(hJ JV).ext h
theorem gJj.start(h:Jr w T t C n c):∀i,gJj k T t C n c i w.drew:=fun _ _=>h.ext (Ext.drew w)
theorem UQ.aQ:∀j,j≠k->∀v w w',UQ T m t A n v w->oM k C j w w'->UQ T m t A n v w':=by
 rintro j hj v w w' ⟨B,d,T',h0,h1,h2,h3⟩ hR;rcases hR with ⟨h,_⟩|hg
 .exact absurd h hj
 .exact⟨B,d,T',h0,h1,h2.ext hg,h3.ext hg⟩
def IY(m:Nat)(y z:Int)(v:ξ)(w:κ):Prop:=∃g,v=.slice (some ⟨g,0,none⟩) 1 1/\m<=g/\w.heap[g]?=some (.cells #[y,z] 132 (0,0))
theorem IY.aQ(hC:∀g,bn C=some g->g<m)(i:Nat):∀j,j≠i->∀v w w',IY m y z v w->oM k C j w w'->IY m y z v w':=by
 rintro j hj v w w' ⟨g,h1,h2,h3⟩ hR;refine⟨g,h1,h2,?_⟩;have aX:=(gy.1 h3).1;rcases hR with ⟨_,hg⟩|hg
 .rw[hg.block g aX (fun e=>by have:=hC g e.symm;omega)];exact h3
 .rw[hg.block g aX];exact h3
theorem Dx(w:κ){o:Oper}(s x:pT)(ho:o.op=.call {callee:=.builtin .append,args:=#[s,x],argTypes:=#[212,212]})(hs:a.eval s=.slice C n c)(h:Jr w T t C n c)(hn:n<=15)(hu:Θ w T){xv:ξ}(hx:a.eval x=xv)(hb:IY m y z xv w)(hm:m<=w.heap.size):∃v w',(execOp a.eval o).run prog w=.ok (.value v) w'/\gR C w w'/\oM k C k w w'/\UQ T m t A (n+1) v w':=by
 obtain⟨i0,hi,dx,dA,dN⟩:=info_parts Zb;obtain⟨g9,rfl,h9,BI⟩:=hb;have hr:Rd w 2 (some ⟨g9,0,none⟩) 1 1 [y,z]:=⟨rfl,aq _,iQ,fun _=>⟨g9,0,rfl,fun j u hu=>by rw[cell_of_row _ _ _ _ _ _ BI];simpa using hu⟩⟩
 have h1:∀u∈[af .i64 y,.int .i64 z],u.oneCell'=true:=gA;have ado:∀{v w'},(Builtin.append_ #[212,212] o.type #[.slice C n c,.slice g9 1 1]).run prog w=.ok v w'->(execOp a.eval o).run prog w=.ok (.value v) w':=fun uH=>by unfold execOp;simp only[ho,resolve,invoke,builtin,Sem.run_bind,Sem.run_pure,MG.andThen_ok,List.map_toArray,List.map_cons,List.map_nil,hs,hx,uH]
 by_cases Gc:n<c
 .obtain⟨a9,rfl⟩:∃a9,C=some a9:=by
   cases C with
   |none=>have:=h.none_ rfl;omega
   |some a=>exact⟨a,rfl⟩
  obtain⟨g,o9,rfl,ht,hg,k1,k2⟩:=h.cells _ rfl;have bU:=run_append_room_cells (P:=prog) (w:=w) 212 o.type 132 i0 underlying212 hi g o9 n c ⟨g9,0,none⟩ 1 1 [y,z] (by rw[dA];rfl) (fun j u hu=>by
   rw[cJ.add_lit,mZ,cell_of_row _ _ _ _ _ _ BI];simpa using hu) h1 Gc
   (fun j hj=>by rw[dA,sK];exact(k2 _ (by simp at hj;omega)).1) (fun j hj=>by rw[dA,sK];exact(k2 _ (by simp at hj;omega)).2)
  rw[dA]at bU;have kS:w.grownBy (w.setCells g (o9+n*2) [y,z]) (some g):=aK (gG w ⟨g,o9+n*2,none⟩ _) (gG _ ⟨g,o9+n*2+1,none⟩ _);exact⟨_,_,ado bU,kS,.inl ⟨rfl,kS⟩,_,_,T,rfl,fun _ _=>rfl,(fun k hk=>hu k (aF kS.size hk)),h.room Gc y z⟩
 .obtain rfl:n=c:=by have:=h.le;omega
  obtain⟨xs,BK,Dn⟩:=h.ET;obtain⟨B,d,w',bU,fS,lV⟩:=lI (P:=prog) w 212 o.type 132 i0 (.agg #[.int .i64 0,.int .i64 0]) 2 16 underlying212 hi dx dA dN rfl Γ C n _ Dn _ 1 1 _ hr η h1 iQ η;have Xq:Own w' w.heap.size 132 2 B (n+1) d ((xs++[y,z]).map (af .i64)):=by rw[List.map_append];exact fS
  have hu':=hu.ext lV;refine⟨_,_,ado bU,lV.grownBy _,.inr lV,B,d,give T (went none B) t,rfl,fun j hj=>qJ ?_,fun j hj=>?_,Jr.aey dw η Xq (fun j hj=>wR (by simp only[went,decide_eq_true_eq];exact⟨hj,kW⟩))⟩
  .simp only[went,decide_eq_false_iff_not];rintro ⟨hb,_⟩;have:=fS.ax j hb;omega
  .rw[qJ]
   .exact hu' j hj
   .simp only[went,decide_eq_false_iff_not];rintro ⟨hb,_⟩;obtain⟨a9,ha9,rfl⟩:=vu.1 hb;have:=(fS.gU a9 ha9).2;omega
end
section
variable {w w' w0:κ}{T T' T1:Tg}{t b m k:Nat}{A C:aS}{n c:Nat}
theorem Jr.lt_(h:Jr w T t A n c)(hg:bn A=some g):g<w.heap.size/\T g=t:=by obtain⟨a,ha,rfl⟩:=vu.1 hg;obtain⟨g,o,rfl,ht,hl,_⟩:=h.cells a ha;exact⟨hl,ht⟩
theorem abN(h:jh w T t b)(hu:Θ w T)(ht:0<t)(x y:Int):τ prog 73 #[π b,.agg #[x,y]] w (cG (In t 2) w T fun v w' T'=>(∃r:Bool,v=.bool r)/\jh w' T' t b):=by
 have HJ:=θ h;obtain⟨A,n,c,hn,a1,a2⟩:=h;have x1:=Ext.alloc w (.cells #[x,y] 132);have b1:=(Has.new w (fun _=>0) [x,y] 132 rfl);have Ha1:=θ a1;have Ha2:=θ a2;have c0:=a1.zc 0;unfold π;clear a1 a2;go_enter func73,ntmps73;go_upto_region 1 with fail
 generalize hW:aB w _=W0 at*;obtain⟨gm,qT⟩:∃gm,gm=w.heap.size:=⟨_,rfl⟩;rw[←qT]at b1⊢;have Hgm:=θ (show w.heap.size<=gm by omega);clear hW qT;have k0:=b1.zc 0;have CI:=b1.lt;have HB:=θ b1;have d0:=x1.cell c0;have HC:=θ (Ku (Ha2.o.ext x1) hn gm x CI k0);clear b1;by_cases Zc:n<16
 .have E7:=dh ((16:Int)<=(n:Int))
  have ale:=θ Zc;clear Zc;go_wp2_with (first|simp only[Instr.makeFunc])
  refine HC.o.mono ?_;rintro e w1 ⟨⟨r,rfl⟩,ee⟩;have x2:=x1.trans ee;cases r with
  |true =>go_wp2;go_ret;exact⟨_,rfl,T,Ξ.ai _ hu x2,⟨_,rfl⟩,HJ.o.ext x2⟩
  |false =>
   replace d0:=ee.cell d0;have k0:=(HB.o.ext ee).zc 0;have k1:=(HB.o.ext ee).zc 1;have hJ:=Ha2.o.ext x2;have hH:=Ha1.o.ext x2;have GZ:=hu.ext x2;have hC:=fun g=>hJ.lt_ (g:=g);have pF:bn A≠some b:=fun e=>by have:=(hC b e).2;rw[hH.1]at this;omega
   have uA:bn A≠some gm:=fun e=>by have:=(Ha2.o.lt_ e).1;have:=Hgm.o;omega
   have HJ1:=θ hJ;have HH1:=θ hH;have alf:n<=15:=by have:=ale.o;omega
   clear hH;go_wp2_with fail;apply Ar 10 (gR A) (oM 7 A) (gJj 7 T (t+1) A n c) (gJj.start HJ1.o);simp only[tk];repeat apply gF (fun _ h _ _=>aj (h.cell d0 pF) (aj (h.cell k0 uA) (h.cell k1 uA)))
   apply aE (p:=IY w1.heap.size x y) Γ Γ (IY.aQ (fun g hg=>(hC g hg).1) _)
   .rfl
   .intro W hR hJ υ;refine⟨_,_,?_,(Ext.alloc _ _).grownBy _,.inr (Ext.alloc _ _),⟨_,rfl,hR.size,heap_alloc_new W _⟩⟩;go_simp;first|done|rfl
   intro v2;simp only[pu];apply aE (p:=UQ T w1.heap.size (t+1) A (n+1)) Γ Γ UQ.aQ
   .rfl
   .intro W hR hJ υ;exact Dx W _ _ rfl rfl (hJ rfl) alf (fun k hk=>GZ k (aF hR.size hk)) rfl (υ.1 rfl) hR.size
   intro v3;simp only[pu];repeat apply gF (fun _ _ _ _=>trivial)
   refine aP ?_;intro W hR gT υ;obtain⟨B,d,T1,rfl,q1,q2,q3⟩:=υ.1 rfl;clear υ gT;simp only[dk];have cw:Ξ (· = t+1) w1 T W T1:=⟨hR.os,hR.tape,hR.output,hR.size,fun k hk hn=>hR.block k hk (fun e=>hn (hC k e.symm).2),q1,q2⟩;have lJ:=HH1.o.ο cw η;have c0:=lJ.zc 0;have f0:=lJ.free 0;obtain⟨bq,oZ⟩:=lJ.put (S:=(· = t)) q2 0 (.slice B (n+1) d) rfl;have HT:=θ (((Ξ.ai (In t 2) hu x2).trans (cw.mono fun k hk=>r9)).trans (bq.mono fun k hk=>r9));have HK:=θ (show jh (W.setCell b (.slice B (n+1) d)) T1 t b from⟨B,n+1,d,η,oZ,q3.ο bq η⟩);clear cw bq lJ oZ q1 q2 q3 hR;go_wp2;go_ret;exact⟨_,rfl,T1,HT.o,⟨_,rfl⟩,HK.o⟩
 .obtain rfl:n=16:=by omega
  clear Zc;go_wp2;go_ret;exact⟨_,rfl,T,Ξ.ai _ hu x1,⟨_,rfl⟩,HJ.o.ext x1⟩
end
section
variable {w w':κ}{T T':Tg}{t b:Nat}{A:aS}{n c:Nat}
theorem Sl(w:κ)(g:Nat)(x a e:Int)(hg:g<w.heap.size)(hx:w.cell? g=some (x:ξ)):τ prog 312 #[.agg #[a,.int .i64 e],.pointer g] w fun e w'=>(∃r:Bool,e=.returned (.bool r))/\Ext w w':=by go_enter func312,ntmps312;go_wp2;go_ret;exact⟨⟨_,rfl⟩,Ext.alloc _ _⟩
theorem UR(h:Jr w T t A n c)(hn:n<=16)(g:Nat)(x:Int)(hg:g<w.heap.size)(hx:w.cell? g=some (x:ξ)):τ prog 150 #[.slice A n c,.func (.func 312) #[] #[.pointer g]] w fun e w'=>(e=.returned (.int .i64 (-1))\/∃k:Nat,k<n/\e=.returned (k:ξ))/\Ext w w':=by
 have HP:=θ fun W (e:Ext w W) a e'=>Sl W g x a e' (eM hg e.size) (e.cell hx);have Hc:=θ h.cells;have hle:=h.le;have Za:=θ h.none_;clear h hx hg;go_enter func150,ntmps150;go_wp2_with fail;go_loopw [8] (fun iv wr=>∃k:Nat,iv=.int .i64 (k:Nat)/\k<=n/\Ext w wr) (fun iv _=>n-(intOf iv).toNat)
 case atStart=>exact⟨0,rfl,aM _,Ext.refl _⟩
 case round =>
  obtain⟨k,rfl,hk,he⟩:=hrel;by_cases jk:k<n
  .cases A with
   |none=>exact absurd (Za.o rfl) η
   |some a =>
    obtain⟨g9,o,rfl,_,_,h1,_⟩:=Hc.o a rfl;obtain⟨x1,q1⟩:=h1 (k*2) η;obtain⟨x2,q2⟩:=h1 (k*2+1) η;replace q1:=he.cell q1;replace q2:=he.cell q2;rw[←sK]at q2;go_wp2_with fail;refine(HP.o wr he x1 x2).mono ?_;rintro e w3 ⟨⟨r,rfl⟩,e3⟩;cases r with
    |true =>go_wp2;go_ret;exact⟨.inr ⟨k,jk,rfl⟩,he.trans e3⟩
    |false =>
     go_wp2;go_roundw
     case rel=>exact⟨k+1,cR,η,he.trans e3⟩
     case measure=>exact dB
  .obtain rfl:k=n:=by omega
   go_wp2;go_ret;exact⟨.inl rfl,he⟩
theorem sD(g:Nat):∀(us:List ξ) (k:Nat) (w:κ) (j:Nat),(w.cell? (g,j)).isSome=true->((w.setCells g k us).cell? (g,j)).isSome=true
 | [],_,_,_,h=>h
 |u::r,k,w,j,h=>sD g r (k+1) _ j (xB h rfl rfl)
theorem pG(g:Nat):∀(us:List ξ) (k:Nat) (w:κ) (p:cJ),(w.setCells g k us).frozen? p=w.frozen? p
 | [],_,_,_=>rfl
 |u::r,k,w,p=>(pG g r (k+1) _ p).trans (pM _ _ _ _)
theorem kG(g:Nat):∀(us:List ξ) (k:Nat) (w:κ),w.grownBy (w.setCells g k us) (some g)
 | [],_,_=>κ.grownBy.refl _ _
 |u::r,k,w=>aK (gG w ⟨g,k,none⟩ u) (kG g r (k+1) _)
theorem Jr.cut(h:Jr w T t (some ⟨g,o,none⟩) n c){m:Nat}(hm:m<=n)(us:List ξ):Jr (w.setCells g (o+m*2) us) T t (some ⟨g,o,none⟩) m c:=by
 obtain⟨g',o',e,ht,hg,h1,h2⟩:=h.cells _ rfl;cases e
 refine⟨aF hm h.le,h.max,fun e=>(by cases e),fun a ha=>?_⟩;cases ha
 refine⟨g,o,rfl,ht,eM hg (kG g us _ w).size,fun j hj=>?_,fun j hj=>⟨sD g us _ w _ (h2 j hj).1,by rw[pG];exact(h2 j hj).2⟩⟩;rw[adm g us (o+m*2) w ⟨g,o+j,none⟩ (fun _ _=>.inl (by show o+j<o+m*2;omega))];exact h1 j η
theorem Jr.put(h:Jr w T t (some ⟨g,o,none⟩) n c)(hi:i<n)(y z:Int):Jr (w.setCells g (o+i*2) [y,z]) T t (some ⟨g,o,none⟩) n c:=by
 obtain⟨g',o',e,ht,hg,h1,h2⟩:=h.cells _ rfl;cases e
 have hle:=h.le;refine⟨h.le,h.max,fun e=>(by cases e),fun a ha=>?_⟩;cases ha
 refine⟨g,o,rfl,ht,eM hg (kG g _ _ w).size,fun j hj=>?_,fun j hj=>⟨sD g _ _ w _ (h2 j hj).1,by rw[pG];exact(h2 j hj).2⟩⟩;by_cases Ty:j<i*2\/i*2+2<=j
 .rw[adm g _ (o+i*2) w ⟨g,o+j,none⟩ (fun _ _=>by show o+j<o+i*2\/o+i*2+2<=o+j;omega)];exact h1 j hj
 .have jI:=κ.cell?_setCells_in g [y,z] (o+i*2) w (fun k hk=>by have zJ:k<2:=hk;rw[sK];exact(h2 (i*2+k) η).1)
  rcases(show j=i*2\/j=i*2+1 by omega) with rfl|rfl
  .exact⟨y,jI 0 (Nat.zero_lt_succ _)⟩
  .exact⟨z,by rw[←sK];exact jI 1 (Nat.lt_succ_self _)⟩
end
theorem Zd:∀w,(zeroValue 132).run prog w=.ok (.agg #[(0:Int),(0:Int)]) w:=fun _=>ey
section
variable {w w':κ}{T T':Tg}{t b:Nat}{A:aS}{n c:Nat}
theorem PZ(h:Jr w T t A n c)(hu:Θ w T)(hn:n<=16)(ht:0<t)(g:Nat)(x:Int)(hx:w.cell? g=some (x:ξ))(ru:T g=0):τ prog 311 #[.slice A n c,.func (.func 312) #[] #[.pointer g]] w fun e w'=>∃m:Nat,m<=16/\e=.returned (.slice A m c)/\Ξ (· = t) w T w' T/\Jr w' T t A m c:=by
 have CI:g<w.heap.size:=mG w _ hx;have HI:=θ (UR h hn g x CI hx);have HP:=θ fun W (e:w.heap.size<=W.heap.size) (hx:W.cell? g=some (x:ξ)) a e'=>Sl W g x a e' (eM CI e) hx;have HJ:=θ h;clear h;go_enter func311,ntmps311;go_wp2_with fail;refine HI.o.mono ?_;rintro e w1 ⟨hr,e1⟩;rcases hr with rfl|⟨k,hk,rfl⟩
 .go_wp2;go_ret;exact⟨n,hn,rfl,Ξ.ai _ hu e1,HJ.o.ext e1⟩
 .have Gn:((k:Int)==-1)=false:=by rw[beq_eq_false_iff_ne];omega
  obtain⟨a,rfl⟩:∃a,A=some a:=by
   cases A with
   |none=>have:=HJ.o.none_ rfl;have:=HJ.o.le;omega
   |some a=>exact⟨a,rfl⟩
  obtain⟨gr,o,rfl,ai7,ani,_,_⟩:=HJ.o.cells a rfl;have pz:cQ.wrap ((k:Int)+1)=((k+1:Nat):Int):=by rw[pS _ η];omega
  have hle:=HJ.o.le;go_wp2_with fail;have eH:=(Ξ.ai (· = t) hu e1);have hJ1:=HJ.o.ext e1;go_loopw [5,6] (fun iv jv wr=>∃i j:Nat,iv=.int .i64 (i:Nat)/\jv=.int .i64 (j:Nat)/\i<j/\j<=n/\Ξ (· = t) w T wr T/\Jr wr T t (some ⟨gr,o,none⟩) n c) (fun _ jv _=>n-(intOf jv).toNat)
  case atStart=>exact⟨k,k+1,rfl,cR,η,η,eH,hJ1⟩
  case round =>
   obtain⟨i,j,rfl,rfl,yh,mX,hT,hJ⟩:=hrel;by_cases aX:j<n
   .obtain⟨_,_,e9,_,_,h1,h2⟩:=hJ.cells _ rfl
    cases e9
    obtain⟨x1,q1⟩:=h1 (j*2) η;obtain⟨x2,q2⟩:=h1 (j*2+1) η;rw[←sK]at q2;have HT:=θ hT;have HJ2:=θ hJ;clear h1 h2 hT hJ;go_upto_region 8 with fail
    have b1:=(Has.new wr (fun _=>0) [x1,x2] 132 rfl);have vZ:=Ext.alloc wr (.cells #[x1,x2] 132);generalize hW:aB wr _=W at*;obtain⟨gv,DV⟩:∃gv,gv=wr.heap.size:=⟨_,rfl⟩;rw[←DV]at b1⊢;clear hW DV q1 q2;have US:=HT.o.ext vZ;have hxW:W.cell? g=some (x:ξ):=(qX (US.block g (mG w _ hx) (by rw[ru];omega))).trans hx;have k0:=b1.zc 0;have k1:=b1.zc 1;go_wp2_with fail;refine(HP.o W US.size hxW x1 x2).mono ?_;rintro e w3 ⟨⟨r,rfl⟩,e3⟩;have cT:=US.ext e3;have hJ3:=(HJ2.o.ext vZ).ext e3;cases r with
    |true =>
     have xZ:=ej ((j:Int)+1);go_wp2;go_roundw
     case rel=>exact⟨i,j+1,rfl,cR,η,η,cT,hJ3⟩
     case measure=>exact dB
    |false =>
     have xZ:=ej ((j:Int)+1);have Uj:=ej ((i:Int)+1);have b3:=b1.ext e3;have jI:i<n:=η;obtain⟨_,_,e9,_,_,_,h2⟩:=hJ3.cells _ rfl;cases e9
     have vk:∀j',j'<2->(w3.cell? ⟨gr,o+i*2+j',none⟩).isSome=true/\w3.frozen? ⟨gr,o+i*2+j',none⟩=false:=fun j' hj'=>by rw[sK];exact h2 (i*2+j') η
     have hJ4:=hJ3.put jI x1 x2;have mE:=cT.grown (kG gr [x1,x2] (o+i*2) w3) (fun k hk=>by cases hk;exact .inl ai7);have h12:∀u∈[af .i64 x1,.int .i64 x2],u.oneCell'=true:=gA;have bW:=b3.all;have vp:[af .i64 x1,.int .i64 x2].length=2:=rfl;clear h2 hJ3 cT b3 b1;go_wp2_with (first|(with_reducible refine bI rfl 132 (.tmp 7) rfl rfl underlying132 MC vp bW ?_)|(with_reducible refine Ch rfl 132 (.tmp 33) (.tmp 32) rfl rfl (us:=[.int .i64 x1,.int .i64 x2]) rfl vp MC h12 vk ?_))
     go_roundw
     case rel=>exact⟨i+1,j+1,cR,cR,η,η,mE,hJ4⟩
     case measure=>exact dB
   .obtain rfl:j=n:=by omega
    have hci:(c=i)=False:=eq_false η;have hcd:((i:Int)<=(j:Int))=True:=eq_true η;obtain⟨_,_,e9,_,_,_,h2⟩:=hJ.cells _ rfl;cases e9
    obtain⟨zs,C5,bU⟩:=yx (P:=prog) wr 212 132 (.agg #[.int .i64 0,.int .i64 0]) 2 underlying212 Zd rfl Γ Gu gr (o+i*2) (j-i) (c-i) η
     (fun q hq=>by rw[sK];exact(h2 (i*2+q) η).1) (fun q hq=>by rw[sK];exact(h2 (i*2+q) η).2)
    have hJ4:=hJ.cut (m:=i) η zs;have mE:=hT.grown (kG gr zs (o+i*2) wr) (fun k hk=>by cases hk;exact .inl ai7);clear h2 hJ hT;go_wp2_with (first|(with_reducible refine Kl rfl (.tmp 38) 212 rfl _ rfl _ bU ?_))
    go_ret;exact⟨i,η,rfl,mE,hJ4⟩
theorem P3(h:jh w T t b)(hu:Θ w T)(ht:0<t)(x:Int):τ prog 297 #[π b,x] w (cG (In t 2) w T fun v w' T'=>(∃r:Int,v=.int .i64 r)/\jh w' T' t b):=by
 have HJ:=θ h;have HL:=θ fun W T1 (h:jh W T1 t b)=>abF h;obtain⟨A,n,c,hn,a1,a2⟩:=h;have x1:=Ext.alloc w (.cells #[x] 2);have b1:=(Has.new w (fun _=>0) [x] 2 rfl);have Ha1:=θ a1;have Ha2:=θ a2;have c0:=a1.zc 0;unfold π at*;clear a1 a2;go_enter func297,ntmps297;go_upto_region 1 with fail
 generalize hW:aB w _=W0 at*;obtain⟨gm,qT⟩:∃gm,gm=w.heap.size:=⟨_,rfl⟩;rw[←qT]at b1⊢;have hTg:T gm=0:=hu gm η;have vq:=b1.zc 0;clear hW qT b1;have d0:=x1.cell c0;have hD:=θ (PZ (Ha2.o.ext x1) (hu.ext x1) hn η gm x vq hTg);go_wp2_with fail;refine(HL.o W0 T (HJ.o.ext x1)).mono ?_;rintro e w1 ⟨⟨r1,rfl,Gi⟩,hw⟩;subst hw;go_wp2_with fail;refine hD.o.mono ?_;rintro e w2 ⟨m,hm,rfl,bq,hJ2⟩;have oZ:=(Ha1.o.ext x1).ο bq η;have d0:=oZ.zc 0;have f0:=oZ.free 0;obtain⟨cT,CO⟩:=oZ.put (S:=(· = t)) bq.Δ 0 (.slice A m c) rfl;have hK:jh (w2.setCell b (.slice A m c)) T t b:=⟨A,m,c,hm,CO,hJ2.ο cT η⟩;have HK:=θ hK;have HT:=θ (((Ξ.ai (In t 2) hu x1).trans (bq.mono fun k hk=>r9)).trans (cT.mono fun k hk=>r9));clear oZ CO bq cT hJ2 hK;go_upto_region 4 with fail
 generalize hW:dG w2 _ _=W3 at*;clear hW d0 f0;go_wp2_with fail;refine(HL.o W3 T HK.o).mono ?_;rintro e w4 ⟨⟨r2,rfl,uH⟩,hw⟩;subst hw;go_wp2;go_ret;exact⟨_,rfl,T,HT.o,⟨_,rfl⟩,HK.o⟩
end
def Pp(w:κ)(Q:Nat->Prop)(A:aS)(n c:Nat)(ps:vo):Prop :=
 ∃hs:List (Option cJ×Nat×Nat),Rd w 1 A n c (hs.map hdr)/\(0<n->∀k,bn A=some k->Q k)/\hs.length=ps.length/\∀(i:Nat) h p,hs[i]?=some h->ps[i]?=some p->Rb w h.1 h.2.1 h.2.2 p/\(0<p.length->∀k,bn h.1=some k->Q k)
def Sp(w:κ)(T:Tg)(A:aS)(n c:Nat)(ps:vo):Prop:=Pp w (fun k=>T k=0) A n c ps
section
variable {w w':κ}{T T':Tg}{Q Q':Nat->Prop}{A:aS}{n c:Nat}{ps:vo}
theorem Pp.rp(h:Pp w Q A n c ps):Rp w A n c ps:=by obtain⟨hs,h1,_,h2,h3⟩:=h;exact⟨hs,h1,h2,fun i a p ha hp=>(h3 i a p ha hp).1⟩
theorem Pp.to(h:Pp w Q A n c ps)(hb:∀k,Q k->k<w.heap.size->w'.heap[k]?=w.heap[k]?)(hq:∀k,Q k->k<w.heap.size->Q' k):Pp w' Q' A n c ps:=by obtain⟨uQ,h1,h2,h3,h4⟩:=h;refine⟨uQ,Rd.fc h1 fun hn k hk=>hb k (h2 η k hk) (Rd.Gf h1 hn hk),fun hn k hk=>hq k (h2 hn k hk) (Rd.Gf h1 η hk),h3,fun i a p ha hp=>?_⟩;obtain⟨h5,h6⟩:=h4 i a p ha hp;have hl:=h5.len;exact⟨Rd.fc h5 fun hn k hk=>hb k (h6 η k hk) (Rd.Gf h5 hn hk),fun hn k hk=>hq k (h6 hn k hk) (Rd.Gf h5 η hk)⟩
theorem Pp.ext(h:Pp w Q A n c ps)(e:Ext w w'):Pp w' Q A n c ps:=h.to (fun k _ hk=>e.block k hk) (fun _ h _=>h)
section
variable(h:Sp w T A n c ps)
include h
theorem Sp.rp:Rp w A n c ps:=Pp.rp h
theorem Sp.ο(hT:Ξ S w T w' T')(hs:¬S 0):Sp w' T' A n c ps :=
 Pp.to h (fun k hk hl=>hT.block k hl (by rw[hk];exact hs)) (fun k hk hl=>(hT.tag k hl).trans hk)
theorem Sp.ext(e:Ext w w'):Sp w' T A n c ps:=Pp.ext h e
theorem Sp.len:n=ps.length:=h.rp.len
end
theorem tQ.pp{base:Nat}(h:tQ w base A n c ps):Pp w (fun k=>base<=k) A n c ps:=by obtain⟨_,hs,h1,h2,h3⟩:=h;exact⟨hs,h1.rd,fun _ k hk=>h1.ax k hk,h2,fun i a p ha hp=>⟨(h3 i a p ha hp).1.1,fun hn k hk=>(h3 i a p ha hp).2 hn k hk⟩⟩
theorem tQ.sp{base:Nat}(h:tQ w base A n c ps)(hT:∀k,base<=k->T k=0):Sp w T A n c ps:=h.pp.to (fun _ _ _=>rfl) (fun k hk _=>hT k hk)
end
structure Br where
 id:Nat
 ν:List (List UInt8)
 done:Nat
 jP:Nat
def we(fr:Nat)(b:Br)(h:aS×Nat):List ξ:=[.int .i64 (b.id:Nat),.int .i64 (fr:Nat),.slice h.1 b.ν.length h.2,.int .i64 (b.done:Nat),.int .i64 (b.jP:Nat)]
def oH(fr:Nat):List Br->List (Option cJ×Nat)->List ξ
 |b::l,h::hs=>we fr b h++oH fr l hs
 |_,_=>[]
theorem Sm(fr:Nat)(b:Br)(h:aS×Nat):(we fr b h).length=5:=rfl
theorem AP(fr:Nat)(x:Br)(h:aS×Nat):∀(l:List Br) (hs:List (Option cJ×Nat)),hs.length=l.length->oH fr (l++[x]) (hs++[h])=oH fr l hs++we fr x h
 | [],[],_=>by simp[oH]
 |b::l,a::hs,e=>by simp[oH,AP fr x h l hs Lg]
 | [],a::hs,e=>by simp at e
 |b::l,[],e=>by simp at e
theorem tG(fr:Nat):∀(l:List Br) (hs:List (Option cJ×Nat)) (i:Nat) (b:Br) (h:aS×Nat),l[i]?=some b->hs[i]?=some h->∀j v,(we fr b h)[j]?=some v->(oH fr l hs)[i*5+j]?=some v
 |b'::l,a::hs,0,b,h,hb,hh,j,v,hv=>by
  cases hb
  cases hh
  rw[oH,Nat.zero_mul,mZ,kn (by have:=(iN.1 hv).1;exact this)];exact hv
 |b'::l,a::hs,i+1,b,h,hb,hh,j,v,hv=>by rw[oH,ij (by rw[Sm];omega),Sm,show(i+1)*5+j-5=i*5+j by omega];exact tG fr l hs i b h (by simpa using hb) (by simpa using hh) j v hv
 | [],_,i,b,h,hb,_,_,_,_=>by simp at hb
 |_::_,[],i,b,h,_,hh,_,_,_=>by simp at hh
def Bs(w:κ)(T:Tg)(A:aS)(n c fr:Nat)(l:List Br):Prop:=n=l.length/\∃hs:List (Option cJ×Nat),hs.length=l.length/\Rd w 5 A n c (oH fr l hs)/\(0<n->∀k,bn A=some k->T k=0)/\∀(i:Nat) x h,l[i]?=some x->hs[i]?=some h->Sp w T h.1 x.ν.length h.2 x.ν
theorem Bs.ο{T':Tg}{c:Nat}{l:List Br}(h:Bs w T A n c fr l)(hT:Ξ S w T w' T')(hs:¬S 0):Bs w' T' A n c fr l:=by obtain⟨h0,uQ,h1,h2,h3,h4⟩:=h;exact⟨h0,uQ,h1,Rd.fc h2 fun hn k hk=>hT.block k (Rd.Gf h2 hn hk) (by rw[h3 η k hk];exact hs),fun hn k hk=>(hT.tag k (Rd.Gf h2 η hk)).trans (h3 hn k hk),fun i x a hi hk=>(h4 i x a hi hk).ο hT hs⟩
theorem Bs.ext{c:Nat}{l:List Br}(h:Bs w T A n c fr l)(e:Ext w w'):Bs w' T A n c fr l:=by obtain⟨h0,uQ,h1,h2,h3,h4⟩:=h;exact⟨h0,uQ,h1,h2.ext e,h3,fun i x a hi hk=>(h4 i x a hi hk).ext e⟩
theorem Bs.elem{c:Nat}{l:List Br}(h:Bs w T A n c fr l){x:Br}(hx:l[k]?=some x):∃g o a,A=some ⟨g,o,none⟩/\(∀i v,(we fr x a)[i]?=some v->w.cell? ⟨g,o+k*5+i,none⟩=some v)/\Sp w T a.1 x.ν.length a.2 x.ν:=by obtain⟨h0,hs,h1,h2,h3,h4⟩:=h;have hk:k<l.length:=(iN.1 hx).1;have hh:=bf (show k<hs.length by omega);obtain⟨g,o,e,hc⟩:=h2.2.2.2 η;exact⟨g,o,_,e,fun i v hv=>by rw[sK];exact hc _ _ (tG fr l hs k x _ hx hh i v hv),h4 k x _ hx hh⟩
structure fB(w:κ)(T:Tg)(t b sb dz last aL fr:Nat)(l:List Br):Prop where
 tH:l.length<=dz
 bn:∃A c hs,hs.length=l.length/\Has w T t b [π sb,dz,.slice A l.length c,last,aL]/\Row w T (t+1) 136 5 A l.length c (oH fr l hs)/\∀(i:Nat) x h,l[i]?=some x->hs[i]?=some h->Sp w T h.1 x.ν.length h.2 x.ν
section
variable {w w':κ}{T T':Tg}{t b sb dz last aL fr:Nat}{l:List Br}
section
variable(h:fB w T t b sb dz last aL fr l)
include h
theorem fB.ο(hT:Ξ S w T w' T')(h0:¬S 0)(h1:¬S t)(h2:¬S (t+1)):fB w' T' t b sb dz last aL fr l:=by obtain⟨A,c,hs,a1,a2,a3,a4⟩:=h.bn;exact⟨h.tH,A,c,hs,a1,a2.ο hT h1,a3.ο hT h2,fun i x a hi hk=>(a4 i x a hi hk).ο hT h0⟩
theorem fB.ext(e:Ext w w'):fB w' T t b sb dz last aL fr l:=by obtain⟨A,c,hs,a1,a2,a3,a4⟩:=h.bn;exact⟨h.tH,A,c,hs,a1,a2.ext e,a3.ext e,fun i x a hi hk=>(a4 i x a hi hk).ext e⟩
end
end
section
variable {w w':κ}{T T':Tg}{t b sb dz last aL fr:Nat}{l:List Br}
theorem Ze(w:κ)(T:Tg)(hu:Θ w T)(t sb m:Nat)(hm:m<=8)(fr:Nat):τ prog 140 #[π sb,m] w (cG (fun _=>False) w T fun v w' T'=>∃b,v=π b/\fB w' T' t b sb m 0 0 fr []):=by obtain⟨ru,GI⟩:=Has.fresh hu [π sb,.int .i64 (m:Nat),.slice none 0 0,.int .i64 0,.int .i64 0] 168 t;have o6:=θ ru;have HH0:=θ GI;have Ir:max (m:Int) 0=(m:Int):=η;have Fa:min (m:Int) 8=(m:Int):=η;unfold π at*;clear ru GI;go_enter func140,ntmps140;go_wp2;go_ret;exact⟨_,rfl,_,o6.o,w.heap.size,rfl,⟨aM _,none,0,[],rfl,HH0.o,Row.dR _ _ _ _ _,fun i x h hi=>Ee⟩⟩
theorem Fz(h:fB w T t b sb dz last aL fr l):τ prog 48 #[π b] w fun e w'=>e=.returned (aL:ξ)/\w'=w:=by obtain⟨A,c,hs,a1,a2,a3,a4⟩:=h.bn;have c4:=a2.zc 4;unfold π;clear a1 a2 a3 a4 h;go_enter func48,ntmps48;go_wp2;go_ret;exact⟨rfl,rfl⟩
def GP(fr:Nat)(x:Br)(h:aS×Nat):ξ:=.agg (we fr x h).toArray
theorem nX:(prog.info? 136).map (·.size)=some 5:=ey
def UT(id:Int):List Br->Option Nat
 | []=>none
 |x::l=>if (x.id:Int)=id then some 0 else (UT id l).map (· + 1)
theorem xC{id:Int}:∀{l:List Br}{k:Nat},UT id l=some k->∃x,l[k]?=some x/\(x.id:Int)=id/\∀j,j<k->∀y,l[j]?=some y->(y.id:Int)≠id
 | [],k,h=>by cases h
 |x::l,k,h=>by
  unfold UT at h;split at h
  .cases h
   exact⟨x,rfl,by assumption,fun j hj=>η⟩
  .rename_i hne
   obtain⟨k',js,rfl⟩:=vu.1 h;obtain⟨y,h1,h2,h3⟩:=xC js;refine⟨y,h1,h2,fun j hj z hz=>?_⟩;cases j with
   |zero=>cases hz;exact hne
   |succ j=>exact h3 j η z hz
theorem fB.elem(h:fB w T t b sb dz last aL fr l):∃(A:aS) (c:Nat) (hs:List (Option cJ×Nat)),hs.length=l.length/\w.cell? (b,2)=some (.slice A l.length c)/\l.length<=c/\c<=maxLen/\∀(k:Nat) x,l[k]?=some x->∃g h,A=some ⟨g,0,none⟩/\T g=t+1/\hs[k]?=some h/\(∀i v,(we fr x h)[i]?=some v->w.cell? ⟨g,k*5+i,none⟩=some v)/\Sp w T h.1 x.ν.length h.2 x.ν:=by
 obtain⟨A,c,hs,a1,a2,a3,a4⟩:=h.bn;refine⟨A,c,hs,a1,a2.zc 2,a3.rd.2.1,a3.rd.2.2.1,fun k x hx=>?_⟩;have hk:k<hs.length:=by rw[a1];exact(iN.1 hx).1
 have hh:=bf hk;have h0:=tG fr l hs k x _ hx hh 0 _ rfl;obtain⟨g,e,_,_,hg⟩:=a3.at_ h0;refine⟨g,_,e,hg,hh,fun i v hv=>?_,a4 k x _ hx hh⟩;obtain⟨g',e',hc,_,_⟩:=a3.at_ (tG fr l hs k x _ hx hh i v hv);rw[e]at e';cases e'
 exact hc
end
section
variable {w w':κ}{T T':Tg}{t b sb dz last aL fr:Nat}{l:List Br}
theorem AQ(w:κ)(A:aS)(n c:Nat)(ps:vo)(hp:Rp w A n c ps)(hn:ps.length<=1000)(hs:∀p∈ps,p.length<=1000000):τ prog 109 #[.slice A n c] w fun e w'=>∃B d,e=.returned (.slice B n d)/\tQ w' w.heap.size B n d ps/\Ext w w':=by
 obtain⟨i0,hi,dx,dA,dN⟩:=info_parts zf;have Ul:=hp.len;have hmx:=hp.max;have Gh:=θ fun W A n c p hb hs=>BP W A n c p hb hs;have Hp:=θ hp;have Hnl:=θ Ul;have Hs:=θ hs;rw[←Ul]at hn;unfold maxLen at hmx;clear hp Ul hs;go_enter func109,ntmps109;go_wp2_with fail;go_loopw [3,8] (fun lv iv wr=>∃(k:Nat) (B:aS) (d:Nat),iv=.int .i64 (k:Nat)/\k<=n/\lv=.slice B k d/\tQ wr w.heap.size B k d (ps.take k)/\Ext w wr) (fun _ iv _=>n-(intOf iv).toNat)
 case atStart=>exact⟨0,none,0,rfl,aM _,rfl,tQ.dR (aq _),Ext.refl _⟩
 case round =>
  obtain⟨k,B,d,rfl,hk,rfl,hR,he⟩:=hrel;by_cases jk:k<n
  .have jm:k<ps.length:=by have:=Hnl.o;omega
   obtain⟨pb,po,Ai,ni,ci,rfl,vi,Ka⟩:=(Hp.o.ext he).at_ jm;have qx:=Hs.o ps[k] (List.getElem_mem jm);have HC:=θ (Gh.o wr Ai ni ci ps[k] Ka qx);have vr:ps.take k++[ps[k]]=ps.take (k+1):=by rw[oz,bf jm];rfl
   have Htk:=θ vr;obtain⟨Kv,hs,ho,yy,BX⟩:=id hR;have Ho:=θ ho;have Hsl:=θ yy;have Oi:=θ BX;clear hR ho yy BX Ka vr qx;generalize ps[k]=pk at*;go_wp2_with fail;refine HC.o.mono ?_;rintro e w3 ⟨D,m,dd,rfl,hD,e3⟩;have Zf:=Ho.o.ext e3;have hDr:Rb w3 D m dd pk:=hD.rd;have Sn:=e3.size;go_wp2_with (at_builtin;refine ag _ rfl _ _ 85 rfl _ 30 i0 (.slice none 0 0) 1 24 underlying85 hi dx dA dN rfl Γ B k d _ rfl Zf 1 _ rfl rfl gA iQ η η ?_;intro E Ed wy fQ fN oY);go_roundw
   case rel =>refine⟨k+1,E,Ed,cR,η,rfl,?_,Ext.own (he.trans e3) fN (fun g hg=>Ho.o.ax g hg)⟩;rw[←Htk.o];exact tQ.app Kv Ho.o Hsl.o Oi.o e3 hDr (fun _ g hg=>hD.ax g hg) fQ fN oY
   case measure=>exact dB
  .obtain rfl:k=n:=by omega
   have Di:=dh (k<k);rw[jL (by rw[←Hnl.o];exact aq _)]at hR;go_wp2;go_ret;exact⟨B,d,rfl,hR,he⟩
theorem tQ.grown{base:Nat}(h:tQ w base B n d ps)(hg:w.grownBy w' (some g))(aX:g<base):tQ w' base B n d ps:=by obtain⟨h0,hs,h1,h2,h3⟩:=h;refine⟨aF h0 hg.size,hs,h1.keep hg (fun k hk e=>by have:=h1.ax k hk;omega),h2,fun i a p ha hp=>?_⟩;obtain⟨⟨h4,h5⟩,h6⟩:=h3 i a p ha hp;have hl:=h4.len;exact⟨⟨Rd.fc h4 fun hn k hk=>hg.block k (Rd.Gf h4 hn hk) (fun e=>by have:=h6 η k hk;have:=kI.inj e;omega),h5⟩,h6⟩
theorem tQ.base{base CA:Nat}(h:tQ w base B n d ps)(hb:CA<=base):tQ w CA B n d ps:=by obtain⟨h0,hs,h1,h2,h3⟩:=h;exact⟨aF hb h0,hs,h1.mono hb,h2,fun i a p ha hp=>⟨(h3 i a p ha hp).1,fun hn k hk=>aF hb ((h3 i a p ha hp).2 hn k hk)⟩⟩
theorem P5(w:κ)(fr:Nat)(x:Br)(A:aS)(c:Nat)(hp:Rp w A x.ν.length c x.ν)(hn:x.ν.length<=1000)(hs:∀p∈x.ν,p.length<=1000000):τ prog 75 #[GP fr x (A,c)] w fun e w'=>∃B d,e=.returned (GP fr x (B,d))/\tQ w' w.heap.size B x.ν.length d x.ν/\Ext w w':=by
 have Gh:=θ fun W (e:Ext w W)=>AQ W A x.ν.length c x.ν (hp.ext e) hn hs;unfold GP we;dsimp only
 clear hp;obtain⟨N,hN⟩:∃N,N=x.ν.length:=⟨_,rfl⟩;rw[←hN]at Gh⊢;generalize x.ν=ps at*;generalize x.id=i0 at*;generalize x.done=i3 at*;generalize x.jP=i4 at*;clear hN hn hs;have eo:∀B d,∀u∈[af .i64 (i0:Nat),.int .i64 (fr:Nat),.slice B N d,.int .i64 (i3:Nat),.int .i64 (i4:Nat)],u.oneCell'=true:=fun B d=>gA;go_enter func75,ntmps75;go_upto_region 1 with fail
 have b1:=Has.new w (fun _=>0) [i0,fr,.slice A N c,i3,i4] 136 rfl;have b2:=Has.new (w.alloc (.cells #[i0,fr,.slice A N c,i3,i4] 136)) (fun _=>0) [(0:Int),(0:Int),.slice none 0 0,(0:Int),(0:Int)] 136 rfl;have b1:=b1.ext (Ext.alloc _ (.cells #[(0:Int),(0:Int),.slice none 0 0,(0:Int),(0:Int)] 136));have x0:=(Ext.alloc w (.cells #[i0,fr,.slice A N c,i3,i4] 136)).trans (Ext.alloc _ (.cells #[(0:Int),(0:Int),.slice none 0 0,(0:Int),(0:Int)] 136));rw[show(w.alloc (.cells #[i0,fr,.slice A N c,i3,i4] 136)).heap.size=w.heap.size+1 by simp]at b2;generalize hW:aB (aB w _) _=W0 at*;obtain⟨gm,qT⟩:∃gm,gm=w.heap.size:=⟨_,rfl⟩;obtain⟨gr,kS⟩:∃gr,gr=w.heap.size+1:=⟨_,rfl⟩;rw[←kS]at b2;rw[←qT]at b1;rw[←kS,←qT];have hne:gr≠gm:=η;have Hgm:=θ (show w.heap.size<=gm by omega);have Hgr:=θ (show w.heap.size<=gr by omega);clear hW qT kS;have Kp:=θ b1;have Kh:=θ b2;have k2:=b1.zc 2;have um:=b1.lt;have kL:=b2.lt;clear b1 b2;go_wp2_with fail;refine(Gh.o W0 x0).mono ?_;rintro e w1 ⟨B,bd,rfl,hR,e1⟩;have c1:=Kp.o.ext e1;have c2:=Kh.o.ext e1;have k2:=c1.zc 2;have f2:=c1.free 2;have PW:=θ (c1.set 2 (.slice B N bd));have HC2:=θ (c2.nH (a:=⟨gm,2,none⟩) (by exact fun e=>hne e.symm) (.slice B N bd));have HO:=θ (hR.grown (gG w1 ⟨gm,2,none⟩ (.slice B N bd)) um);have yc:=Ext.ags (x0.trans e1) (p:=⟨gm,2,none⟩) Hgm.o (.slice B N bd);clear c1 c2 Kp Kh e1 hR;go_upto_region 2 with fail
 generalize hW2:dG w1 _ _=W2 at*;clear hW2 k2 f2;have hl5:[af .i64 (i0:Nat),.int .i64 (fr:Nat),.slice B N bd,.int .i64 (i3:Nat),.int .i64 (i4:Nat)].length=5:=rfl;have hz5:[af .i64 0,.int .i64 0,.slice none 0 0,.int .i64 0,.int .i64 0].length=5:=rfl;have N3:=eo B bd;have c1:=PW.o.is (show _=[af .i64 (i0:Nat),.int .i64 (fr:Nat),.slice B N bd,.int .i64 (i3:Nat),.int .i64 (i4:Nat)] from rfl);have c2:=HC2.o;go_wp2_with (first|(with_reducible refine bI rfl 136 (.tmp 1) rfl rfl underlying136 nX hl5 c1.all ?_)|(with_reducible refine bE rfl 136 (.tmp 2) (.tmp 7) rfl rfl (us:=[.int .i64 (i0:Nat),.int .i64 (fr:Nat),.slice B N bd,.int .i64 (i3:Nat),.int .i64 (i4:Nat)]) rfl c2 hl5 hz5 nX N3 ?_;intro Z bZ gZ sZ));have eZ:=Ext.own (B:=some ⟨gr,0,none⟩) yc gZ (fun k hk=>by have h9:gr=k:=kI.inj hk;have:=Hgr.o;omega);have hOZ:=HO.o.grown gZ kL;exact bodyPost_ret (sQ rfl _ rfl bZ underlying136 nX) rfl ⟨B,bd,rfl,hOZ.base x0.size,eZ⟩
end
section
variable {w w':κ}{T T':Tg}{t b sb dz last aL fr:Nat}{l:List Br}
def brZ:ξ:=.agg #[(0:Int),(0:Int),.slice none 0 0,(0:Int),(0:Int)]
def Kw(ps:vo):Prop:=ps.length<=1000/\∀p∈ps,p.length<=1000000
theorem AR(w:κ)(A:aS)(n c:Nat)(ps:vo)(B:aS)(m d:Nat)(qs:vo)(hp:Rp w A n c ps)(hq:Rp w B m d qs):τ prog 285 #[.slice A n c,.slice B m d] w fun e w'=>e=.returned (.bool (ps.take (min n m)==qs.take (min n m)))/\Ext w w':=by
 have Ul:=hp.max;have lD:=hq.max;have N7:=hp.take (k:=min n m) η;have qw:=hq.take (k:=min n m) η;have HE:=θ fun W (e:Ext w W)=>GL W A (min n m) c _ B (min n m) d _ (N7.ext e) (qw.ext e);have rP:(m<n/\min n m=m)\/(¬m<n/\min n m=n):=η;unfold maxLen at Ul lD;have k1:min n m<=n:=Nat.min_le_left _ _;have k2:min n m<=m:=Nat.min_le_right _ _;generalize min n m=k at*;clear hp hq N7 qw;rcases rP with ⟨KY,rfl⟩|⟨KY,rfl⟩
 .have uR:((k:Int)<=(c:Int))=True:=eq_true η
  have sW:((k:Int)<=(d:Int))=True:=eq_true η;go_enter func285,ntmps285;go_wp2_with fail;apply lG 6;simp only[tk];repeat apply iO (fun _ _ _=>trivial)
  refine jq fun Wx ak=>?_;simp only[dk];go_wp2_with fail;refine(HE.o Wx ak).mono ?_;rintro e w2 ⟨rfl,hw⟩;subst hw;go_wp2;go_ret;exact⟨rfl,ak⟩
 .have uR:((k:Int)<=(c:Int))=True:=eq_true η
  have sW:((k:Int)<=(d:Int))=True:=eq_true η;go_enter func285,ntmps285;go_wp2_with fail;apply lG 6;simp only[tk];repeat apply iO (fun _ _ _=>trivial)
  refine jq fun Wx ak=>?_;simp only[dk];go_wp2_with fail;refine(HE.o Wx ak).mono ?_;rintro e w2 ⟨rfl,hw⟩;subst hw;go_wp2;go_ret;exact⟨rfl,ak⟩
end
theorem DW:(prog.info? 136).map (fun i=>(i.zero,i.size,i.bytes))=some (some brZ,5,56):=ey
section
variable {w w' wr:κ}{T T':Tg}{t b sb dz last aL fr:Nat}{l:List Br}
def Ky(w:κ)(fr:Nat)(l:List Br)(lv iv:ξ)(wr:κ):Prop :=
 ∃(k:Nat) (B:aS) (d:Nat) (hs:List (Option cJ×Nat)),iv=.int .i64 (k:Nat)/\k<=l.length/\lv=.slice B k d/\hs.length=k/\Own wr w.heap.size 136 5 B k d (oH fr (l.take k) hs) /\
  (∀(i:Nat) x h,(l.take k)[i]?=some x->hs[i]?=some h->Pp wr (fun j=>w.heap.size<=j/\bn B≠some j) h.1 x.ν.length h.2 x.ν)/\Ext w wr
theorem Ky.step{wy:κ}{E:aS}{Ed:Nat}{hs:List (Option cJ×Nat)}{x:Br}(hx:l[k]?=some x)(hl:hs.length=k)(hO:Own wr w.heap.size 136 5 B k d (oH fr (l.take k) hs))(hP:∀(i:Nat) x h,(l.take k)[i]?=some x->hs[i]?=some h->Pp wr (fun j=>w.heap.size<=j/\bn B≠some j) h.1 x.ν.length h.2 x.ν)(he:Ext w wr)(e3:Ext wr w3){D:aS}{dd:Nat}(hR:tQ w3 wr.heap.size D x.ν.length dd x.ν)(fQ:Own wy w.heap.size 136 5 E (k+1) Ed (oH fr (l.take k) hs++we fr x (D,dd)))(hg:w3.grownBy wy (bn B))(hw:bn E=bn B\/∀j,bn E=some j->w3.heap.size<=j):Ky w fr l (.slice E (k+1) Ed) (.int .i64 ((k+1:Nat):Int)) wy:=by
 have jm:k<l.length:=(iN.1 hx).1;have vr:l.take (k+1)=l.take k++[x]:=by rw[oz,hx];rfl
 have aX:(l.take k).length=k:=Oz;have key:∀{Q:Nat->Prop}{A n c ps},Pp w3 Q A n c ps->(∀j,Q j->j<w3.heap.size->w.heap.size<=j/\bn B≠some j)->Pp wy (fun j=>w.heap.size<=j/\bn E≠some j) A n c ps:=fun h hq=>h.to (fun j hj hl=>hg.block j hl (fun e=>(hq j hj hl).2 e.symm)) (fun j hj hl=>by
  refine⟨(hq j hj hl).1,fun e=>?_⟩;rcases hw with h|h
  .exact(hq j hj hl).2 (h▸e)
  .have:=h j e;omega)
 refine⟨k+1,E,Ed,hs++[(D,dd)],rfl,jm,rfl,by simp[hl],?_,fun i y a hi ha=>?_,Ext.own (he.trans e3) hg (fun j hj=>hO.ax j hj)⟩
 .rw[vr,AP fr x _ _ _ (by rw[aX,hl])];exact fQ
 .rw[vr]at hi
  by_cases hik:i<k
  .rw[kn η]at hi ha;exact key ((hP i y a hi ha).ext e3) (fun j hj _=>hj)
  .have Yr:i=k:=by
    have:=(iN.1 ha).1;simp at this
    omega
   subst Yr;rw[ij η,aX]at hi;rw[ij η,hl]at ha;simp only[Nat.sub_self,adk,kI.injEq]at hi ha;subst hi ha;refine key hR.pp (fun j hj _=>⟨aF he.size hj,fun e=>?_⟩);obtain⟨a,ha,vf⟩:=vu.1 e;have:=(hO.gU a ha).2;rw[vf]at this;omega
theorem AU(h:fB w T t b sb dz last aL fr l)(hm:dz<=8)(aT:∀x∈l,Kw x.ν):τ prog 130 #[π b] w fun e w'=>∃B d,e=.returned (.slice B l.length d)/\Ext w w'/\∀T1,Θ w T1->Bs w' T1 B l.length d fr l:=by
 obtain⟨i0,hi,dx,dA,dN⟩:=info_parts DW;obtain⟨A,c,hs0,hl,hA,Uu,hcm,BX⟩:=h.elem;have mj:=aF h.tH hm;have HO:=θ fun W x A c hp h1 h2=>P5 W fr x A c hp h1 h2;have Oi:=θ BX;have yl:=θ aT;obtain⟨n,hn⟩:∃n,n=l.length:=⟨_,rfl⟩;have Hn:=θ hn;rw[←hn]at hA Uu mj⊢;unfold π at*;unfold maxLen at hcm;clear h BX hl aT hn;go_enter func130,ntmps130;go_wp2_with fail;go_loopw [3,13] (fun lv iv wr=>Ky w fr l lv iv wr) (fun _ iv _=>n-(intOf iv).toNat)
 case atStart=>exact⟨0,none,0,[],rfl,aM _,rfl,rfl,Own.dR _ _ _ _,fun i x h hi=>Ee,Ext.refl _⟩
 case round =>
  obtain⟨k,B,d,hs,rfl,hk,rfl,hhs,hO,hP,he⟩:=hrel;rw[←Hn.o]at hk;by_cases jk:k<n
  .obtain⟨x,hx⟩:∃x,l[k]?=some x:=⟨_,bf (by rw[←Hn.o];exact jk)⟩
   obtain⟨g,⟨A1,c1⟩,rfl,hgT,_,hv,vk⟩:=Oi.o k x hx;have yG:∀i v,(we fr x (A1,c1))[i]?=some v->wr.cell? ⟨g,k*5+i,none⟩=some v:=fun i v hi=>he.cell (hv i v hi);have hl5:(we fr x (A1,c1)).length=5:=rfl;have agJ:=yl.o x (sO hx);have HOx:=θ fun W (e:Ext w W)=>HO.o W x A1 c1 (vk.rp.ext e) agJ.1 agJ.2;unfold GP at HOx;have Hx:=θ hx;have HO':=θ hO;have HP:=θ hP;have Hhs:=θ hhs;clear hv vk agJ hx hO hP hhs;have k0:=yG 0 _ rfl;have k1:=yG 1 _ rfl;have k2:=yG 2 _ rfl;have k3:=yG 3 _ rfl;have k4:=yG 4 _ rfl;rw[AM]at k0;clear yG hl5;have agK:=θ fun w3 wy E Ed D dd e3 hR fQ hg hw=>Ky.step (w3:=w3) (wy:=wy) (E:=E) (Ed:=Ed) (D:=D) (dd:=dd) Hx.o Hhs.o HO'.o HP.o he e3 hR fQ hg hw;have eo:∀D dd,∀u∈we fr x (D,dd),u.oneCell'=true:=by
    intro D dd u hu;simp[we]at hu
    rcases hu with rfl|rfl|rfl|rfl|rfl<;>rfl
   have sB:=θ eo;unfold we at HOx agK sB;dsimp only at HOx agK sB
   clear eo;generalize x.ν.length=pl at*;generalize x.ν=ps at*;generalize x.id=i1 at*;generalize x.done=i3 at*;generalize x.jP=i4 at*;go_upto_region 7 with fail
   have b1:=Has.new wr (fun _=>0) [i1,fr,.slice A1 pl c1,i3,i4] 136 rfl;have vZ:=Ext.alloc wr (.cells #[i1,fr,.slice A1 pl c1,i3,i4] 136);generalize hW:aB wr _=W at*;obtain⟨gv,DV⟩:∃gv,gv=wr.heap.size:=⟨_,rfl⟩;rw[←DV]at b1⊢;clear hW DV k0 k1 k2 k3 k4;have j0:=b1.zc 0;have j1:=b1.zc 1;have j2:=b1.zc 2;have j3:=b1.zc 3;have j4:=b1.zc 4;clear b1;go_wp2_with fail;refine(HOx.o W (he.trans vZ)).mono ?_;rintro e w3 ⟨D,dd,rfl,hR,e3⟩;have Oj:=vZ.trans e3;have Zf:=HO'.o.ext Oj;have Sn:=Oj.size;have hR':=hR.base vZ.size;have N3:=sB.o D dd;have hhe:=he.size;go_wp2_with (at_builtin;refine ag _ rfl _ _ 166 rfl _ 136 i0 brZ 5 56 underlying166 hi dx dA dN rfl Γ B k d _ rfl Zf 1 _ rfl rfl N3 iQ η η ?_;intro E Ed wy fQ fN oY);go_roundw
   case rel=>exact agK.o w3 wy E Ed D dd Oj hR' fQ fN oY
   case measure=>exact dB
  .obtain rfl:k=n:=by omega
   have Di:=dh (k<k);have Sq:∀T1,Θ w T1->Bs wr T1 B k d fr l:=fun T1 h1=>by have vr:l.take k=l:=jL (by rw[←Hn.o];exact aq _);rw[vr]at hO hP;exact⟨Hn.o,hs,by rw[hhs];exact Hn.o,hO.rd,fun _ j hj=>h1 j (hO.ax j hj),fun i x a hi ha=>(hP i x a hi ha).to (fun _ _ _=>rfl) (fun j hj _=>h1 j hj.1)⟩
   have HBs:=θ Sq;clear Sq hO hP;go_wp2;go_ret;exact⟨B,d,rfl,he,HBs.o⟩
end
section
variable {w w' wr:κ}{T T':Tg}{t b sb dz last aL fr ts n free dg:Nat}{l:List Br}{gs:List (Nat×List Int)}
theorem fB.re(h:fB w T t b sb dz last aL fr [])(fr':Nat):fB w T t b sb dz last aL fr' []:=by
 obtain⟨A,c,hs,a1,a2,a3,a4⟩:=h.bn;refine⟨h.tH,A,c,hs,a1,a2,?_,fun i x h hi=>Ee⟩;cases hs with
 |nil=>exact a3
 |cons _ _=>simp at a1
theorem Sp.gr{w w':κ}{C:aS}{n c:Nat}(h:Sp w T A n c ps)(hR:gR C w w')(hC:∀g,bn C=some g->T g≠0):Sp w' T A n c ps :=
 Pp.to h (fun k hk hl=>hR.block k hl (fun e=>hC k e.symm hk)) (fun k hk _=>hk)
def Zg(t b sb dz last aL fr ts n free dg:Nat)(l:List Br)(gs:List (Nat×List Int))(ν:vo)(g:List Int)(v:ξ)(w':κ)(T':Tg):Prop :=
 (v=.tuple #[(0:Int),.bool false]/\fB w' T' t b sb dz last aL fr l/\aZ w' T' ts sb n free dg gs) \/
 (l.length<dz/\v=.tuple #[((last+1:Nat):Int),.bool true]/\fB w' T' t b sb dz (last+1) aL fr (l++[⟨last+1,ν,0,dg+1⟩])/\aZ w' T' ts sb n free (dg+1) (gs++[(dg+1,g)]))
theorem MM(h:fB w T t b sb dz last aL fr l)(hm:dz<=8)(fr' base:Nat)(PA:aS)(pn pc:Nat)(pN:dz<=l.length):τ prog 296 #[π b,fr',base,.slice PA pn pc] w fun e w'=>e=.returned (.tuple #[(0:Int),.bool false])/\Ext w w':=by
 obtain⟨A,c,hs,a1,a2,a3,a4⟩:=h.bn;have b1:=a2.zc 1;have b2:=a2.zc 2;have Di:=dQ (dz<=l.length) pN;have Gj:=dQ ((dz:Int)<=(l.length:Int));unfold π;clear h a1 a2 a3 a4;generalize l.length=N at*;go_enter func296,ntmps296;go_wp2_with fail;apply iL trivial;repeat first|apply kZ b1 b2|apply lU trivial
 refine jq fun Wx ak=>?_;go_wp2;go_ret2
 exact⟨rfl,ak⟩
def MN(fr last x:Nat)(ν:vo)(v:ξ)(w:κ)(T:Tg):Prop:=∃B d,v=GP fr ⟨last,ν,0,x⟩ (B,d)/\Sp w T B ν.length d ν
theorem MN.aQ{fr last x:Nat}(hC:tC≠0):sA tC (MN fr last x ν):=by rintro v w T w' T' ⟨B,d,e,h⟩ hT;exact⟨B,d,e,h.ο hT (fun e=>hC e.symm)⟩
def UU(ν:vo)(v:ξ)(w:κ)(T:Tg):Prop:=∃B d,v=.slice B ν.length d/\Sp w T B ν.length d ν
theorem UU.aQ(hC:tC≠0):sA tC (UU ν):=by rintro v w T w' T' ⟨B,d,e,h⟩ hT;exact⟨B,d,e,h.ο hT (fun e=>hC e.symm)⟩
end
theorem sE{b:Nat}{vs:List ξ}(ty:aY){t:Nat}(h:Has w T t b vs)(hl:us.length=n)(hv:vs.length=n)(hi:(P.info? ty).map (·.size)=some n)(h1:∀u∈us,u.oneCell'=true):∃W2,Has W2 T t b us/\w.grownBy W2 (some b)/\∀(o:Oper) (a:Act) (x y:pT),o.op=.store ty x y->a.eval x=.pointer b->a.eval y=.agg us.toArray->(execOp a.eval o).run P w=.ok .skip W2:=by obtain⟨ht,e,hb⟩:=h;refine⟨w.setRow b us.toArray,⟨ht,e,setRow_heap w b _ _ _ _ hb⟩,⟨rfl,rfl,rfl,bT,fun k _ hk=>Go.setRow_other w b k _ (fun e=>hk (by rw[e]))⟩,fun o a x y ho hx hy=>?_⟩;have eH:=run_storeVar_row (P:=P) w b e ty vs.toArray us.toArray hb (by rw[hi];simp[hl]) (by simp[hl,hv]) (by rw[adl];exact Gs.2 h1);unfold execOp;simp only[ho,hx,hy,Instr.storeAt,Instr.sureAddr,Sem.run_bind,Sem.run_pure,MG.andThen_ok,eH]
section
variable {w w' wr:κ}{T T':Tg}{t b sb dz last aL fr ts n free dg:Nat}{l:List Br}{gs:List (Nat×List Int)}
def zB:List ξ:=[.int .i64 0,.int .i64 0,.slice none 0 0,.int .i64 0,.int .i64 0]
def eP(l:List Br)(ν:vo)(x:Br):Prop:=x∈l/\0<x.done/\x.done<=ν.length/\x.ν.take x.done=ν.take x.done
def Zh(l:List Br)(fr:Nat)(ν:vo)(us:List ξ)(dn:Nat):Prop:=(us=zB/\dn=0)\/∃x h,us=we fr x h/\x.done=dn/\eP l ν x
theorem Zh.three{dn:Nat}(h:Zh l fr ν us dn):us.length=5/\us[3]?=some (dn:ξ)/\∀u∈us,u.oneCell'=true:=by
 rcases h with ⟨rfl,rfl⟩|⟨x,a,rfl,rfl,_⟩
 .exact⟨rfl,rfl,by simp[zB,Zq1]⟩
 .exact⟨rfl,rfl,by simp[we,Zq1]⟩
def CP(g g':Nat):Tg:=fun k=>if k=g then 1 else if k=g' then 2 else 0
theorem Ext.Zi(e:Ext w w2)(h:Ξ (· = 1) w2 (CP g g') wr (CP g g'))(hg:w.heap.size<=g):Ext w wr :=
 ⟨h.os.trans e.os,h.tape.trans e.tape,h.output.trans e.output,aF e.size h.size,fun k hk=>(h.block k (eM hk e.size) (by unfold CP;rw[if_neg η];split<;>decide)).trans (e.block k hk)⟩
theorem Ext.aez(e:Ext w w2)(h:oR (· = 2) (CP g g') w2 wr)(hg:w.heap.size<=g'):Ext w wr :=
 ⟨h.os.trans e.os,h.tape.trans e.tape,h.output.trans e.output,aF e.size h.size,fun k hk=>(h.block k (eM hk e.size) (by unfold CP;split;decide;rw[if_neg η];decide)).trans (e.block k hk)⟩
end
def afN(us:List ξ):Prop:=∃a b A n c d e,us=[.int .i64 a,.int .i64 b,.slice A n c,.int .i64 d,.int .i64 e]
def Shp(ty:aY)(g:Nat)(w:κ):Prop:=∃us,afN us/\w.heap[g]?=some (.cells us.toArray ty)
def UW(K al m:Nat)(ty:aY)(i:Nat)(σ:Nat->ξ)(w w':κ):Prop:=Ext w w'\/(i=K/\∃g,σ al=.pointer (some ⟨g,0,none⟩)/\m<=g/\w.grownBy w' (some g)/\Shp ty g w/\Shp ty g w')
structure MO(m:Nat)(ty:aY)(G:List ξ->κ->Prop):Prop where
 adp:∀us w,G us w->afN us
 ext:∀us w w',G us w->Ext w w'->G us w'
 shp:∀us w w' g,m<=g->Shp ty g w->w.grownBy w' (some g)->G us w->G us w'
def Sr(i:Nat)(V:List ξ->ξ)(G:List ξ->κ->Prop)(σ:Nat->ξ)(w:κ):Prop:=∃us,σ i=V us/\G us w
def gsA(m al:Nat)(ty:aY)(σ:Nat->ξ)(w:κ):Prop:=∃g,σ al=.pointer (some ⟨g,0,none⟩)/\m<=g/\Shp ty g w
def gsS(m al:Nat)(ty:aY)(G:List ξ->κ->Prop)(σ:Nat->ξ)(w:κ):Prop:=∃g us,σ al=.pointer (some ⟨g,0,none⟩)/\m<=g/\G us w/\w.heap[g]?=some (.cells us.toArray ty)
section
variable {K al m i:Nat}{ty:aY}{G:List ξ->κ->Prop}{V:List ξ->ξ}{l:List Oper}{w w' w0:κ}{σ:Nat->ξ}
theorem Shp.lt(h:Shp ty g w):g<w.heap.size:=by obtain⟨_,_,h⟩:=h;exact(gy.1 h).1
theorem Shp.ext(h:Shp ty g w)(e:Ext w w'):Shp ty g w':=by have hl:=h.lt;obtain⟨us,h1,h2⟩:=h;exact⟨us,h1,(e.block g hl).trans h2⟩
theorem Sr.keeps(hG:MO m ty G):oy (UW K al m ty) 99 99 l i (Sr i V G):=by
 refine⟨fun j σ v w hj _ h=>?_,fun j hj _ σ w w' _ h hR=>?_⟩
 .obtain⟨us,h1,h2⟩:=h;exact⟨us,by rw[nL (Ne.symm hj)];exact h1,h2⟩
 .obtain⟨us,h1,h2⟩:=h
  refine⟨us,h1,?_⟩;rcases hR with e|⟨_,g,_,hm,hg,hs,_⟩
  .exact hG.ext us w w' h2 e
  .exact hG.shp us w w' g hm hs hg h2
theorem gsA.keeps:oy (UW K al m ty) 99 99 l al (gsA m al ty):=by
 refine⟨fun j σ v w hj _ h=>?_,fun j hj _ σ w w' _ h hR=>?_⟩
 .obtain⟨g,h1,h2,h3⟩:=h;exact⟨g,by rw[nL (Ne.symm hj)];exact h1,h2,h3⟩
 .obtain⟨g,h1,h2,h3⟩:=h
  refine⟨g,h1,h2,?_⟩;rcases hR with e|⟨_,g',e',hm,hg,hs,uQ⟩
  .exact h3.ext e
  .rw[h1]at e'
   cases e'
   exact uQ
theorem gsS.keeps(hG:MO m ty G)(hb:iK l K al=true):oy (UW K al m ty) 99 99 l K (gsS m al ty G):=by
 refine⟨fun j σ v w hj hn h=>?_,fun j hj _ σ w w' _ h hR=>?_⟩
 .obtain⟨g,us,h1,h2⟩:=h
  refine⟨g,us,?_,h2⟩;rw[nL (fun e=>by rw[←e,hb]at hn;cases hn)]
  exact h1
 .obtain⟨g,us,h1,h2,h3,h4⟩:=h
  rcases hR with e|⟨e,_⟩
  .exact⟨g,us,h1,h2,hG.ext us w w' h3 e,(e.block g (gy.1 h4).1).trans h4⟩
  .exact absurd e hj
theorem fC.lQ{B:Nat}(h:Ext w w')(hB:B<=w.heap.size):fC B w w':=⟨h.os,h.tape,h.output,h.size,fun k hk=>h.block k (eM hk hB)⟩
theorem fC.jZ(h:fC w.heap.size w w'):Ext w w':=⟨h.os,h.tape,h.output,h.size,h.block⟩
theorem afN.len(h:afN us):us.length=5/\∀u∈us,u.oneCell'=true:=by obtain⟨a,b,A,n,c,d,e,rfl⟩:=h;exact⟨rfl,gA⟩
theorem MP(hG:MO m ty G)(hi:(P.info? ty).map (·.size)=some 5)(hm:m<=g)(hs:Shp ty g w)(hg:G us w)(he:σ al=.pointer g)(hK:al≠K):∃W2,(∀(o:Oper) (a:Act) (x y:pT),o.op=.store ty x y->a.eval x=.pointer g->a.eval y=.agg us.toArray->(execOp a.eval o).run P w=.ok .skip W2)/\(m<=w.heap.size->fC m w W2)/\UW K al m ty K σ w W2/\gsS m al ty G (RO σ K undef) W2:=by
 obtain⟨vs,h5,hb⟩:=id hs;have xA:=(hG.adp _ _ hg).len;have kS:w.grownBy (w.setRow g us.toArray) (some g):=⟨rfl,rfl,rfl,bT,fun k _ hk=>Go.setRow_other w g k _ (fun e=>hk (by rw[e]))⟩;have sj:=setRow_heap w g vs.toArray us.toArray ty (0,0) hb;have eH:=run_storeVar_row (P:=P) w g ty ty vs.toArray us.toArray hb (by rw[hi];simp[xA.1]) (by simp[xA.1,h5.len.1]) (by rw[adl];exact Gs.2 xA.2);refine⟨w.setRow g us.toArray,fun o a x y ho hx hy=>?_,fun _=>⟨kS.os,kS.tape,kS.output,kS.size,fun k hk=>?_⟩,.inr ⟨rfl,g,he,hm,kS,hs,us,hG.adp _ _ hg,sj⟩,g,us,by rw[nL hK];exact he,hm,hG.shp us w _ g hm hs kS hg,sj⟩
 .unfold execOp;simp only[ho,hx,hy,Instr.storeAt,Instr.sureAddr,Sem.run_bind,Sem.run_pure,MG.andThen_ok,eH]
 .by_cases zJ:k<w.heap.size
  .exact kS.block k zJ (fun e=>by cases e;omega)
  .omega
end
section
variable {ty:aY}{w w':κ}{m fr n d g:Nat}{ps:vo}{A:aS}
def Wh(us:List ξ)(w:κ):Prop:=us=zB
theorem Wh.aQ(m:Nat)(ty:aY):MO m ty Wh:=by refine⟨?_,fun us w w' h _=>h,fun us w w' g _ _ _ h=>h⟩;rintro us w rfl;exact⟨_,_,_,_,_,_,_,rfl⟩
end
section
variable {w w' w1:κ}{g n c1 c2 c3 c4:Nat}
theorem P7(w:κ)(c:Nat)(h:Zs w g n)(hn:n<=256)(a b:Nat)(ha:a+1<b)(hb:b<=n)(hC:Cmp w g c1 c2 c3 c4):τ prog 331 #[.slice g n c,a,((a+1:Nat):Int),b,vX c1 c2 c3 c4] w fun e w'=>e=.returned (.tuple #[])/\Sw g n w w':=by
 have HZ0:=θ h;have HC:=θ fun W (hs:Sw g n w W)=>hC.grown hs.1;have pz:cQ.wrap (((a+1:Nat):Int)-(a:Int))=1:=by rw[pS _ η];omega
 obtain⟨m,hm⟩:∃m,m=a+1:=⟨_,rfl⟩;have Hm:=θ hm;rw[←hm]at pz⊢;have hna:(a<n)=True:=eq_true η;have alg:=dQ (a<n);have hmb:m<b:=η;unfold vX;clear h hC hm;go_enter func331,ntmps331;go_wp2_with fail;go_loopw [10,11] (fun iv jv wr=>∃i j:Nat,iv=.int .i64 (i:Nat)/\jv=.int .i64 (j:Nat)/\m<=i/\i<=j/\j<=b/\Sw g n w wr) (fun iv jv _=>(intOf jv).toNat-(intOf iv).toNat)
 case atStart=>exact⟨m,b,rfl,rfl,η,η,η,Sw.refl HZ0.o⟩
 case round =>
  obtain⟨i,j,rfl,rfl,hi1,yh,hjb,hS⟩:=hrel;have HS:=θ hS;have HZ:=θ hS.2;have HCx:=θ (HC.o wr hS);clear hS;by_cases aX:i<j
  .obtain⟨h,hh,hih,hhj⟩:∃h:Nat,((i:Int)+(j:Int)) / 2=(h:Nat)/\i<=h/\h<j:=⟨(i+j) / 2,η,η,η⟩
   have hnh:(h<n)=True:=eq_true η;have ai8:=dQ (h<n);have hwh:=ej ((h:Int)+1);go_wp2_with fail;clear hh;apply Ar 10 (zR g n) (fun _=>zR g n) (fun _ _=>True) (fun _=>trivial);simp only[tk];repeat apply gF (fun _ _ _ _=>trivial)
   apply aE (p:=vW) Γ Γ vW.aQ
   .rfl
   .intro W hR hJ υ;obtain⟨x,h1,_⟩:=hR.2 HZ.o (h) η;refine⟨_,W,?_,zR.refl _,zR.refl _,x,rfl⟩;go_simp;first|done|rfl
   intro v4;simp only[pu];repeat apply gF (fun _ _ _ _=>trivial)
   apply aE (p:=vW) Γ Γ vW.aQ
   .rfl
   .intro W hR hJ υ;obtain⟨x,h1,_⟩:=hR.2 HZ.o (a) η;refine⟨_,W,?_,zR.refl _,zR.refl _,x,rfl⟩;go_simp;first|done|rfl
   intro v8;simp only[pu];apply uI (p:=zi) Γ Γ zi.aQ
   .intro W hR hJ υ;obtain⟨x1,rfl⟩:=υ.2.1 rfl;obtain⟨x2,rfl⟩:=υ.1 rfl;refine(HCx.o W x1 x2 hR.1).mono ?_;rintro e w' ⟨⟨q,rfl⟩,ee⟩;exact⟨_,rfl,zR.ai ee,zR.ai ee,q,rfl⟩
   intro v9;simp only[pu];refine aP ?_;intro Wx zm gT υ;obtain⟨q,rfl⟩:=υ.1 rfl;clear υ gT;simp only[dk];have MQ:=θ (HS.o.trans (zm.sw HZ.o));clear zm;by_cases hq:q<0
   .go_wp2_with fail
    go_roundw
    case rel=>exact⟨h+1,j,cR,rfl,η,η,η,MQ.o⟩
    case measure=>exact dB
   .go_wp2_with fail
    go_roundw
    case rel=>exact⟨i,h,rfl,rfl,η,η,η,MQ.o⟩
    case measure=>exact dB
  .have hwi:=ej ((i:Int)-1)
   go_wp2_with fail;go_loopw [13] (fun kv wx=>∃k:Nat,kv=.int .i64 (k:Nat)/\a<=k/\k+1<=i/\Sw g n w wx) (fun kv _=>i-(intOf kv).toNat)
   case atStart=>exact⟨a,rfl,aq _,by have:=Hm.o;omega,HS.o⟩
   case round =>
    obtain⟨k,rfl,Gn,zJ,hS⟩:=hrel;have HS:=θ hS;have HZ:=θ hS.2;clear hS;by_cases hki:k+1<i
    .have Gj:=dQ ((k:Int)<(i:Int)-1)
     have Ss:=ej ((k:Int)+1);have akJ:((k:Int)+1<(n:Int))=True:=eq_true η;have zZ:(0<=(k:Int)+1)=True:=eq_true η;have BR:((k:Int)+1).toNat=k+1:=η;have hn3:(k<n)=True:=eq_true η;go_wp2_with fail;apply GG (zR g n) (fun _=>zR g n) (fun _ _=>True) (fun _=>trivial);repeat apply gF (fun _ _ _ _=>trivial)
     apply aE (p:=vW) Γ Γ vW.aQ
     .rfl
     .intro W hR hJ υ;obtain⟨x,h1,_⟩:=hR.2 HZ.o (k+1) η;refine⟨_,W,?_,zR.refl _,zR.refl _,x,rfl⟩;go_simp;first|done|rfl
     intro v9;simp only[pu];repeat apply gF (fun _ _ _ _=>trivial)
     apply aE (p:=vW) Γ Γ vW.aQ
     .rfl
     .intro W hR hJ υ;obtain⟨x,h1,_⟩:=hR.2 HZ.o (k) η;refine⟨_,W,?_,zR.refl _,zR.refl _,x,rfl⟩;go_simp;first|done|rfl
     intro YQ;simp only[pu];repeat apply gF (fun _ _ _ _=>trivial)
     apply gQ (p:=fun _ _=>True) Γ Γ (fun _ _ _ _ _ _ _=>trivial)
     .rfl
     .intro W hR hJ υ;obtain⟨y,h1,h2⟩:=hR.2 HZ.o (k) η;obtain⟨x,hx⟩:=υ.2.1 rfl;refine⟨W.setCell ⟨_,k,none⟩ (.int .u8 (x.toNat:Nat)),?_,zR.set W _ _ (k) x,zR.set W _ _ (k) x,trivial⟩;simp only[hx];go_simp;first|done|rfl
     intro v15;simp only[Act.put];repeat apply gF (fun _ _ _ _=>trivial)
     apply gQ (p:=fun _ _=>True) Γ Γ (fun _ _ _ _ _ _ _=>trivial)
     .rfl
     .intro W hR hJ υ;obtain⟨y,h1,h2⟩:=hR.2 HZ.o (k+1) η;obtain⟨x,hx⟩:=υ.2.1 rfl;refine⟨W.setCell ⟨_,k+1,none⟩ (.int .u8 (x.toNat:Nat)),?_,zR.set W _ _ (k+1) x,zR.set W _ _ (k+1) x,trivial⟩;simp only[hx];go_simp;first|done|rfl
     intro v17;simp only[Act.put];refine aP ?_;intro Wx zm gT υ;clear υ gT;have AL:=HS.o.trans (zm.sw HZ.o);clear zm;go_wp2;go_roundw
     case rel=>exact⟨k+1,cR,η,η,AL⟩
     case measure=>exact dB
    .have Gj:=dh ((k:Int)<(i:Int)-1);go_wp2_with fail;exact bodyPost_ret (results_none rfl _ _ _) rfl ⟨rfl,HS.o⟩
end
def afO:Option Br->Nat
 |none=>0
 |some x=>x.done
def iG(l:List Br)(ν:vo):Nat->Option Br
 |0=>none
 |k+1=>match l[k]? with
  |some x=>if afO (iG l ν k)<x.done/\x.done<=ν.length/\x.ν.take x.done=ν.take x.done then some x else iG l ν k
  |none=>iG l ν k
theorem P8{l:List Br}{x:Br}(hx:l[k]?=some x)(h:afO (iG l ν k)<x.done/\x.done<=ν.length/\x.ν.take x.done=ν.take x.done):iG l ν (k+1)=some x:=by rw[iG,hx];exact if_pos h
theorem UX{l:List Br}{x:Br}(hx:l[k]?=some x)(h:¬(afO (iG l ν k)<x.done/\x.done<=ν.length/\x.ν.take x.done=ν.take x.done)):iG l ν (k+1)=iG l ν k:=by rw[iG,hx];exact if_neg h
def tI(l:List Br)(fr:Nat)(ν:vo)(us:List ξ)(dn k:Nat):Prop:=(iG l ν k=none/\us=zB/\dn=0)\/∃x h,iG l ν k=some x/\us=we fr x h/\x.done=dn/\eP l ν x
section
variable{l:List Br}
theorem tI.dn{dn:Nat}(h:tI l fr ν us dn k):afO (iG l ν k)=dn:=by
 rcases h with ⟨h,_,rfl⟩|⟨x,a,h,_,rfl,_⟩
 .rw[h];rfl
 .rw[h];rfl
theorem tI.c{dn:Nat}(h:tI l fr ν us dn k):Zh l fr ν us dn:=by
 rcases h with ⟨_,h⟩|⟨x,a,_,h⟩
 .exact .inl h
 .exact .inr ⟨x,a,h⟩
theorem tI.keep{dn:Nat}{x:Br}(h:tI l fr ν us dn k)(hx:l[k]?=some x)(hn:¬(dn<x.done/\x.done<=ν.length/\x.ν.take x.done=ν.take x.done)):tI l fr ν us dn (k+1):=by have e:iG l ν (k+1)=iG l ν k:=UX hx (by rw[h.dn];exact hn);unfold tI;rw[e];exact h
theorem tI.fin{dn:Nat}(h:tI l fr ν us dn k){r:Bool}(hr:r=decide (0<dn)):(iG l ν k=none/\Ending.returned (.tuple #[.agg us.toArray,.bool r])=.returned (.tuple #[brZ,.bool false]))\/∃x h,iG l ν k=some x/\Ending.returned (.tuple #[.agg us.toArray,.bool r])=.returned (.tuple #[GP fr x h,.bool true])/\eP l ν x:=by
 rcases h with ⟨h1,rfl,rfl⟩|⟨x,a,h1,rfl,rfl,hg⟩
 .refine .inl ⟨h1,?_⟩;rw[hr];rfl
 .refine .inr ⟨x,a,h1,?_,hg⟩;rw[hr,zF hg.2.1];rfl
end
section
variable {w w' wr:κ}{T T':Tg}{t b sb dz last aL fr n free dg:Nat}{l:List Br}
theorem P9(h:fB w T t b sb dz last aL fr l)(hm:dz<=8)(aT:∀x∈l,Kw x.ν)(hd:∀x∈l,x.done<=x.ν.length){PA:aS}{pn pc:Nat}(hp:Rp w PA pn pc ν):τ prog 269 #[π b,fr,.slice PA pn pc] w fun e w'=>Ext w w'/\((iG l ν l.length=none/\e=.returned (.tuple #[brZ,.bool false]))\/∃x h,iG l ν l.length=some x/\e=.returned (.tuple #[GP fr x h,.bool true])/\eP l ν x):=by
 have mj:=aF h.tH hm;have ai9:=θ fun W (e:Ext w W)=>AU (h.ext e) hm aT;have HA:=θ fun W (e:Ext w W) D m d qs (hq:Rp W D m d qs)=>AR W D m d qs PA pn pc ν hq (hp.ext e);have DX:=θ hp.len;have Hd:=θ hd;obtain⟨N,hN⟩:∃N,N=l.length:=⟨_,rfl⟩;have HN:=θ hN;rw[←hN]at mj ai9;unfold π;clear h aT hd hp hN;have c1:=Has.new w (fun _=>0) zB 136 rfl;have c2:=Has.new (w.alloc (.cells zB.toArray 136)) (fun _=>0) zB 136 rfl;have c1:=c1.ext (Ext.alloc _ (.cells zB.toArray 136));have x0:=(Ext.alloc w (.cells zB.toArray 136)).trans (Ext.alloc _ (.cells zB.toArray 136));rw[show(w.alloc (.cells zB.toArray 136)).heap.size=w.heap.size+1 by simp]at c2;go_enter func269,ntmps269;go_upto_region 2 with fail
 rw[show zB.toArray = #[.int .i64 0,.int .i64 0,.slice none 0 0,.int .i64 0,.int .i64 0] from rfl]at c1 c2 x0;generalize hW:aB (aB w _) _=W0 at*;obtain⟨gr,kS⟩:∃gr,gr=w.heap.size:=⟨_,rfl⟩;obtain⟨gb,St⟩:∃gb,gb=w.heap.size+1:=⟨_,rfl⟩;rw[←St]at c2;rw[←kS]at c1;rw[←St,←kS];have hne:gb≠gr:=η;have Hgr:=θ (show w.heap.size<=gr by omega);have Hgb:=θ (show w.heap.size<=gb by omega);clear hW kS St;have ru:Θ W0 (CP gb gr):=fun k hk=>by have:=c1.lt;have:=c2.lt;unfold CP;rw[if_neg η,if_neg η]
 have c1:Has W0 (CP gb gr) 2 gr zB:=⟨by unfold CP;rw[if_neg (fun e=>hne e.symm),if_pos rfl],c1.2⟩;have c2:Has W0 (CP gb gr) 1 gb zB:=⟨by unfold CP;rw[if_pos rfl],c2.2⟩;go_wp2_with fail;refine(ai9.o W0 x0).mono ?_;rintro e w2 ⟨C,cc,rfl,e2,Sq⟩;have Sq:=Sq _ ru;have HBs:=θ Sq;have Hc1:=θ (c1.ext e2);have Hx2:=θ (x0.trans e2);have eH:∃(k:Nat) (us:List ξ) (dn:Nat),af .i64 0=.int .i64 (k:Nat)/\k<=N/\tI l fr ν us dn k/\Ξ (· = 1) w2 (CP gb gr) w2 (CP gb gr)/\Has w2 (CP gb gr) 1 gb us:=⟨0,zB,0,rfl,aM _,.inl ⟨rfl,rfl,rfl⟩,Ξ.refl _ (ru.ext e2),c2.ext e2⟩;have kR:=θ eH;clear Sq c1 c2 eH;go_wp2_with fail;go_loopw [15] (fun iv wr=>∃(k:Nat) (us:List ξ) (dn:Nat),iv=.int .i64 (k:Nat)/\k<=N/\tI l fr ν us dn k/\Ξ (· = 1) w2 (CP gb gr) wr (CP gb gr)/\Has wr (CP gb gr) 1 gb us) (fun iv _=>N-(intOf iv).toNat)
 case atStart=>exact kR.o
 case round =>
  obtain⟨k,us,dn,rfl,hk,hbc,hT,hH⟩:=hrel;by_cases jk:k<N
  .obtain⟨x,hx⟩:∃x,l[k]?=some x:=⟨_,bf (by rw[←HN.o];exact jk)⟩
   obtain⟨g9,o9,⟨A1,c1⟩,rfl,yG,vk⟩:=(HBs.o.ο hT Γ).elem hx;have k0:=yG 0 _ rfl;have k1:=yG 1 _ rfl;have k2:=yG 2 _ rfl;have k3:=yG 3 _ rfl;have k4:=yG 4 _ rfl;rw[AM]at k0;have hdx:=Hd.o x (sO hx);have Pu:=vk.rp.max.1;have XK:=vk.rp.max.2;unfold maxLen at XK;have hxw:=Ext.Zi Hx2.o hT Hgb.o;have HAx:=θ fun W (e:Ext wr W)=>HA.o W (hxw.trans e) A1 x.done c1 (x.ν.take x.done) ((vk.rp.ext e).take hdx);have Hx:=θ hx;have HT:=θ hT;have HH:=θ hH;have Hbc:=θ hbc;have h3:=hH.cell (i:=3) hbc.c.three.2.1;clear yG vk hx hT hH hbc hxw;have adq:x.done<=pn->dn<x.done->((x.ν.take x.done).take (min x.done pn)==ν.take (min x.done pn))=true->tI l fr ν (we fr x (A1,c1)) x.done (k+1):=fun h1 h2 h3=>by
    rw[IW h1,MF,Nat.min_self]at h3;have h4:=eq_of_beq h3;have h5:x.done<=ν.length:=by rw[←DX.o];exact h1
    exact .inr ⟨x,_,P8 Hx.o ⟨by rw[Hbc.o.dn];exact h2,h5,h4⟩,rfl,rfl,sO Hx.o,η,h5,h4⟩
   have adr:=θ adq;have alh:=θ fun(h:¬dn<x.done)=>Hbc.o.keep Hx.o fun h9=>h h9.1;have ali:=θ fun(h:¬x.done<=pn)=>Hbc.o.keep Hx.o fun h9=>h (by rw[DX.o];exact h9.2.1);have alj:=θ fun(h1:x.done<=pn) (h:((x.ν.take x.done).take (min x.done pn)==ν.take (min x.done pn))=false)=>Hbc.o.keep Hx.o fun h9=>by rw[IW h1,MF,Nat.min_self,h9.2.2]at h;simp at h
   clear adq;obtain⟨us',xA⟩:∃us',us'=we fr x (A1,c1):=⟨_,rfl⟩;have KW:=xA;unfold we at KW;rw[←xA]at adr;generalize ((x.ν.take x.done).take (min x.done pn)==ν.take (min x.done pn))=r at*;clear xA;generalize x.ν.length=pl at*;generalize x.ν=ps at*;generalize x.id=i1 at*;generalize x.done=i3 at*;generalize x.jP=i4 at*;go_upto_region 5 with fail
   have b9:=Has.new wr (fun _=>0) us' 136 rfl;have vZ:=Ext.alloc wr (.cells us'.toArray 136);have h3:=vZ.cell h3;have hl5:us'.length=5:=by rw[KW];rfl
   have N3:∀u∈us',u.oneCell'=true:=by rw[KW];simp[Zq1]
   rw[show us'.toArray = #[.int .i64 (i1:Nat),.int .i64 (fr:Nat),.slice A1 pl c1,.int .i64 (i3:Nat),.int .i64 (i4:Nat)] by rw[KW]]at b9 vZ h3;generalize hW:aB wr _=W at*;obtain⟨gv,DV⟩:∃gv,gv=wr.heap.size:=⟨_,rfl⟩;rw[←DV]at b9⊢;clear hW DV k0 k1 k2 k3 k4;have j1:=b9.cell (i:=1) (by rw[KW];rfl);have j2:=b9.cell (i:=2) (by rw[KW];rfl);have j3:=b9.cell (i:=3) (by rw[KW];rfl);have B9:=θ b9;clear KW b9;by_cases hdn:dn<i3
   .have agH:=dQ ((dn:Int)<(i3:Int))
    by_cases hdp:i3<=pn
    .have alk:=dQ ((i3:Int)<=(pn:Int))
     have uR:((i3:Int)<=(c1:Int))=True:=eq_true η;go_wp2_with fail;refine(HAx.o W vZ).mono ?_;rintro e w3 ⟨rfl,e3⟩;have Oj:=vZ.trans e3;cases r with
     |true =>have Qa:=(B9.o.ext e3).all;have CO:=HH.o.ext Oj;have alm:=Hbc.o.c.three.1;have aln:=adr.o hdp hdn rfl;clear j1 j2 j3 h3;go_wp2_with (first|(with_reducible refine bI rfl 136 (.tmp 10) rfl rfl underlying136 nX hl5 Qa ?_)|(with_reducible refine bE rfl 136 (.tmp 8) (.tmp 46) rfl rfl (us:=us') rfl CO hl5 alm nX N3 ?_;intro Z bZ gZ sZ));have cT:Ξ (· = 1) w2 (CP gb gr) Z (CP gb gr):=(HT.o.ext Oj).grown gZ (fun g hg=>by cases hg;exact .inl (by unfold CP;rw[if_pos rfl]));exact⟨⟨k+1,us',i3,cR,η,aln,cT,bZ⟩,by simp[intOf];omega⟩
     |false =>
      go_wp2;go_roundw
      case rel=>exact⟨k+1,us,dn,cR,η,alj.o hdp trivial,HT.o.ext Oj,HH.o.ext Oj⟩
      case measure=>exact dB
    .have alk:=dh ((i3:Int)<=(pn:Int))
     go_wp2;go_roundw
     case rel=>exact⟨k+1,us,dn,cR,η,ali.o hdp,HT.o.ext vZ,HH.o.ext vZ⟩
     case measure=>exact dB
   .have agH:=dh ((dn:Int)<(i3:Int))
    go_wp2;go_roundw
    case rel=>exact⟨k+1,us,dn,cR,η,alh.o hdn,HT.o.ext vZ,HH.o.ext vZ⟩
    case measure=>exact dB
  .obtain rfl:k=N:=by omega
   have hk3:=hbc.c.three;have c1:=Hc1.o.ο hT Γ;have h3:=hH.cell (i:=3) hk3.2.1;have Hbc:=θ hbc;have HT:=θ hT;have HH:=θ hH;have Hk:=θ hk3;clear hbc hT hH;have KX:¬CP gb gr gb=2:=by unfold CP;rw[if_pos rfl];decide
   have hz5:zB.length=5:=rfl;go_wp2_with fail;apply GG (oR (· = 2) (CP gb gr)) (Bj 4 (· = 2) (CP gb gr)) (oJ 4 _) (oJ.start _ _);apply j7 (u:=.agg us.toArray) Γ Γ (oR.refl _ _) (Bj.refl _ _ _)
   .rfl
   .intro W hR hJ υ;exact qg 136 (.tmp 8) rfl rfl underlying136 (by rw[Hk.o.1];exact nX) (HH.o.mh hR Γ).all
   simp only[pu];repeat apply gF (fun _ h _ _=>h.cell h3 KX)
   apply gQ (p:=fun _ W=>Has W (CP gb gr) 2 gr us) Γ Γ (fun j hj v w w' h hR=>by
    rcases hR with ⟨h9,_⟩|h9
    .exact absurd h9 hj
    .exact h.ext h9)
   .rfl
   .intro W hR hJ υ;obtain⟨W2,h2,h3,h1⟩:=sE (P:=prog) 136 (us:=us) (c1.ext (hJ rfl)) Hk.o.1 hz5 nX Hk.o.2.2;have hmv:oR (· = 2) (CP gb gr) W W2:=⟨h3.os,h3.tape,h3.output,h3.size,fun k hk hn=>h3.block k hk (fun e=>hn (by cases e;exact h2.1))⟩;exact⟨W2,h1 _ _ _ _ rfl rfl rfl,hmv,.inl ⟨rfl,hmv⟩,h2⟩
   intro v14;simp only[Act.put];repeat apply gF (fun _ _ _ _=>trivial)
   refine aP ?_;intro W hR gT υ;have hZ:=υ.1 rfl;clear υ gT;go_wp2_with fail;have yc:=Ext.aez (Ext.Zi Hx2.o HT.o Hgb.o) hR Hgr.o;exact bodyPost_ret (uf (q:=7) rfl _ rfl hZ underlying136 (by rw[Hk.o.1];exact nX)) rfl ⟨yc,by rw[←HN.o];exact Hbc.o.fin rfl⟩
end
end Go.Proofs.YtffcefoadaogbaaGreat
