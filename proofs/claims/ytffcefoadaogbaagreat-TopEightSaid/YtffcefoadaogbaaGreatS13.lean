/- A part of the proof. -/
import Derived.Test.YtffcefoadaogbaaGreatS10
import Derived.Test.YtffcefoadaogbaaGreatS12
namespace Go.Proofs.YtffcefoadaogbaaGreat
open Go.RowKit
open Go.Proofs.Tryz
set_option linter.all false
set_option maxRecDepth 100000
set_option maxHeartbeats 16000000
open _root_.Nat renaming le_trans->aF,le_refl->aq,zero_le->aM,lt_of_lt_of_le->eM,eq_zero_or_pos->rA
open _root_.List renaming mem_range->nB,find?_append->MT,take_succ_eq_append_getElem->yt,getElem_mem->dH,take_length->sU,length_take->tN,map_append->gS,range->dJ,range_succ->uP,flatMap_append->ny,flatMap_def->MU,length_append->eU,getD_eq_getElem?_getD->cO,mem_of_getElem?->sO,take_of_length_le->jL,take_add_one->oz,getElem?_map->iZ,getElem?_eq_getElem->bf,map_cons->mF,map_nil->tT,replicate->cP
open Go.IntKind renaming i64->cQ
open Go.IntWalk renaming i64_in->pS
open Go.World renaming setCell->dG
open _root_.Option renaming map_eq_some_iff->vu
open _root_.UInt8 renaming ofNat->eB
open Go renaming World->κ,Value->ξ,Calls->τ,IntKind->oU
variable{b d g i j k kind m n o pc v:Nat}{ll:List Nat}{p:Nat->Bool}{w w':κ}
section
variable {w w':κ}{T T':Tg}{t b:Nat}{cf:Cf}{me qb:Nat}{ps:Nat->Nat}{c:Cr}{mk:List Nat}
section
variable(h:ct w T t b cf me qb ps c mk)
include h
theorem ct.Cl(hu:Θ w T)(m:Nat):Ξ (· = t) w T (w.setCell (b,14) (m:ξ)) T/\ct (w.setCell (b,14) (m:ξ)) T t b cf me qb ps {c with now:=m} mk:=by obtain⟨⟨PA,pc,MA,mc,EA,ec,h1,h2,h3,h4⟩,h5⟩:=h;obtain⟨hT,hH⟩:=h1.put (S:=(· = t)) hu 14 (.int .i64 (m:Nat)) rfl;exact⟨hT,⟨PA,pc,MA,mc,EA,ec,hH.is rfl,h2.ο hT η,h3.ο hT η,h4.ο hT η⟩,h5.ο hT fun k _=>η⟩
theorem ct.tJ(hu:Θ w T):Ξ (· = t) w T (w.setCell (b,15) (.bool true)) T/\ct (w.setCell (b,15) (.bool true)) T t b cf me qb ps {c with closed:=true} mk:=by obtain⟨⟨PA,pc,MA,mc,EA,ec,h1,h2,h3,h4⟩,h5⟩:=h;obtain⟨hT,hH⟩:=h1.put (S:=(· = t)) hu 15 (.bool true) rfl;exact⟨hT,⟨PA,pc,MA,mc,EA,ec,hH.is rfl,h2.ο hT η,h3.ο hT η,h4.ο hT η⟩,h5.ο hT fun k _=>η⟩
theorem ct.cells:∃PA MA EA pc mc ec,acY w b cf me qb c PA MA EA pc mk.length mc ec/\w.frozen? (b,14)=false/\w.frozen? (b,15)=false/\cf.n<=pc/\pc<=maxLen/\(∀i,i<cf.n->∃g,PA=some ⟨g,0,none⟩/\w.cell? ⟨g,i*5+1,none⟩=some ((c.heard i:Nat):ξ)):=by obtain⟨⟨PA,pc,MA,mc,EA,ec,h1,h2,h3,h4⟩,h5⟩:=h;refine⟨PA,MA,EA,pc,mc,ec,coreC h1,h1.free 14,h1.free 15,h2.rd.2.1,h2.rd.2.2.1,fun i hi=>?_⟩;obtain⟨g,e,_,h9,_⟩:=uq h2 hi;exact⟨g,e,h9⟩
end
theorem bz.Cl(h:bz cf me c mk)(hm:m<=1000000)(hc:c.now<=m):bz cf me {c with now:=m} mk:=⟨h.ok,h.me,h.len,h.short,hm,h.bx,h.has,fun i=>aF (h.heard i) hc,h.words,h.marks,h.yI⟩
theorem UA.mono{base CA id:Nat}{B:aS}{ks:List Pk}(h:UA w base id B n d ks)(hb:CA<=base):UA w CA id B n d ks:=by obtain⟨hs,h1,h2,h3,h4⟩:=h;exact⟨hs,h1,h2,h3.mono hb,fun i k a hk ha=>⟨(h4 i k a hk ha).1,fun g hg=>aF hb ((h4 i k a hk ha).2 g hg)⟩⟩
theorem IZ(h:bz cf me c mk)(hi:i∈c.others me):i<cf.n/\i≠me:=by unfold Cr.others at hi;rw[List.mem_filter,nB,h.len]at hi;exact⟨hi.1,by simpa using hi.2⟩
def nR(c:Cr)(me:Nat)(mk:List Nat):List Pk:=if c.closed then [] else match c.late me with
 |some _=>[]
 |none=>(c.others me).map (eR c me mk)
section
variable(h:(ll.take j).find? p=none)(hj:j<ll.length)
include h hj
theorem abP(hp:p ll[j]=true):ll.find? p=some ll[j]:=by
 have h1:ll=ll.take j++ll[j]::ll.drop (j+1):=by rw[List.getElem_cons_drop,List.take_append_drop]
 generalize ll[j]=x at*;rw[h1,MT,h,List.find?_cons_of_pos hp];rfl
theorem abQ(hp:p ll[j]=false):(ll.take (j+1)).find? p=none:=by
 rw[yt hj,MT,h,List.find?_cons_of_neg (by rw[hp];decide)]
 rfl
end
theorem UZ(h:ct w T t b cf me qb ps c mk)(hk:bz cf me c mk)(hu:Θ w T)(AV:c.now<1000000):τ prog 290 #[π b] w (cG (In t 22) w T fun v w' T'=>∃B n d,v=.slice B n d/\YL w' T' w.heap.size cf.id B n d (nR c me mk)/\ct w' T' t b cf me qb ps (c.tick me) mk):=by
 obtain⟨i0,hi,dx,dA,dN⟩:=info_parts Cd;have H1:=θ (rT h);unfold nR Cr.tick;by_cases j5:c.closed=true
 .rw[j5]at H1;rw[if_pos j5,if_pos j5];have Hh:=θ h;unfold π at*;clear h hk;go_enter func290,ntmps290;go_wp2_with fail;refine H1.o.mono ?_;rintro e w1 ⟨rfl,rfl⟩;go_wp2;go_ret;exact⟨_,rfl,T,Ξ.refl _ hu,none,0,0,rfl,⟨_,aq _,UA.dR _ _ _,hu⟩,Hh.o⟩
 have Pt:c.closed=false:=Lj;rw[if_neg j5,if_neg j5];rw[Pt]at H1;obtain⟨PA,MA,EA,pc,mc,ec,hC,f14,_,_,_,_⟩:=h.cells;have ya:=hC.ya;obtain⟨cw,FA⟩:=h.Cl hu (c.now+1);have Gn:=hk.Cl (m:=c.now+1) AV (Nat.le_succ _);have Kf:c.others me=({c with now:=c.now+1}:Cr).others me:=rfl;have ajh:eR c me mk=eR {c with now:=c.now+1} me mk:=rfl;have Ho:=θ fun W (e:Ext (w.setCell ⟨b,14,none⟩ (.int .i64 ((c.now+1:Nat):Int))) W)=>Mi (FA.ext e) Gn;rw[←Kf]at Ho;have KD:∀j (hj:j<(c.others me).length),(c.others me)[j]<cf.n/\(c.others me)[j]≠me:=fun j hj=>IZ hk (dH hj);have jW:=hk.ok.n8;have hol:(c.others me).length<=8:=by have h1:=uu me cf.n;have h2:c.others me=dZ me cf.n:=af8;rw[h2];omega
 obtain⟨PA1,MA1,EA1,pc1,mc1,ec1,hC1,_,_,Km,J1,FB⟩:=FA.cells;have d14:=hC1.ya;have d11:=hC1.oA;have sS:∀x,c.heard x<=c.now:=hk.heard;have Hhe:=θ sS;have Hhc:=θ FB;have Hin:=θ fun W (e:Ext (w.setCell ⟨b,14,none⟩ (.int .i64 ((c.now+1:Nat):Int))) W) i (hi:i<cf.n) (hne:i≠me)=>PS (FA.ext e) Gn hi hne;have Hno:=θ fun W (e:Ext (w.setCell ⟨b,14,none⟩ (.int .i64 ((c.now+1:Nat):Int))) W) x (hx:x<8)=>Iz (FA.ext e) Gn (cw.Δ.ext e) 2 x ⟨.inr rfl,hx⟩;rw[←ajh]at Hin;have HA:=θ FA;have HT:=θ cw;have aji:=θ KD;have Hla:=θ (show c.late me=(c.others me).find? fun i=>decide (40<=c.now+1-c.heard i) from rfl);have hw:cQ.wrap ((c.now:Int)+1)=((c.now+1:Nat):Int):=by rw[pS _ η];omega
 have Him:=θ (show(∀x,(eR c me mk x).src=me)/\∀x,(eR c me mk x).dst=x from⟨fun _=>rfl,fun _=>rfl⟩);unfold π kU at*;generalize c.late me=la at*;generalize c.others me=ll at*;generalize eR c me mk=im at*;generalize c.heard=he at*;generalize hnw:c.now=nw at*;clear h hk hC FA cw Gn Kf ajh KD hC1 sS FB;unfold maxLen at J1;go_enter func290,ntmps290;go_wp2_with fail;refine H1.o.mono ?_;rintro e w1 ⟨rfl,rfl⟩;go_wp2_with fail;rw[show((nw:Int)+1)=((nw+1:Nat):Int) by omega];generalize hWs:dG w1 _ _=ws at*;have hws:ws.heap.size=w1.heap.size:=by subst hWs;simp[dG]
 clear hWs ya f14 Pt j5;refine(Ho.o ws (Ext.refl _)).mono ?_;rintro e w2 ⟨BO,dO,rfl,hO,e2⟩;have d14:=e2.cell d14;have d11:=e2.cell d11;go_wp2_with fail;go_loopw [20] (fun iv wr=>∃(j:Nat),iv=.int .i64 (j:Nat)/\j<=ll.length/\(ll.take j).find? (fun i=>decide (40<=nw+1-he i))=none/\Ext w2 wr) (fun iv _=>ll.length-(intOf iv).toNat)
 case atStart=>exact⟨0,rfl,aM _,bT,Ext.refl _⟩
 case round =>
  obtain⟨j,rfl,hj,hF,hE⟩:=hrel;have HF:=θ hF;clear hF;by_cases iY:j<ll.length
  .obtain⟨bO,oO,rfl,hcO⟩:=hO.rd.2.2.2 η
   have hcj:=hE.cell (hcO j ((ll[j]:Nat):ξ) (by simp[Yq,iY]));obtain⟨N5,yc⟩:=aji.o j iY;have hxx:ll[j]=ll[j]:=rfl;have HFa:=θ fun hp=>abP HF.o iY hp;have HFo:=θ fun hp=>abQ HF.o iY hp;clear HF;generalize ll[j]=x at*;obtain⟨gp,rfl,ajj⟩:=Hhc.o x N5;have hpx:=hE.cell (e2.cell ajj);have q14:=hE.cell d14;have q11:=hE.cell d11;have hhx:=Hhe.o x;have xZ:cQ.wrap ((nw:Int)+1-(he x:Int))=((nw+1-he x:Nat):Int):=by rw[pS _ η];omega
   clear ajj;by_cases aX:40<=nw+1-he x
   .have Gj:=dQ ((40:Int)<=((nw+1-he x:Nat):Int))
    have hfx:=HFa.o (zF aX);obtain rfl:la=some x:=Hla.o.trans hfx;clear hfx Hla;generalize nw+1-he x=dd at*;go_wp2_with fail;apply iL trivial;repeat apply DH q14 q11 hpx
    refine jq fun Wx ak=>?_;have x6:=(e2.trans hE).trans ak;have Hn:=θ (Hno.o Wx x6 x η);go_wp2_with fail;refine Hn.o.mono ?_;rintro e w7 ⟨rfl,T7,yA,hA7⟩;obtain⟨PA7,MA7,EA7,pc7,mc7,ec7,Gp,_,f7,_,_,_⟩:=hA7.cells;have c7:=Gp.K1;obtain⟨MV,hA8⟩:=hA7.tJ yA.Δ;have HA8:=θ hA8;clear Gp hA7 hA8;go_wp2;go_ret;have hTT:=((((HT.o.mono fun k hk=>(show In t 22 k by subst hk;unfold In;omega)).ext x6).trans yA).trans (MV.mono fun k hk=>(show In t 22 k by subst hk;unfold In;omega)));exact⟨_,rfl,T7,hTT,none,0,0,rfl,⟨_,hTT.size,UA.dR _ _ _,hTT.Δ⟩,HA8.o⟩
   .have Gj:=dh ((40:Int)<=((nw+1-he x:Nat):Int))
    have hfx:=HFo.o (zG aX);have Hfx:=θ hfx;clear hfx;generalize nw+1-he x=dd at xZ Gj;go_wp2_with fail;apply iL trivial;repeat apply DH q14 q11 hpx
    refine jq fun Wx ak=>?_;go_wp2;go_roundw
    case rel=>exact⟨j+1,cR,η,Hfx.o,hE.trans ak⟩
    exact dB
  .obtain rfl:j=ll.length:=by omega
   have Di:=dh (ll.length<ll.length);rw[sU]at HF;have hla:la=none:=by rw[Hla.o];exact HF.o
   clear Hla HF;subst hla;have x3:=e2.trans hE;clear Hhc Hno;go_wp2_with fail;refine(Ho.o wr x3).mono ?_;rintro e w3 ⟨B2,d2,rfl,hO2,e3⟩;have x4:=x3.trans e3;clear Ho hE d14 d11;generalize hZ:wr.heap.size=z at*;go_wp2_with fail;go_loopw [3,49] (fun v iv ww=>∃(j:Nat) (B:aS) (n d:Nat),iv=.int .i64 (j:Nat)/\j<=ll.length/\v=.slice B n d/\UA ww w3.heap.size cf.id B n d ((ll.take j).map im)/\Ext w3 ww) (fun _ iv _=>ll.length-(intOf iv).toNat)
   case atStart=>exact⟨0,none,0,0,rfl,aM _,rfl,UA.dR _ _ _,Ext.refl _⟩
   case round =>
    obtain⟨j,B,n,d,rfl,hj,rfl,hM,hE⟩:=hrel;have hHM:=θ hM;obtain⟨hs,m1,m2,m3,m4⟩:=hM;have hnj:n=j:=by rw[m2,List.length_map,tN];omega
    subst hnj;have M1:=θ m1;have M2:=θ m2;have M4:=θ m4;clear m1 m2 m4;by_cases iY:n<ll.length
    .obtain⟨bO,oO,rfl,hcO⟩:=hO2.rd.2.2.2 η
     have hcj:=hE.cell (hcO n ((ll[n]:Nat):ξ) (by simp[Yq,iY]));obtain⟨N5,yc⟩:=aji.o n iY;have Hm:=θ (Hin.o wr (x4.trans hE) ll[n] N5 yc);have tP:=θ (show(ll.take (n+1)).map im=(ll.take n).map im++[im ll[n]] by rw[yt iY,gS];rfl);have h9:=hE.size;generalize ll[n]=x at*;go_wp2_with fail;refine Hm.o.mono ?_;rintro e w5 ⟨B5,Uy,rfl,Wf,e5⟩;have h95:=e5.size;have hs5:(im x).src=me/\(im x).dst=x:=⟨Him.o.1 x,Him.o.2 x⟩;have Hs5:=θ hs5;clear hs5;generalize hEP:aG cf.id (im x)=EP at*;have HEP:=θ hEP;clear hEP;go_wp2_with (at_builtin;refine ag _ rfl _ _ 190 rfl w3.heap.size 176 i0 (.agg #[(0:Int),(0:Int),.slice none 0 0]) 3 40 underlying190 hi dx dA dN rfl Γ B n d _ rfl (m3.ext e5) 1 [me,x,.slice B5 EP.length Uy] rfl rfl gA iQ η η ?_;intro E Ed wy fQ fN oY);go_roundw
     case rel =>
      refine⟨n+1,E,n+1,Ed,cR,η,rfl,?_,?_⟩
      .rw[tP.o];obtain hEP:=HEP.o;obtain⟨q1,q2⟩:=Hs5.o;subst hEP;refine UA.app M1.o M2.o m3 M4.o hE.size e5 (Rb.of Wf.rd rfl) (fun g hg=>Wf.ax g hg) ?_ fN oY;unfold jR;rw[q1,q2];exact fQ
      .exact Ext.own (hE.trans e5) fN m3.ax
     case measure=>exact dB
    .obtain rfl:n=ll.length:=by omega
     go_wp2;go_ret;have hM:=hHM.o.mono x4.size;rw[sU,hws]at hM;exact⟨_,rfl,T,(HT.o.mono fun k hk=>r9).ext (x4.trans hE),B,_,d,rfl,⟨_,aq _,hM,hu⟩,HA.o.ext (x4.trans hE)⟩
end
theorem CQ{α:Type}(f f':Nat->List α)(k:Nat)(hf:∀i,(f i).length=k):∀(n i j:Nat) (v:α),i<n->j<k->(∀m,m≠i->f' m=f m)->f' i=(f i).set j v->((dJ n).flatMap f).set (i*k+j) v=(dJ n).flatMap f'
 |0,i,j,v,h,_,_,_=>absurd h η
 |n+1,i,j,v,h,hj,h1,h2=>by
  rw[uP,ny,ny];have hlen:((dJ n).flatMap f).length=n*k:=tu f k hf n;by_cases hi:i<n
  .have h9:(i+1)*k<=n*k:=Nat.mul_le_mul_right _ hi;rw[Nat.add_mul,Nat.one_mul]at h9;rw[List.set_append_left _ _ Bu,CQ f f' k hf n i j v hi hj h1 h2];simp[h1 n η]
  .obtain rfl:i=n:=by omega
   rw[List.set_append_right _ _ Bu,hlen];have h3:(dJ i).flatMap f'=(dJ i).flatMap f:=by
    rw[MU,MU];congr 1
    apply List.map_congr_left;intro m hm;exact h1 m (by have:=nB.1 hm;omega)
   rw[h3];simp[h2]
section
variable {w w':κ}{T T':Tg}{t b:Nat}{cf:Cf}{me qb:Nat}{ps:Nat->Nat}{c c':Cr}{mk:List Nat}
theorem ct.DY(h:ct w T t b cf me qb ps c mk)(hu:Θ w T)(hc:w.cell? (b,11)=some (.slice g m pc))(hi:i<cf.n)(hj:j<5)(v:ξ)(h1:c'.ls=c.ls)(h2:c'.bx=c.bx)(h3:c'.now=c.now)(h4:c'.closed=c.closed)(hne:∀k,k≠i->nZ c' k=nZ c k)(he:nZ c' i=(nZ c i).set j v):Ξ (· = t+1) w T (w.setCell (g,i*5+j) v) T/\ct (w.setCell (g,i*5+j) v) T t b cf me qb ps c' mk/\(w.setCell (g,i*5+j) v).cell? (b,11)=some (.slice g m pc):=by
 obtain⟨⟨PA,pc',MA,mc,EA,ec,b1,b2,b3,b4⟩,b5⟩:=h;have oA:=(coreC b1).oA;rw[hc]at oA;injection oA with oA
 injection oA with hA hm hp
 subst hA;subst hm;subst hp;obtain⟨hT,hR⟩:=b2.put hu (i:=i*5+j) rfl v;rw[CQ (nZ c) (nZ c') 5 (fun _=>rfl) cf.n i j v hi hj hne he]at hR;have hH:=b1.ο hT η;refine⟨hT,⟨⟨_,_,MA,mc,EA,ec,?_,hR,b3.ο hT η,?_⟩,?_⟩,(coreC hH).oA⟩
 .rw[h2,h3,h4];exact hH
 .rw[h2];exact b4.ο hT η
 .rw[h1];exact b5.ο hT fun k _=>η
theorem ct.peer(h:ct w T t b cf me qb ps c mk)(hc:w.cell? (b,11)=some (.slice g m pc))(hi:i<cf.n):w.cell? (g,i*5)=some ((c.has i:Nat):ξ)/\w.cell? (g,i*5+2)=some (((c.words i).1:Nat):ξ)/\w.cell? (g,i*5+1)=some ((c.heard i:Nat):ξ)/\w.cell? (g,i*5+3)=some (.int .u32 ((c.words i).2:Nat))/\(∀o,w.frozen? ⟨g,i*5+o,none⟩=false):=by
 obtain⟨⟨PA,pc',MA,mc,EA,ec,b1,b2,b3,b4⟩,b5⟩:=h;have oA:=(coreC b1).oA;rw[hc]at oA;injection oA with oA
 injection oA with hA hm hp
 obtain⟨g9,e9,q0,q1,q2,q3,q4,fz⟩:=uq b2 hi;rw[←hA]at e9;cases e9
 exact⟨q0,q2,q1,q3,fz⟩
theorem ct.oA{S:Nat->Prop}(h:ct w T t b cf me qb ps c mk)(hT:Ξ S w T w' T')(hs:¬S t){v:ξ}(hc:w.cell? (b,11)=some v):w'.cell? (b,11)=some v:=by obtain⟨⟨PA,pc',MA,mc,EA,ec,b1,b2,b3,b4⟩,b5⟩:=h;have oA:=(coreC b1).oA;rw[hc]at oA;rw[oA];exact(coreC (b1.ο hT hs)).oA
theorem Qb(l:aD)(first:Nat)(bs:aD)(hl:l.length<=1000):(j8 l first bs).length<=1000:=by
 unfold j8;split
 .rw[eU,tN];omega
 .exact hl
theorem bz.recv(h:bz cf me c mk){p:Pk}(hp:mw p)(j5:c.closed=false)(hq:p.iA=false):bz cf me (c.recv me p) mk:=by
 obtain⟨_,_,_,h4⟩:=hp;rw[if_neg (by rw[hq];decide)]at h4
 have hr:c.recv me p={c with ls:=c.ls.set p.src (j8 (c.ls.getD p.src []) p.first p.ν),heard:=aW c.heard p.src c.now,has:=if c.has p.src<p.dP/\p.dP<=((c.ls.set p.src (j8 (c.ls.getD p.src []) p.first p.ν)).getD me []).length then aW c.has p.src p.dP else c.has,words:=if 0<p.frame/\(c.words p.src).1<=p.frame then aW c.words p.src (p.frame,p.sum) else c.words}:=by unfold Cr.recv;rw[if_neg (by rw[j5];decide),if_neg (by rw[hq];decide)]
 rw[hr];refine⟨h.ok,h.me,by show(List.set _ _ _).length=_;rw[List.length_set];exact h.len,?_,h.now,h.bx,?_,?_,?_,h.marks,h.yI⟩
 .intro l hl
  rcases List.mem_or_eq_of_mem_set hl with hl|rfl
  .exact h.short _ hl
  .refine Qb _ _ _ ?_
   rw[cO];rcases hx:c.ls[p.src]? with _|x
   .exact aM _
   .exact h.short _ (sO hx)
 .intro i
  show(if _ then aW c.has p.src p.dP else c.has) i<=1000
  split
  .unfold aW;split
   .exact h4.2.1
   .exact h.has i
  .exact h.has i
 .intro i
  show aW c.heard p.src c.now i<=c.now
  unfold aW;split
  .exact aq _
  .exact h.heard i
 .intro i
  show((if _ then aW c.words p.src (p.frame,p.sum) else c.words) i).1<=1000/\((if _ then aW c.words p.src (p.frame,p.sum) else c.words) i).2<4294967296
  split
  .unfold aW;split
   .exact⟨h4.2.2.1,h4.2.2.2.2⟩
   .exact h.words i
  .exact h.words i
theorem Zp{l bs:aD}{first:Nat}(hf:first<=l.length)(h1:first+bs.length<=1000):j8 l first bs=l++bs.drop (l.length-first):=by unfold j8;rw[if_pos hf,jL];rw[List.length_drop];omega
theorem U0(h:ct w T t b cf me qb ps c mk)(hk:bz cf me c mk)(hu:Θ w T)(ht:0<t)(p:Pk){A:aS}(hp:mw p)(kN:p.dst=me)(iF:p.src<cf.n)(hb:Rb w A n d (aG cf.id p))(hf:p.iA=false->p.first<=(c.ls.getD p.src []).length/\p.first+p.ν.length<=1000)(hQ:c.closed=false->p.iA=false->Quiet cf (c.recv me p) mk):τ prog 289 #[π b,.slice A n d] w (Does (In t 22) w T (.int .i64 (if c.closed then 6 else 0)) fun w' T'=>ct w' T' t b cf me qb ps (c.recv me p) mk):=by
 have H1:=θ (rT h);by_cases j5:c.closed=true
 .rw[j5]at H1
  have hr:c.recv me p=c:=by unfold Cr.recv;rw[if_pos j5]
  rw[hr,if_pos j5];have Hh:=θ h;unfold π at*;clear h hk hb hp hf hQ hr;go_enter func289,ntmps289;go_wp2_with fail;refine H1.o.mono ?_;rintro e w1 ⟨rfl,rfl⟩;go_wp2;go_ret;exact⟨rfl,T,Ξ.refl _ hu,Hh.o⟩
 have Pt:c.closed=false:=Lj;rw[Pt]at H1;rw[if_neg j5];have jW:=hk.ok.n8;have hid:vb (cf.id:Nat):=af5;have Qc:=abO w (cf.id:Nat) p A n d hp hid hb;unfold lB π at*;rw[kN]at Qc;have Zq:=θ Qc;clear Qc kN;have Hh:=θ h;have HK:=θ hk;have HP:=θ hp;have Hf:=θ hf;have HQ:=θ (hQ Pt);clear h hk hp hf hQ hb;go_enter func289,ntmps289;go_wp2_with fail;refine H1.o.mono ?_;rintro e w1 ⟨rfl,rfl⟩;go_wp2_with fail;refine Zq.o.mono ?_;rintro e w2 ⟨A',d',rfl,tO,Md,e2⟩;have bP:=(Has.new w2 (fun _=>0) [(fM p:Int),p.src,me,cf.id,p.first,.slice A' p.ν.length d',p.dP,p.frame,.int .u32 (p.sum:Nat)] 34 rfl).2;go_wp2_with fail;generalize hW:κ.alloc w2 _=W1 at*;have x1:Ext w1 W1:=by subst hW;exact e2.trans (Ext.alloc _ _)
 have x2:Ext w2 W1:=by subst hW;exact Ext.alloc _ _
 clear hW;generalize hg:w2.heap.size=g at*;have um:w1.heap.size<=g:=by rw[←hg];exact e2.size
 have bP:Has W1 T 0 g _:=⟨hu g um,bP⟩;have MI:Sb W1 T A' p.ν.length d' p.ν:=⟨tO.ext x2,fun _ k hk=>by obtain⟨a,ha,rfl⟩:=vu.1 hk;exact hu _ (Md a ha)⟩;have cw:Ξ (In t 22) w1 T W1 T:=Ξ.ai _ hu x1;have hC1:=Hh.o.ext x1;clear Hh tO Md x2 hg um H1 Zq hu;obtain⟨PA,MA,EA,pc,mc,ec,hC,_,_,Km,J1,FB⟩:=hC1.cells;have c0:=hC.c0;have c1:=hC.c1;have c2:=hC.c2;have oA:=hC.oA;have ya:=hC.ya;obtain⟨gp,rfl,_⟩:=FB p.src iF;clear hC FB;unfold maxLen at J1;have k1:=bP.zc 1;have k2:=bP.zc 2;have k3:=bP.zc 3;have Di:=dh ((cf.n:Int)<=(p.src:Int));have jF:=dh (cf.n<=p.src);have HB:=θ bP;have HS:=θ MI;have HC:=θ hC1;have HT:=θ cw;clear bP MI hC1 cw;apply iL trivial;repeat first|apply WV k1 k2 k3 c0 c1 c2|apply lU trivial
 refine jq fun Wx ak=>?_;go_wp2_with fail;have k1:=ak.cell k1;have oA:=ak.cell oA;have xa:=ak;clear ak k2 k3 c0 c1 c2 Di jF bP;apply iL trivial;repeat apply kZ oA k1
 refine jq fun Wx ak=>?_;have xw:=xa.trans ak;have oA:=ak.cell oA;have ya:=xw.cell ya;clear ak xa k1;rename_i Wa;have uT:=HC.o.ext xw;have Kh:=θ (HB.o.ext xw);have MQ:=θ (HS.o.ext xw);have jr:=θ (HT.o.ext xw);have JH:=jr.o.Δ;obtain⟨_,_,q1,_,fz⟩:=uT.peer oA iF;have f1:=fz 1;obtain⟨cT,FC,d11⟩:=uT.DY JH oA (c':={c with heard:=aW c.heard p.src c.now}) (i:=p.src) (j:=1) iF Γ (.int .i64 (c.now:Nat)) rfl rfl rfl rfl
  (fun k hk=>afh) afj
 have jH:=θ (jr.o.trans (cT.mono fun k hk=>(by subst hk;unfold In;omega:In t 22 k)));have sC:=Kh.o.ο cT η;have HS3:=θ (MQ.o.ο cT η);have Qd:=θ FC;clear fz HC HB HS HT uT jr Kh MQ Wa cT FC;go_upto_region 8 with fail
 generalize Ux:dG Wx _ _=W3 at*;clear Ux xw oA ya JH q1 f1 k1;have Of:=jH.o.Δ;by_cases hq:p.iA=true
 .have Dp:fM p=2:=by unfold fM;rw[if_pos hq]
  rw[Dp]at sC;have k0:=sC.zc 0;have k1:=sC.zc 1;have hk3:bz cf me {c with heard:=aW c.heard p.src c.now} mk:=⟨HK.o.ok,HK.o.me,HK.o.len,HK.o.short,HK.o.now,HK.o.bx,HK.o.has,fun i=>by
   show aW c.heard p.src c.now i<=c.now
   unfold aW;split
   .exact aq _
   .exact HK.o.heard i,HK.o.words,HK.o.marks,HK.o.yI⟩
  have Hno:=θ (Iz Qd.o hk3 Of 1 p.src ⟨.inl rfl,η⟩);have hr:c.recv me p={c with heard:=aW c.heard p.src c.now,bx:=c.bx++[(1,p.src)],closed:=true}:=by unfold Cr.recv;rw[if_neg j5,if_pos hq]
  unfold π at*;have Hr:=θ hr;clear hk3 sC hr HS3;go_wp2_with fail;refine Hno.o.mono ?_;rintro e w7 ⟨rfl,T7,yA,hA7⟩;obtain⟨PA7,MA7,EA7,pc7,mc7,ec7,Gp,_,f7,_,_,_⟩:=hA7.cells;have c7:=Gp.K1;obtain⟨MV,hA8⟩:=hA7.tJ yA.Δ;have HA8:=θ hA8;clear Gp hA7 hA8;go_wp2;go_ret;rw[Hr.o];exact⟨rfl,T7,(jH.o.trans yA).trans (MV.mono fun k hk=>(by subst hk;unfold In;omega:In t 22 k)),HA8.o⟩
 have hqf:p.iA=false:=Tc;have Dp:fM p=1:=by unfold fM;rw[if_neg hq]
 rw[Dp]at sC;have V9:=θ sC;have k0:=sC.zc 0;have k1:=sC.zc 1;have k4:=sC.zc 4;have k5:=sC.zc 5;clear sC;have qV:p.src<c.ls.length:=by rw[HK.o.len];exact iF
 have hld:c.ls.getD p.src []=c.ls[p.src]:=by simp[cO,qV]
 obtain⟨GA,Ge⟩:=Hf.o hqf;rw[hld]at GA;have Ol:=θ (Zp GA Ge);obtain⟨PA3,MA3,EA3,pc3,mc3,ec3,FC,_,_,_,_,_⟩:=Qd.o.cells;have lK:=FC.lK;have HL:=θ fun W (e:Ext W3 W)=>lZ (Qd.o.BW.ext e) (by show c.ls.length<=8;rw[HK.o.len];exact jW) (p:=p.src) qV;have ME:=θ fun W (e:Ext W3 W)=>XI ((Qd.o.BW.line p.src qV).ext e) (Of.ext e) η (HS3.o.ext e) GA Ge (HK.o.short _ (dH qV));unfold π at*;clear FC Hf GA Ge HS3;go_wp2_with fail;apply lG 11;simp only[tk];repeat apply kZ lK k1
 apply jD (fun W hR=>HL.o W hR);repeat apply kZ k4 k5
 refine jq fun Wx ak=>?_;clear k0 k1 k4 k5 lK;simp only[dk];go_wp2_with fail;refine(ME.o Wx ak).mono ?_;rintro e w4 ⟨⟨k9,rfl⟩,T4,mE,K6⟩;rw[←Ol.o]at K6;have Wi:=(Qd.o.ext ak).line (p:=p.src) qV mE K6;have d11:=(Qd.o.ext ak).oA mE cN (ak.cell d11);have Ur:=θ ((V9.o.ext ak).ο mE cN);have Bo:=θ ((jH.o.ext ak).trans (mE.mono fun k hk=>(hk.sub η η:In t 22 k)));have hrecv:c.recv me p={c with ls:=c.ls.set p.src (j8 c.ls[p.src] p.first p.ν),heard:=aW c.heard p.src c.now,has:=if c.has p.src<p.dP/\p.dP<=((c.ls.set p.src (j8 c.ls[p.src] p.first p.ν)).getD me []).length then aW c.has p.src p.dP else c.has,words:=if 0<p.frame/\(c.words p.src).1<=p.frame then aW c.words p.src (p.frame,p.sum) else c.words}:=by unfold Cr.recv;rw[if_neg j5,if_neg hq,hld]
 have Od:bz cf me {c with ls:=c.ls.set p.src (j8 c.ls[p.src] p.first p.ν),heard:=aW c.heard p.src c.now} mk:=by obtain⟨o1,o2,o3,o4⟩:=HP.o;rw[if_neg hq]at o4;have h9:=HK.o.recv (p:={p with dP:=0,frame:=0}) ⟨o1,o2,o3,by rw[if_neg hq];exact⟨o4.1,aM _,aM _,o4.2.2.2⟩⟩ Pt hqf;unfold Cr.recv at h9;rw[if_neg j5,if_neg hq]at h9;simp only[Nat.not_lt_zero,false_and,if_false,hld]at h9;exact h9
 have U1:=HK.o.recv HP.o Pt hqf;have agQ:=HQ.o hqf;rw[hrecv]at U1 agQ;have Hkf:=θ U1;have Hqf:=θ agQ;have uU:=θ hrecv;have Hu4:=θ Bo.o.Δ;have als:=HK.o.words p.src;have iU:p.frame<=1000/\p.sum<4294967296/\p.dP<=1000:=by obtain⟨o1,o2,o3,o4⟩:=HP.o;rw[if_neg hq]at o4;exact⟨o4.2.2.1,o4.2.2.2.2,o4.2.1⟩
 clear U1 agQ hrecv HQ HP ME HL Qd V9 jH K6 mE hld Ol;generalize c.ls.set p.src (j8 c.ls[p.src] p.first p.ν)=Lr at*;have FD:=θ fun W (e:Ext w4 W)=>qy (Wi.ext e) Od;have sS:({c with ls:=Lr,heard:=aW c.heard p.src c.now}:Cr).head me=(Lr.getD me []).length:=rfl;rw[sS]at FD;have HC4:=θ Wi;have k6:=Ur.o.zc 6;obtain⟨q0,_,_,_,_⟩:=Wi.peer d11 iF;have hhl:(Lr.getD me []).length<=1000:=by
  rw[cO];rcases hx:Lr[me]? with _|x
  .exact aM _
  .exact Od.short _ (sO hx)
 have q0:w4.cell? (gp,p.src*5)=some ((c.has p.src:Nat):ξ):=q0;have afI:c.has p.src<=1000:=HK.o.has _;unfold π at*;generalize hhv:c.has p.src=hv at*;generalize (Lr.getD me []).length=hl at*;have Hhv:=θ hhv;clear Wi Od sS hhv;rcases(show(hv<p.dP/\p.dP<=hl)\/(hv<p.dP/\hl<p.dP)\/p.dP<=hv by omega) with ⟨h1,h2⟩|⟨h1,h2⟩|h1
 case' inl =>
  have e1:=dQ (hv<p.dP) h1;have E7:=dQ ((hv:Int)<(p.dP:Int));have e2:=dQ (p.dP<=hl) h2;have Yg:=dQ ((p.dP:Int)<=(hl:Int));rw[if_pos ⟨h1,h2⟩]at Hkf Hqf uU;go_wp2_with fail;apply iL trivial;repeat apply kZ k6 q0
  apply jD (fun W hR=>FD.o W hR);repeat apply iO (fun _ _ _=>trivial)
  refine jq fun Wx ak=>?_;have KE:=HC4.o.ext ak;have agR:=ak.cell d11;have q0x:=ak.cell q0;have k6x:=ak.cell k6;have f0:Wx.frozen? (gp,p.src*5)=false:=(KE.peer agR iF).2.2.2.2 0;obtain⟨kT,KE,d11⟩:=KE.DY (Hu4.o.ext ak) agR (c':={c with ls:=Lr,heard:=aW c.heard p.src c.now,has:=aW c.has p.src p.dP}) (i:=p.src) (j:=0) iF Γ (.int .i64 (p.dP:Nat)) rfl rfl rfl rfl
   (fun k hk=>afh) afj
  have Om:=θ ((Ur.o.ext ak).ο kT η);have qZ:=θ ((Bo.o.ext ak).trans (kT.mono fun k hk=>(by subst hk;unfold In;omega:In t 22 k)));simp only[Nat.add_zero]at KE d11 Om qZ;have Qe:=θ KE;clear kT KE Ur HC4 Bo k6 q0 Hu4;go_upto_region 15 with fail
  generalize Zr:dG Wx _ _=W5 at*;clear Zr ak agR q0x k6x f0;generalize aW c.has p.src p.dP=Qf at*
 case' inr.inl =>
  have e1:=dQ (hv<p.dP) h1;have E7:=dQ ((hv:Int)<(p.dP:Int));have e2:=dh (p.dP<=hl);have Yg:=dh ((p.dP:Int)<=(hl:Int));rw[if_neg η]at Hkf Hqf uU;go_wp2_with fail;apply iL trivial;repeat apply kZ k6 q0
  apply jD (fun W hR=>FD.o W hR);repeat apply iO (fun _ _ _=>trivial)
  refine jq fun Wx ak=>?_;have Qe:=θ (HC4.o.ext ak);have d11:=ak.cell d11;have Om:=θ (Ur.o.ext ak);have qZ:=θ (Bo.o.ext ak);clear Ur HC4 Bo k6 q0 Hu4;go_upto_region 15 with fail
  obtain⟨W5,Zr⟩:∃W5,W5=Wx:=⟨_,rfl⟩;subst Zr;clear ak;generalize c.has=Qf at*
 case' inr.inr =>
  have e1:=dh (hv<p.dP);have E7:=dh ((hv:Int)<(p.dP:Int));rw[if_neg η]at Hkf Hqf uU;go_wp2_with fail;apply iL trivial;repeat first|apply kZ k6 q0|apply lU trivial
  refine jq fun Wx ak=>?_;have Qe:=θ (HC4.o.ext ak);have d11:=ak.cell d11;have Om:=θ (Ur.o.ext ak);have qZ:=θ (Bo.o.ext ak);clear Ur HC4 Bo k6 q0 Hu4;go_upto_region 15 with fail
  obtain⟨W5,Zr⟩:∃W5,W5=Wx:=⟨_,rfl⟩;subst Zr;clear ak;generalize c.has=Qf at*
 all_goals
  have KE:=Qe.o;have hu5:=qZ.o.Δ;obtain⟨_,q2,_,q3,fz5⟩:=KE.peer d11 iF;have q2:W5.cell? (gp,p.src*5+2)=some (((c.words p.src).1:Nat):ξ):=q2;have q3:W5.cell? (gp,p.src*5+3)=some (.int .u32 ((c.words p.src).2:Nat)):=q3;have k7:=Om.o.zc 7;have k8:=Om.o.zc 8;obtain⟨alu,_⟩:=als;have ank:=θ (show(c.words p.src).1=(c.words p.src).1 from rfl);generalize Zt:(c.words p.src).1=wf at q2 alu Hkf Hqf uU;have Hwf:=θ Zt;clear KE Zt Om fz5 e1 E7;rcases(show(0<p.frame/\wf<=p.frame)\/(0<p.frame/\p.frame<wf)\/p.frame=0 by omega) with ⟨g1,g2⟩|⟨g1,g2⟩|g1
  .have e1:=dQ (0<p.frame) g1
   have E7:=dQ ((0:Int)<(p.frame:Int));have e2:=dQ (wf<=p.frame) g2;have Yg:=dQ ((wf:Int)<=(p.frame:Int));rw[if_pos ⟨g1,g2⟩]at Hkf Hqf uU;apply iL trivial;repeat apply kZ k7 q2
   refine jq fun Wx ak=>?_;have K7:=Qe.o.ext ak;have k7:=ak.cell k7;have k8:=ak.cell k8;have q2:=ak.cell q2;have q3:=ak.cell q3;have d11:=ak.cell d11;have fz6:=(K7.peer d11 iF).2.2.2.2;have f2:=fz6 2;obtain⟨ri,K7,d12⟩:=K7.DY (hu5.ext ak) d11 (c':={c with ls:=Lr,heard:=aW c.heard p.src c.now,has:=Qf,words:=aW c.words p.src (p.frame,(c.words p.src).2)}) (i:=p.src) (j:=2) iF Γ (.int .i64 (p.frame:Nat)) rfl rfl rfl rfl
    (fun k hk=>afh) afj
   have f3:=(K7.peer d12 iF).2.2.2.2 3;obtain⟨yA,Gp,_⟩:=K7.DY ri.Δ d12 (c':={c with ls:=Lr,heard:=aW c.heard p.src c.now,has:=Qf,words:=aW c.words p.src (p.frame,p.sum)}) (i:=p.src) (j:=3) iF Γ (.int .u32 (p.sum:Nat)) rfl rfl rfl rfl
    (fun k hk=>afh) afj
   have FE:=θ (((qZ.o.ext ak).trans (ri.mono fun k hk=>(by subst hk;unfold In;omega:In t 22 k))).trans (yA.mono fun k hk=>(by subst hk;unfold In;omega:In t 22 k)));have HC7:=θ Gp;clear ri yA K7 Gp fz6 Qe;go_upto_region 16 with fail
   go_region
   generalize hW7:κ.drew _=W7 at*;have x7:=Ext.drew ((Wx.setCell (gp,p.src*5+2) (p.frame:ξ)).setCell (gp,p.src*5+3) (.int .u32 (p.sum:Nat)));rw[hW7]at x7;have HC8:=θ (HC7.o.ext x7);have Qg:=θ (FE.o.ext x7);clear x7 hW7 HC7 FE f2 f3 q2 q3 k7 k8 d11 d12;have Hho:=θ (xh HC8.o Hkf.o Hqf.o);unfold π at*;go_wp2_with fail;refine Hho.o.mono ?_;rintro e w8 ⟨rfl,e8⟩;go_wp2;go_ret;rw[uU.o];exact⟨rfl,T4,Qg.o.ext e8,HC8.o.ext e8⟩
  .have e1:=dQ (0<p.frame) g1
   have E7:=dQ ((0:Int)<(p.frame:Int));have e2:=dh (wf<=p.frame);have Yg:=dh ((wf:Int)<=(p.frame:Int));rw[if_neg η]at Hkf Hqf uU;apply iL trivial;repeat apply kZ k7 q2
   refine jq fun Wx ak=>?_;have HC8:=θ (Qe.o.ext ak);have Qg:=θ (qZ.o.ext ak);clear q2 q3 k7 k8;have Hho:=θ (xh HC8.o Hkf.o Hqf.o);unfold π at*;go_wp2_with fail;refine Hho.o.mono ?_;rintro e w8 ⟨rfl,e8⟩;go_wp2;go_ret;rw[uU.o];exact⟨rfl,T4,Qg.o.ext e8,HC8.o.ext e8⟩
  .have e1:=dh (0<p.frame)
   have E7:=dh ((0:Int)<(p.frame:Int));rw[if_neg η]at Hkf Hqf uU;clear g1;apply iL trivial;repeat first|apply nh k7|apply lU trivial
   refine jq fun Wx ak=>?_;have HC8:=θ (Qe.o.ext ak);have Qg:=θ (qZ.o.ext ak);clear q2 q3 k7 k8;have Hho:=θ (xh HC8.o Hkf.o Hqf.o);unfold π at*;go_wp2_with fail;refine Hho.o.mono ?_;rintro e w8 ⟨rfl,e8⟩;go_wp2;go_ret;rw[uU.o];exact⟨rfl,T4,Qg.o.ext e8,HC8.o.ext e8⟩
end
theorem Zu{α:Type}(l:List α)(x:α)(h:j<(l++[x]).length)(e:j=l.length):(l++[x])[j]=x:=by subst e;simp
def Sy(w:κ)(kind o:Nat)(aa:aD)(r tt:Nat)(A:aS)(e:Ending)(w':κ):Prop :=
 ∃B m d l,e=.returned (.slice B m d)/\Rb w' B m d l/\tt<=l.length/\l.length<=1001/\(r=0->l=ji kind o aa (tt-aa.length))/\(B=A\/∀g,bn B=some g->w.heap.size<=g)/\aa <+: l/\Ext w w'
theorem zo(w:κ)(h:vl kind o)(A:aS)(n c:Nat)(aa:aD)(hb:Rb w A n c aa)(tt:Nat)(ht:tt<=1000)(hl:aa.length<=1000):τ prog 284 #[.slice A n c,tR kind o,(0:Int),tt] w (Sy w kind o aa 0 tt A):=by refine(UC w h A n c aa hb tt ht hl).mono ?_;rintro e w' ⟨B,m,d,rfl,h1,h2,h3⟩;exact⟨B,m,d,_,rfl,h1,WC,WC,fun _=>rfl,h2,yN _ _ _ _,h3⟩
def lR(full:bH)(front tt:Nat):List (List UInt8):=(dJ (tt-front)).map fun j=>bp full (front+j)
def okF(kind o:Nat)(ls:bH)(r tt:Nat)(full:bH):Prop:=∀j (h:j<full.length) (h':j<ls.length),tt<=full[j].length/\ls[j] <+: full[j]/\(r=0->full[j]=ji kind o ls[j] (tt-ls[j].length))
def zq(kind o:Nat)(ls:bH)(r tt:Nat)(full:bH):Prop:=full.length=ls.length/\okF kind o ls r tt full
theorem zq.zero{ls:bH}{tt:Nat}{full:bH}(h:zq kind o ls 0 tt full):lR full (cn ls) tt=gD kind o ls tt:=by
 have:full=oq kind o ls tt:=by
  apply List.ext_getElem
  .simp[oq,h.1]
  .intro j h1 h2;have:=(h.2 j h1 (by rw[←h.1];exact h1)).2.2 rfl;rw[this];simp[oq]
 rw[this];rfl
def uV(w:κ)(b kind o:Nat):Prop:=w.cell? b=some (kind:ξ)/\w.cell? (b,1)=some (o:ξ)/\w.cell? (b,2)=some (.slice none 0 0)
theorem uV.ext(h:uV w b kind o)(e:Ext w w'):uV w' b kind o:=⟨e.cell h.1,e.cell h.2.1,e.cell h.2.2⟩
theorem uV.grown(h:uV w b kind o){row:Option Nat}(hg:w.grownBy w' row)(hne:row≠some b):uV w' b kind o:=⟨hg.cell h.1 hne.symm,hg.cell h.2.1 hne.symm,hg.cell h.2.2 hne.symm⟩
def ah1(w V:κ)(b kind o r tt:Nat)(ls:bH)(rv lv iv:ξ)(wr:κ):Prop :=
 ∃(k rr:Nat) (B:aS) (d:Nat) (full:bH),iv=.int .i64 (k:Nat)/\k<=ls.length/\rv=.int .i64 (rr:Nat)/\(rr=r\/rr=0)/\lv=.slice B k d/\tQ wr V.heap.size B k d full/\okF kind o ls r tt full/\uV wr b kind o/\Ext w wr/\V.heap.size<=wr.heap.size
section
variable {w:κ}{T:Tg}{t b:Nat}{ps:Nat->Nat}{ls:bH}
section
variable(h:iM w T t b ps ls)(h8:ls.length<=8)(h0:0<ls.length)(hl:∀l∈ls,l.length<=1000)(og:vl kind o)(r tt:Nat)(hr:r<=100)(ht:tt<=1000)(HL:∀W (rr:Nat),rr=r\/rr=0->∀A n c aa,Rb W A n c aa->aa.length<=1000->τ prog 284 #[.slice A n c,tR kind o,rr,tt] W (Sy W kind o aa rr tt A))
include h h8 h0 hl og hr ht HL
theorem I0:τ prog 267 #[π b,tR kind o,r,tt] w fun e w'=>∃B m d full,e=.returned (.slice B m d)/\zq kind o ls r tt full/\(∃base,w.heap.size<=base/\tQ w' base B m d (lR full (cn ls) tt))/\Ext w w':=by
 obtain⟨i0,hi,dx,dA,dN⟩:=info_parts zf;obtain⟨j0,hj,Zv,Ty,OG⟩:=info_parts dX;have ku:=θ fun W=>AJ W og;have KF:=θ fun W (e:Ext w W)=>ie (h.ext e) h8 h0 hl;have Hn:=θ fun W (e:Ext w W)=>JY (h.ext e);have Zw:=θ fun W (e:Ext w W) p (hp:p<ls.length)=>lZ (h.ext e) h8 hp;have oc:=θ fun W (e:Ext w W) p (hp:p<ls.length)=>XH ((h.line p hp).ext e) (hl _ (dH hp));have HLL:=θ HL;have Hl:=θ hl;have jF:=dh ((1000:Int)<(tt:Int));unfold π tR at*;clear h HL hl og;go_enter func267,ntmps267;go_wp2_with fail;generalize hV:w.alloc _=V at*;have eV:Ext w V:=by subst hV;exact Ext.alloc _ _
 have IC:uV V w.heap.size kind o:=by subst hV;refine⟨?_,?_,?_⟩<;>go_simp
 have hVs:w.heap.size<V.heap.size:=by subst hV;simp
 clear hV;obtain⟨b0,b1,b2⟩:=id IC;refine(ku.o V).mono ?_;rintro e w1 ⟨rfl,e1⟩;replace IC:=IC.ext e1;replace hVs:=eM hVs e1.size;replace eV:=eV.trans e1;clear e1 b0 b1 b2;go_wp2_with fail;refine(KF.o w1 eV).mono ?_;rintro e w2 ⟨rfl,rfl⟩;go_wp2_with fail;refine(Hn.o _ eV).mono ?_;rintro e w2 ⟨rfl,rfl⟩;go_wp2_with fail;go_loopw [2,10,38] (fun rv lv iv wr=>ah1 w w2 w.heap.size kind o r tt ls rv lv iv wr) (fun _ _ iv _=>ls.length-(intOf iv).toNat)
 case atStart=>exact⟨0,r,none,0,[],rfl,aM _,rfl,.inl rfl,rfl,tQ.dR (aq _),fun j hj=>absurd hj bT,IC,eV,aq _⟩
 case round =>
  obtain⟨k,rr,B,d,full,rfl,hk,rfl,hrr,rfl,hR,hF,vt,hE,hS⟩:=hrel;by_cases jm:k<ls.length
  .have hdk:=dQ (k<ls.length) jm
   have DJ:full.length=k:=hR.len.symm;have HF:=θ hF;have Hrr:=θ hrr;obtain⟨Kv,hs,ho,yy,BX⟩:=id hR;have Hsl:=θ yy;have Oi:=θ BX;have Yo:=θ DJ;obtain⟨b0,b1,b2⟩:=id vt;have JQ:=Hl.o _ (dH jm);have anl:rr<=100:=by rcases hrr with h|h<;>omega
   clear hF hrr yy BX hR DJ;go_wp2_with fail;refine(Zw.o wr hE k jm).mono ?_;rintro e w3 ⟨rfl,rfl⟩;go_wp2_with fail;refine(oc.o _ hE k jm).mono ?_;rintro e w4 ⟨B1,m1,d1,rfl,FA,e4⟩;have Ir:m1=ls[k].length:=by have:=FA.len;rw[ay]at this;omega
   subst Ir;have AO:=θ FA;clear FA;have rP:∃kk rr',(kk=rr\/kk=0)/\(rr'=rr\/rr'=0)/\(((ls[k].length==cn ls)=true/\((ls[k].length:Int)==(cn ls:Int))=true/\kk=rr/\rr'=0)\/((ls[k].length==cn ls)=false/\((ls[k].length:Int)==(cn ls:Int))=false/\kk=0/\rr'=rr)):=by
    by_cases hq:ls[k].length=cn ls
    .exact⟨rr,0,.inl rfl,.inr rfl,.inl ⟨by rw[beq_iff_eq];exact hq,by rw[beq_iff_eq];omega,rfl,rfl⟩⟩
    .exact⟨0,rr,.inr rfl,.inl rfl,.inr ⟨by rw[beq_eq_false_iff_ne];exact hq,kO,rfl,rfl⟩⟩
   obtain⟨kk,rr',I1,ajk,rP⟩:=rP;have hx4:Ext w w4:=hE.trans e4;have CI:=HLL.o w4 kk (by have:=Hrr.o;rcases I1 with h|h<;>rcases this with h'|h'<;>omega) B1 _ d1 _ (show Rb w4 B1 ls[k].length d1 ls[k] from AO.o.rd) JQ
   have HGL:=θ CI;have De:=e4.cell b0;have ng:=e4.cell b1;have sj:=e4.cell b2;have Hkk:=θ I1;have anm:=θ ajk;clear CI b0 b1 b2 I1 ajk;generalize hlx:ls[k].length=lx at*;rcases rP with ⟨uR,sW,rfl,rfl⟩|⟨uR,sW,rfl,rfl⟩
   all_goals
    go_wp2_with fail;refine HGL.o.mono ?_;rintro e w5 ⟨B2,m2,d2,l2,rfl,uH,alv,ann,alw,oQ,N7,e5⟩;have Zx:=ho.ext (e4.trans e5);have hkx:k+1<=1000000:=η;go_wp2_with (at_builtin;refine ag _ rfl _ _ 85 rfl w2.heap.size 30 i0 (.slice none 0 0) 1 24 underlying85 hi dx dA dN rfl Γ B k d _ rfl Zx 1 _ rfl rfl gA iQ η (by have:=e4.size;have:=e5.size;omega) ?_;intro E Ed wy fQ fN oY);go_roundw
    case rel =>
     have pF:bn B≠some w.heap.size:=fun h=>by have:=ho.ax _ h;omega
     refine⟨k+1,_,E,Ed,full++[l2],cR,η,rfl,by first|exact .inr rfl|exact Hrr.o,rfl,tQ.app Kv ho Hsl.o Oi.o (e4.trans e5) uH ?_ fQ fN oY,?_,?_,?_,?_⟩
     .intro _ g hg
      rcases oQ with h|h
      .rw[h]at hg;exact AO.o.ax g hg
      .have:=h g hg;have:=e4.size;omega
     .intro j hj hj'
      by_cases e:j<full.length
      .rw[List.getElem_append_left e];exact HF.o j e hj'
      .have h9:j<full.length+1:=by rw[←List.length_singleton (a:=l2),←eU];exact hj
       have hje:j=full.length:=η;have JV:j=k:=hje.trans Yo.o;rw[Zu full l2 hj hje];subst JV;exact⟨alv,N7,fun h0=>alw (by first|trivial|exact Hrr.o.elim (fun h=>h.trans h0) id)⟩
     .exact((vt.ext e4).ext e5).grown fN pF
     .exact Ext.own (hx4.trans e5) fN (fun g hg=>by have:=ho.ax g hg;omega)
     .have:=fN.size;have:=e4.size;have:=e5.size;omega
    case measure=>exact dB
  .obtain rfl:k=ls.length:=by omega
   have ads:zq kind o ls r tt full:=⟨hR.len.symm,hF⟩;have Zy:=θ ads;have Sz:=hR.rp;have HRp:=θ Sz;have HE:=θ hE;obtain⟨fr,iU⟩:∃fr,cn ls=fr:=⟨_,rfl⟩;have sI:=θ iU;have ano:fr<=1000:=by rw[←iU];exact aF (jt ls _ (dH h0)) (Hl.o _ (dH h0))
   rw[iU];clear hF ads Sz hR hE iU vt;go_wp2_with fail;go_loopw [14,15] (fun ov fv wq=>∃(f q:Nat) (C:aS) (cd:Nat),fv=.int .i64 (f:Nat)/\f=fr+q/\q<=tt-fr/\ov=.slice C q cd/\tQ wq wr.heap.size C q cd ((dJ q).map fun j=>bp full (fr+j))/\Ext wr wq) (fun _ fv _=>tt-(intOf fv).toNat)
   case atStart=>exact⟨fr,0,none,0,rfl,rfl,aM _,rfl,tQ.dR (aq _),Ext.refl _⟩
   case round =>
    obtain⟨f,q,C,cd,rfl,Tf,hq,rfl,hO,MS⟩:=hrel;by_cases hft:f<tt
    .have alx:=dQ ((f:Int)<(tt:Int))
     have HEq:=θ MS;have HRq:=θ (HRp.o.ext MS);have aly:full.length=ls.length:=Zy.o.1;have Hfq:=θ Tf;obtain⟨Kv,hs,ho,yy,BX⟩:=id hO;have Ho:=θ ho;have Hsl:=θ yy;have Oi:=θ BX;clear MS hO ho yy BX Tf;go_wp2_with fail;go_loopw [16,67] (fun jv iv wx=>∃(k:Nat) (D:aS) (dd:Nat),iv=.int .i64 (k:Nat)/\k<=ls.length/\jv=.slice D k dd/\Own wx wr.heap.size 5 1 D k dd (dK ((bp full f).take k))/\Ext wr wx) (fun _ iv _=>ls.length-(intOf iv).toNat)
     case atStart=>exact⟨0,none,0,rfl,aM _,rfl,Own.dR _ _ _ _,Ext.refl _⟩
     case round =>
      obtain⟨k,D,dd,rfl,hk,rfl,hD,hx⟩:=hrel;by_cases jm:k<ls.length
      .have U1:k<full.length:=by omega
       obtain⟨pb,po,Ai,ni,ci,rfl,vi,Ka⟩:=(HRq.o.ext hx).at_ U1;have hfk:f<full[k].length:=eM hft (Zy.o.2 k U1 jm).1;have JF:=Ka.len;subst JF;have agS:=Ka.max;unfold maxLen at agS;obtain⟨gi,oi,rfl,hci⟩:=Ka.at_ hfk;have uh:(bp full f).take k++[full[k][f]]=(bp full f).take (k+1):=by unfold bp;rw[oz,iZ,bf U1];simp[cO,hfk]
       have E4:=θ uh;have BK:=hx.size;clear uh Ka;obtain⟨y,hy⟩:∃y,full[k][f]=y:=⟨_,rfl⟩;rw[hy]at hci E4;clear hy;generalize full[k].length=lk at*;go_wp2_with (at_builtin;refine ag _ rfl _ _ 30 rfl _ 5 j0 (.int .u8 0) 1 1 underlying30 hj Zv Ty OG rfl Γ D k dd _ rfl hD 1 _ rfl rfl gA iQ η BK ?_;intro E Ed wy fQ fN oY);go_roundw
       case rel=>exact⟨k+1,E,Ed,cR,η,rfl,by rw[←E4.o,aJ];exact fQ,Ext.own hx fN hD.ax⟩
       exact dB
      .obtain rfl:k=ls.length:=by omega
       have alz:=dh (ls.length<ls.length);rw[jL (by rw[qN];omega)]at hD;have uH:Rb _ D ls.length dd (bp full f):=hD.rd;have Zz:=Ho.o.ext hx;have BK:=hx.size;have RM:q<=1000:=η;go_wp2_with (at_builtin;refine ag _ rfl _ _ 85 rfl _ 30 i0 (.slice none 0 0) 1 24 underlying85 hi dx dA dN rfl Γ C q cd _ rfl Zz 1 _ rfl rfl gA iQ η η ?_;intro E Ed wy fQ fN oY);go_roundw
       case rel =>refine⟨f+1,q+1,E,Ed,cR,by have:=Hfq.o;omega,by have:=Hfq.o;omega,rfl,?_,Ext.own (HEq.o.trans hx) fN (fun g hg=>Ho.o.ax g hg)⟩;have agT:=tQ.app (l:=bp full f) Kv Ho.o Hsl.o Oi.o hx uH (fun _ g hg=>hD.ax g hg) fQ fN oY;rw[uP,gS,mF,tT,←Hfq.o];exact agT
       case measure=>exact dB
    .have U2:q=tt-fr:=by omega
     have Hff:=θ U2;clear U2 Tf;go_wp2;go_ret;exact⟨C,_,cd,full,rfl,Zy.o,by rw[sI.o];unfold lR;rw[←Hff.o];exact⟨_,HE.o.size,hO⟩,HE.o.trans MS⟩
theorem MW:τ prog 267 #[π b,tR kind o,r,tt] w fun e w'=>∃B m d full,e=.returned (.slice B m d)/\zq kind o ls r tt full/\Rp w' B m d (lR full (cn ls) tt)/\Ext w w':=(I0 h h8 h0 hl og r tt hr ht HL).mono fun _ _ ⟨B,m,d,full,h1,h2,⟨_,_,h3⟩,h4⟩=>⟨B,m,d,full,h1,h2,h3.rp,h4⟩
end
end
theorem U3:(prog.info? 333).map (fun i=>(i.zero,i.size,i.bytes))=some (some (.agg (cP 256 (ξ.bool false)).toArray),256,256):=ey
theorem uW{P:Program}{vs:List ξ}{ops:Array Oper}{rest:List Oper}{o:Oper}{a:Act}{Q:Exit->Act->κ->Prop}(hw:Region.wanted o (yielded ops a.tmps)=true)(ty:TypeId)(x:Operand)(ho:o.op=.load ty x)(hx:a.eval x=.pointer b){e:TypeId}{T:TypeId}(hu:P.underlying ty=some (.array n e))(hi:(P.info? ty).map (·.size)=some n)(h:sH w b T vs)(hn:vs.length=n)(hk:wpList P ops Q rest (a.put o.dst (.agg vs.toArray)) w):wpList P ops Q (o::rest) a w:=by refine wpList_step fun K hK=>?_;simp only[hw,if_true];unfold Oper.wp;rw[mQ ty x ho hx hu hi h hn];exact hK _ _ hk
def afP:List ξ:=cP 256 (.bool false)
theorem MX(h:v<256):afP[v]?=some (.bool false):=by unfold afP;rw[List.getElem?_replicate,if_pos h]
def CR(f:Nat->Nat)(last v:Nat):ξ:=if v=0 then .int .i64 (-1) else .int .i64 (lu f last v:Nat)
theorem MY(f:Nat->Nat)(last:Nat)(h:0<v):lu f last v<v:=(yM f last v h).1
theorem U4(w:κ)(h:vl kind o)(A:aS)(n c:Nat)(aa:aD)(hb:Rb w A n c aa)(hl:aa.length<=2000):τ prog 181 #[tR kind o,.slice A n c,(1:Int)] w fun e w'=>∃B d,e=.returned (.slice B 1 d)/\Rb w' B 1 d [nJ kind o aa]/\(∀g,bn B=some g->w.heap.size<=g)/\Ext w w':=by
 obtain⟨i0,hi,dx,dA,dN⟩:=info_parts tB;rw[tF]at dx;obtain⟨j0,hj,Zv,Ty,OG⟩:=info_parts U3;rw[show cP 256 (ξ.bool false)=afP from rfl]at Zv;obtain⟨k0,hk,vq,Gn,zJ⟩:=info_parts dX;have hn:=hb.len;subst hn;have hmx:=hb.max;unfold maxLen at hmx;have hkd:((kind:Int)==3)=false:=ae9;have anp:(kind==3)=false:=ae9;have ku:=θ fun W=>Fw W h;have Hw:=θ fun W (e:Ext w W)=>Kn W h A aa.length c aa (hb.ext e) hl;have aX:=UInt8.toNat_lt (rO aa);have hF:EG kind o aa=lu (qM kind o aa) (rO aa).toNat 256:=(Xr _ aX).symm;have DJ:(nJ kind o aa)=eB (lu (qM kind o aa) (rO aa).toNat 256):=by unfold nJ;rw[hF]
 rw[DJ];have yw:∃x:Nat,(rO aa).toNat=x/\(aa.length=0/\x=0\/0<aa.length/\∃g of,A=some ⟨g,of,none⟩/\w.cell? ⟨g,of+(aa.length-1),none⟩=some (.int .u8 (x:Nat))):=by
  refine⟨_,rfl,?_⟩;rcases rA aa.length with h0|h0
  .left
   have hp:aa=[]:=List.eq_nil_of_length_eq_zero h0;subst hp;exact⟨rfl,rfl⟩
  .right
   obtain⟨g,of,rfl,hc⟩:=hb.at_ (k:=aa.length-1) η;refine⟨h0,g,of,rfl,?_⟩;rw[hc];unfold rO;rw[List.getLastD_eq_getLast?,List.getLast?_eq_getElem?,bf η];rfl
 obtain⟨last,hlx,Uu⟩:=yw;rw[hlx]at aX⊢;clear hF DJ hlx hb h;generalize qM kind o aa=f at*;unfold tR at*;go_enter func181,ntmps181;go_upto_region 1 with fail
 have x0:=Ext.alloc w (.cells #[kind,o,.slice none 0 0] 67);have vt:=(Has.new w (fun _=>0) [kind,o,.slice none 0 0] 67 rfl);generalize hV:w.alloc _=V at*;generalize w.heap.size=gb at*;have b0:=vt.zc 0;have b1:=vt.zc 1;have b2:=vt.zc 2;clear hV vt;go_wp2_with fail;refine(ku.o V).mono ?_;rintro e w1 ⟨rfl,e1⟩;replace b0:=e1.cell b0;replace b1:=e1.cell b1;replace b2:=e1.cell b2;have x1:=x0.trans e1;clear e1 x0;go_wp2_with fail;refine(Hw.o w1 x1).mono ?_;rintro e w2 ⟨rfl,e2⟩;replace b0:=e2.cell b0;have x2:=x1.trans e2;clear b1 b2 e2 x1;go_upto_region 4 with (first|(with_reducible refine bA rfl 331 rfl hi dx ?_;intro W1 a1 e3 s1)|(with_reducible refine bF rfl 331 (.tmp 7) (.tmp 23) rfl rfl rfl a1 (cH _) (cH _) dr (mT _) ?_;intro W3 a3 g3 s3))
 have e4:Ext w2 W3:=Ext.own (B:=some ⟨w2.heap.size,0,none⟩) e3 g3 (fun k hk=>by cases hk;exact aq _);replace b0:=e4.cell b0;have x3:=x2.trans e4;have hgw:w2.heap.size<W3.heap.size:=η;clear e3 g3 s1 s3 a1 e4 x2;generalize hg7:w2.heap.size=g7 at*;clear hg7;go_upto_if 26 with fail
 go_cut [8] (fun lv wx=>lv=.int .i64 (last:Nat)/\wx=W3)
 case first =>
  rcases Uu with ⟨h0,rfl⟩|⟨h0,g,of,rfl,hc⟩
  .have zW:=dh (0<aa.length)
   go_wp2_with fail;go_meet
   exact⟨rfl,rfl⟩
  .have zW:=dQ (0<aa.length) h0
   obtain⟨m,hm⟩:∃m,aa.length-1=m:=⟨_,rfl⟩;rw[hm]at hc;have hc:=x3.cell hc;have hw:cQ.wrap ((aa.length:Int)-1)=(m:Nat):=by rw[pS _ η];omega
   have Fa:m<aa.length:=η;have hwl:cQ.wrap ((last:Nat):Int)=(last:Nat):=pS _ η;clear hm;go_wp2_with fail;go_meet
   exact⟨by rfl,rfl⟩
 case rest =>
  obtain⟨rfl,FF⟩:=hcut;have FF:=FF.symm;subst FF;clear Uu;go_upto_region 11 with (with_reducible refine bA rfl 333 rfl hj Zv ?_;intro W5 a5 e5 s5)
  have a3:=a3.ext e5;have x5:=x3.trans e5;have hgt:g7<W3.heap.size:=hgw;have Hg:=θ (show w.heap.size<=W3.heap.size from x3.size);have Hx5:=θ x5;clear x3 e5 b0 hgw;generalize afH:W3.heap.size=GF at*;clear afH;go_wp2_with fail;go_loopw [11] (fun ov wr=>Ext w wr/\((ov=.slice none 0 0/\sH wr g7 331 (kF f)/\sH wr GF 333 afP)\/∃B d,ov=.slice B 1 d/\Rb wr B 1 d [eB (lu f last 256)]/\∀g,bn B=some g->w.heap.size<=g)) (fun ov _=>match ov with|.slice _ n _=>1-n|_=>0)
  case atStart=>exact⟨Hx5.o,.inl ⟨rfl,a3,a5⟩⟩
  case round =>
   obtain⟨hE,⟨rfl,r7,r10⟩|⟨B,d,rfl,hB,hBf⟩⟩:=hrel
   .have R7:=θ r7
    have R10:=θ r10;have HE:=θ hE;clear r7 r10 hE a3 a5;go_wp2_with fail;go_loopw [12,13] (fun bv iv wq=>∃v:Nat,iv=.int .i64 (v:Nat)/\v<=256/\bv=CR f last v/\Ext wr wq) (fun _ iv _=>256-(intOf iv).toNat)
    case atStart=>exact⟨0,rfl,aM _,rfl,Ext.refl _⟩
    case round =>
     obtain⟨v,rfl,hv,rfl,hq⟩:=hrel;by_cases Lo:v<256
     .have Di:=dQ (v<256) Lo
      have jF:=dQ ((v:Int)<256);have t10:=(R10.o.ext hq).cell (i:=v) (v:=.bool false) (MX Lo);have a7:=R7.o.ext hq;rcases rA v with rfl|h0
      .have De:CR f last 0=.int .i64 (-1):=rfl
       rw[De];go_wp2;go_roundw
       case rel=>exact⟨1,cR,η,rfl,hq⟩
       case measure=>simp[intOf]
      .obtain⟨r,hr⟩:∃r,lu f last v=r:=⟨_,rfl⟩
       have hrv:r<v:=hr▸MY f last h0;have De:CR f last v=.int .i64 (r:Nat):=by unfold CR;rw[if_neg η,hr]
       have Gg:CR f last (v+1)=.int .i64 ((if f r<f v\/f v=f r/\v=last then v else r:Nat):Int):=by unfold CR;rw[if_neg η,lu,if_neg η,hr]
       rw[De];have hrn:=dh ((r:Int)<0);have Ha:=θ fun W=>PV W f v r last Lo η;have Hnx:=θ Gg;clear De Gg hr;by_cases qw:f r<f v\/f v=f r/\v=last
       .rw[zF qw]at Ha
        rw[if_pos qw]at Hnx;clear qw;go_wp2_with (first|((with_reducible refine uW ?hw 331 (.tmp 7) rfl rfl underlying331 dr a7 (cH _) ?_);case hw=>rfl))
        refine(Ha.o _).mono ?_;rintro e w9 ⟨rfl,e9⟩;go_wp2;go_roundw
        case rel=>exact⟨v+1,cR,η,Hnx.o.symm,hq.trans e9⟩
        exact dB
       .rw[zG qw]at Ha
        rw[if_neg qw]at Hnx;clear qw;go_wp2_with (first|((with_reducible refine uW ?hw 331 (.tmp 7) rfl rfl underlying331 dr a7 (cH _) ?_);case hw=>rfl))
        refine(Ha.o _).mono ?_;rintro e w9 ⟨rfl,e9⟩;go_wp2;go_roundw
        case rel=>exact⟨v+1,cR,η,Hnx.o.symm,hq.trans e9⟩
        exact dB
     .obtain rfl:v=256:=by omega
      obtain⟨r,hr⟩:∃r,lu f last 256=r:=⟨_,rfl⟩;have uH:r<256:=hr▸MY f last Γ;have De:CR f last 256=.int .i64 (r:Nat):=by unfold CR;rw[if_neg Γ,hr]
      rw[De];have Hr:=θ hr;have r10:=R10.o.ext hq;have t10:=r10.cell (i:=r) (v:=.bool false) (MX uH);have f10:=r10.free r;have hcw:oU.u8.wrap (r:Int)=((eB r).toNat:Nat):=by rw[aU uH];simp[oU.wrap,oU.bits,oU.signed];omega
      have Qh:Ext w (wr.setCell (GF,r) (.bool true)):=Ext.own (B:=some ⟨GF,0,none⟩) (HE.o.trans hq) (gG _ _ _) (fun k hk=>by cases hk;exact Hg.o);have Hx9:=θ Qh;clear De hr r10 Qh;generalize hy:eB r=y at*;have Hy:=θ hy;clear hy;go_upto_region 20 with fail
      generalize hW9:dG wr _ _=w9 at*;clear hW9 t10 f10;go_wp2_with (at_builtin;refine ag _ rfl _ _ 30 rfl w9.heap.size 5 k0 (.int .u8 0) 1 1 underlying30 hk vq Gn zJ rfl Γ none 0 0 [] rfl (Own.dR _ _ _ _) 1 [.int .u8 (y.toNat:Nat)] rfl rfl gA Γ η (aq _) ?_;intro E Ed wy fQ fN oY);go_roundw
      case rel=>exact⟨Ext.own (B:=none) Hx9.o fN (fun q hq=>by cases hq),.inr ⟨E,Ed,cR,by rw[Hr.o,Hy.o];exact fQ.rd,fun q hq=>aF Hx9.o.size (fQ.ax q hq)⟩⟩
      case measure=>simp
   .go_wp2;go_ret;exact⟨B,d,rfl,hB,hBf,hE⟩
def aeA(w w1:κ)(gb kind o:Nat)(aa:aD)(m:Nat)(lv ov iv:ξ)(wr:κ):Prop :=
 ∃(k:Nat) (B:aS) (d:Nat) (C:aS) (cd:Nat),iv=.int .i64 (k:Nat)/\k<=m/\lv=.slice B (aa.length+k) d/\Own wr w1.heap.size 5 1 B (aa.length+k) d (dK (ji kind o aa k))/\ov=.slice C k cd/\Own wr w1.heap.size 5 1 C k cd (dK (mM kind o aa k))/\(bn C=none\/bn C≠bn B)/\uV wr gb kind o/\Ext w wr/\w1.heap.size<=wr.heap.size
theorem Qi(w:κ)(h:vl kind o)(A:aS)(n c:Nat)(aa:aD)(hb:Rb w A n c aa)(m:Nat)(hm:aa.length+m<=1000):τ prog 182 #[tR kind o,.slice A n c,m] w fun e w'=>∃B d,e=.returned (.slice B m d)/\Rb w' B m d (mM kind o aa m)/\(∀g,bn B=some g->w.heap.size<=g)/\Ext w w':=by
 obtain⟨i0,hi,dx,dA,dN⟩:=info_parts dX;have hn:=hb.len;subst hn;have hmx:=hb.max;unfold maxLen at hmx;have ku:=θ fun W=>Fw W h;have Hf:=θ fun W A n c l hb hl=>U4 W h A n c l hb hl;have Hb:=θ hb;unfold tR at*;clear h hb;go_enter func182,ntmps182;go_upto_region 1 with fail
 have x0:=Ext.alloc w (.cells #[kind,o,.slice none 0 0] 67);have vt:=(Has.new w (fun _=>0) [kind,o,.slice none 0 0] 67 rfl);have fV:w.heap.size<(w.alloc (.cells #[kind,o,.slice none 0 0] 67)).heap.size:=bT;generalize hV:w.alloc _=V at*;obtain⟨gb,St⟩:∃gb,gb=w.heap.size:=⟨_,rfl⟩;rw[←St]at vt fV⊢;have IC:uV V gb kind o:=⟨vt.zc 0,vt.zc 1,vt.zc 2⟩;clear hV vt St;obtain⟨b0,b1,b2⟩:=id IC;go_wp2_with fail;refine(ku.o V).mono ?_;rintro e w1 ⟨rfl,e1⟩;have IC:=IC.ext e1;have x1:=x0.trans e1;have um:gb<w1.heap.size:=eM fV e1.size;have Kp:=θ (Hb.o.ext x1);have Hw1:=θ x1.size;clear e1 x0 b0 b1 b2 fV;go_upto_region 4 with (at_builtin;refine gq _ rfl _ _ 30 rfl w1.heap.size 5 i0 (.int .u8 0) 1 1 underlying30 hi dx dA dN rfl Γ rfl A aa.length c _ rfl Kp.o (ez _) iQ η (aq _) ?_;intro B d w2 hoB hxB)
 have IC:=IC.ext hxB;have x2:=x1.trans hxB;have vi:mM kind o aa 0=[]:=List.drop_length;have Hc0:=θ vi;have xE:=hxB.size;clear x1 hxB vi;go_wp2_with fail;go_loopw [7,8,9] (fun lv ov iv wr=>aeA w w1 gb kind o aa m lv ov iv wr) (fun _ _ iv _=>m-(intOf iv).toNat)
 case atStart=>exact⟨0,B,d,none,0,rfl,aM _,rfl,hoB,rfl,by rw[Hc0.o];exact Own.dR _ _ _ _,.inl rfl,IC,x2,xE⟩
 case round =>
  obtain⟨k,B,d,C,cd,rfl,hk,rfl,hO,rfl,hC,hne,vt,hE,hs⟩:=hrel;by_cases hkm:k<m
  .have jF:=dQ ((k:Int)<(m:Int))
   have Ce:=dQ ((k:Int)<1000);have J9:Rb wr B (aa.length+k) d (ji kind o aa k):=hO.rd;have Hrk:=θ (Hf.o wr B _ d _ J9 WC);obtain⟨b0,b1,b2⟩:=id vt;have Hs1:=θ (show ji kind o aa (k+1)=ji kind o aa k++[nJ kind o (ji kind o aa k)] from rfl);have Hs2:=θ (Lx kind o aa k);generalize nJ kind o (ji kind o aa k)=x at*;clear J9;go_wp2_with fail;refine Hrk.o.mono ?_;rintro e w3 ⟨R,rd,rfl,hR,hRf,e3⟩;have U5:=hO.ext e3;have FC:=hC.ext e3;have alA:=vt.ext e3;obtain⟨rg,ro,rfl,hrc⟩:=hR.at_ (k:=0) bT;have hrc:w3.cell? (rg,ro)=some (.int .u8 (x.toNat:Nat)):=hrc;have aX:∀D n dd xs q,Own wr w1.heap.size 5 1 D n dd xs->bn D=some q->q<wr.heap.size:=fun D n dd xs q h hq=>by obtain⟨a,ha,rfl⟩:=vu.1 hq;exact(h.gU a ha).2
   have hrB:bn B≠some rg:=fun h=>by have:=aX _ _ _ _ _ hO h;have:=hRf rg rfl;omega
   have Sn:=e3.size;have Hlt:=θ aX;have Hne:=θ hne;have HO:=θ hO;have HC:=θ hC;clear b0 b1 b2 hR hRf aX vt;go_wp2_with (first
    | (at_builtin;refine ag _ rfl _ _ 30 rfl w1.heap.size 5 i0 (.int .u8 0) 1 1 underlying30 hi dx dA dN rfl Γ B (aa.length+k) d _ rfl U5 1 _ rfl rfl gA iQ η η ?_;intro E Ed wy fQ fN oY;have anq:=fN.cell hrc hrB.symm;have Wi:=FC.kept fN Hne.o;have hsy:=fN.size)
    | (at_builtin;refine ag _ rfl _ _ 30 rfl w1.heap.size 5 i0 (.int .u8 0) 1 1 underlying30 hi dx dA dN rfl Γ C k cd _ rfl Wi 1 _ rfl rfl gA iQ η η ?_;intro F Fd wz zE hgF hwF))
   go_roundw
   case rel =>
    have hEC:bn E=none\/bn E≠bn C:=by
     cases hq:bn E with
     |none=>exact .inl rfl
     |some q =>
      refine .inr fun h=>?_;have h1:=Hlt.o _ _ _ _ _ HC.o h.symm;rcases oY with h2|h2
      .rcases Hne.o with h3|h3
       .rw[h3]at h;cases h
       .exact h3 (h.symm.trans (hq.symm.trans h2))
      .have h4:=h2 q hq;omega
    have hFE:bn F=none\/bn F≠bn E:=by
     rcases hwF with h2|h2
     .rw[h2]
      cases hq:bn C with
      |none=>exact .inl rfl
      |some q =>
       refine .inr fun h=>?_;rcases hEC with h3|h3
       .rw[h3]at h;cases h
       .exact h3 (h.symm.trans hq.symm)
     .cases hq:bn F with
      |none=>exact .inl rfl
      |some q =>refine .inr fun h=>?_;obtain⟨a,ha,vf⟩:=vu.1 h.symm;have:=(fQ.gU a ha).2;have:=h2 q hq;omega
    have St:∀D n dd xs,Own wr w1.heap.size 5 1 D n dd xs->bn D≠some gb:=fun D n dd xs h9 h=>by have:=h9.ax gb h;omega
    have hEo:Own wz w1.heap.size 5 1 E (aa.length+k+1) Ed _:=fQ.kept hgF hEC;refine⟨k+1,E,Ed,F,Fd,cR,η,cR,by rw[Hs1.o,aJ];exact hEo,cR,by rw[Hs2.o,aJ];exact zE,hFE,(alA.grown fN (St _ _ _ _ HO.o)).grown hgF (St _ _ _ _ HC.o),Ext.own (Ext.own (hE.trans e3) fN (fun q hq=>by have:=HO.o.ax q hq;have:=Hw1.o;omega)) hgF (fun q hq=>by have:=HC.o.ax q hq;have:=Hw1.o;omega),by have:=hgF.size;omega⟩
   case measure=>exact dB
  .obtain rfl:k=m:=by omega
   go_wp2;go_ret;exact⟨C,cd,rfl,hC.rd,fun q hq=>by have:=hC.ax q hq;have:=Hw1.o;omega,hE⟩
def alB(w V:κ)(b kind o tt:Nat)(ls:bH)(lv iv:ξ)(wr:κ):Prop :=
 ∃(k:Nat) (B:aS) (d:Nat),iv=.int .i64 (k:Nat)/\k<=ls.length/\lv=.slice B k d/\tQ wr V.heap.size B k d ((oq kind o ls tt).take k)/\uV wr b kind o/\Ext w wr/\V.heap.size<=wr.heap.size
section
variable(kind o:Nat)(ls:bH)(tt:Nat)
theorem Cn:(oq kind o ls tt).length=ls.length:=by simp[oq]
theorem Qj(hk:k<ls.length):(oq kind o ls tt).take (k+1)=(oq kind o ls tt).take k++[ji kind o (ls.getD k []) (tt-(ls.getD k []).length)]:=by rw[oz,bf (by rw[Cn];exact hk)];simp[oq,cO,hk]
theorem ZA(hk:k<(oq kind o ls tt).length):tt<=(oq kind o ls tt)[k].length:=by simp only[oq,List.getElem_map,wM];omega
end
section
variable {w:κ}{T:Tg}{t:Nat}{A:aS}{lc:Nat}{hs:Nat->Option Addr×Nat}{ls:bH}
theorem KG(h:Cb w T t A lc hs ls)(h8:ls.length<=8)(h0:0<ls.length)(hl:∀l∈ls,l.length<=1000)(og:vl kind o)(tt:Nat)(ht:tt<=1000)(hft:cn ls<tt):τ prog 156 #[.slice A ls.length lc,tR kind o,(0:Int),tt] w fun e w'=>∃B m d,e=.returned (.slice B m d)/\Rp w' B m d (gD kind o ls tt)/\Ext w w':=by
 obtain⟨i0,hi,dx,dA,dN⟩:=info_parts zf;obtain⟨j0,hj,Zv,Ty,OG⟩:=info_parts dX;have ku:=θ fun W=>Fw W og;have KF:=θ fun W (e:Ext w W)=>IL (h.ext e) h0 h8;have Hch:=θ fun W A n c aa (hb:Rb W A n c aa) m hm=>Qi W og A n c aa hb m hm;obtain⟨g,rfl,_,h2⟩:=h.at_ h0;obtain⟨Uu,hmx⟩:=h.cap;have Hc:=θ fun i (hi:i<ls.length)=>(h2 i hi).1;have Hrb:=θ fun W (e:Ext w W) i (hi:i<ls.length)=>(h.ln i hi).rb.ext e;have Hl:=θ (show ∀i,i<ls.length->(ls.getD i []).length<=1000 from fun i hi=>by rw[cO,bf hi];exact hl _ (dH hi));have jF:=dh ((1000:Int)<(tt:Int));have Gj:=dh (tt<=cn ls);have Ce:=dh ((tt:Int)<=(cn ls:Int));unfold tR at*;clear h h2 hl og;obtain⟨fr,iU⟩:∃fr,cn ls=fr:=⟨_,rfl⟩;rw[iU]at KF Gj Ce hft;have sI:=θ iU;clear iU;go_enter func156,ntmps156;go_upto_region 1 with fail
 have x0:=Ext.alloc w (.cells #[kind,o,.slice none 0 0] 67);have vt:=(Has.new w (fun _=>0) [kind,o,.slice none 0 0] 67 rfl);have fV:w.heap.size<(w.alloc (.cells #[kind,o,.slice none 0 0] 67)).heap.size:=bT;generalize hV:w.alloc _=V at*;obtain⟨gb,St⟩:∃gb,gb=w.heap.size:=⟨_,rfl⟩;rw[←St]at vt fV⊢;have IC:uV V gb kind o:=⟨vt.zc 0,vt.zc 1,vt.zc 2⟩;clear hV vt St;obtain⟨b0,b1,b2⟩:=id IC;go_wp2_with fail;refine(KF.o V x0).mono ?_;rintro e w1 ⟨rfl,hw⟩;have hw:=hw.symm;subst hw;go_wp2_with fail;refine(ku.o V).mono ?_;rintro e w1 ⟨rfl,e1⟩;have IC:=IC.ext e1;have x1:=x0.trans e1;have um:gb<w1.heap.size:=eM fV e1.size;have Hx1:=θ x1.size;clear e1 x0 b0 b1 b2 fV;go_wp2_with fail;go_loopw [10,12] (fun lv iv wr=>alB w w1 gb kind o tt ls lv iv wr) (fun _ iv _=>ls.length-(intOf iv).toNat)
 case atStart=>exact⟨0,none,0,rfl,aM _,rfl,by rw[List.take_zero];exact tQ.dR (aq _),IC,x1,aq _⟩
 case round =>
  obtain⟨k,B,d,rfl,hk,rfl,hR,vt,hE,hS⟩:=hrel;by_cases jm:k<ls.length
  .have anr:=dQ ((k:Int)<(ls.length:Int))
   have c1:=hE.cell (Hc.o k jm);have J9:=Hrb.o wr hE k jm;have JQ:=Hl.o k jm;obtain⟨Kv,uQ,ho,yy,BX⟩:=id hR;have Hft:=θ (Qj kind o ls tt jm);have Hsl:=θ yy;have Oi:=θ BX;obtain⟨b0,b1,b2⟩:=id vt;have alC:=J9.max;unfold maxLen at alC;generalize ls.getD k []=lx at*;generalize (hs k).1=XA at*;generalize (hs k).2=xc at*;clear yy BX hR;go_upto_region 10 with (at_builtin;refine gq _ rfl _ _ 30 rfl wr.heap.size 5 j0 (.int .u8 0) 1 1 underlying30 hj Zv Ty OG rfl Γ rfl XA lx.length xc _ rfl J9 (ez _) iQ η (aq _) ?_;intro X xd w3 Gk Wj)
   replace b0:=Wj.cell b0;replace b1:=Wj.cell b1;replace b2:=Wj.cell b2;clear c1 J9;go_upto_if 76 with fail
   go_cut [13] (fun xv wx=>∃X n xd,xv=.slice X n xd/\Own wx wr.heap.size 5 1 X n xd (dK (ji kind o lx (tt-lx.length)))/\Ext wr wx)
   case first =>
    by_cases aX:lx.length<tt
    .have Yu:=dQ ((lx.length:Int)<(tt:Int))
     obtain⟨mm,XK⟩:∃mm,tt-lx.length=mm:=⟨_,rfl⟩;have hw:cQ.wrap ((tt:Int)-(lx.length:Int))=(mm:Nat):=by rw[pS _ η];omega
     have Hcc:=θ (Hch.o w3 X lx.length xd lx Gk.rd mm η);have Hpc:=θ (EH kind o lx mm);have afE:lx.length+mm<=1000:=η;have Hmm:=θ XK;have j5:=yO kind o lx mm;clear XK;go_wp2_with fail;refine Hcc.o.mono ?_;rintro e w4 ⟨Y,yd,rfl,hY,hYf,e4⟩;have alD:=Gk.ext e4;have ans:=Wj.size;have alE:=e4.size;go_wp2_with (at_builtin;refine aN _ rfl _ _ 30 rfl wr.heap.size 5 j0 (.int .u8 0) 1 1 underlying30 hj Zv Ty OG rfl Γ X lx.length xd _ rfl alD Y mm yd _ rfl hY (ez _) iQ η η ?_;intro Z zd w5 hoZ hgZ hwZ);go_meet
     rw[Hmm.o,←Hpc.o,aJ];exact⟨Z,_,zd,rfl,hoZ,Ext.own (Wj.trans e4) hgZ (fun q hq=>Gk.ax q hq)⟩
    .have Yu:=dh ((lx.length:Int)<(tt:Int))
     have Hz:=θ (show tt-lx.length=0 by omega);go_wp2_with fail;go_meet
     rw[Hz.o];exact⟨X,_,xd,rfl,Gk,Wj⟩
   case rest =>
    obtain⟨X,n,xd,rfl,Gk,Wj⟩:=hcut;have Zx:=ho.ext Wj;have alE:=Wj.size;have EK:k<=8:=η;go_wp2_with (at_builtin;refine ag _ rfl _ _ 85 rfl w1.heap.size 30 i0 (.slice none 0 0) 1 24 underlying85 hi dx dA dN rfl Γ B k d _ rfl Zx 1 _ rfl rfl gA iQ η η ?_;intro E Ed wy fQ fN oY);go_roundw
    case rel =>
     have pF:bn B≠some gb:=fun h=>by have:=ho.ax _ h;omega
     refine⟨k+1,E,Ed,cR,η,cR,?_,(vt.ext Wj).grown fN pF,Ext.own (hE.trans Wj) fN (fun g hg=>by have:=ho.ax g hg;have:=Hx1.o;omega),by have:=fN.size;omega⟩;rw[Hft.o];exact tQ.app Kv ho Hsl.o Oi.o Wj Gk.rd (fun _ g hg=>Gk.ax g hg) fQ fN oY
    case measure=>exact dB
  .obtain rfl:k=ls.length:=by omega
   have hdk:=dh (ls.length<ls.length);rw[jL (by rw[Cn];exact aq _)]at hR;have HRp:=θ hR.rp;have HE:=θ hE;have Hfa:=θ fun k (hk:k<(oq kind o ls tt).length)=>ZA kind o ls tt hk;have aly:(oq kind o ls tt).length=ls.length:=Cn _ _ _ _;have Hah:=θ (show gD kind o ls tt=(dJ (tt-fr)).map fun j=>bp (oq kind o ls tt) (fr+j) by rw[←sI.o];rfl);generalize oq kind o ls tt=full at*;clear hR hE vt;go_wp2_with fail;go_loopw [14,15] (fun ov fv wq=>∃(f q:Nat) (C:aS) (cd:Nat),fv=.int .i64 (f:Nat)/\f=fr+q/\q<=tt-fr/\ov=.slice C q cd/\tQ wq wr.heap.size C q cd ((dJ q).map fun j=>bp full (fr+j))/\Ext wr wq) (fun _ fv _=>tt-(intOf fv).toNat)
   case atStart=>exact⟨fr,0,none,0,rfl,rfl,aM _,rfl,tQ.dR (aq _),Ext.refl _⟩
   case round =>
    obtain⟨f,q,C,cd,rfl,Tf,hq,rfl,hO,MS⟩:=hrel;by_cases hft:f<tt
    .have alx:=dQ ((f:Int)<(tt:Int))
     have HEq:=θ MS;have HRq:=θ (HRp.o.ext MS);have Hfq:=θ Tf;obtain⟨Kv,uQ,ho,yy,BX⟩:=id hO;have Ho:=θ ho;have Hsl:=θ yy;have Oi:=θ BX;clear MS hO ho yy BX Tf;go_wp2_with fail;go_loopw [16,17] (fun jv iv wx=>∃(k:Nat) (D:aS) (dd:Nat),iv=.int .i64 (k:Nat)/\k<=ls.length/\jv=.slice D k dd/\Own wx wr.heap.size 5 1 D k dd (dK ((bp full f).take k))/\Ext wr wx) (fun _ iv _=>ls.length-(intOf iv).toNat)
     case atStart=>exact⟨0,none,0,rfl,aM _,rfl,Own.dR _ _ _ _,Ext.refl _⟩
     case round =>
      obtain⟨k,D,dd,rfl,hk,rfl,hD,hx⟩:=hrel;by_cases jm:k<ls.length
      .have amN:=dQ ((k:Int)<(ls.length:Int))
       have U1:k<full.length:=η;obtain⟨pb,po,Ai,ni,ci,rfl,vi,Ka⟩:=(HRq.o.ext hx).at_ U1;have hfk:f<full[k].length:=eM hft (Hfa.o k U1);have JF:=Ka.len;subst JF;have agS:=Ka.max;unfold maxLen at agS;obtain⟨gi,oi,rfl,hci⟩:=Ka.at_ hfk;have uh:(bp full f).take k++[full[k][f]]=(bp full f).take (k+1):=by unfold bp;rw[oz,iZ,bf U1];simp[cO,hfk]
       have E4:=θ uh;have BK:=hx.size;clear uh Ka;obtain⟨y,hy⟩:∃y,full[k][f]=y:=⟨_,rfl⟩;rw[hy]at hci E4;clear hy;generalize full[k].length=lk at*;go_wp2_with (at_builtin;refine ag _ rfl _ _ 30 rfl _ 5 j0 (.int .u8 0) 1 1 underlying30 hj Zv Ty OG rfl Γ D k dd _ rfl hD 1 _ rfl rfl gA iQ η BK ?_;intro E Ed wy fQ fN oY);go_roundw
       case rel=>exact⟨k+1,E,Ed,cR,η,cR,by rw[←E4.o,aJ];exact fQ,Ext.own hx fN hD.ax⟩
       exact dB
      .obtain rfl:k=ls.length:=by omega
       have alz:=dh (ls.length<ls.length);rw[jL (by rw[qN];omega)]at hD;have uH:Rb _ D ls.length dd (bp full f):=hD.rd;have Zz:=Ho.o.ext hx;have BK:=hx.size;have RM:q<=1000:=η;go_wp2_with (at_builtin;refine ag _ rfl _ _ 85 rfl _ 30 i0 (.slice none 0 0) 1 24 underlying85 hi dx dA dN rfl Γ C q cd _ rfl Zz 1 _ rfl rfl gA iQ η η ?_;intro E Ed wy fQ fN oY);go_roundw
       case rel =>refine⟨f+1,q+1,E,Ed,cR,by have:=Hfq.o;omega,by have:=Hfq.o;omega,cR,?_,Ext.own (HEq.o.trans hx) fN (fun g hg=>Ho.o.ax g hg)⟩;have agT:=tQ.app (l:=bp full f) Kv Ho.o Hsl.o Oi.o hx uH (fun _ g hg=>hD.ax g hg) fQ fN oY;rw[uP,gS,mF,tT,←Hfq.o];exact agT
       case measure=>exact dB
    .have Hff:=θ (show q=tt-fr by omega);have HO:=θ hO.rp;clear Tf hO;go_wp2;go_ret;refine⟨C,_,cd,rfl,?_,HE.o.trans MS⟩;rw[Hah.o,←Hff.o];exact HO.o
end
end Go.Proofs.YtffcefoadaogbaaGreat
