/- A part of the proof. -/
import Derived.Test.YtffcefoadaogbaaGreatS18
import Derived.Test.YtffcefoadaogbaaGreatS20
namespace Go.Proofs.YtffcefoadaogbaaGreat
open Go.RowKit
open Go.Proofs.Tryz
set_option linter.all false
set_option maxRecDepth 100000
set_option maxHeartbeats 16000000
open _root_.List renaming range->dJ,replicate->cP,length_replicate->gO,map_congr_left->rQ,mem_range->nB,getElem_mem->dH,getElem?_append_right->ij,take_zero->CW,getElem?_eq_getElem->bf,length_append->eU,take_length->sU
open Go.Value renaming slice->kD,int->af,iface->SU
open Go.World renaming alloc->aB
open _root_.Nat renaming zero_le->aM,le_refl->aq,not_lt_zero->lF,le_trans->aF,lt_of_lt_of_le->eM
open Go.RowKit.Below renaming refl->nV,trans->Wt
open Go renaming World->κ,Value->ξ,Calls->τ
open Go.RowKit renaming Below->fC
variable{A B NA:aS}{B1 cb d i j k n nc p t:Nat}{S:Nat->Prop}{T:Tg}{W1:Wd}{c:Cr}{cf:Cf}{m:Mb}{mk:List Nat}{kK:List Pk}{w:κ}
theorem QU:(prog.info? 40).map (fun i=>(i.zero,i.size,i.bytes))=some (some .nilIface,1,16):=ey
theorem QV:(prog.info? 152).map (fun i=>(i.zero,i.size,i.bytes))=some (some (.slice none 0 0),1,24):=ey
def Wd.new(n Ω:Nat):Wd:=⟨fun _=>Cr.new n Ω,[],fun _=>[]⟩
def aio(w:κ)(T:Tg)(mb nb gc gp:Nat)(cf:Cf)(tp:aD)(l:List dM)(P0:List ξ)(ah:Bool)(iv:ξ)(wr:κ):Prop :=
 ∃(k:Nat) (T':Tg) (A:aS) (lc:Nat) (bs ts:Nat->Nat) (top me':Nat),iv=.int .i64 (k:Nat)/\k<=cf.n/\Ξ (fun _=>False) w T wr T'/\Has wr T' 1 mb [.slice A k lc,π nb,.slice none 0 0]/\Row wr T' 2 40 1 A k lc ((dJ k).map fun i=>pv ah (bs i))/\jS wr T' 12 nb cf.id []/\Has wr T' 3 gc (aA cf me')/\Has wr T' 0 gp P0 /\
  (14<=top/\(∀i,i<k->14<=ts i/\ts i+40<=top)/\∀i j,i<j->j<k->ts i+40<=ts j)/\(∀i,i<k->bJ ah wr T' (ts i) (bs i) cf i tp l (Cr.new cf.n cf.Ω) 10)/\∀i,i<k->∀q,q<w.heap.size->T q<ts i
section
variable {w w':κ}{T T':Tg}
theorem aaQ(w:κ)(T:Tg)(hu:Θ w T)(ru:∀k,k<w.heap.size->T k=0\/14<=T k)(cf:Cf)(aT:jA cf)(tp:aD)(l:List dM)(sJ:Ro w A n d l)(mY:tp.length<=1099511627776)(DJ:fD tp l = -1)(Ol:l.length<=64)(ah:Bool):τ prog 41 #[iC cf 0,fX tp A n d,.slice none 0 0,.bool ah] w (cG (fun _=>False) w T fun v w' T'=>∃b m,v=.tuple #[π b,(0:Int)]/\ef w' T' b cf tp l ah m (Wd.new cf.n cf.Ω) 10/\∀i,i<cf.n->∀k,k<w.heap.size->T k<m.ts i):=by
 obtain⟨i,hi,dx,dA,dN⟩:=info_parts QV;have TA:∀W:κ,(Instr.makeSlice 101 (cf.n:ξ) (cf.n:ξ)).run prog W=.ok (.slice W.heap.size cf.n cf.n) (W.alloc (.cells (cP cf.n (kD none 0 0)).toArray 152)):=by intro W;have jW:=aT.n8;have h:=run_make (P:=prog) W 101 152 i _ underlying101 hi dx .i64 .i64 (cf.n:Nat) (cf.n:Nat) η (Int.le_refl _) (by rw[dN];omega) η;rw[dA,Nat.mul_one]at h;rw[←sV];exact h
 clear hi dx dA dN;obtain⟨i0,hi,dx,dA,dN⟩:=info_parts QU;have BR:=aT.n2;have jW:=aT.n8;have hmx:max (cf.n:Int) 1=(cf.n:Int):=η;have KY:min (cf.n:Int) 8=(cf.n:Int):=η;have DX:=θ fun W T1 (e:Ext w W) (h1:Θ W T1) me (DT:me<cf.n) t (ht:0<t) (hT:∀k,k<W.heap.size->¬In t 40 (T1 k))=>QM W T1 h1 cf me aT DT t ht hT tp l (sJ.ext e) mY DJ Ol ah;have ams:=θ fun W T1 (h1:Θ W T1)=>abI W T1 h1 12 cf.id;unfold iC fX at*;obtain⟨hTc,QW⟩:=Has.fresh hu (aA cf 0) 26 3;have xp:=Ext.alloc (w.alloc (.cells (aA cf 0).toArray 26)) (.cells #[.string (bs tp),.slice A n d] 65);have VI:=(Has.new (w.alloc (.cells (aA cf 0).toArray 26)) (give T (one w.heap.size) 3) [.string (bs tp),.slice A n d] 65 (b:=w.heap.size+1) bT);rw[hTc.Δ (w.heap.size+1) bT]at VI;have QW:=QW.ext xp;have x0:=(Ext.alloc w (.cells (aA cf 0).toArray 26)).trans xp;have SR:=hTc.ext xp;go_enter func41,ntmps41;go_upto_region 1 with fail
 generalize hW:aB (aB w _) _=W0;have We:(w.alloc (.cells (aA cf 0).toArray 26)).alloc (.cells #[.string (bs tp),.slice A n d] 65)=W0:=by rw[←hW];rfl
 rw[We]at VI QW x0 SR;clear hW We xp hTc;obtain⟨gc,oN⟩:∃gc,gc=w.heap.size:=⟨_,rfl⟩;obtain⟨gp,tK⟩:∃gp,gp=w.heap.size+1:=⟨_,rfl⟩;rw[←tK]at VI⊢;rw[←oN]at VI QW SR⊢;have Hgc:=θ (show w.heap.size<=gc by omega);generalize give T (one gc) 3=T1 at*;clear oN tK;have HC0:=θ QW;have HP0:=θ VI;have o6:=θ SR;have V7:=θ x0;clear QW VI SR x0;go_wp2_with fail;refine(ams.o W0 T1 o6.o.Δ).mono ?_;rintro e w1 ⟨v,rfl,T2,bq,nb,rfl,hN⟩;have x1:Ext W0 w1:=⟨bq.os,bq.tape,bq.output,bq.size,fun k hk=>bq.block k hk (fun h=>h)⟩;have HX1:=θ (V7.o.trans x1);have HN1:=θ hN;have PW:=θ (HC0.o.ο bq (fun h=>h));have HP1:=θ (HP0.o.ο bq (fun h=>h));have l8:=θ (o6.o.trans bq);clear bq x1 hN HC0 HP0 o6 V7;unfold π at*;go_upto_region 2 with fail
 obtain⟨cT,CO⟩:=Has.fresh l8.o.Δ [.slice none 0 0,π nb,.slice none 0 0] 103 1;have x3:=Ext.alloc w1 (.cells #[.slice none 0 0,π nb,.slice none 0 0] 103);have CL:=θ (HX1.o.trans x3);unfold π at*;generalize Ux:aB w1 _=w3 at*;have Hmb:=θ (show w.heap.size<=w1.heap.size from l8.o.size);generalize w1.heap.size=mb at*;have HN3:=θ (HN1.o.ο cT (fun h=>h) (fun h=>h) (fun h=>h));have FC:=PW.o.ο cT (fun h=>h);have ry:=HP1.o.ο cT (fun h=>h);have jH:=θ (l8.o.trans cT);generalize give T2 (one mb) 1=T3 at*;have k0:=FC.zc 0;have Qd:=θ FC;have ZJ:=θ ry;have HH3:=θ CO;clear Ux cT FC ry CO x3 HX1 HN1 PW HP1 l8;go_upto_region 3 with fail
 go_loopw [21] (fun iv wr=>aio w T mb nb gc gp cf tp l [.string (bs tp),.slice A n d] ah iv wr) (fun iv _=>cf.n-(intOf iv).toNat)
 case atStart=>exact⟨0,T3,none,0,fun _=>0,fun _=>0,14,0,rfl,aM _,jH.o,HH3.o,Row.dR _ _ _ _ _,HN3.o,Qd.o,ZJ.o,⟨aq _,fun i h=>absurd h (lF _),fun i j _ h=>absurd h (lF _)⟩,fun i h=>absurd h (lF _),fun i h=>absurd h (lF _)⟩
 case round =>
  obtain⟨k,T4,PA,lc,bs4,ts4,top,me4,rfl,hk,hT,hH,hR,hN,hC,hP,⟨akc,zL,htd⟩,qx,vf⟩:=hrel;have Hab:=θ vf;clear vf;have hu4:=hT.Δ;by_cases jk:k<cf.n
  .have Di:=dQ (k<cf.n) jk
   have jF:=dQ ((k:Int)<(cf.n:Int));have k1:=hC.zc 1;have f1:=hC.free 1;obtain⟨kq,hCs⟩:=hC.put (S:=(· = 3)) hu4 1 (.int .i64 (k:Nat)) rfl;have HCs:=θ (show Has _ T4 3 gc (aA cf k) from hCs);have hCx:=HCs.o;unfold aA at hCx;have Dz:[af .i64 (cf.n:Nat),.int .i64 (k:Nat),.int .i64 (cf.id:Nat),.int .i64 (cf.Ω:Nat),.int .i64 (cf.χ:Nat),.int .i64 (cf.bD:Nat),.int .i64 (cf.order:Nat),.int .i64 (cf.aR:Nat),.int .i64 (cf.workers:Nat),.int .i64 (cf.room:Nat)].length=10:=rfl;have mj:∀i,i<cf.n->(Cr.new cf.n cf.Ω).ls.length<=8:=fun i _=>by simp only[Cr.new,gO];exact jW
   have M8:=θ (hT.set ⟨gc,1,none⟩ (k:ξ) (.inr Hgc.o));have ZH:=θ (hH.ο kq η);have HR5:=θ (hR.ο kq η);have HN5:=θ (hN.ο kq η η η);have hP5:=hP.ο kq η;have akd:=θ (show ∀i,i<k->bJ ah _ T4 (ts4 i) (bs4 i) cf i tp l (Cr.new cf.n cf.Ω) 10 from fun i hi=>(qx i hi).ο aT.workers (mj i η) kq η (fun q hq e=>by have:=(zL i hi).1;unfold In at hq;omega));have Hts:=θ zL;have Htd:=θ htd;have Hht:=θ akc;clear hT hH hR hN hC hP qx kq hCs hu4 zL htd akc;go_upto_region 6 with fail
   generalize Zr:κ.setCell wr _ _=w5 at*;clear Zr k1 f1;have hbA:=hCx.all;have p0:=hP5.zc 0;have p1:=hP5.zc 1;obtain⟨M,hM⟩:=Ns M8.o.Δ;have HM:=θ hM;have HMT:=θ (show ∀q,q<w.heap.size->T q<=M from fun q hq=>by rw[←M8.o.tag q hq];exact hM q);have hxw:Ext w w5:=⟨M8.o.os,M8.o.tape,M8.o.output,M8.o.size,fun q hq=>M8.o.block q hq (fun h=>h)⟩;have NH:=θ (DX.o w5 T4 hxw M8.o.Δ k jk (top+M+1) η (fun q _ h=>by have:=HM.o q;unfold In at h;omega));have HP5:=θ hP5;have Qe:=θ hCx;clear hM hxw hP5 hCx;go_wp2_with (first|(with_reducible refine bI rfl 26 (.tmp 4) rfl rfl underlying26 qB Dz hbA ?_))
   refine NH.o.mono ?_;rintro e w6 ⟨v,rfl,T6,ri,pb,rfl,La⟩;have HPl:=θ La;have Vm:=ZH.o.ο ri (fun h=>h);have hR6:=HR5.o.ο ri (fun h=>h);have HN6:=θ (HN5.o.ο ri (fun h=>h) (fun h=>h) (fun h=>h));have HC6:=θ (show Has w6 T6 3 gc (aA cf k) from Qe.o.ο ri (fun h=>h));have HP6:=θ (HP5.o.ο ri (fun h=>h));have amt:=θ (show ∀i,i<k->bJ ah w6 T6 (ts4 i) (bs4 i) cf i tp l (Cr.new cf.n cf.Ω) 10 from fun i hi=>(akd.o i hi).ο aT.workers (mj i η) ri (fun h=>h) (fun _ _ h=>h));have Bp:=θ (M8.o.trans ri);have hne:=Vm.jY hR6 η;have c0:=Vm.zc 0;have hpo:∀ty:TypeId,(SU ty (.pointer pb)).oneCell'=true:=fun _=>rfl;rw[Bd];obtain⟨ty,yX⟩:∃ty,ty=Vw ah:=⟨_,rfl⟩;rw[←yX];have Hu9:=θ (show pv ah pb=.iface ty (.pointer pb) by rw[Bd,←yX]);have amu:=hR6.1;have HH6:=θ Vm;have HR6:=θ hR6;clear ri La Vm hR6 yX p0 p1 hbA M8 ZH HR5 HN5 akd Qe HP5 NH;unfold π at*;have q1:k+1<=maxLen:=iQ;have q2:(k+1)*16<=140737488355328:=η;have q3:∀x∈[SU ty (.pointer pb)],x.oneCell'=true:=by simpa using hpo ty
   go_wp2_with (at_builtin;refine ag _ rfl _ _ 99 rfl 0 40 i0 (.nilIface) 1 16 underlying99 hi dx dA dN rfl Γ PA k lc _ rfl amu 1 [SU ty (.pointer pb)] rfl rfl q3 q1 q2 (aM _) ?_;intro E Ed wy fQ fN oY;have hHy:=HH6.o.grown fN hne;have c0:=hHy.zc 0;have f0:=hHy.free 0)
   clear hHy c0 f0;go_roundw
   case rel =>
    have hR6:=HR6.o;obtain⟨vm,QL⟩:=hR6.append Bp.o.Δ fQ fN oY;have hHa:=HH6.o.ο vm η;obtain⟨qY,Og⟩:=hHa.put (S:=(· = 1)) vm.Δ 0 (.slice E (k+1) Ed) rfl;have II:=((Bp.o.fresh vm (fun q hq e=>by have:=ru q hq;omega)).fresh qY (fun q hq e=>by have:=ru q hq;omega));have hNb:∀q,In (top+M+1) 40 q->q≠2/\q≠1:=fun q hq=>by have:=Hht.o;unfold In at hq;omega
    have amv:=HPl.o;refine⟨k+1,_,E,Ed,aW bs4 k pb,aW ts4 k (top+M+1),top+M+41,k,cR,η,II,Og,?_,(HN6.o.ο vm η η η).ο qY η η η,(HC6.o.ο vm η).ο qY η,(HP6.o.ο vm η).ο qY η,⟨by have:=Hht.o;omega,fun i hi=>?_,fun i j yh hj=>?_⟩,fun i hi=>?_,fun i hi q hq=>?_⟩
    .refine(QL.ο qY η).to ?_
     rw[List.range_succ,List.map_append,List.map_cons,List.map_nil,aH,Hu9.o];congr 1
     apply rQ;intro i hi;rw[az _ _ (by have:=nB.1 hi;omega)]
    .by_cases e:i=k
     .subst e;rw[aH];have:=Hht.o;omega
     .rw[az _ _ e];have:=Hts.o i η;omega
    .have hik:i≠k:=by omega
     rw[az _ _ hik];by_cases e:j=k
     .subst e;rw[aH];have:=Hts.o i η;omega
     .rw[az _ _ e];exact Htd.o i j yh η
    .by_cases e:i=k
     .subst e;rw[aH,aH];exact(amv.ο aT.workers (mj i jk) vm η (fun q hq=>(hNb q hq).1)).ο aT.workers (mj i jk) qY η (fun q hq=>(hNb q hq).2)
     .rw[az _ _ e,az _ _ e];have aiV:=(Hts.o i η).1;exact((amt.o i η).ο aT.workers (mj i η) vm η (fun q hq e=>WB)).ο aT.workers (mj i η) qY η (fun q hq e=>WB)
    .by_cases e:i=k
     .subst e;rw[aH];have:=HMT.o q hq;omega
     .rw[az _ _ e];exact Hab.o i η q hq
   case measure=>exact dB
  .obtain rfl:k=cf.n:=by omega
   have c0:=hH.zc 0;have hmz:(cP cf.n (kD none 0 0)).toArray=Array.replicate cf.n (kD none 0 0):=bT;obtain⟨vm,QL⟩:=Row.fresh hu4 (Own.made wr wr.heap.size 152 1 (cP cf.n (kD none 0 0)) cf.n (aq _) iQ bT) (Ext.alloc _ _) 3;rw[hmz]at vm QL;have hHa:=hH.ο vm (fun h=>h);have c2:=hHa.zc 2;have f2:=hHa.free 2;obtain⟨qY,Og⟩:=hHa.put (S:=(· = 1)) vm.Δ 2 (.slice (some ⟨wr.heap.size,0,none⟩) cf.n cf.n) rfl;have Bo:=θ (((hT.trans vm)).fresh qY (fun q hq e=>by have:=ru q hq;omega));have HHb:=θ Og;have HRb:=θ (QL.ο qY η);have HR4:=θ ((hR.ο vm (fun h=>h)).ο qY η);have HN4:=θ ((hN.ο vm (fun h=>h) (fun h=>h) (fun h=>h)).ο qY η η η);have mj:(Cr.new cf.n cf.Ω).ls.length<=8:=by simp only[Cr.new,gO];exact jW
   have amw:=θ (show ∀i,i<cf.n->bJ ah _ _ (ts4 i) (bs4 i) cf i tp l (Cr.new cf.n cf.Ω) 10 from fun i hi=>((qx i hi).ο aT.workers mj vm (fun h=>h) (fun _ _ h=>h)).ο aT.workers mj qY η (fun q hq e=>by have:=(zL i hi).1;unfold In at hq;omega));have Hts:=θ zL;have Htd:=θ htd;clear hT hH hR hN hC hP qx zL htd vm QL hHa qY Og hmz;go_wp2;go_ret2
   refine⟨_,rfl,_,Bo.o,mb,⟨nb,PA,lc,some ⟨wr.heap.size,0,none⟩,cf.n,bs4,ts4,fun _=>(none,0),14⟩,rfl,⟨HHb.o,HR4.o,?_,fun i hi=>Row.dR _ _ _ _ _,HN4.o,⟨aq _,fun i hi=>(Hts.o i hi).1⟩,fun i j yh hj=>Htd.o i j yh hj,fun i hi=>amw.o i hi⟩,Hab.o⟩;refine HRb.o.to ?_;show cP cf.n (kD none 0 0)=(dJ cf.n).map fun i=>kD none 0 0
   rw[List.map_const'];simp
end
theorem nU{P:Program}{f:FuncId}{args:Array ξ}{err:Nat}{Q:κ->Tg->Prop}(h:τ P f args w (Does S w T (err:ξ) Q)):τ P f args w (cG S w T fun v w' T'=>(∃n:Nat,v=.int .i64 (n:Nat)/\n=err)/\Q w' T') :=
 h.mono fun e w' ⟨h1,T',hT,hQ⟩=>⟨_,h1,T',hT,⟨err,rfl,rfl⟩,hQ⟩
section
variable {ah:Bool}{w w' w0:κ}{T T':Tg}{b:Nat}{cf:Cf}{tp:aD}{ops:List dM}{W W':Wd}{B:Nat}
section
variable(h:ef w T b cf tp ops ah m W B)(hu:Θ w T)(aT:jA cf)(Gn:∀i,i<cf.n->bz cf i (W1.ps i) [])(GV:∀i,i<cf.n->(W1.log i).length<=1000000000)(fn a bb n:Int)
include h hu aT Gn GV
theorem Be(E:Nat->Prop)(rP:((fn=1\/fn=2\/fn=8\/fn=7)/\∀wb,Ext w wb->τ prog 80 #[π b,dy fn a bb n] wb (cG (mS m.k0) wb T fun v w' T'=>(∃err:Nat,v=.int .i64 (err:Nat)/\E err)/\ef w' T' b cf tp ops ah m W1 B1))\/((fn=3\/fn=5\/fn=4\/fn=6)/\∀wb,Ext w wb->τ prog 81 #[π b,dy fn a bb n] wb (cG (mS m.k0) wb T fun v w' T'=>(∃err:Nat,v=.int .i64 (err:Nat)/\E err)/\ef w' T' b cf tp ops ah m W1 B1))\/((fn<=0\/9<=fn)/\E 1/\W1=W/\B1=B)):τ prog 52 #[π b,dy fn a bb n] w (cG (mS m.k0) w T fun v w' T'=>(∃err:Nat,v=.int .i64 (err:Nat)/\E err)/\∃uQ,ef w' T' b cf tp ops ah {m with hs:=uQ} W1.told B1):=by
 have HM:=θ h;have aip:=θ rP;have x0:=Ext.alloc w (.cells #[fn,a,bb,n] 59);have hb:=(Has.new w T [fn,a,bb,n] 59 rfl);rw[hu _ (aq _)]at hb;have o6:=θ (Ξ.ai (mS m.k0) hu x0);unfold dy π at*;clear h rP hu;go_enter func52,ntmps52;go_upto_region 1 with fail
 generalize hW:aB w _=W0 at*;generalize w.heap.size=gs at*;clear hW;have k0:=hb.zc 0;have k1:=hb.zc 1;have k2:=hb.zc 2;have k3:=hb.zc 3;go_upto_block 0 with fail
 go_cut [5] (fun v wx=>∃T1,(∃err:Nat,v=.int .i64 (err:Nat)/\E err)/\Ξ (mS m.k0) w T wx T1/\ef wx T1 b cf tp ops ah m W1 B1)
 case first =>
  rcases aip.o with ⟨JU,hC⟩|⟨JU,hC⟩|⟨JU,he,hw,hB⟩
  .have HC:=θ hC
   clear hC;rcases JU with rfl|rfl|rfl|rfl
   all_goals
    go_wp2_with fail;refine(HC.o W0 x0).mono ?_;rintro e w1 ⟨v1,rfl,T1,cw,⟨err,rfl,hE⟩,rH⟩;have HE:=θ hE;have Mv:=θ rH;have l8:=θ (o6.o.trans cw);clear rH cw hE;go_wp2_with fail;go_meet
    exact⟨T1,⟨err,rfl,HE.o⟩,l8.o,Mv.o⟩
  .have HC:=θ hC
   clear hC;rcases JU with rfl|rfl|rfl|rfl
   all_goals
    go_wp2_with fail;refine(HC.o W0 x0).mono ?_;rintro e w1 ⟨v1,rfl,T1,cw,⟨err,rfl,hE⟩,rH⟩;have HE:=θ hE;have Mv:=θ rH;have l8:=θ (o6.o.trans cw);clear rH cw hE;go_wp2_with fail;go_meet
    exact⟨T1,⟨err,rfl,HE.o⟩,l8.o,Mv.o⟩
  .have Mv:=θ (show ef W0 T b cf tp ops ah m W1 B1 by rw[hw,hB];exact HM.o.ext x0)
   have He:=θ he;have e1:(fn==1)=false:=kO;have e2:(fn==2)=false:=kO;have e3:(fn==3)=false:=kO;have e4:(fn==4)=false:=kO;have e5:(fn==5)=false:=kO;have e6:(fn==6)=false:=kO;have e7:(fn==7)=false:=kO;have e8:(fn==8)=false:=kO;clear he hw hB JU;go_wp2_with fail;go_meet
   exact⟨T,⟨1,rfl,He.o⟩,o6.o,Mv.o⟩
 case rest =>
  obtain⟨T1,⟨err,rfl,hE⟩,cw,rH⟩:=hcut;have HE:=θ hE;clear hE;have BR:=aT.n2;have jW:=aT.n8;obtain⟨i0,hi,dx,dA,dN⟩:=info_parts J7;obtain⟨g,D8,_⟩:=rH.row.at_ (aO cf.n _ (show 0<cf.n by omega));obtain⟨gE,fN,_⟩:=rH.bx.at_ (aO cf.n _ (show 0<cf.n by omega));have c0:=rH.hd.zc 0;rw[D8]at c0;have HgA:=θ D8;have HgE:=θ fN;have Mv:=θ rH;have l8:=θ cw;have Hk1:=θ Gn;have acy:=θ GV;clear rH cw D8 fN hb k0 k1 k2 k3 Gn GV;go_upto_region 16 with fail
  go_loopw [33] (fun iv wr=>∃(j:Nat) (T':Tg) (uQ:Nat->Option Addr×Nat),iv=.int .i64 (j:Nat)/\j<=cf.n/\Ξ (mS m.k0) w T wr T'/\ef wr T' b cf tp ops ah {m with hs:=uQ} (fZ W1 j) B1) (fun iv _=>cf.n-(intOf iv).toNat)
  case atStart=>exact⟨0,T1,m.hs,rfl,aM _,l8.o,Mv.o.start⟩
  case round =>
   obtain⟨j,T2,xE,rfl,hj,bq,nE⟩:=hrel;have hu:=bq.Δ;by_cases mX:j<cf.n
   .have jF:=dQ ((j:Int)<(cf.n:Int))
    obtain⟨g',lY,cA0,_,_⟩:=nE.row.at_ (aO cf.n _ mX);have Oa:g'=g:=by
     have h9:m.A=some ⟨g',0,none⟩:=lY;rw[HgA.o]at h9;cases h9
     rfl
    rw[Oa]at cA0;obtain⟨gE',acz,cE0,fE,tE⟩:=nE.bx.at_ (aO cf.n _ mX);have acA:gE'=gE:=by
     have h9:m.EA=some ⟨gE',0,none⟩:=acz;rw[HgE.o]at h9;cases h9
     rfl
    rw[acA]at cE0 tE;have cE:wr.cell? (gE,j)=some (.slice (xE j).1 (W1.log j).length (xE j).2):=by rw[cE0];show some (kD (xE j).1 ((fZ W1 j).log j).length (xE j).2)=_;rw[xJ]
    have cA:wr.cell? (g,j)=some (.iface (Vw ah) (.pointer (m.bs j,0))):=by rw[cA0];exact congrArg some (Bd ah (m.bs j))
    have c2:wr.cell? (b,2)=some (.slice gE cf.n m.ec):=by
     have h9:=nE.hd.zc 2;rw[h9];show some (kD m.EA cf.n m.ec)=_
     rw[HgE.o]
    have qY:T2 b=1:=nE.hd.1;have mz:Row wr T2 (4+j) 197 1 (xE j).1 (W1.log j).length (xE j).2 ((W1.log j).map wZ):=by have h9:=nE.ev j mX;rw[xJ]at h9;exact h9
    have La:bJ ah wr T2 (m.ts j) (m.bs j) cf j tp ops (W1.ps j) B1:=by have h9:=nE.ps j mX;rw[wF]at h9;exact h9
    have Ot:14<=m.ts j:=nE.ts0 j mX;have hCr:=Hk1.o j mX;have mj:(W1.ps j).ls.length<=8:=by rw[hCr.len];exact jW
    have acB:∀i,i<cf.n->((fZ W1 j).ps i).ls.length<=8:=fun i hi=>by
     have h9:((fZ W1 j).ps i).ls=(W1.ps i).ls:=by
      show(if i<j then {W1.ps i with bx:=[]} else W1.ps i).ls=_
      split<;>rfl
     rw[h9,(Hk1.o i hi).len];exact jW
    have V3:=hCr.bx;have VJ:=acy.o j mX;have cU:∀q,bn (xE j).1=some q->T2 q=4+j:=mz.2;have mm:=aah ah (m.bs j);have ee:=aai ah (m.bs j);have rG:=θ nE;have jr:=θ bq;have ahd:=θ mz;have HPl:=θ La;have HCr:=θ hCr;have ahe:=θ acB;have Ko:tlC T2 ⟨b,2,none⟩:=Or.inl qY;have hg8:tlC T2 ⟨gE,j,none⟩:=Or.inr tE;have Hg9:=θ Ko;have Hg8:=θ hg8;have aiq:=θ (tlP.aQ (ah:=ah) (B:=B1) (tp:=tp) (ops:=ops) (q:=m.bs j) (c:=W1.ps j) Ot (show j<8 by omega) aT.workers mj hu);have air:=θ (tlQ.aQ (ah:=ah) (B:=B1) (tp:=tp) (ops:=ops) (q:=m.bs j) (n:=(W1.log j).length+(W1.ps j).bx.length) (xs:=(W1.log j).map wZ++(W1.ps j).bx.map wZ) (c:=W1.ps j) Ot (show j<8 by omega) aT.workers mj hu);clear nE bq mz La hCr acB cA0 cE0 fE lY acz Oa acA qY Ko hg8;go_upto_region 18 with fail
    apply Ar 15 (yR (Nz (m.ts j) j) (tlC T2) T2) (Dh (Nz (m.ts j) j) (tlC T2) T2) (yJ (Nz (m.ts j) j) T2 _) (yJ.start _ _ _);simp only[tk];repeat apply gF (fun _ h _ _=>aj (h.cell Hg9.o c2) (h.cell Hg8.o cE))
    apply BB (p:=fun v W=>wr.heap.size<=W.heap.size/\tlP ah T2 (m.ts j) (m.bs j) cf tp ops (W1.ps j) B1 j v W) Γ Γ aiq.o
    .rfl
    .intro W;go_simp;first|exact⟨rfl,rfl⟩|exact ee W
    .intro W hR hJ υ
     have hTJ:=oR.ο hJ hu;have pN:∀k,In (m.ts j) 40 k->¬ ∃i,i≠13/\Nz (m.ts j) j i k:=fun k hk ⟨i,h1,h2⟩=>QK Ot η h1 hk h2;have hP:=HPl.o.ο aT.workers mj hTJ (fun⟨i,_,h⟩=>D9 cN η h) pN;refine(Nv hP HCr.o hTJ.Δ).mono ?_;rintro e w' ⟨v,rfl,T',GM,EA,ec,rfl,⟨tt,JT,fO⟩,rfl,fV,hP'⟩;have h1:oR (In (m.ts j) 40) T' W w':=fY.uk GM;have h2:GO (tlC T') W w':=fun p u hp hc=>h1.cell hc (fun h=>by unfold In at h;rcases hp with hp|hp<;>omega)
     exact⟨_,rfl,⟨h1.mono fun k hk=>⟨13,.inl ⟨rfl,hk⟩⟩,h2⟩,⟨h1.mono fun k hk=>.inl ⟨rfl,hk⟩,h2⟩,aF hR.1.size GM.size,EA,ec,rfl,⟨tt,JT,fO⟩,hP'⟩
    intro YQ;simp only[pu];apply G5 (p:=yP wr T2 (tlQ ah wr T2 (m.ts j) (m.bs j) cf tp ops (W1.ps j) B1 j ((W1.log j).length+(W1.ps j).bx.length) ((W1.log j).map wZ++(W1.ps j).bx.map wZ))) Γ Γ (fun i hi hb=>air.o i (by rintro rfl;exact absurd hb Γ) hi)
    .rfl
    .intro W hR hJ υ;exact Vy _ _ rfl hi dx dA dN Ot η aT.workers mj rfl (xv:=YQ) rfl (υ.1 rfl) hu ahd.o hJ VJ V3
    intro v14;simp only[pu];refine aP ?_;intro Wx hR gT υ;obtain⟨T3,ht3,Of,E,Ed,rfl,ake,akf⟩:=υ.1 rfl;clear υ gT;simp only[dk];have cT:Ξ (fun k=>∃i,Nz (m.ts j) j i k) wr T2 Wx T3:=⟨hR.1.os,hR.1.tape,hR.1.output,hR.1.size,hR.1.block,ht3,Of⟩;have akg:=rG.o.bx.ο cT (fun⟨i,h⟩=>D9 cN η h);obtain⟨gx,N0,cx,fx,_⟩:=akg.at_ (aO cf.n _ mX);have acC:gx=gE:=by
     have h9:m.EA=some ⟨gx,0,none⟩:=N0;rw[HgE.o]at h9;cases h9
     rfl
    rw[acC]at cx fx;have hMt:=θ (rG.o.tell aT ahe.o mX HgE.o cT ake akf);clear hR cT akg N0 ake akf acC c2 cE cA;go_wp2;go_roundw
    case rel=>exact⟨j+1,T3,aW xE j (E,Ed),cR,η,jr.o.trans hMt.o.1,hMt.o.2⟩
    exact dB
   .obtain rfl:j=cf.n:=by omega
    have rG:=θ nE;have jr:=θ bq;clear nE bq;go_wp2;go_ret;exact⟨_,rfl,T2,jr.o,⟨err,rfl,HE.o⟩,_,rG.o.told⟩
theorem wJ(err:Nat)(rP:((fn=1\/fn=2\/fn=8\/fn=7)/\∀wb,Ext w wb->τ prog 80 #[π b,dy fn a bb n] wb (Does (mS m.k0) wb T (err:ξ) fun w' T'=>ef w' T' b cf tp ops ah m W1 B1))\/((fn=3\/fn=5\/fn=4\/fn=6)/\∀wb,Ext w wb->τ prog 81 #[π b,dy fn a bb n] wb (Does (mS m.k0) wb T (err:ξ) fun w' T'=>ef w' T' b cf tp ops ah m W1 B1))\/((fn<=0\/9<=fn)/\err=1/\W1=W/\B1=B)):τ prog 52 #[π b,dy fn a bb n] w (Does (0 < ·) w T (err:ξ) fun w' T'=>xI w' T' b cf tp ops ah W1.told B1):=by
 refine(Be h hu aT (W1:=W1) (B1:=B1) Gn GV fn a bb n (· = err) ?_).mono ?_
 .rcases rP with ⟨h1,h2⟩|⟨h1,h2⟩|⟨h1,h2,h3⟩
  .exact .inl ⟨h1,fun wb e=>nU (h2 wb e)⟩
  .exact .inr (.inl ⟨h1,fun wb e=>nU (h2 wb e)⟩)
  .exact .inr (.inr ⟨h1,h2.symm,h3⟩)
 .rintro e w' ⟨v,rfl,T',hT,⟨anX,rfl,rfl⟩,uQ,hM⟩;exact⟨rfl,T',hT.mono fun k hk=>hk.1,_,hM⟩
end
end
section
variable {ah:Bool}{w w' w0:κ}{T T':Tg}{b:Nat}{cf:Cf}{tp:aD}{ops:List dM}{W W':Wd}{B:Nat}{m:Mb}
theorem Bf(hH:Has w T 1 b [.slice m.A cf.n m.lc,π m.nb,.slice m.EA cf.n m.ec])(hR:Row w T 2 40 1 m.A cf.n m.lc ((dJ cf.n).map fun i=>pv ah (m.bs i)))(hp:p<cf.n):τ prog 14 #[π b,p] w fun e w'=>e=.returned (.iface (Vw ah) (.pointer (m.bs p,0)))/\w'=w:=by have c0:=hH.zc 0;obtain⟨g,hg,cg,_,_⟩:=hR.at_ (aO cf.n _ hp);have hmx:=hR.rd.2.1;have e1:=dh (cf.n<=p);have e2:=dh ((p:Int)<0);rw[Bd]at cg;generalize (SU (Vw ah) (.pointer (m.bs p,0)))=v at*;rw[hg]at c0;unfold π at*;clear hH hR hg;go_enter func14,ntmps14;go_wp2;go_ret;exact⟨rfl,rfl⟩
def wK(c:Cr):Nat:=if c.closed then 6 else 0
def adP(W:Wd)(i:Nat)(k:Pk):Wd:={W with ps:=aW W.ps k.dst ((W.ps k.dst).recv k.dst k),au:=W.au.eraseIdx i}
section
variable(h:ef w T b cf tp ops ah m W B)(hk:FZ cf tp ops W B)(hu:Θ w T)(hi:i<W.au.length)(hn:W.au.length<=300)(NI:∀k∈W.au,mw k)
include h hk hu hi hn NI
theorem NJ(kN:W.au[i].dst<cf.n)(iF:W.au[i].src<cf.n)(js:bz cf W.au[i].dst ((W.ps W.au[i].dst).recv W.au[i].dst W.au[i]) [])(IP:W.au[i].iA=false->W.au[i].first<=((W.ps W.au[i].dst).ls.getD W.au[i].src []).length/\W.au[i].first+W.au[i].ν.length<=1000)(hQ:eS tp ops cf ((W.ps W.au[i].dst).recv W.au[i].dst W.au[i]))(fn x y:Int)(JU:(fn=3/\kK=W.au.eraseIdx i)\/(fn=5/\kK=W.au)):τ prog 81 #[π b,dy fn x y (i:Nat)] w (Does (mS m.k0) w T ((wK (W.ps W.au[i].dst):Nat):ξ) fun w' T'=>ef w' T' b cf tp ops ah m {W with ps:=aW W.ps W.au[i].dst ((W.ps W.au[i].dst).recv W.au[i].dst W.au[i]),au:=kK} (B+20)):=by
 have akh:=NI _ (dH hi);have V2:=θ fun W2 (e:Ext w W2)=>FG (h.au.ext e) NI hi;have Hdr:=θ fun W2 (e:Ext w W2)=>MZ (h.au.ext e) (hu.ext e) η hn hi;have HM:=θ h;have Hk:=θ hk;have HU:=θ hu;have Hk':=θ js;have HQ:=θ hQ;have Hf9:=θ IP;have amx:=θ akh;generalize I1:W.au[i]=k at*;have c1:=h.hd.zc 1;have x0:=Ext.alloc w (.cells #[fn,x,y,i] 59);have hb:=(Has.new w T [fn,x,y,i] 59 rfl);rw[hu _ (aq _)]at hb;have qY:T b=1:=h.hd.1;unfold dy π at*;clear h hk hu js hQ IP akh;go_enter func81,ntmps81;go_upto_region 1 with fail
 generalize hW:aB w _=W0 at*;generalize w.heap.size=gs at*;clear hW;replace c1:=x0.cell c1;have k0:=hb.zc 0;have k3:=hb.zc 3;have HC:∀W2,Ext W0 W2->τ prog 82 #[.pointer m.nb,i] W2 fun e w'=>(∃us,e=.returned (.tuple #[.agg us.toArray,.bool true])/\Gl k.src k.dst W0.heap.size (aG cf.id k) us w')/\Ext W2 w':=fun W2 e=>by refine(V2.o W2 (x0.trans e)).mono ?_;rintro e9 w' ⟨B,bd,rfl,ho,e'⟩;exact⟨⟨_,rfl,B,bd,rfl,Rb.of ho.rd rfl,fun q hq=>aF e.size (ho.ax q hq)⟩,e'⟩
 have HC:=θ HC;apply jx (F1:=99) (F2:=99) (R:=fC W0.heap.size) (Rs:=Ut 11 10 W0.heap.size 176) (J:=fun _ _=>True) ey ey (nV _) (fun _ _ W=>.inl (Ext.refl W)) (fun _ _ h=>h.size) (fun _ _ _ _ _ _ _ _ _=>trivial) (fun _ _ _=>Wt) (fC.lQ (Ext.drew _) (aq _)) (fun _=>trivial);intro σ;apply vS (fun _ _ _ _=>trivial);apply vS (fun _ _ _ _=>trivial);apply vS (fun _ _ _ _=>trivial);apply vS (fun _ h _ _=>(fC.jZ h).cell c1);apply vS (fun _ _ _ _=>trivial);apply vS (fun _ h _ _=>(fC.jZ h).cell k3);apply lcS (p:=R8 6 (fun us=>.tuple #[.agg us.toArray,.bool true]) (Gl k.src k.dst W0.heap.size (aG cf.id k))) Γ Γ (R8.keeps (Gl.aQ _ _ _ _ _))
 .intro W hR hJ υ;refine(HC.o W (fC.jZ hR)).mono ?_;rintro e w' ⟨⟨us,rfl,hg⟩,ee⟩;exact⟨_,rfl,fC.lQ ee hR.size,.inl ee,us,iS,hg⟩
 simp only[pu];apply jy (p:=R8 7 (fun us=>.tuple #[.agg us.toArray,.bool true]) (Gl k.src k.dst W0.heap.size (aG cf.id k))) Γ Γ (R8.keeps (Gl.aQ _ _ _ _ _))
 .rfl
 .intro W hR hJ υ;obtain⟨us,e1,hg⟩:=υ.1 rfl;refine⟨_,W,?_,nV _ _,.inl (Ext.refl _),us,iS,hg⟩;simp only[e1];go_simp;first|done|rfl
 simp only[pu];apply jy (p:=R8 8 (fun us=>.agg us.toArray) (Gl k.src k.dst W0.heap.size (aG cf.id k))) Γ Γ (R8.keeps (Gl.aQ _ _ _ _ _))
 .rfl
 .intro W hR hJ υ;obtain⟨us,e1,hg⟩:=υ.1 rfl;refine⟨_,W,?_,nV _ _,.inl (Ext.refl _),us,iS,hg⟩;simp only[e1];go_simp;first|done|rfl
 simp only[pu];apply kj (u:=.bool true) Γ Γ (nV _) (fun _ _ W=>.inl (Ext.refl W))
 .rfl
 .intro W hR hJ υ;obtain⟨us,e1,hg⟩:=υ.2.1 rfl;simp only[e1];go_simp;first|done|rfl
 simp only[pu];apply jy (p:=gmA W0.heap.size 10 176) Γ Γ gmA.keeps
 .rfl
 .intro W hR hJ υ;refine⟨.pointer W.heap.size,W.alloc (.cells zM.toArray 176),?_,fC.lQ (Ext.alloc _ _) hR.size,.inl (Ext.alloc _ _),W.heap.size,iS,hR.size,zM,⟨_,_,_,_,_,rfl⟩,heap_alloc_new W _⟩;unfold zM;go_simp;first|done|rfl
 simp only[pu];apply nM (p:=gmS W0.heap.size 10 176 (Gl k.src k.dst W0.heap.size (aG cf.id k))) Γ Γ (gmS.keeps (Gl.aQ _ _ _ _ _) ey)
 .rfl
 .intro W hR hJ υ;obtain⟨g8,e8,hm8,hs8⟩:=υ.1 rfl;obtain⟨us,e1,hg⟩:=υ.2.1 rfl;obtain⟨W2,r1,r2,r3,r4⟩:=Mq (P:=prog) (K:=11) (al:=10) (m:=W0.heap.size) (σ:=σ) (Gl.aQ _ _ _ _ _) fq hm8 hs8 hg e8 Γ;exact⟨W2,r1 _ _ _ _ rfl e8 e1,r2 hR.size,r3,r4⟩
 simp only[Act.put];apply vS (fun _ _ _ _=>trivial);refine sX ?_;intro Wx hR gT υ;obtain⟨gx,us,e8,N0,hG8,Mf⟩:=υ.1 rfl;have ak:=fC.jZ hR;clear υ gT hR;rw[e8];generalize σ 6=s6 at*;generalize σ 7=s7 at*;generalize σ 8=s8 at*;generalize σ 10=s10 at*;generalize σ 11=s11 at*;clear e8;obtain⟨MB,md,rfl,U7,C8⟩:=hG8;have ahf:T gs=0:=hb.1;have aki:T gx=0:=HU.o gx (aF x0.size N0);have yz:Has Wx T 0 gx [k.src,k.dst,.slice MB (aG cf.id k).length md]:=⟨aki,_,Mf⟩;have xw:=x0.trans ak;have k0:=ak.cell k0;have k3:=ak.cell k3;have c1:=ak.cell c1;have hu:=HU.o.ext xw;have Vd:∀W2,Ext Wx W2->τ prog 115 #[.pointer m.nb,i] W2 (cG (In 12 2) W2 T fun v w' T'=>v=.bool true/\jS w' T' 12 m.nb cf.id (W.au.eraseIdx i)):=fun W2 e=>by refine(Hdr.o W2 (xw.trans e)).mono ?_;rintro e w' ⟨rfl,T',hT,hN⟩;exact⟨_,rfl,T',hT,rfl,hN⟩
 have Vd:=θ Vd;have Je:Grow (fun v w' T'=>v=.bool true/\jS w' T' 12 m.nb cf.id (W.au.eraseIdx i)):=by rintro v w T w' ⟨h1,h2⟩ e;exact⟨h1,h2.ext e⟩
 have pF:¬In 12 2 (T b):=by rw[qY];unfold In;omega
 have uA:¬In 12 2 (T gs):=by rw[ahf];unfold In;omega
 have HB8:=θ yz;have Oo:=θ (show Sb Wx T MB (aG cf.id k).length md (aG cf.id k) from⟨U7,fun _ q hq=>HU.o q (aF x0.size (C8 q hq))⟩);have Hxw:=θ xw;have o6:=θ (Ξ.ai (mS m.k0) HU.o xw);clear hb Mf N0 C8 U7 ak x0 xw yz aki HC;have HM0:=θ (HM.o.ext Hxw.o);rcases JU with ⟨rfl,F5⟩|⟨rfl,F5⟩
 case' inl =>
  go_upto_region 13 with fail
  apply GG (oR (In 12 2) T) (Bj 6 (In 12 2) T) (oJ 6 _) (oJ.start _ _);repeat apply gF (fun _ h _ _=>aj (h.cell c1 pF) (h.cell k3 uA))
  apply uI (p:=oP _ _ _ _) Γ Γ (oP.aQ Je _)
  .intro W hR hJ υ;exact jz hu (hJ rfl) ((Vd.o) W (hJ rfl))
  intro v6;simp only[pu];refine aP ?_;intro Wx hR gT υ;obtain⟨T1,cw,rfl,QD⟩:=υ.1 rfl;clear υ gT;have nE:ef Wx T1 b cf tp ops ah m {W with au:=kK} B:=by rw[F5];exact HM0.o.ag6 Hk.o.ok (fun i hi=>Hk.o.len hi) cw QD
  have hB9:=HB8.o.ο cw cN;have vY:=Oo.o.ο cw cN;have l8:=θ (o6.o.trans (cw.mono (S':=mS m.k0) fun q hq=>aga));have hu:=cw.Δ;clear cw HM0 F5 QD
 case' inr =>
  go_upto_region 14 with fail
  have nE:ef Wx T b cf tp ops ah m {W with au:=kK} B:=by rw[F5];exact HM0.o
  have hB9:=HB8.o;have vY:=Oo.o;clear F5 HM0;obtain⟨T1,cw⟩:∃T1,T=T1:=⟨_,rfl⟩;rw[cw]at nE hB9 vY hu;have l8:Hq (Ξ (mS m.k0) w T Wx T1):=by rw[←cw];exact o6
  clear cw
 all_goals
  have zJ:FZ cf tp ops {W with au:=kK} B:=⟨Hk.o.ok,Hk.o.tp_,Hk.o.cr,Hk.o.big⟩;have Ot:14<=m.ts k.dst:=nE.ts0 _ kN;have N3:=nE.at_ kN;have g1:=hB9.zc 1;have g2:=hB9.zc 2;have mm:=aeM ah (m.bs k.dst);have ee:=aeP ah (m.bs k.dst) (.slice MB (aG cf.id k).length md);have Gg:¬In (m.ts k.dst) 40 (T1 gx):=by rw[hB9.1];unfold In;omega
  have KX:¬In (m.ts k.dst) 40 1:=cN;have BR:¬In (m.ts k.dst) 40 2:=cN;have DX:=θ fun W3 (hR:oR (In (m.ts k.dst) 40) T1 Wx W3)=>Bf (ah:=ah) (nE.hd.mh hR KX) (nE.row.ο (oR.ο hR hu) BR) kN;have Hrc:∀W3,Ext Wx W3->τ prog (SL ah) #[.pointer (m.bs k.dst,0),.slice MB (aG cf.id k).length md] W3 (cG (In (m.ts k.dst) 40) W3 T1 fun v w' T'=>v=.int .i64 (wK (W.ps k.dst):Nat)/\bJ ah w' T' (m.ts k.dst) (m.bs k.dst) cf k.dst tp ops ((W.ps k.dst).recv k.dst k) (B+20)):=fun W3 e=>by refine(Vu ((nE.ps k.dst kN).ext e) k (Hk.o.cr _ kN) Hk'.o (hu.ext e) η Hk.o.tp_ amx.o rfl iF (vY.rb.ext e) Hf9.o HQ.o (by have:=Hk.o.big;omega)).mono ?_;rintro e9 w' ⟨rfl,T',hT,hP⟩;refine⟨_,rfl,T',hT,?_,hP⟩;unfold wK;split<;>rfl
  have Hrc:=θ Hrc;have hgR:Grow (fun v w' T'=>v=.int .i64 (wK (W.ps k.dst):Nat)/\bJ ah w' T' (m.ts k.dst) (m.bs k.dst) cf k.dst tp ops ((W.ps k.dst).recv k.dst k) (B+20)):=by rintro v w T w' ⟨h1,h2⟩ e;exact⟨h1,h2.ext e⟩
  have rG:=θ nE;have Hk2:=θ zJ;clear nE hB9 vY zJ pF uA Je c1 k0 k3 KX BR hn;go_wp2_with fail;apply GG (oR (In (m.ts k.dst) 40) T1) (Bj 6 (In (m.ts k.dst) 40) T1) (oJ 6 _) (oJ.start _ _);repeat apply gF (fun _ h _ _=>h.cell g1 Gg)
  apply nF Γ Γ
  .rfl
  .intro W;go_simp;exact⟨rfl,rfl⟩
  .intro W hR hJ υ
   refine((fun W3 hR=>DX.o W3 hR) W hR).mono ?_;rintro e w' ⟨rfl,ee⟩;have ex:Ext W w':=by first|exact ee|(subst ee;exact Ext.refl _)
   exact⟨rfl,oR.ai ex,.inr ex⟩
  simp only[pu];repeat apply gF (fun _ h _ _=>h.cell g2 Gg)
  apply uI (p:=oP _ _ _ _) Γ Γ (oP.aQ hgR _)
  .intro W hR hJ υ;exact jz hu (hJ rfl) ((Hrc.o) W (hJ rfl))
  intro v9;simp only[pu];repeat apply gF (fun _ _ _ υ=>JX (υ.1 rfl))
  refine aP ?_;intro Wy hR gT υ;obtain⟨T3,cT,rfl,ry⟩:=υ.1 rfl;clear υ gT;have AI:=θ (rG.o.zC Hk2.o kN η cT ry);have jH:=θ (l8.o.trans (cT.mono (S':=mS m.k0) fun q hq=>aga));clear cT ry;go_wp2;go_ret;exact⟨rfl,T3,jH.o,AI.o⟩
theorem VK(x y:Int):τ prog 81 #[π b,dy 4 x y (i:Nat)] w (Does (mS m.k0) w T (.int .i64 ((0:Nat):Int)) fun w' T'=>ef w' T' b cf tp ops ah m {W with au:=W.au.eraseIdx i} B):=by
 have V2:=θ fun W2 (e:Ext w W2)=>FG (h.au.ext e) NI hi;have Hdr:=θ fun W2 (e:Ext w W2)=>MZ (h.au.ext e) (hu.ext e) η hn hi;have HM:=θ h;have Hk:=θ hk;have HU:=θ hu;generalize I1:W.au[i]=k at*;have c1:=h.hd.zc 1;have x0:=Ext.alloc w (.cells #[(4:Int),x,y,i] 59);have hb:=(Has.new w T [(4:Int),x,y,i] 59 rfl);rw[hu _ (aq _)]at hb;have qY:T b=1:=h.hd.1;unfold dy π at*;clear h hk hu I1;go_enter func81,ntmps81;go_upto_region 1 with fail
 generalize hW:aB w _=W0 at*;generalize w.heap.size=gs at*;clear hW;replace c1:=x0.cell c1;have k0:=hb.zc 0;have k3:=hb.zc 3;have HC:∀W2,Ext W0 W2->τ prog 82 #[.pointer m.nb,i] W2 fun e w'=>(∃us,e=.returned (.tuple #[.agg us.toArray,.bool true])/\Gl k.src k.dst W0.heap.size (aG cf.id k) us w')/\Ext W2 w':=fun W2 e=>by refine(V2.o W2 (x0.trans e)).mono ?_;rintro e9 w' ⟨B,bd,rfl,ho,e'⟩;exact⟨⟨_,rfl,B,bd,rfl,Rb.of ho.rd rfl,fun q hq=>aF e.size (ho.ax q hq)⟩,e'⟩
 have HC:=θ HC;apply jx (F1:=99) (F2:=99) (R:=fC W0.heap.size) (Rs:=Ut 11 10 W0.heap.size 176) (J:=fun _ _=>True) ey ey (nV _) (fun _ _ W=>.inl (Ext.refl W)) (fun _ _ h=>h.size) (fun _ _ _ _ _ _ _ _ _=>trivial) (fun _ _ _=>Wt) (fC.lQ (Ext.drew _) (aq _)) (fun _=>trivial);intro σ;apply vS (fun _ _ _ _=>trivial);apply vS (fun _ _ _ _=>trivial);apply vS (fun _ _ _ _=>trivial);apply vS (fun _ h _ _=>(fC.jZ h).cell c1);apply vS (fun _ _ _ _=>trivial);apply vS (fun _ h _ _=>(fC.jZ h).cell k3);apply lcS (p:=R8 6 (fun us=>.tuple #[.agg us.toArray,.bool true]) (Gl k.src k.dst W0.heap.size (aG cf.id k))) Γ Γ (R8.keeps (Gl.aQ _ _ _ _ _))
 .intro W hR hJ υ;refine(HC.o W (fC.jZ hR)).mono ?_;rintro e w' ⟨⟨us,rfl,hg⟩,ee⟩;exact⟨_,rfl,fC.lQ ee hR.size,.inl ee,us,iS,hg⟩
 simp only[pu];apply jy (p:=R8 7 (fun us=>.tuple #[.agg us.toArray,.bool true]) (Gl k.src k.dst W0.heap.size (aG cf.id k))) Γ Γ (R8.keeps (Gl.aQ _ _ _ _ _))
 .rfl
 .intro W hR hJ υ;obtain⟨us,e1,hg⟩:=υ.1 rfl;refine⟨_,W,?_,nV _ _,.inl (Ext.refl _),us,iS,hg⟩;simp only[e1];go_simp;first|done|rfl
 simp only[pu];apply jy (p:=R8 8 (fun us=>.agg us.toArray) (Gl k.src k.dst W0.heap.size (aG cf.id k))) Γ Γ (R8.keeps (Gl.aQ _ _ _ _ _))
 .rfl
 .intro W hR hJ υ;obtain⟨us,e1,hg⟩:=υ.1 rfl;refine⟨_,W,?_,nV _ _,.inl (Ext.refl _),us,iS,hg⟩;simp only[e1];go_simp;first|done|rfl
 simp only[pu];apply kj (u:=.bool true) Γ Γ (nV _) (fun _ _ W=>.inl (Ext.refl W))
 .rfl
 .intro W hR hJ υ;obtain⟨us,e1,hg⟩:=υ.2.1 rfl;simp only[e1];go_simp;first|done|rfl
 simp only[pu];apply jy (p:=gmA W0.heap.size 10 176) Γ Γ gmA.keeps
 .rfl
 .intro W hR hJ υ;refine⟨.pointer W.heap.size,W.alloc (.cells zM.toArray 176),?_,fC.lQ (Ext.alloc _ _) hR.size,.inl (Ext.alloc _ _),W.heap.size,iS,hR.size,zM,⟨_,_,_,_,_,rfl⟩,heap_alloc_new W _⟩;unfold zM;go_simp;first|done|rfl
 simp only[pu];apply nM (p:=gmS W0.heap.size 10 176 (Gl k.src k.dst W0.heap.size (aG cf.id k))) Γ Γ (gmS.keeps (Gl.aQ _ _ _ _ _) ey)
 .rfl
 .intro W hR hJ υ;obtain⟨g8,e8,hm8,hs8⟩:=υ.1 rfl;obtain⟨us,e1,hg⟩:=υ.2.1 rfl;obtain⟨W2,r1,r2,r3,r4⟩:=Mq (P:=prog) (K:=11) (al:=10) (m:=W0.heap.size) (σ:=σ) (Gl.aQ _ _ _ _ _) fq hm8 hs8 hg e8 Γ;exact⟨W2,r1 _ _ _ _ rfl e8 e1,r2 hR.size,r3,r4⟩
 simp only[Act.put];apply vS (fun _ _ _ _=>trivial);refine sX ?_;intro Wx hR gT υ;obtain⟨gx,us,e8,N0,hG8,Mf⟩:=υ.1 rfl;have ak:=fC.jZ hR;clear υ gT hR;rw[e8];generalize σ 6=s6 at*;generalize σ 7=s7 at*;generalize σ 8=s8 at*;generalize σ 10=s10 at*;generalize σ 11=s11 at*;clear e8;have ahf:T gs=0:=hb.1;have xw:=x0.trans ak;have k0:=ak.cell k0;have k3:=ak.cell k3;have c1:=ak.cell c1;have hu:=HU.o.ext xw;have Vd:∀W2,Ext Wx W2->τ prog 115 #[.pointer m.nb,i] W2 (cG (In 12 2) W2 T fun v w' T'=>v=.bool true/\jS w' T' 12 m.nb cf.id (W.au.eraseIdx i)):=fun W2 e=>by refine(Hdr.o W2 (xw.trans e)).mono ?_;rintro e w' ⟨rfl,T',hT,hN⟩;exact⟨_,rfl,T',hT,rfl,hN⟩
 have Vd:=θ Vd;have Je:Grow (fun v w' T'=>v=.bool true/\jS w' T' 12 m.nb cf.id (W.au.eraseIdx i)):=by rintro v w T w' ⟨h1,h2⟩ e;exact⟨h1,h2.ext e⟩
 have pF:¬In 12 2 (T b):=by rw[qY];unfold In;omega
 have uA:¬In 12 2 (T gs):=by rw[ahf];unfold In;omega
 have Hxw:=θ xw;have o6:=θ (Ξ.ai (mS m.k0) HU.o xw);clear hb Mf N0 ak x0 xw HC hG8;go_upto_region 6 with fail
 apply GG (oR (In 12 2) T) (Bj 6 (In 12 2) T) (oJ 6 _) (oJ.start _ _);repeat apply gF (fun _ h _ _=>aj (h.cell c1 pF) (h.cell k3 uA))
 apply uI (p:=oP _ _ _ _) Γ Γ (oP.aQ Je _)
 .intro W hR hJ υ;exact jz hu (hJ rfl) ((Vd.o) W (hJ rfl))
 intro v6;simp only[pu];refine aP ?_;intro Wx hR gT υ;obtain⟨T1,cw,rfl,QD⟩:=υ.1 rfl;clear υ gT;have rG:=θ ((HM.o.ext Hxw.o).ag6 Hk.o.ok (fun i hi=>Hk.o.len hi) cw QD);have l8:=θ (o6.o.trans (cw.mono (S':=mS m.k0) fun q hq=>aga));clear cw QD;go_wp2;go_ret;exact⟨rfl,T1,l8.o,rG.o⟩
theorem VL(kN:W.au[i].dst<cf.n)(iF:W.au[i].src<cf.n)(js:bz cf W.au[i].dst ((W.ps W.au[i].dst).recv W.au[i].dst W.au[i]) [])(IP:W.au[i].iA=false->W.au[i].first<=((W.ps W.au[i].dst).ls.getD W.au[i].src []).length/\W.au[i].first+W.au[i].ν.length<=1000)(hQ:eS tp ops cf ((W.ps W.au[i].dst).recv W.au[i].dst W.au[i]))(x y:Int):τ prog 81 #[π b,dy 3 x y (i:Nat)] w (Does (mS m.k0) w T ((wK (W.ps W.au[i].dst):Nat):ξ) fun w' T'=>ef w' T' b cf tp ops ah m (adP W i W.au[i]) (B+20)) :=
 NJ h hk hu hi hn NI kN iF js IP hQ 3 x y (.inl ⟨rfl,rfl⟩)
end
end
theorem QX:(prog.info? 69).map (fun i=>(i.zero,i.size,i.bytes))=some (some (.agg (cP 32 (af .i32 0)).toArray),32,128):=ey
section
variable {w w':κ}{T T':Tg}{t q cb:Nat}{cf:Cf}{me:Nat}{tp:aD}{l:List dM}{c c':Cr}{m:Nat}
section
variable(h:wH w T t q cb cf me tp l c c.front)(hk:bz cf me c [])
include h hk
theorem NK:τ prog 119 #[π q] w (Shown w (aC tp l c.ls c.front) c.front):=by
 have hG:=fA tp l c.ls c.front;have sI:=θ fun W (e:Ext w W)=>l9 (h.core.ext e) hk.len (by have:=hk.ok.n2;omega) hk.ok.n8;have nK:=θ fun W=>zg W (aC tp l c.ls c.front) hG;have oh:((aC tp l c.ls c.front).map (af .i32)).length=32:=OA;obtain⟨⟨A,n,d,h1,_⟩,_⟩:=id h;unfold iH at h1;unfold jj at*;generalize (aC tp l c.ls c.front).map (af .i32)=g1 at*;have b0:=h1.zc 0;have bg:∀i v,g1[i]?=some v->w.cell? ⟨q,6+i,none⟩=some v:=fun i v hv=>h1.cell (by rw[ij bT,show 6+i-_=i from by simp];exact hv);unfold π at*;generalize aC tp l c.ls c.front=G at*;clear h1 hk hG h;go_enter func119,ntmps119;go_wp2_with fail;apply lG 10;simp only[tk];repeat apply iO (fun _ _ _=>trivial)
 apply lT (u:=.agg g1.toArray) Ext.refl
 .rfl
 .intro W hR υ;exact fU 69 (.tmp 6) rfl rfl underlying69 kH oh (fun i v h=>hR.cell (bg i v h))
 simp only[pu];apply BC (p:=fun u W=>∃B d,u=.slice B 128 d/\Rb W B 128 d (kC G)) (fun _ _ _ ⟨B,bd,hv,h1⟩ he=>⟨B,bd,hv,h1.ext he⟩)
 .intro W hR υ;refine(nK.o W).mono ?_;rintro e w' ⟨B,bd,rfl,ho,he⟩;exact⟨_,rfl,he,B,bd,rfl,ho⟩
 intro v1;simp only[pu];repeat apply nh b0
 apply jD (fun W hR=>sI.o W hR);refine lex_nil ?_;intro Wx ak υ;obtain⟨B,bd,rfl,hB⟩:=υ.1 rfl;clear υ;simp only[dk];go_wp2;go_ret2
 exact⟨B,bd,rfl,hB,ak⟩
theorem aao(mY:tp.length<=1099511627776):τ prog 120 #[π q] w (Shown w (Nw tp l cf me c) (Nx me c)):=by
 have hG:=fA tp l c.ls c.front;have hlen:=hk.len;have jW:=hk.ok.n8;have h2:=hk.ok.n2;have iU:=hk.dW;have lD:me<c.ls.length:=by rw[hk.len];exact hk.me
 have sS:c.head me<=1000:=by
  have:(c.head me)=c.ls[me].length:=by simp[Cr.head,Cr.nr,List.getD_eq_getElem?_getD,lD]
  rw[this];exact hk.short _ (dH lD)
 have og:vl cf.bD cf.order:=hk.ok.by_;have ZK:=θ fun W (e:Ext w W)=>NK (h.ext e) hk;have Qn:=θ fun W (e:Ext w W)=>Fp (h.core.ext e) hk.len hk.me;have sI:=θ fun W (e:Ext w W)=>l9 (h.core.ext e) hk.len η hk.ok.n8;obtain⟨x,hx⟩:=h.core;obtain⟨⟨A,n,d,h1,h3⟩,_⟩:=id h;have b0:=h1.zc 0;have Hq:=θ h1.lt;have lK:=(fI hx.hd).lK;rw[←hlen]at lK;unfold Nw Nx;unfold π at*;by_cases hle:c.head me<=c.front
 .rw[if_pos hle,if_pos hle]
  have e1:=dQ (c.head me<=c.front) hle;have E7:=dQ ((c.head me:Int)<=(c.front:Int));clear h1 h3 h hk hG hlen hle hx lK;generalize c.head me=hd at*;generalize U2:c.front=fr at*;clear U2;go_enter func120,ntmps120;go_wp2_with fail;apply iL trivial;repeat apply nh b0
  apply jD (fun W hR=>Qn.o W hR);repeat apply nh b0
  apply jD (fun W hR=>sI.o W hR);repeat apply iO (fun _ _ _=>trivial)
  refine jq fun Wx ak=>?_;have xa:=ak;clear ak;go_wp2_with fail;refine(ZK.o _ xa).mono ?_;rintro e w3 ⟨B,bd,rfl,hB,e3⟩;go_wp2;go_ret2
  exact⟨B,bd,rfl,hB,xa.trans e3⟩
 .rw[if_neg hle,if_neg hle]
  obtain⟨i0,hi,dx,dA,dN⟩:=info_parts QX;have DK:(cP 32 (af .i32 0)).length=32:=bT;have e1:=dh (c.head me<=c.front) hle;have E7:=dh ((c.head me:Int)<=(c.front:Int));have Fe:pI (mU tp l cf.bD cf.order me c):=jc tp l _ _ hG;have N1:(gD cf.bD cf.order c.ls (c.head me)).length<=1000:=by rw[yQ];omega
  have sJ:Ro w A n d l:=h3.1;have yu:=θ fun W (e:Ext w W) PA pn pc (hp:Rp W PA pn pc (gD cf.bD cf.order c.ls (c.head me)))=>Uh W tp A n d l (c.front:Nat) PA pn pc (gD cf.bD cf.order c.ls (c.head me)) (aC tp l c.ls c.front) mY (sJ.ext e) hp hG η η N1;rw[show eG tp l (c.front:Nat) (aC tp l c.ls c.front) (gD cf.bD cf.order c.ls (c.head me))=mU tp l cf.bD cf.order me c from rfl]at yu;have nK:=θ fun W=>zg W (mU tp l cf.bD cf.order me c) Fe;have Hah:=θ fun W (e:Ext w W)=>KG (hx.ln.ext e) (by rw[hlen];exact jW) Bu hk.short og (c.head me) sS (by show c.front<c.head me;omega);have oh:((aC tp l c.ls c.front).map (af .i32)).length=32:=OA;have vp:((mU tp l cf.bD cf.order me c).map (af .i32)).length=32:=by rw[List.length_map,Fe.1]
  have eo:∀u∈(mU tp l cf.bD cf.order me c).map (af .i32),u.oneCell'=true:=by intro u hu;obtain⟨x,_,rfl⟩:=List.mem_map.1 hu;rfl
  clear ZK h hk hG Fe hle N1 sJ h3 hx og;unfold iH at h1;unfold jj fX tR at*;generalize mU tp l cf.bD cf.order me c=G2 at*;generalize gD cf.bD cf.order c.ls (c.head me)=al at*;generalize (aC tp l c.ls c.front).map (af .i32)=g1 at*;generalize kL:G2.map (af .i32)=g2 at*;clear kL;generalize c.head me=hd at*;generalize U2:c.front=fr at*;generalize c.ls.length=nl at*;clear U2 hlen;have b1:=h1.zc 1;have b2:=h1.zc 2;have b3:=h1.zc 3;have b4:=h1.zc 4;have b5:=h1.zc 5;have bg:∀i v,g1[i]?=some v->w.cell? ⟨q,6+i,none⟩=some v:=fun i v hv=>h1.cell (by rw[ij bT,show 6+i-_=i from by simp];exact hv);clear h1;go_enter func120,ntmps120;go_wp2_with fail;apply iL trivial;repeat apply nh b0
  apply jD (fun W hR=>Qn.o W hR);repeat apply nh b0
  apply jD (fun W hR=>sI.o W hR);repeat apply iO (fun _ _ _=>trivial)
  refine jq fun Wx ak=>?_;have e2:=ak;replace b0:=e2.cell b0;replace b1:=e2.cell b1;replace b2:=e2.cell b2;replace b3:=e2.cell b3;replace b4:=e2.cell b4;replace b5:=e2.cell b5;replace lK:=e2.cell lK;replace bg:∀i v,g1[i]?=some v->Wx.cell? ⟨q,6+i,none⟩=some v:=fun i v hv=>e2.cell (bg i v hv);clear ak;go_wp2_with fail;apply lG 32;simp only[tk];repeat apply kZ b1 b2
  apply lT (u:=.agg g1.toArray) Ext.refl
  .rfl
  .intro W hR υ;exact fU 69 (.tmp 26) rfl rfl underlying69 kH oh (fun i v h=>hR.cell (bg i v h))
  simp only[pu];repeat apply nh b0
  apply jD (fun W hR=>sI.o W (e2.trans hR));repeat apply lx5 b0 lK b3 b4 b5
  apply jD (fun W hR=>Qn.o W (e2.trans hR));apply BC (p:=fun u W=>∃B m d,u=.slice B m d/\Rp W B m d al) (fun _ _ _ ⟨B,m,bd,hv,h1⟩ he=>⟨B,m,bd,hv,h1.ext he⟩)
  .intro W hR υ;refine(Hah.o W (e2.trans hR)).mono ?_;rintro e w' ⟨B,m,bd,rfl,ho,he⟩;exact⟨_,rfl,he,B,m,bd,rfl,ho⟩
  intro v1;simp only[pu];apply ck (u:=.agg g2.toArray)
  .rfl
  .intro W;go_simp;exact⟨rfl,rfl⟩
  .intro W hR υ;obtain⟨B,m,bd,rfl,Sz⟩:=υ.1 rfl;refine(yu.o W (e2.trans hR) B m bd Sz).mono ?_;rintro e w' ⟨rfl,he⟩;exact⟨rfl,he⟩
  simp only[pu];apply dL (p:=fun u W=>∃g,u=.pointer (some ⟨g,0,none⟩)/\w.heap.size<=g/\sH W g 69 (cP 32 (af .i32 0))) (fun _ _ _ ⟨g,h1,h2,h3⟩ he=>⟨g,h1,h2,h3.ext he⟩)
  .rfl
  .intro W hR υ;refine⟨.pointer W.heap.size,W.alloc (.cells (cP 32 (af .i32 0)).toArray 69),?_,Ext.alloc _ _,W.heap.size,rfl,(e2.trans hR).size,sH.new _ _ _⟩;unfold execOp;simp only[Sem.run_bind,Ax hi dx,Result.andThen_ok,Sem.run_pure]
  intro v2;simp only[pu];refine lex_nil ?_;intro Wx ak υ;obtain⟨g9,rfl,Ko,a1⟩:=υ.1 rfl;clear υ;simp only[dk];have e3:=e2.trans ak;replace b0:=ak.cell b0;have Hne:=θ (show q≠g9 by have:=Hq.o;omega);clear ak e2 b1 b2 b3 b4 b5 bg lK;go_upto_region 4 with (first|(with_reducible refine bF rfl 69 (.tmp 4) (.tmp 50) rfl rfl rfl a1 vp DK kH eo ?_;intro W3 a3 g3 s3))
  have e4:Ext w W3:=Ext.own (B:=some ⟨g9,0,none⟩) e3 g3 (fun k hk=>by cases hk;exact Ko);replace b0:=g3.cell b0 (by simp only[ne_eq,Option.some.injEq];exact Hne.o);clear g3 s3 a1 e3 Ko;apply lG 7;simp only[tk];apply lT (u:=.agg g2.toArray) Ext.refl
  .rfl
  .intro W hR υ;exact mQ 69 (.tmp 4) rfl rfl underlying69 kH (a3.ext hR) vp
  simp only[pu];apply BC (p:=fun u W=>∃B d,u=.slice B 128 d/\Rb W B 128 d (kC G2)) (fun _ _ _ ⟨B,bd,hv,h1⟩ he=>⟨B,bd,hv,h1.ext he⟩)
  .intro W hR υ;refine(nK.o W).mono ?_;rintro e w' ⟨B,bd,rfl,ho,he⟩;exact⟨_,rfl,he,B,bd,rfl,ho⟩
  intro v3;simp only[pu];repeat apply nh b0
  apply jD (fun W hR=>Qn.o W (e4.trans hR));refine lex_nil ?_;intro Wx ak υ;obtain⟨B,bd,rfl,hB⟩:=υ.1 rfl;clear υ;simp only[dk];go_wp2;go_ret2
  exact⟨B,bd,rfl,hB,e4.trans ak⟩
end
end
def wS(k:Nat):Prop:=14<=k/\k<400/\k≠28
structure Rf where
 PA:Option Addr
 pc:Nat
 NA:Option Addr
 nc:Nat
 EA:Option Addr
 ec:Nat
 qs:Nat->Nat
 cs:Nat->Nat
 hs:Nat->Option Addr×Nat
structure iP(w:κ)(T:Tg)(q mb:Nat)(cf:Cf)(tp:aD)(ops:List dM)(r:Rf)(W:Wd):Prop where
 hd:Has w T 14 q [π mb,.slice r.PA cf.n r.pc,.slice r.NA W.au.length r.nc,.slice r.EA cf.n r.ec]
 row:Row w T 15 60 1 r.PA cf.n r.pc ((dJ cf.n).map fun i=>π (r.qs i))
 au:rI w T 16 cf.id r.NA r.nc W.au
 bx:Row w T 17 80 1 r.EA cf.n r.ec ((dJ cf.n).map fun i=>.slice (r.hs i).1 (W.log i).length (r.hs i).2)
 ev:∀i,i<cf.n->Row w T (18+i) 118 3 (r.hs i).1 (W.log i).length (r.hs i).2 (iu (W.log i))
 ps:∀i,i<cf.n->wH w T (30+20*i) (r.qs i) (r.cs i) cf i tp ops (W.ps i) (W.ps i).front
section
variable {w w':κ}{T T':Tg}{q mb:Nat}{cf:Cf}{tp:aD}{ops:List dM}{r:Rf}{W W':Wd}
section
variable(h:iP w T q mb cf tp ops r W)
include h
theorem iP.ext(e:Ext w w'):iP w' T q mb cf tp ops r W :=
 ⟨h.hd.ext e,h.row.ext e,h.au.ext e,h.bx.ext e,fun i hi=>(h.ev i hi).ext e,fun i hi=>(h.ps i hi).ext e⟩
theorem iP.ο(aT:jA cf)(hl:∀i,i<cf.n->(W.ps i).ls.length<=8)(hT:Ξ S w T w' T')(h0:¬S 0)(hs:∀k,wS k->¬S k):iP w' T' q mb cf tp ops r W:=by have jW:=aT.n8;exact⟨h.hd.ο hT (hs _ Jx),h.row.ο hT (hs _ Jx),h.au.ο hT h0 (hs _ Jx),h.bx.ο hT (hs _ Jx),fun i hi=>(h.ev i hi).ο hT (hs _ Jx),fun i hi=>(h.ps i hi).ο (hl i hi) hT h0 fun k hk=>hs _ (by unfold In at hk;unfold wS;omega)⟩
theorem iP.congr(hn:W'.au=W.au)(hl:∀i,i<cf.n->W'.log i=W.log i)(hp:∀i,i<cf.n->W'.ps i=W.ps i):iP w T q mb cf tp ops r W' :=
 ⟨by rw[hn];exact h.hd,h.row,by rw[hn];exact h.au,h.bx.to (rQ fun i hi=>by rw[hl i (nB.1 hi)]),fun i hi=>by rw[hl i hi];exact h.ev i hi,fun i hi=>by rw[hp i hi];exact h.ps i hi⟩
end
end
section
variable {w w':κ}{T T':Tg}{q mb:Nat}{cf:Cf}{tp:aD}{ops:List dM}{r:Rf}{W W':Wd}
section
variable(h:iP w T q mb cf tp ops r W)(aT:jA cf)
include h aT
theorem iP.zC(Lb:∀i,i<cf.n->bz cf i (W.ps i) [])(hp:p<cf.n){c':Cr}(hT:Ξ (In (30+20*p) 18) w T w' T')(hP:wH w' T' (30+20*p) (r.qs p) (r.cs p) cf p tp ops c' c'.front):iP w' T' q mb cf tp ops r {W with ps:=aW W.ps p c'}:=by
 have jW:=aT.n8;refine⟨h.hd.ο hT cN,h.row.ο hT cN,h.au.ο hT cN cN,h.bx.ο hT cN,fun i hi=>(h.ev i hi).ο hT cN,fun i hi=>?_⟩;show wH w' T' (30+20*i) (r.qs i) (r.cs i) cf i tp ops (aW W.ps p c' i) (aW W.ps p c' i).front
 by_cases e:i=p
 .subst e;rw[aH];exact hP
 .rw[az _ _ e];exact(h.ps i hi).ο (by rw[(Lb i hi).len];exact jW) hT cN fun k hk=>iw
theorem iP.aaZ(hl:∀i,i<cf.n->(W.ps i).ls.length<=8)(hT:Ξ (fun k=>k=14\/k=16) w T w' T')(hH:Has w' T' 14 q [π mb,.slice r.PA cf.n r.pc,.slice NA kK.length nc,.slice r.EA cf.n r.ec])(hN:rI w' T' 16 cf.id NA nc kK):iP w' T' q mb cf tp ops {r with NA:=NA,nc:=nc} {W with au:=kK}:=by exact⟨hH,h.row.ο hT η,hN,h.bx.ο hT η,fun i hi=>(h.ev i hi).ο hT η,fun i hi=>(h.ps i hi).ο (hl i hi) hT η fun k hk=>sL⟩
end
theorem aa0(hp:p<8)(h:In (30+20*p) 18 k):wS k:=by unfold In at h;unfold wS;omega
theorem QY(h:k=14\/k=16):wS k:=Jx
end
def ais(w:κ)(T:Tg)(q id:Nat)(a b d:ξ)(au l:List Pk)(iv:ξ)(wr:κ):Prop :=
 ∃(j:Nat) (T':Tg) (NA:aS) (nc:Nat),iv=.int .i64 (j:Nat)/\j<=l.length/\Ξ (fun k=>k=14\/k=16) w T wr T'/\Has wr T' 14 q [a,b,.slice NA (jd au (l.take j)).length nc,d]/\rI wr T' 16 id NA nc (jd au (l.take j))
theorem acd{q id:Nat}{a b d:ξ}{bd:Nat}{au l:List Pk}(hH:Has w T 14 q [a,b,.slice NA au.length nc,d])(hN:rI w T 16 id NA nc au)(hL:Nn w T t id B bd l)(Ot:t≠14)(h16:t≠16)(hu:Θ w T)(hn:au.length<=300):τ prog 89 #[π q,.slice B l.length bd] w (Does (fun k=>k=14\/k=16) w T (.tuple #[]) fun w' T'=>∃NA' nc',Has w' T' 14 q [a,b,.slice NA' (jd au l).length nc',d]/\rI w' T' 16 id NA' nc' (jd au l)):=by
 obtain⟨i0,hi,dx,dA,dN⟩:=info_parts uC;have HH:=θ hH;have HN:=θ hN;obtain⟨hs,g1,fO,MI⟩:=hL;have HRw:=θ fO;have Oo:=θ MI;have hmx:=fO.rd.2.1;have hmy:=fO.rd.2.2.1;unfold maxLen at hmy;unfold π at*;clear hH hN fO MI;go_enter func89,ntmps89;go_wp2_with fail;go_loopw [4] (fun iv wr=>ais w T q id a b d au l iv wr) (fun iv _=>l.length-(intOf iv).toNat)
 case atStart=>exact⟨0,T,NA,nc,rfl,aM _,Ξ.refl _ hu,by rw[CW];unfold jd;simpa using HH.o,by rw[CW];unfold jd;simpa using HN.o⟩
 case round =>
  obtain⟨j,T0,NB,nd,rfl,hj,hT,hHr,hNr⟩:=hrel;by_cases iY:j<l.length
  .have jF:=dQ ((j:Int)<(l.length:Int))
   have Vx:=HRw.o.ο hT η;have uh:=Jf au l hn iY;have hle:=Jg au (l.take j) hn;have c2:=hHr.zc 2;generalize jd au (l.take j)=N at*;by_cases afW:N.length<300
   .have Gj:=dQ (N.length<300) afW
    have Ce:=dQ ((N.length:Int)<300);rw[if_pos afW]at uh;obtain⟨g,D8,htg,m0,m1,m2⟩:=wC (vn.of Vx) g1 iY;have vY:=(Oo.o j l[j] (hs[j]' η) (bf iY) (bf η)).ο hT η;have E4:=θ uh;generalize hs[j]' η=hh at*;generalize l[j]=k at*;obtain⟨ns,a1,a2,a3⟩:=hNr;have pF:bn NB≠some q:=fun e=>by have:=a2.2 q e;have:=hHr.1;omega
    have uA:bn NB≠some g:=fun e=>by have:=a2.2 g e;omega
    have AO:=θ a1;have Oh:=θ a3;have o6:=θ hT;have HHr:=θ hHr;have Hsb:=θ vY;have jU:=hT.Δ;have hRr:=a2;subst D8;clear uh Vx hT hHr a1 a2 a3 vY;go_upto_region 4 with fail
    generalize KZ:wr=w0 at*;clear KZ;generalize BX:aG id k=el at*;have Oi:=θ BX;unfold kU at*;clear BX;have eL:=(hRr).1;have cU:=(hRr).cond;have mA:sA (16) (fun v _ _=>v=(.agg #[k.src,k.dst,.slice hh.1 el.length hh.2])):=fun _ _ _ _ _ h _=>h;have eo:∀(v:ξ) (w:κ) (T:Tg),v=(.agg #[k.src,k.dst,.slice hh.1 el.length hh.2])->v.cells.toList.length=3/\∀y∈v.cells.toList,y.oneCell'=true:=by rintro v w T rfl;exact⟨rfl,Gu⟩
    apply iW (F1:=99) (F2:=99) 11 (R:=gR NB) (Rs:=oM 10 NB) (J:=gJf 10 76 3 NB N.length nd (cY id N ns)) Γ ey ey ey (gR.refl _) (oM.refl _ _) (gR.sz _) gJf.aQ (gR.trans _) (gR.drew _ _) (gJf.start eL);simp only[tk];repeat apply gF (fun _ h _ _=>aj (h.cell c2 pF) (aj (h.cell m0 uA) (aj (h.cell m1 uA) (h.cell m2 uA))))
    apply aE (p:=dI T0 w0.heap.size (fun v _ _=>v=(.agg #[k.src,k.dst,.slice hh.1 el.length hh.2])) 76) Γ Γ (dI.aQ mA cU _)
    .rfl
    .intro W hR hJ υ;have hB:=dI.made (e:=76) mA hR.size (show uO T0 w0.heap.size (fun v _ _=>v=(.agg #[(k.src:Nat),(k.dst:Nat),.slice hh.1 el.length hh.2])) (.agg #[(k.src:Nat),(k.dst:Nat),.slice hh.1 el.length hh.2]) W from⟨T0,fun _ _=>rfl,fun k hk=>jU k (aF hR.size hk),rfl⟩);refine⟨_,_,?_,(Ext.alloc _ _).grownBy _,.inr (Ext.alloc _ _),hB⟩;go_simp;first|done|rfl
    intro v2;simp only[pu];apply aE (p:=mO T0 w0.heap.size (fun v _ _=>v=(.agg #[k.src,k.dst,.slice hh.1 el.length hh.2])) (16) NB 76 3 (N.length+1) (cY id N ns)) Γ Γ (fun j hj v w w9 h hR=>mO.aQ j hj v w w9 h mA hR)
    .rfl
    .intro W hR hJ υ;exact Bc W _ _ 43 rfl 76 i0 (.agg #[(0:Int),(0:Int),.slice none 0 0]) 3 40 underlying43 hi dx dA dN rfl Γ NB N.length nd ((cY id N ns)) rfl (hJ rfl) v2 rfl (υ.1 rfl) eo iQ η cU mA hR.size
    intro v3;simp only[pu];repeat apply gF (fun _ h _ _=>aj (h.cell c2 pF) (aj (h.cell m0 uA) (aj (h.cell m1 uA) (h.cell m2 uA))))
    refine aP ?_;intro W hR gT υ;obtain⟨u1,T1,E,Ed,rfl,cw,BU,ja,pJ⟩:=(υ.1 rfl).fin hR cU;clear υ gT;simp only[dk];subst BU;have lJ:=HHr.o.ο cw η;have f2:=lJ.free 2;have c2:=lJ.zc 2;have hN1:rI W T1 16 id E Ed (N++[k])  :=rI.of (Nn.app AO.o Oh.o cw η (A:=hh.1) (bd:=hh.2) (by rw[Oi.o];exact Hsb.o.ο cw η) (by unfold jR;rw[Oi.o];exact ja));obtain⟨kq,FY⟩:=lJ.put (S:=(· = 14)) cw.Δ 2 (.slice E (N.length+1) Ed) rfl;have HNs:=θ (hN1.ο kq η η);have HHs:=θ FY;have HTs:=θ ((o6.o.trans (cw.mono (fun k h=>.inr h))).trans (kq.mono (fun k h=>.inl h)));clear kq FY hN1 lJ cw ja pJ hR hRr jU pF uA m0 m1 m2 eo mA eL cU;go_wp2;go_roundw
    case rel=>exact⟨j+1,T1,E,Ed,cR,η,HTs.o,by rw[←E4.o,eU,List.length_singleton];exact HHs.o,by rw[←E4.o];exact HNs.o⟩
    exact dB
   .have Gj:=dh (N.length<300) afW
    have Ce:=dh ((N.length:Int)<300);rw[if_neg afW]at uh;have E4:=θ uh;have o6:=θ hT;have HHr:=θ hHr;have HNr:=θ hNr;clear uh Vx hT hHr hNr;go_wp2;go_roundw
    case rel=>exact⟨j+1,T0,NB,nd,cR,η,o6.o,by rw[←E4.o];exact HHr.o,by rw[←E4.o];exact HNr.o⟩
    exact dB
  .obtain rfl:j=l.length:=by omega
   have o6:=θ hT;rw[sU]at hHr hNr;have HHr:=θ hHr;have HNr:=θ hNr;clear hT hHr hNr;go_wp2_with fail;go_end0
   exact⟨rfl,T0,o6.o,NB,nd,HHr.o,HNr.o⟩
theorem ace{tp:aD}{l:List dM}(h:∀i,i<cf.n->(c.words i).1=0):eS tp l cf c:=fun i hi h0=>by have:=h i hi;omega
def rnN(w:κ)(T:Tg)(t:Nat)(cf:Cf)(me:Nat)(v:ξ)(w':κ):Prop:=∃T',(∀k,k<w.heap.size->T' k=T k)/\Θ w' T'/\∃cb,v=π cb/\kE w' T' t cb cf me (Cr.new cf.n cf.Ω) []
theorem rnN.ext{w' VY:κ}{me:Nat}{v:ξ}(h:rnN w T t cf me v w')(e:Ext w' VY):rnN w T t cf me v VY:=by obtain⟨T',h1,h2,cb,h3,h4⟩:=h;exact⟨T',h1,h2.ext e,cb,h3,h4.ext e⟩
theorem aap(w:κ)(T:Tg)(hu:Θ w T)(t:Nat)(ht:0<t)(ru:∀k,k<w.heap.size->¬In t 17 (T k))(cf:Cf)(me:Nat)(aT:jA cf)(DT:me<cf.n)(tp:aD)(l:List dM)(sJ:Os w T A n d l)(mY:tp.length<=1099511627776):τ prog 42 #[iC cf me,fX tp A n d,.slice none 0 0] w (cG (fun _=>False) w T fun v w' T'=>∃q cb,v=π q/\wH w' T' t q cb cf me tp l (Cr.new cf.n cf.Ω) (Cr.new cf.n cf.Ω).front):=by
 have HN:=θ fun W (e:Ext w W)=>ab9 W T (hu.ext e) (t+1) η (fun k hk jI=>by
  by_cases h:k<w.heap.size
  .exact ru k h iw
  .rw[hu k η]at jI;unfold In at jI;omega) cf me aT
 have hck:=bz.new aT DT;have mj:(Cr.new cf.n cf.Ω).ls.length<=8:=by rw[hck.len];exact aT.n8
 have Hck:=θ hck;have o6:=θ ru;have HRo:=θ sJ;unfold iC fX at*;have x0:=(Ext.alloc w (.cells (aA cf me).toArray 26)).trans (Ext.alloc _ (.cells #[.string (bs tp),.slice A n d] 65));have hb:=(Has.new w (fun _=>0) (aA cf me) 26 rfl).ext (Ext.alloc _ (.cells #[.string (bs tp),.slice A n d] 65));have hp:=(Has.new (w.alloc (.cells (aA cf me).toArray 26)) (fun _=>0) [.string (bs tp),.slice A n d] 65 (b:=w.heap.size+1) bT);unfold aA at*;clear ru sJ hck;go_enter func42,ntmps42;go_upto_region 1 with fail
 generalize hW:aB (aB w _) _=W0 at*;have k0:=hb.zc 0;have k1:=hb.zc 1;have k2:=hb.zc 2;have k3:=hb.zc 3;have k4:=hb.zc 4;have k5:=hb.zc 5;have k6:=hb.zc 6;have k7:=hb.zc 7;have k8:=hb.zc 8;have k9:=hb.zc 9;have p0:=hp.zc 0;have p1:=hp.zc 1;generalize w.heap.size+1=gp at*;generalize oN:w.heap.size=gc at*;have Hgc:=θ oN;clear hW hb hp oN;have V7:=θ x0;apply lG 9;simp only[tk];repeat apply agh k0 k1 k2 k3 k4 k5 k6 k7 k8 k9
 apply BC (p:=rnN W0 T (t+1) cf me) (fun _ _ _ h he=>h.ext he)
 .intro W hR υ;refine(HN.o W (V7.o.trans hR)).mono ?_;rintro e w' ⟨v,rfl,T',hT,cb,rfl,h1⟩;exact⟨_,rfl,⟨hT.os,hT.tape,hT.output,hT.size,fun k hk=>hT.block k hk (fun h=>h)⟩,T',fun k hk=>hT.tag k (eM hk hR.size),hT.Δ,cb,rfl,h1⟩
 intro v1;simp only[pu];repeat apply VZ k5 k6 p0 p1
 refine lex_nil ?_;intro Wx ak υ;obtain⟨T1,h1,h2,cb,rfl,hRC⟩:=υ.1 rfl;clear υ;simp only[dk];have x1:=x0.trans ak;have cw:Ξ (fun _=>False) w T Wx T1:=⟨x1.os,x1.tape,x1.output,x1.size,fun k hk _=>x1.block k hk,fun k hk=>h1 k (eM hk x0.size),h2⟩;unfold π at*;clear x0 k0 k1 k2 k3 k4 k5 k6 k7 k8 k9 p0 p1 ak h1 h2 x1;go_upto_region 2 with fail
 obtain⟨qY,Og⟩:=Has.fresh cw.Δ (iH cb tp A n d cf (aC tp l (Cr.new cf.n cf.Ω).ls 0)) 71 t;have akj:=hRC.ο mj qY (fun _ _ h=>h);have hO2:=(HRo.o.ο cw (fun h=>h)).ο qY (fun h=>h);have hP:wH _ _ t Wx.heap.size cb cf me tp l (Cr.new cf.n cf.Ω) 0:=⟨⟨A,n,d,Og,hO2⟩,akj⟩;have bq:=cw.trans qY;obtain⟨W1,wL⟩:∃W1,Wx.alloc (.cells (iH cb tp A n d cf (aC tp l (Cr.new cf.n cf.Ω).ls 0)).toArray 71)=W1:=⟨_,rfl⟩;have DC:=wL;rw[show iH cb tp A n d cf (aC tp l (Cr.new cf.n cf.Ω).ls 0)=[ξ.pointer cb,.string (bs tp),.slice A n d,.int .i64 (cf.bD:Nat),.int .i64 (cf.order:Nat),.slice none 0 0]++cP 32 (.int .i32 0) from rfl]at DC;simp only[List.replicate_succ,List.replicate_zero,List.cons_append,List.nil_append]at DC;rw[DC];rw[wL]at hP bq;have HP:=θ (Cx hP Hck.o bq.Δ ht mY (aM _) (ace fun _ _=>rfl));have jr:=θ bq;unfold π at*;clear wL DC hP bq qY Og akj hO2 hRC cw;generalize Wx.heap.size=q at*;go_wp2_with fail;refine HP.o.mono ?_;rintro e w2 ⟨rfl,T9,II,hP9⟩;have GN:=θ (jr.o.fresh II fun q hq=>o6.o q (by rw[←Hgc.o];exact hq));have HP9:=θ hP9;clear II hP9;go_wp2;go_ret;exact⟨_,rfl,T9,GN.o,q,cb,rfl,HP9.o⟩
def NL(j i k:Nat):Prop:=(i=22/\In (30+20*j+1) 16 k)\/(i=23/\k=18+j)
def SV(T:Tg)(j:Nat)(p:Addr):Prop:=T p.block=14\/T p.block=15\/T p.block=17\/T p.block=30+20*j
theorem KQ(h:¬In (30+20*j+1) 16 k)(h2:k≠18+j):¬NL j i k:=fun e=>by
 rcases e with e|e
 .exact h e.2
 .exact h2 e.2
theorem Bg(a b:List (Nat×Nat)):iu (a++b)=iu a++iu b:=by unfold iu;rw[List.flatMap_append]
theorem aaq(a:List (Nat×Nat)):∀u∈iu a,u.oneCell'=true:=by
 unfold iu;intro u hu;obtain⟨x,_,hx⟩:=List.mem_flatMap.1 hu;simp at hx
 rcases hx with rfl|rfl|rfl<;>rfl
section
variable {w w' w0:κ}{T T':Tg}{q mb:Nat}{cf:Cf}{tp:aD}{ops:List dM}{r:Rf}{W W':Wd}{B:Nat}
def wtP(j cb:Nat)(cf:Cf)(c:Cr)(mk:List Nat)(v:ξ)(w:κ)(T:Tg):Prop :=
 ∃EA ec,v=.slice EA c.bx.length ec/\Row w T (30+20*j+1+15) 118 3 EA c.bx.length ec (iu c.bx)/\kE w T (30+20*j+1) cb cf j {c with bx:=[]} mk
def wtQ(j cb:Nat)(cf:Cf)(c:Cr)(mk:List Nat)(n:Nat)(xs:List ξ)(v:ξ)(w:κ)(T:Tg):Prop :=
 ∃E Ed,v=.slice E n Ed/\Row w T (18+j) 118 3 E n Ed xs/\kE w T (30+20*j+1) cb cf j {c with bx:=[]} mk
theorem wtP.aQ(hj:j<8)(hl:c.ls.length<=8)(hu:Θ w0 T):∀i,i≠22->∀v w w',yP w0 T (wtP j cb cf c mk) v w->Dh (NL j) (SV T j) T i w w'->yP w0 T (wtP j cb cf c mk) v w' :=
 yP.aQ hu (fun i=>KQ cN η) fun i hi v w T' w' ⟨EA,ec,h1,h2,h3⟩ hT =>
  have pN:∀k,In (30+20*j+1) 16 k->¬NL j i k:=fun k hk e=>by
   rcases e with e|e
   .exact hi e.1
   .have:=e.2;unfold In at hk;omega
  ⟨EA,ec,h1,h2.ο hT (pN _ cN),h3.ο hl hT pN⟩
theorem wtQ.aQ{xs:List ξ}(hl:c.ls.length<=8)(hu:Θ w0 T)(i:Nat)(hi:i≠22)(CG:i≠23):∀v w w',yP w0 T (wtQ j cb cf c mk n xs) v w->Dh (NL j) (SV T j) T i w w'->yP w0 T (wtQ j cb cf c mk n xs) v w':=by
 have pN:∀k,¬NL j i k:=fun k e=>by
  rcases e with e|e
  .exact hi e.1
  .exact CG e.1
 rintro v w w' ⟨T',h1,h2,E,Ed,h3,h4,h5⟩ hR;have hT:=oR.later hR.1 hu (pN 0) h1 h2;exact⟨T',h1,hT.Δ,E,Ed,h3,h4.ο hT (pN _),h5.ο hl hT fun k _=>pN k⟩
theorem QZ{W:κ}{o:Oper}{a:Act}(s x:Operand)(ho:o.op=.call {callee:=.builtin .append,args:=#[s,x],argTypes:=#[80,80]}){L:List (Nat×Nat)}{C:aS}{cc:Nat}(hj:j<8)(hl:c.ls.length<=8)(hs:a.eval s=.slice C L.length cc){xv:ξ}(hx:a.eval x=xv)(fV:w0.heap.size<=W.heap.size)(hp:yP w0 T (wtP j cb cf c mk) xv W)(hu:Θ w0 T)(mz:Row w0 T (18+j) 118 3 C L.length cc (iu L))(hJ:yJ (NL j) T w0 23 W)(hL:L.length<=1000000000)(hc:c.bx.length<=1000000):∃u w',(execOp a.eval o).run prog W=.ok (.value u) w'/\yR (NL j) (SV T j) T W w'/\Dh (NL j) (SV T j) T 23 W w'/\yP w0 T (wtQ j cb cf c mk (L.length+c.bx.length) (iu L++iu c.bx)) u w':=by
 obtain⟨i0,hi,dx,dA,dN⟩:=info_parts Fq;obtain⟨T',h1,h2,EA,ec,hv,fO,hC⟩:=hp;have hRW:Row W T (18+j) 118 3 C L.length cc (iu L):=mz.ο (oR.ο hJ hu) (fun⟨i,e1,e2⟩=>by
  rcases e2 with e|e
  .have:=e.2;unfold In at this;omega
  .exact e1 e.1)
 have hRT:Row W T' (18+j) 118 3 C L.length cc (iu L):=⟨hRW.1,fun k hk=>by rw[h1 k (mz.lt hk)];exact mz.2 k hk⟩;obtain⟨v,w',bU,kS,E,Ed,hv',wV,hw'⟩:=mN (P:=prog) W s x 80 ho 0 118 i0 (.agg #[.int .i64 0,.int .i64 0,.int .i64 0]) 3 24 underlying80 hi dx dA dN rfl Γ C L.length cc (iu L) hs hRT.1 EA c.bx.length ec (iu c.bx) (hx.trans hv) fO.rd (aaq _) iQ η (aM _);obtain⟨vm,QL⟩:=hRT.append h2 wV kS (oV.of hw');obtain⟨y1,y2⟩:=SQ (F:=NL j) (C:=SV T j) (K:=23) kS (fun g hg=>mz.2 g hg) (.inr ⟨rfl,rfl⟩) (fun p hp=>by unfold SV at hp;omega);exact⟨v,w',bU,y1,y2,_,fun k hk=>(vm.tag k (eM hk fV)).trans (h1 k hk),vm.Δ,E,Ed,hv',QL,hC.ο hl vm (fun k hk=>sL)⟩
theorem iP.tell{gE:Nat}(h:iP w T q mb cf tp ops r (fZ W j))(aT:jA cf)(hl:∀i,i<cf.n->((fZ W j).ps i).ls.length<=8)(hj:j<cf.n)(hEA:r.EA=some ⟨gE,0,none⟩){E:aS}{Ed:Nat}(hT:Ξ (fun k=>∃i,NL j i k) w T w' T')(hE:Row w' T' (18+j) 118 3 E ((W.log j).length+(W.ps j).bx.length) Ed (iu (W.log j)++iu (W.ps j).bx))(hC:kE w' T' (30+20*j+1) (r.cs j) cf j {W.ps j with bx:=[]} (bQ tp ops (W.ps j).ls (W.ps j).front)):Ξ wS w T (w'.setCell (gE,j) (.slice E ((W.log j).length+(W.ps j).bx.length) Ed)) T'/\iP (w'.setCell (gE,j) (.slice E ((W.log j).length+(W.ps j).bx.length) Ed)) T' q mb cf tp ops {r with hs:=aW r.hs j (E,Ed)} (fZ W (j+1)):=by
 have jW:=aT.n8;have pN:∀k,¬In (30+20*j+1) 16 k->k≠18+j->¬ ∃i,NL j i k:=fun k h1 h2 ⟨i,h3⟩=>KQ h1 h2 h3;have V3:=h.bx.ο hT (pN 17 cN η);obtain⟨bq,ag5⟩:=V3.put hT.Δ (i:=j) hEA (.slice E ((W.log j).length+(W.ps j).bx.length) Ed);have SR:Ξ wS w T w' T':=hT.mono fun k hk=>by
  obtain⟨i,e⟩:=hk;rcases e with e|e
  .have:=e.2;unfold In at this;unfold wS;omega
  .have:=e.2;unfold wS;omega
 have h0:¬ ∃i,NL j i 0:=pN 0 cN η;refine⟨SR.trans (bq.mono fun k e=>Jx),(h.hd.ο hT (pN _ cN η)).ο bq η,(h.row.ο hT (pN _ cN η)).ο bq η,(h.au.ο hT h0 (pN _ cN η)).ο bq η η,?_,fun i hi=>?_,fun i hi=>?_⟩
 .refine ag5.to (Cv _ _ _ _ _ ?_ fun i _ hne=>?_)
  .show kD (aW r.hs j (E,Ed) j).1 ((fZ W (j+1)).log j).length (aW r.hs j (E,Ed) j).2=_
   rw[aH,uD,eU]
  .show kD (aW r.hs j (E,Ed) i).1 ((fZ W (j+1)).log i).length (aW r.hs j (E,Ed) i).2=_
   rw[az _ _ hne,qv W hne]
 .show Row _ T' (18+i) 118 3 (aW r.hs j (E,Ed) i).1 ((fZ W (j+1)).log i).length (aW r.hs j (E,Ed) i).2 (iu ((fZ W (j+1)).log i))
  by_cases e:i=j
  .subst e;rw[aH,uD,eU,Bg];exact hE.ο bq η
  .rw[az _ _ e,qv W e];exact((h.ev i hi).ο hT (pN _ cN η)).ο bq η
 .by_cases e:i=j
  .subst e
   have hp:=h.ps i hi;rw[wF]at hp;rw[Jh];obtain⟨⟨A,n,d,h1,h2⟩,_⟩:=hp;have K2:(W.ps i).ls.length<=8:=by have:=hl i hi;rw[wF]at this;exact this
   exact⟨⟨A,n,d,(h1.ο hT (pN _ cN η)).ο bq η,(h2.ο hT h0).ο bq η⟩,hC.ο K2 bq fun k hk=>sL⟩
  .rw[CX W e];exact((h.ps i hi).ο (hl i hi) hT h0 (fun k hk=>pN k iw sL)).ο (hl i hi) bq η (fun k hk=>sL)
theorem iP.told(h:iP w T q mb cf tp ops r (fZ W cf.n)):iP w T q mb cf tp ops r W.told :=
 h.congr rfl (fun i hi=>by show _=(if i<cf.n then W.log i++(W.ps i).bx else W.log i);rw[if_pos hi];rfl) (fun i hi=>by show _=(if i<cf.n then {W.ps i with bx:=[]} else W.ps i);rw[if_pos hi];rfl)
theorem iP.start(h:iP w T q mb cf tp ops r W):iP w T q mb cf tp ops r (fZ W 0) :=
 h.congr rfl (fun i hi=>by show(if i<0 then W.log i++(W.ps i).bx else W.log i)=W.log i;rw[if_neg (lF i)]) (fun i hi=>by show(if i<0 then {W.ps i with bx:=[]} else W.ps i)=W.ps i;rw[if_neg (lF i)])
end
def Eb(ah:Bool):FuncId:=if ah=true then 34 else 45
theorem aar (ah:Bool) (b:Nat):∀f w,(method (f+1) (Vw ah) (.pointer b) "Closed").run prog w=.ok (Eb ah,.pointer b) w:=Ox
theorem aas(ah:Bool)(b:Nat):∀w,(callFunc (Eb ah) #[.pointer b]).run prog w=.ok (.enter (Eb ah) #[.pointer b]) w:=Oy
theorem xK{l:aD}(h:Rb w B 128 d l):∀W,Ext w W->(convert 30 9 (.slice B 128 d)).run prog W=.ok (.string (bs l)) W :=
 fun W e=>dS (P:=prog) W 30 9 5 underlying30 underlying5 underlying9 _ _ _ _ (h.ext e)
section
variable {ah:Bool}{w w':κ}{T T':Tg}{t b t2 q cb:Nat}{cf:Cf}{me:Nat}{tp:aD}{ops:List dM}{c:Cr}{B:Nat}
section
variable(h:bJ ah w T t b cf me tp ops c B)
include h
theorem NM:τ prog (Eb ah) #[π b] w fun e w'=>e=.returned (.bool c.closed)/\w'=w:=by
 cases ah with
 |true =>obtain⟨x,s,h1,_⟩:=h;exact FW h1
 |false =>obtain⟨_,_,_,h⟩:=h;exact AW h
theorem acf(hr:wH w T t2 q cb cf me tp ops c c.front)(ht:0<t)(hu:Θ w T)(hk:bz cf me c [])(mY:tp.length<=1099511627776)(hB:B<=700000000):τ prog 83 #[.iface (Vw ah) (.pointer b),π q] w fun e w'=>e=.returned (.bool true)/\Ext w w':=by
 have H1:=θ (show τ prog (SM ah) #[π b] w _ from wE h hk hB);have H2:=θ fun W (e:Ext w W)=>NK (hr.ext e) hk;have H3:=θ fun W (e:Ext w W)=>(show τ prog (SN ah) #[π b] W _ from KO (h.ext e) ht (hu.ext e) hk mY hB);have H4:=θ fun W (e:Ext w W)=>aao (hr.ext e) hk mY;have H5:=θ fun W (e:Ext w W)=>NM (h.ext e);obtain⟨A9,n9,d9,Qa,_⟩:=hr.bn;obtain⟨x,hx⟩:=hr.core;have b0:=Qa.zc 0;have DU:=(fI hx.hd).DU;have m1:=aaM ah b;have e1:=aaN ah b;have m2:=aeO ah b;have e2:=aeR ah b;have m3:=aar ah b;have e3:=aas ah b;generalize aC tp ops c.ls c.front=G1 at*;generalize Nw tp ops cf me c=G2 at*;generalize Nx me c=F2 at*;generalize c.front=F1 at*;generalize c.closed=cl at*;unfold π iH at*;clear h hr hk hu hx Qa;go_enter func83,ntmps83;go_wp2_with fail;refine H1.o.mono ?_;rintro e wa ⟨B1,d1,rfl,mo,x1⟩;go_wp2_with fail;refine(H2.o _ x1).mono ?_;rintro e wb ⟨B2,d2,rfl,oQ,x2⟩;have x2':=x1.trans x2;go_wp2_with fail;refine(H3.o _ x2').mono ?_;rintro e wc ⟨B3,d3,rfl,sC,x3⟩;have x3':=x2'.trans x3;go_wp2_with fail;refine(H4.o _ x3').mono ?_;rintro e wd ⟨B4,d4,rfl,Bn,x4⟩;have x4':=x3'.trans x4;have cA:=xK (mo.ext ((x2.trans x3).trans x4));have cB:=xK (oQ.ext (x3.trans x4));have cC:=xK (sC.ext x4);have cD:=xK Bn;have b0:=x4'.cell b0;have DU:=x4'.cell DU;go_wp2_with fail;apply iL trivial;repeat first|apply iO (fun _ _ _=>trivial)|apply lU trivial
 apply ck (u:=.bool cl)
 .rfl
 .intro W;go_simp;first|exact⟨rfl,rfl⟩|exact e3 W
 .intro W hR υ;refine(H5.o W (x4'.trans hR)).mono ?_;rintro e w' ⟨rfl,hw⟩;exact⟨rfl,by subst hw;exact Ext.refl _⟩
 simp only[pu];repeat first|apply kZ b0 DU|apply lU trivial
 refine lex_nil ?_;intro Wx ak υ;have x9:=x4'.trans ak;clear υ ak;go_wp2;go_ret;exact⟨rfl,x9⟩
end
end
def evK(l:List (Nat×Nat)):Prop:=∀e∈l,e.1=1\/e.1=2
theorem NN:∀a:List (Nat×Nat),(iu a).length=a.length*3
 | []=>rfl
 |x::l=>by
  show(iu [x]++iu l).length=_
  rw[eU,NN l,List.length_cons];show 3+l.length*3=_
  omega
theorem NP(l:List (Nat×Nat))(hj:j<l.length)(hi:i<3):(iu l)[j*3+i]?=(iu [l[j]])[i]?:=by
 have h1:l=l.take j++([l[j]]++l.drop (j+1)):=bT;have h2:(iu (l.take j)).length=j*3:=by rw[NN,List.length_take];omega
 conv=>lhs;rw[h1,Bg,ij (by rw[h2];omega),h2,Nat.add_sub_cancel_left,Bg,List.getElem?_append_left (show i<(iu [l[j]]).length from hi)]
theorem acg(w:κ)(e:Nat×Nat)(h:e.1=1\/e.1=2):τ prog 122 #[.agg #[wZ e]] w (XN w (e.1:Nat) (e.2:Nat) 0):=by
 obtain⟨k,p⟩:=e;rcases h with h|h
 .have h':k=1:=h;subst h';exact ahF w (p:Nat)
 .have h':k=2:=h;subst h';exact ahG w (p:Nat)
theorem aat(w:κ)(A:aS)(c:Nat)(l:List (Nat×Nat))(hr:Rd w 1 A l.length c (l.map wZ))(hk:evK l)(hn:l.length<=1000000000):τ prog 85 #[.slice A l.length c] w fun e w'=>∃B d,e=.returned (.slice B l.length d)/\Rd w' 3 B l.length d (iu l)/\Ext w w':=by
 obtain⟨i0,hi,dx,dA,dN⟩:=info_parts Fq;have Hk:=θ hk;have Hr:=θ hr;clear hk;go_enter func85,ntmps85;go_wp2_with fail;go_loopw [3,4] (fun v iv wr=>∃(j:Nat) (B:aS) (d:Nat),v=.slice B j d/\iv=.int .i64 (j:Nat)/\j<=l.length/\Own wr w.heap.size 118 3 B j d (iu (l.take j))/\Ext w wr) (fun _ iv _=>l.length-(intOf iv).toNat)
 case atStart=>exact⟨0,none,0,rfl,rfl,aM _,Own.dR _ _ _ _,Ext.refl _⟩
 case round =>
  obtain⟨j,B,d,rfl,rfl,hj,hO,hE⟩:=hrel;by_cases iY:j<l.length
  .have jF:=dQ ((j:Int)<(l.length:Int))
   obtain⟨g,o,rfl,hc⟩:=Hr.o.2.2.2 η;have cj:wr.cell? (g,o+j)=some (wZ l[j]):=hE.cell (hc j _ (by rw[List.getElem?_map,bf iY];rfl));have ahg:=θ fun W=>acg W l[j] (Hk.o _ (dH iY));have vr:iu (l.take (j+1))=iu (l.take j)++iu [l[j]]:=by rw[←Bg,List.take_succ_eq_append_getElem iY]
   have eo:iu [l[j]]=[.int .i64 (l[j].1:Nat),.int .i64 (l[j].2:Nat),.int .i64 0]:=rfl;rw[eo]at vr;have Htk:=θ vr;have HO:=θ hO;generalize l[j]=ev at*;generalize wZ ev=evv at*;clear vr eo hO hc hr;go_wp2_with fail;refine(ahg.o wr).mono ?_;rintro e w3 ⟨rfl,e3⟩;have U5:=HO.o.ext e3;have Sn:w.heap.size<=w3.heap.size:=(hE.trans e3).size;go_wp2_with (at_builtin;refine ag _ rfl _ _ 80 rfl _ 118 i0 (.agg #[(0:Int),(0:Int),(0:Int)]) 3 24 underlying80 hi dx dA dN rfl Γ B j d _ rfl U5 1 _ rfl rfl gA iQ η Sn ?_;intro E Ed wy fQ fN oY);go_roundw
   case rel=>exact⟨j+1,E,Ed,rfl,cR,η,by rw[Htk.o];exact fQ,Ext.own (hE.trans e3) fN (fun g hg=>HO.o.ax g hg)⟩
   exact dB
  .obtain rfl:j=l.length:=by omega
   have Di:=dh (l.length<l.length);rw[sU]at hO;have hR:=hO.rd;clear hO;go_wp2;go_ret;exact⟨B,d,rfl,hR,hE⟩
theorem Q4(w:κ)(a b c:Int):τ prog 121 #[.agg #[a,b,c],.agg #[a,b,c]] w fun e w'=>e=.returned (.bool true)/\Ext w w':=by have x0:=(Ext.alloc w (.cells #[a,b,c] 118)).trans (Ext.alloc _ (.cells #[a,b,c] 118));go_enter func121,ntmps121;go_wp2;go_ret;exact⟨rfl,x0⟩
theorem NQ(w:κ){c:Nat}{l:List (Nat×Nat)}(hA:Rd w 3 A l.length c (iu l))(hB:Rd w 3 B l.length d (iu l)):τ prog 84 #[.slice A l.length c,.slice B l.length d] w fun e w'=>e=.returned (.bool true)/\Ext w w':=by
 have hmx:=hA.2.1;have hmy:=hA.2.2.1;unfold maxLen at hmy;have HA:=θ hA;have HB:=θ hB;go_enter func84,ntmps84;go_wp2_with fail;go_loopw [5] (fun iv wr=>∃(j:Nat),iv=.int .i64 (j:Nat)/\j<=l.length/\Ext w wr) (fun iv _=>l.length-(intOf iv).toNat)
 case atStart=>exact⟨0,rfl,aM _,Ext.refl _⟩
 case round =>
  obtain⟨j,rfl,hj,hE⟩:=hrel;by_cases iY:j<l.length
  .have jF:=dQ ((j:Int)<(l.length:Int))
   have hg:∀i,i<3->(iu l)[j*3+i]?=(iu [l[j]])[i]?:=fun i hi=>NP l iY hi;obtain⟨ga,oa,rfl,ha⟩:=HA.o.2.2.2 η;obtain⟨gb,ob,rfl,hb⟩:=HB.o.2.2.2 η;have a0:wr.cell? (ga,oa+j*3)=some ((l[j].1:Nat):ξ):=hE.cell (ha (j*3) _ (hg 0 Γ));have a1:wr.cell? (ga,oa+j*3+1)=some ((l[j].2:Nat):ξ):=hE.cell (ha (j*3+1) _ (hg 1 Γ));have a2:wr.cell? (ga,oa+j*3+2)=some (.int .i64 0):=hE.cell (ha (j*3+2) _ (hg 2 Γ));have b0:wr.cell? (gb,ob+j*3)=some ((l[j].1:Nat):ξ):=hE.cell (hb (j*3) _ (hg 0 Γ));have b1:wr.cell? (gb,ob+j*3+1)=some ((l[j].2:Nat):ξ):=hE.cell (hb (j*3+1) _ (hg 1 Γ));have b2:wr.cell? (gb,ob+j*3+2)=some (.int .i64 0):=hE.cell (hb (j*3+2) _ (hg 2 Γ));generalize l[j]=ev at*;clear hg ha hb hA hB;go_wp2_with fail;apply iL trivial;repeat apply WV a0 a1 a2 b0 b1 b2
   apply jD (fun W hR=>Q4 W (ev.1:Nat) (ev.2:Nat) 0);repeat apply iO (fun _ _ _=>trivial)
   refine jq fun Wx ak=>?_;go_wp2;go_roundw
   case rel=>exact⟨j+1,cR,η,hE.trans ak⟩
   exact dB
  .obtain rfl:j=l.length:=by omega
   go_wp2;go_ret;exact⟨rfl,hE⟩
end Go.Proofs.YtffcefoadaogbaaGreat
