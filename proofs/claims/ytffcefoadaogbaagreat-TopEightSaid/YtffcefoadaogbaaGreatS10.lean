/- A part of the proof. -/
import Derived.Test.YtffcefoadaogbaaGreatS8
import Derived.Test.YtffcefoadaogbaaGreatS9
namespace Go.Proofs.YtffcefoadaogbaaGreat
open Go.RowKit
open Go.Proofs.Tryz
set_option linter.all false
set_option maxRecDepth 100000
set_option maxHeartbeats 16000000
open _root_.List renaming getLastD_eq_getLast?->YH,getD_eq_getElem?_getD->cO,getElem?_eq_getElem->bf,getElem_mem->dH,length_take->tN,eq_nil_of_length_eq_zero->rz,getLast?_eq_getElem?->ade,cons_append->zN,append_assoc->ic,getElem?_append_left->kn,getElem?_append_right->ij,getElem?_eq_some_iff->iN,length_append->eU,take_of_length_le->jL,mem_map->fK,length_drop->Bq,take_append_of_le_length->adf,replicate->cP,ext_getElem->adg,drop_take->adh,drop_of_length_le->CM,length_set->Ae
open Go.World renaming alloc->aB,setCell->dG,cell?_setCell_other->Ac,frozen?->uM
open Go.Value renaming int->af
open _root_.Option renaming some->kI
open _root_.Nat renaming eq_zero_or_pos->rA,le_refl->aq,le_trans->aF,zero_add->mZ,zero_le->aM,lt_of_lt_of_le->eM
open Go.IntKind renaming i64->cQ
open Go.IntWalk renaming i64_in->pS
open _root_.UInt8 renaming toNat_lt->YI
open Go.RowKit.Below renaming heap_setCell->uc
open Go.Act renaming put->rC
open Go renaming World->κ,Value->ξ,Calls->τ,Addr->cJ,TypeId->aY,IntKind->oU
variable{P:Program}{Q:Exit->Act->κ->Prop}{Rs:Nat->κ->κ->Prop}{S:Nat->Prop}{a:Act}{b l:aD}{first g i k kind o:Nat}{ops:Array Oper}{rest:List Oper}
def eR(c:Cr)(me:Nat)(mk:List Nat)(i:Nat):Pk :=
 {iA:=false,src:=me,dst:=i,first:=c.has i,ν:=((c.nr me).drop (c.has i)).take 32,dP:=(c.ls.getD i []).length,frame:=mk.length,sum:=mk.getLastD 0}
theorem Rb.uw{w w':κ}{A:aS}{n c:Nat}(h:Rb w A n c l)(hb:0<n->∀k,bn A=some k->w'.heap[k]?=w.heap[k]?):Rb w' A n c l:=Rd.fc h (fun h0=>hb η)
theorem Kj{l:List Nat}(h:l≠[]):l.getLastD 0∈l:=by rw[YH,List.getLast?_eq_some_getLast h];exact List.getLast_mem h
section
variable {w w':κ}{T T':Tg}{t b:Nat}{cf:Cf}{me qb:Nat}{ps:Nat->Nat}{c:Cr}{mk:List Nat}
theorem Cc(hk:bz cf me c mk)(hi:i<cf.n)(hne:i≠me):mw (eR c me mk i):=by
 have h8:=hk.ok.n8;have hm:=hk.me;have qV:i<c.ls.length:=by rw[hk.len];exact hi
 refine⟨by show me<8;omega,by show i<8;omega,fun h=>hne (show me=i from h).symm,?_⟩;rw[if_neg (by simp[eR])];refine⟨hk.has i,?_,hk.marks,?_,?_⟩
 .show(c.ls.getD i []).length<=1000
  rw[cO,bf qV];exact hk.short _ (dH qV)
 .show(((c.nr me).drop (c.has i)).take 32).length<=32
  rw[tN];omega
 .show mk.getLastD 0<4294967296
  by_cases h:mk=[]
  .subst h;decide
  .exact hk.yI _ (Kj h)
theorem PS(h:ct w T t b cf me qb ps c mk)(hk:bz cf me c mk)(hi:i<cf.n)(hne:i≠me):τ prog 309 #[π b,i] w fun e w'=>∃B bd,e=.returned (kU me i B (aG cf.id (eR c me mk i)).length bd)/\Own w' w.heap.size 5 1 B (aG cf.id (eR c me mk i)).length bd (dK (aG cf.id (eR c me mk i)))/\Ext w w':=by
 have qV:i<c.ls.length:=by rw[hk.len];exact hi
 have lD:me<c.ls.length:=by rw[hk.len];exact hk.me
 have jW:=hk.ok.n8;have TA:=hk.marks;have afI:=hk.has i;have LF:=Cc hk hi hne;obtain⟨PA,pc,MA,mc,EA,ec,h1,h2,h3,_⟩:=h.bn;obtain⟨c0,c1,c2,c3,c4,c5,c6,c7,c8,c9,lK,oA,Dk,yp,ya,K1⟩:=coreC h1;obtain⟨gp,rfl,p0,_⟩:=uq h2 hi;have Yc:=h2.rd.2.2.1;have XK:=h3.rd.2.1;have Yd:=h3.rd.2.2.1;unfold maxLen at Yc Yd;have Hm:=θ fun j (hj:j<mk.length)=>h3.at_ (i:=j) (v:=.int .u32 ((mk.getD j 0:Nat):Int)) (by simp[cO,hj]);have HL:=θ fun W (e:Ext w W)=>lZ (h.BW.ext e) (by rw[hk.len];exact jW) qV;have HL2:=θ fun W (e:Ext w W)=>lZ (h.BW.ext e) (by rw[hk.len];exact jW) lD;have afJ:=θ fun W (e:Ext w W)=>qP ((h.BW.line i qV).ext e);have yu:=θ fun W (e:Ext w W)=>Ip ((h.BW.line me lD).ext e) (hk.short _ (dH lD)) (c.has i) 32 Γ Γ afI;have Sa:=θ fun W (e:Ext w W) A n d hb=>Uk (h.ext e) hk (eR c me mk i) A n d LF rfl hb 0 0 0;have RC:c.nr me=c.ls[me]:=by simp[Cr.nr,cO,lD]
 have afK:(c.ls.getD i []).length=c.ls[i].length:=by simp[cO,qV]
 have tO:(eR c me mk i).ν=(c.ls[me].drop (c.has i)).take 32:=by show((c.nr me).drop (c.has i)).take 32=_;rw[RC]
 have zJ:fM (eR c me mk i)=1:=rfl;have Od:(eR c me mk i).first=c.has i:=rfl;have hk6:(eR c me mk i).dP=c.ls[i].length:=afK;have hk7:(eR c me mk i).frame=mk.length:=rfl;have hk8:(eR c me mk i).sum=mk.getLastD 0:=rfl;have EK:(eR c me mk i).dst=i:=rfl;rw[zJ,Od,hk6,hk7,hk8,EK,tO]at Sa;generalize aG cf.id (eR c me mk i)=EP at*;generalize (c.ls[me].drop (c.has i)).take 32=pr at*;generalize c.ls[i].length=dP at*;generalize c.has i=has at*;unfold π kU at*;clear h h1 h2 h3 hk LF RC afK tO zJ Od hk6 hk7 hk8 EK c0 c2 c3 c4 c5 c6 c7 c8 c9 yp ya K1;go_enter func309,ntmps309;go_upto_region 1 with fail
 generalize hW:aB w _=W0;have x0:Ext w W0:=by subst hW;exact Ext.alloc _ _
 have bM:Has W0 (fun _=>0) 0 w.heap.size [(0:Int),(0:Int),.slice none 0 0]:=by subst hW;exact Has.new w (fun _=>0) _ 176 rfl
 clear hW;have HM:=θ bM;have DR:=bM.lt;clear bM;generalize qT:w.heap.size=gm at*;have d1:=x0.cell c1;have d10:=x0.cell lK;have d11:=x0.cell oA;have d12:=x0.cell Dk;have q0:=x0.cell p0;apply lG 22;simp only[tk];repeat apply DH d10 d11 q0
 apply jD (fun W hR=>HL.o W (x0.trans hR));repeat apply iO (fun _ _ _=>trivial)
 apply jD (fun W hR=>afJ.o W (x0.trans hR));repeat apply nh d12
 apply dL (p:=fun u W=>∃g,u=.pointer (some ⟨g,0,none⟩)/\W0.heap.size<=g/\Has W (fun _=>0) 0 g [(0:Int),(0:Int),(0:Int),(0:Int),(0:Int),.slice none 0 0,(0:Int),(0:Int),.int .u32 0]) (fun _ _ _ ⟨g,hv,hg,h⟩ he=>⟨g,hv,hg,h.ext he⟩)
 .rfl
 .intro W hR υ;refine⟨.pointer W.heap.size,W.alloc (.cells #[(0:Int),(0:Int),(0:Int),(0:Int),(0:Int),.slice none 0 0,(0:Int),(0:Int),.int .u32 0] 34),?_,Ext.alloc _ _,W.heap.size,rfl,hR.size,Has.new W (fun _=>0) _ 34 rfl⟩;go_simp;first|done|rfl
 intro v1;simp only[pu];refine lex_nil ?_;intro Wx ak υ;obtain⟨g,rfl,nC,hg⟩:=υ.1 rfl;clear υ d1 d10 d11 d12 q0;simp only[dk];have K2:[af .i64 1,.int .i64 0,.int .i64 0,.int .i64 0,.int .i64 (has:Nat),.slice none 0 0,.int .i64 (dP:Nat),.int .i64 (mk.length:Nat),.int .u32 0].length=9:=rfl;have hv9:[af .i64 0,.int .i64 0,.int .i64 0,.int .i64 0,.int .i64 0,.slice none 0 0,.int .i64 0,.int .i64 0,.int .u32 0].length=9:=rfl;have h19:∀u∈[af .i64 1,.int .i64 0,.int .i64 0,.int .i64 0,.int .i64 (has:Nat),.slice none 0 0,.int .i64 (dP:Nat),.int .i64 (mk.length:Nat),.int .u32 0],u.oneCell'=true:=gA;go_wp2_with (first|(with_reducible refine bE rfl 34 (.tmp 5) (.tmp 27) rfl rfl (us:=[.int .i64 1,.int .i64 0,.int .i64 0,.int .i64 0,.int .i64 (has:Nat),.slice none 0 0,.int .i64 (dP:Nat),.int .i64 (mk.length:Nat),.int .u32 0]) rfl hg K2 hv9 mR h19 ?_;intro W1 um g1 s1));have x1:Ext w W1:=Ext.own (B:=some ⟨g,0,none⟩) (x0.trans ak) g1 (fun k hk=>by have h9:g=k:=kI.inj hk;have:=x0.size;omega);have am9:g≠gm:=η;have Mv:=θ ((HM.o.ext ak).grown g1 dw);have hWs:=ak.size;clear ak x0 HM K2 hv9 h19 hg g1;have d1:=x1.cell c1;have d10:=x1.cell lK;have k4:=um.zc 4;apply lG 14;simp only[tk];repeat apply kZ d1 d10
 apply jD (fun W hR=>HL2.o W (x1.trans hR));repeat apply nh k4
 apply BC (p:=fun u W=>∃B m bd,u=.slice B m bd/\Own W W1.heap.size 5 1 B m bd (dK pr)) (fun _ _ _ ⟨B,m,bd,hv,h1⟩ he=>⟨B,m,bd,hv,h1.ext he⟩)
 .intro W hR υ;refine(yu.o W (x1.trans hR)).mono ?_;rintro e w' ⟨B,m,bd,rfl,ho,he⟩;exact⟨_,rfl,he,B,m,bd,rfl,ho.mono hR.size⟩
 intro v1;simp only[pu];repeat apply iO (fun _ _ _=>trivial)
 refine lex_nil ?_;intro Wx ak υ;obtain⟨B,m,bd,rfl,hB⟩:=υ.1 rfl;clear υ d1 d10 k4;simp only[dk];have x2:=x1.trans ak;have kL:=um.ext ak;have rG:=θ (Mv.o.ext ak);have k5:=kL.zc 5;have f5:=kL.free 5;clear x1 Mv;go_upto_region 3 with fail
 generalize Ux:dG _ (g,5) _=W3;have Mu:Has W3 (fun _=>0) 0 g [(1:Int),(0:Int),(0:Int),(0:Int),has,.slice B m bd,dP,mk.length,.int .u32 0]:=by subst Ux;exact kL.set 5 (.slice B m bd)
 have gg3:Wx.grownBy W3 (some g):=by subst Ux;exact gG _ _ _
 have x3:Ext w W3:=Ext.own (B:=some ⟨g,0,none⟩) x2 gg3 (fun k hk=>af3);have AI:=θ (rG.o.grown gg3 dw);have ana:g<W1.heap.size:=um.lt;have sC:Rb W3 B m bd pr:=Rb.of (hB.kept gg3 (by
  rcases hb:bn B with _|k
  .exact .inl rfl
  .refine .inr fun e=>?_;have h1:=hB.ax k hb;have h2:k=g:=kI.inj e;omega)).rd rfl
 have hBg:∀k,bn B=some k->k≠g:=fun k hk e=>by have:=hB.ax k hk;omega
 clear Ux gg3 rG x2 kL k5 f5 hB;have d12:=x3.cell Dk;rcases rA mk.length with Bk|Bk
 .have KY:mk=[]:=rz Bk
  have yw:mk.getLastD 0=0:=by rw[KY];rfl
  rw[yw,Int.natCast_zero]at Sa;have hmz:=dh (0<mk.length);have ak9:=dh ((0:Int)<(mk.length:Int));clear yw KY Bk;generalize mk.length=ml at*;have K2:[af .i64 1,.int .i64 0,.int .i64 0,.int .i64 0,.int .i64 (has:Nat),.slice B m bd,.int .i64 (dP:Nat),.int .i64 (ml:Nat),.int .u32 0].length=9:=rfl;go_wp2_with (first|(with_reducible refine bI rfl 34 (.tmp 5) rfl rfl underlying34 mR K2 Mu.all ?_))
  refine(Sa.o W3 x3 B m bd sC).mono ?_;rintro e w5 ⟨B5,Uy,rfl,Wf,e5⟩;have bM5:=AI.o.ext e5;have hx5:=x3.trans e5;have CJ:[af .i64 (me:Nat),.int .i64 (i:Nat),.slice B5 EP.length Uy].length=3:=rfl;have DS:[af .i64 0,.int .i64 0,.slice none 0 0].length=3:=rfl;have zI:∀u∈[af .i64 (me:Nat),.int .i64 (i:Nat),.slice B5 EP.length Uy],u.oneCell'=true:=gA;have hgw:gm<W3.heap.size:=AI.o.lt;go_wp2_with (first|(with_reducible refine bE rfl 176 (.tmp 4) (.tmp 61) rfl rfl (us:=[.int .i64 (me:Nat),.int .i64 (i:Nat),.slice B5 EP.length Uy]) rfl bM5 CJ DS fq zI ?_;intro Z bZ gZ sZ));have eZ:=Ext.own (B:=some ⟨gm,0,none⟩) hx5 gZ (fun k hk=>Ww);have hBZ:Own Z w.heap.size 5 1 B5 EP.length Uy (dK EP):=(Wf.kept gZ (by
   rcases hb:bn B5 with _|k
   .exact .inl rfl
   .refine .inr fun e=>?_;have h1:=Wf.ax k hb;have h2:k=gm:=kI.inj e;omega)).mono (x3.size)
  exact bodyPost_ret (sQ rfl _ rfl bZ underlying176 fq) rfl ⟨B5,Uy,rfl,qT▸hBZ,eZ⟩
 .obtain⟨m1,Ir⟩:∃m1,mk.length-1=m1:=⟨_,rfl⟩
  have ala:m1<mk.length:=η;obtain⟨gk,rfl,Pu,_,_⟩:=Hm.o m1 ala;have yw:mk.getD m1 0=mk.getLastD 0:=by rw[YH,ade,Ir,cO]
  rw[yw]at Pu;have ak9:=dQ ((0:Int)<(mk.length:Int));have hw:cQ.wrap ((mk.length:Int)-1)=(m1:Nat):=by rw[pS _ η];omega
  replace Pu:=x3.cell Pu;have k8:=Mu.zc 8;have f8:=Mu.free 8;clear yw Ir;generalize mk.getLastD 0=sm at*;go_upto_region 6 with fail
  generalize Uz:dG _ (g,8) _=W4;have YJ:Has W4 (fun _=>0) 0 g [(1:Int),(0:Int),(0:Int),(0:Int),has,.slice B m bd,dP,mk.length,.int .u32 (sm:Nat)]:=by subst Uz;exact Mu.set 8 (.int .u32 (sm:Nat))
  have gg4:W3.grownBy W4 (some g):=by subst Uz;exact gG _ _ _
  have anb:w.heap.size<=g:=η;have x4:Ext w W4:=Ext.own (B:=some ⟨g,0,none⟩) x3 gg4 (fun k hk=>af3);have YK:=θ (AI.o.grown gg4 dw);have Bn:Rb W4 B m bd pr:=Rb.uw sC (fun h0 k hk=>gg4.block k (Rd.Gf sC η hk) (fun e=>hBg k hk (kI.inj e)));clear Uz gg4 AI x3 Mu k8 f8 sC Pu;have K2:[af .i64 1,.int .i64 0,.int .i64 0,.int .i64 0,.int .i64 (has:Nat),.slice B m bd,.int .i64 (dP:Nat),.int .i64 (mk.length:Nat),.int .u32 (sm:Nat)].length=9:=rfl;go_wp2_with (first|(with_reducible refine bI rfl 34 (.tmp 5) rfl rfl underlying34 mR K2 YJ.all ?_))
  refine(Sa.o W4 x4 B m bd Bn).mono ?_;rintro e w5 ⟨B5,Uy,rfl,Wf,e5⟩;have bM5:=YK.o.ext e5;have hx5:=x4.trans e5;have CJ:[af .i64 (me:Nat),.int .i64 (i:Nat),.slice B5 EP.length Uy].length=3:=rfl;have DS:[af .i64 0,.int .i64 0,.slice none 0 0].length=3:=rfl;have zI:∀u∈[af .i64 (me:Nat),.int .i64 (i:Nat),.slice B5 EP.length Uy],u.oneCell'=true:=gA;have hgw:gm<W4.heap.size:=YK.o.lt;go_wp2_with (first|(with_reducible refine bE rfl 176 (.tmp 4) (.tmp 61) rfl rfl (us:=[.int .i64 (me:Nat),.int .i64 (i:Nat),.slice B5 EP.length Uy]) rfl bM5 CJ DS fq zI ?_;intro Z bZ gZ sZ));have eZ:=Ext.own (B:=some ⟨gm,0,none⟩) hx5 gZ (fun k hk=>Ww);have hBZ:Own Z w.heap.size 5 1 B5 EP.length Uy (dK EP):=(Wf.kept gZ (by
   rcases hb:bn B5 with _|k
   .exact .inl rfl
   .refine .inr fun e=>?_;have h1:=Wf.ax k hb;have h2:k=gm:=kI.inj e;omega)).mono (x4.size)
  exact bodyPost_ret (sQ rfl _ rfl bZ underlying176 fq) rfl ⟨B5,Uy,rfl,qT▸hBZ,eZ⟩
end
theorem Cd:(prog.info? 176).map (fun i=>(i.zero,i.size,i.bytes))=some (some (.agg #[(0:Int),(0:Int),.slice none 0 0]),3,40):=ey
def jR(id:Nat)(k:Pk)(h:aS×Nat):List ξ:=[.int .i64 (k.src:Nat),.int .i64 (k.dst:Nat),.slice h.1 (aG id k).length h.2]
def cY(id:Nat):List Pk->List (Option cJ×Nat)->List ξ
 |k::ks,h::hs=>jR id k h++cY id ks hs
 |_,_=>[]
theorem ux(id:Nat)(k:Pk)(h:aS×Nat):∀(ks:List Pk) (hs:List (Option cJ×Nat)),hs.length=ks.length->cY id (ks++[k]) (hs++[h])=cY id ks hs++jR id k h
 | [],[],_=>by simp[cY]
 |k'::ks,h'::hs,e=>by rw[zN,zN,cY,cY,ux id k h ks hs Lg,ic]
theorem uy(id:Nat):∀(ks:List Pk) (hs:List (Option cJ×Nat)),∀u∈cY id ks hs,u.oneCell'=true
 | [],_,u,hu=>by simp[cY]at hu
 |_::_,[],u,hu=>by simp[cY]at hu
 |k::ks,h::hs,u,hu=>by
  rw[cY,List.mem_append]at hu;rcases hu with hu|hu
  .simp only[jR,List.mem_cons,List.not_mem_nil,or_false]at hu;rcases hu with rfl|rfl|rfl<;>rfl
  .exact uy id ks hs u hu
theorem nP(id:Nat):∀(ks:List Pk) (hs:List (Option cJ×Nat)) (i j:Nat),hs.length=ks.length->(hi:i<ks.length)->(hi':i<hs.length)->j<3->(cY id ks hs)[i*3+j]?=(jR id ks[i] hs[i])[j]?
 |k::ks,h::hs,0,j,e,_,_,hj=>by rw[cY,kn (by simp[jR];omega)];simp
 |k::ks,h::hs,i+1,j,e,hi,hi',hj=>by have hl:(jR id k h).length=3:=rfl;rw[cY,ij (by rw[hl];omega),hl,show(i+1)*3+j-3=i*3+j by omega,nP id ks hs i j Lg S9 (by simpa using hi') hj];simp
def UA(w:κ)(base id:Nat)(B:aS)(n d:Nat)(ks:List Pk):Prop :=
 ∃hs:List (Option cJ×Nat),hs.length=ks.length/\n=ks.length/\Own w base 176 3 B n d (cY id ks hs)/\∀(i:Nat) k h,ks[i]?=some k->hs[i]?=some h->(Rb w h.1 (aG id k).length h.2 (aG id k)/\Off B h.1 (aG id k))/\∀g,bn h.1=some g->base<=g
section
variable {w w' W wy:κ}{base id:Nat}{A B E:aS}{n d bd Ed:Nat}{ks:List Pk}{k:Pk}
theorem UA.dR(w:κ)(base id:Nat):UA w base id none 0 0 []:=⟨[],rfl,rfl,Own.dR _ _ _ _,fun i k h hi=>Ee⟩
theorem UA.app{hs:List (Option cJ×Nat)}(h1:hs.length=ks.length)(h2:n=ks.length)(ho:Own w base 176 3 B n d (cY id ks hs))(he:∀(i:Nat) k h,ks[i]?=some k->hs[i]?=some h->(Rb w h.1 (aG id k).length h.2 (aG id k)/\Off B h.1 (aG id k))/\∀g,bn h.1=some g->base<=g)(hb:base<=w.heap.size)(hx:Ext w W)(hr:Rb W A (aG id k).length bd (aG id k))(hA:∀g,bn A=some g->w.heap.size<=g)(fQ:Own wy base 176 3 E (n+1) Ed (cY id ks hs++jR id k (A,bd)))(hg:W.grownBy wy (bn B))(hw:bn E=bn B\/∀k,bn E=some k->W.heap.size<=k):UA wy base id E (n+1) Ed (ks++[k]):=by
 refine⟨hs++[(A,bd)],by simp[h1],by simp[h2],by rw[ux id k _ ks hs h1];exact fQ,fun i k' h hk hi=>?_⟩;have key:∀A' m' c' (l':aD),Rb W A' m' c' l'->Off B A' l'->Rb wy A' m' c' l'/\Off E A' l':=by
  intro A' m' c' l' h1 h2;have hlen:=h1.len;refine⟨Rd.fc h1 fun h0 k hk=>hg.block k (Rd.Gf h1 h0 hk) (fun e=>h2 η k hk e.symm),fun h0 g kL=>?_⟩;rcases hw with h|h
  .rw[h];exact h2 h0 g kL
  .intro e;have:=h g e;have:=Rd.Gf h1 η kL;omega
 by_cases qV:i<ks.length
 .rw[kn η]at hi;rw[kn qV]at hk;obtain⟨⟨h1,h2⟩,h3⟩:=he i k' h hk hi;exact⟨key _ _ _ _ (h1.ext hx) h2,h3⟩
 .have Yr:i=ks.length:=by have:=(iN.1 hk).1;rw[eU,List.length_singleton]at this;omega
  subst Yr;rw[←h1,ij (aq _)]at hi;rw[ij (aq _)]at hk;simp only[Nat.sub_self,List.getElem?_cons_zero,kI.injEq]at hi hk;subst hi;subst hk;refine⟨key _ _ _ _ hr fun h0 g kL e=>?_,fun g kL=>aF hb (hA g kL)⟩;have h1:=hA g kL;obtain⟨a,ha,vf⟩:=Option.map_eq_some_iff.1 e;have:=(ho.gU a ha).2;rw[vf]at this;omega
def YL(w:κ)(T:Tg)(base id:Nat)(B:aS)(n d:Nat)(ks:List Pk):Prop:=∃m,base<=m/\UA w m id B n d ks/\∀k,m<=k->T k=0
end
section
variable {w w':κ}{T T':Tg}{t:Nat}{e:aY}{size:Nat}{A:aS}{n c:Nat}{xs:List ξ}
theorem Sc(xs:List ξ)(v:ξ)(hk:k<xs.length):xs.set k v=xs.take k++v::xs.drop (k+1):=by rw[List.set_eq_take_append_cons_drop,if_pos hk]
theorem Row.Kk{g:Nat}(hA:A=some ⟨g,0,none⟩):∀(vs:List ξ) (k:Nat) (xs:List ξ) (w:κ),Row w T t e size A n c xs->Θ w T->k+vs.length<=xs.length->Ξ (· = t) w T (w.setCells g k vs) T/\Row (w.setCells g k vs) T t e size A n c (xs.take k++vs++xs.drop (k+vs.length))
 | [],k,xs,w,h,hu,hk=>by refine⟨Ξ.refl _ hu,?_⟩;rw[List.append_nil,List.length_nil,Nat.add_zero,List.take_append_drop];exact h
 |v::r,k,xs,w,h,hu,hk=>by
  have js:k+(r.length+1)<=xs.length:=Ta;obtain⟨hT,hR⟩:=h.put hu (i:=k) hA v;obtain⟨bq,jO⟩:=Row.Kk hA r (k+1) (xs.set k v) _ hR hT.Δ agd;refine⟨hT.trans bq,jO.to ?_⟩;have jm:(xs.take k).length=k:=Oz;have h1:(xs.set k v).take (k+1)=xs.take k++[v]:=by rw[Sc xs v η,List.take_append,jm,jL η,show k+1-k=1 by omega];rfl
  have h2:(xs.set k v).drop (k+1+r.length)=xs.drop (k+(v::r).length):=by
   rw[List.drop_set_of_lt η,List.length_cons];congr 1
   omega
  rw[h1,h2];simp
theorem Row.spare(h:Row w T t e size A n c xs)(hA:A=some ⟨g,0,none⟩)(hi:i<xs.length):(w.cell? (g,i)).isSome=true/\w.frozen? (g,i)=false:=by
 obtain⟨g9,e9,h1,h2,_⟩:=h.at_ (bf hi);rw[hA]at e9;cases e9
 exact⟨by rw[h1];rfl,h2⟩
theorem yx(w:κ)(ty e:aY)(z:ξ)(size:Nat)(ht:P.underlying ty=some (.slice e))(hv:∀w,(zeroValue e).run P w=.ok z w)(hz:z.cells.size=size)(fV:0<size)(h1:∀u∈z.cells,u.oneCell'=true)(b o n c:Nat)(hn:0<n)(hc:∀j,j<n*size->(w.cell? ⟨b,o+j,none⟩).isSome=true)(hf:∀j,j<n*size->w.frozen? ⟨b,o+j,none⟩=false):∃zs:List ξ,zs.length=n*size/\∀tl,(Builtin.clear_ #[ty] tl #[.slice (b,o) n c]).run P w=.ok (.tuple #[]) (w.setCells b o zs):=by
 have DK:(Builtin.zeroCells z.cells n).toList.length=n*size:=by simp[Builtin.zeroCells,hz]
 have eH:=run_storeCells_cells (P:=P) b o (Builtin.zeroCells z.cells n).toList 0 w (by rw[DK];simpa using hc) (by rw[DK];simpa using hf) (by
  intro v hv';simp only[Builtin.zeroCells,Array.toList_map,fK]at hv';obtain⟨i,_,rfl⟩:=hv';apply h1;rw[getElem!_pos]
  .exact Array.getElem_mem _
  .exact Nat.mod_lt _ (by rw[hz];exact fV))
 simp only[Nat.add_zero]at eH;obtain⟨m,rfl⟩:∃m,n=m+1:=⟨n-1,η⟩;exact⟨_,DK,fun tl=>by simp[Builtin.clear_,run_underlying ht,hv,eH]⟩
theorem zl{o:Oper}(rJ:o.guard=none)(s x:Operand)(t:aY)(ho:o.op=.call {callee:=.builtin .append,args:=#[s,x],argTypes:=#[t,t]})(e:aY)(i:TypeInfo)(size:Nat)(ht:P.underlying t=some (.slice e))(hi:P.info? e=some i)(fV:i.size=size)(b off n cap:Nat)(hs:a.eval s=.slice (b,off) n cap)(A:cJ)(m c:Nat)(news:List ξ)(hx:a.eval x=.slice (some A) m c)(hl:news.length=m*size)(ah8:∀j u,news[j]?=some u->w.cell? (A.add j)=some u)(h1:∀u∈news,u.oneCell'=true)(WH:n+m<=cap)(YM:∀j,j<news.length->(w.cell? ⟨b,off+n*size+j,none⟩).isSome=true/\w.frozen? ⟨b,off+n*size+j,none⟩=false)(h:wpList P ops Q rest (a.put o.dst (.slice (b,off) (n+m) cap)) (w.setCells b (off+n*size) news)):wpList P ops Q (o::rest) a w:=by
 subst fV;have bU:=run_append_room_cells (P:=P) (w:=w) t o.type e i ht hi b off n cap A m c news hl ah8 h1 WH (fun j hj=>(YM j hj).1) (fun j hj=>(YM j hj).2);refine wpList_plain rJ fun K hK=>?_;unfold Oper.wp;simp[execOp,ho,resolve,invoke,builtin,hs,hx,bU,Result.andThen]
 exact hK _ _ h
theorem Kl{o:Oper}(rJ:o.guard=none)(x:Operand)(t:aY)(ho:o.op=.call {callee:=.builtin .clear,args:=#[x],argTypes:=#[t]})(v:ξ)(hx:a.eval x=v)(W:κ)(bU:∀ty,(Builtin.clear_ #[t] ty #[v]).run P w=.ok (.tuple #[]) W)(h:wpList P ops Q rest (a.put o.dst (.tuple #[])) W):wpList P ops Q (o::rest) a w:=by
 refine wpList_plain rJ fun K hK=>?_;unfold Oper.wp;simp[execOp,ho,resolve,invoke,builtin,hx,bU,Result.andThen]
 exact hK _ _ h
theorem Mw(h:Row w T t 176 3 A n c xs)(hu:Θ w T)(hi:i<n)(hn:n<=300)(h1:∀u∈xs,u.oneCell'=true):τ prog 155 #[.slice A n c,i,((i+1:Nat):Int)] w fun e w'=>e=.returned (.slice A (n-1) c)/\Ξ (· = t) w T w' T/\Row w' T t 176 3 A (n-1) c (xs.take (i*3)++xs.drop (i*3+3)):=by
 obtain⟨i0,Ij,dx,dA,dN⟩:=info_parts Cd;have hxl:=h.len;obtain⟨g,rfl,_,_,_⟩:=h.at_ (i:=0) (v:=xs[0]' η) (bf η);have Gc:=h.rd.2.1;have hcm:=h.rd.2.2.1;unfold maxLen at hcm;have anc:((i:Int)==(i:Int)+1)=false:=kO;have hic:i<=c:=η;have hcd:(0<=(i:Int)+1/\(i:Int)+1<=(n:Int))=True:=eq_true ⟨η,η⟩;obtain⟨A9,hA9,iF⟩:∃A9:cJ,(if c=i+1 then (some ⟨g,0,none⟩:aS) else some ⟨g,(i+1)*3,none⟩)=some A9/\∀W,Ext w W->∀j u,(xs.drop (i*3+3))[j]?=some u->W.cell? (A9.add j)=some u:=by
  have key:∀W,Ext w W->∀j u,(xs.drop (i*3+3))[j]?=some u->W.cell? ⟨g,(i+1)*3+j,none⟩=some u:=by
   intro W hW j u yX;obtain⟨b9,o9,e9,hc9⟩:=h.rd.2.2.2 η;cases e9
   rw[List.getElem?_drop]at yX;have:=hW.cell (hc9 _ u yX);rw[show 0+(i*3+3+j)=(i+1)*3+j by omega]at this;exact this
  by_cases h9:c=i+1
  .refine⟨⟨g,0,none⟩,by rw[if_pos h9],fun W hW j u yX=>?_⟩;have:=(iN.1 yX).1;rw[Bq]at this;omega
  .refine⟨⟨g,(i+1)*3,none⟩,by rw[if_neg h9],fun W hW j u yX=>?_⟩;rw[cJ.add_lit];exact key W hW j u yX
 have H:=θ h;have sB:=θ h1;clear h1;have alb:=θ iF;clear h iF;go_enter func155,ntmps155;go_wp2_with fail;apply lG 6;simp only[tk];repeat apply iO (fun _ _ _=>trivial)
 refine jq fun Wx ak=>?_;simp only[dk];have hWr:=H.o.ext ak;have eo:∀u∈xs,u.oneCell'=true:=sB.o;have vk:∀j,j<(xs.drop (i*3+3)).length->(Wx.cell? ⟨g,0+i*3+j,none⟩).isSome=true/\Wx.frozen? ⟨g,0+i*3+j,none⟩=false:=by intro j hj;rw[Bq]at hj;rw[mZ];exact hWr.spare rfl η
 have hsr:=alb.o Wx ak;have hux:Θ Wx T:=hu.ext ak;obtain⟨cw,jN⟩:=Row.Kk rfl (xs.drop (i*3+3)) (i*3) xs Wx hWr hux tU;obtain⟨W1,wL⟩:∃W1,W1=Wx.setCells g (0+i*3) (xs.drop (i*3+3)):=⟨_,rfl⟩;rw[mZ]at wL;rw[←wL]at cw jN;obtain⟨zs,DK,j5⟩:=yx (P:=prog) W1 190 176 (.agg #[.int .i64 0,.int .i64 0,.slice none 0 0]) 3 underlying190 (fun w=>by simp[zeroValue,typeInfo,Ij,dx]) rfl Γ Gu g ((i+(n-(i+1)))*3) (n-(i+(n-(i+1)))) (c-(i+(n-(i+1)))) η
  (fun j hj=>(jN.spare rfl af0).1) (fun j hj=>(jN.spare rfl af0).2)
 obtain⟨bq,jO⟩:=Row.Kk rfl zs ((i+(n-(i+1)))*3) _ W1 jN cw.Δ af0;have l8:=θ cw;have jr:=θ bq;have Wg:=θ jO;have HW:=θ (show Wx.setCells g (0+i*3) (xs.drop (i*3+3))=W1 by rw[mZ,wL]);clear cw bq jN jO wL DK;go_wp2_with (at_builtin;refine zl rfl _ _ 190 rfl 176 i0 3 underlying190 Ij dA g 0 i c rfl A9 (n-(i+1)) (c-(i+1)) (xs.drop (i*3+3)) rfl tU hsr (fun u hu=>eo u (List.mem_of_mem_drop hu)) η vk ?_;rw[HW.o]);go_ret;have hk:i+(n-(i+1))=n-1:=η;refine⟨by show Ending.returned (ξ.slice g (i+(n-(i+1))) c)=_;rw[hk],((Ξ.ai _ hu ak).trans l8.o).trans jr.o,(Wg.o.first (m:=n-1) η (fun h=>by cases h)).to ?_⟩;have oh:(xs.take (i*3)++xs.drop (i*3+3)).length=(n-1)*3:=by simp only[eU,tN,Bq];omega
 have vp:(xs.take (i*3)++xs.drop (i*3+3)++xs.drop (i*3+(xs.drop (i*3+3)).length)).take ((n-1)*3)=xs.take (i*3)++xs.drop (i*3+3):=by rw[adf η,jL η]
 rw[hk,vp,ic,adf η,jL η]
end

def tR(kind o:Nat):ξ:=.agg #[kind,o,.slice none 0 0]
def vl(kind o:Nat):Prop:=(kind=1/\o=0)\/(kind=2/\o<=3)
def adi(w:κ)(b:Bool)(e:Ending)(w':κ):Prop:=e=.returned (.bool b)/\Ext w w'
theorem AJ(w:κ)(h:vl kind o):τ prog 146 #[tR kind o] w (adi w true):=by
 unfold tR;rcases h with ⟨rfl,rfl⟩|⟨rfl,ho⟩
 .go_enter func146,ntmps146;go_wp2;go_ret;exact⟨rfl,Ext.alloc _ _⟩
 .have hd:=dQ ((o:Int)<=3);have zW:=dQ (o<=3) ho;go_enter func146,ntmps146;go_wp2;go_ret;exact⟨rfl,Ext.alloc _ _⟩
theorem tB:(prog.info? 331).map (fun i=>(i.zero,i.size,i.bytes))=some (some (.agg (cP 256 (af .i64 0)).toArray),256,2048):=ey
theorem dr:(prog.info? 331).map (·.size)=some 256:=ey
def kF(f:Nat->Nat):List ξ:=(List.range 256).map fun v=>.int .i64 (f v:Nat)
theorem cH(f:Nat->Nat):(kF f).length=256:=by simp[kF]
theorem tD(f:Nat->Nat){v:Nat}(h:v<256):(kF f)[v]?=some ((f v:Nat):ξ):=by simp[kF,h]
theorem mT(f:Nat->Nat):∀u∈kF f,u.oneCell'=true:=by intro u hu;obtain⟨v,_,rfl⟩:=fK.1 hu;rfl
theorem tF:cP 256 (af .i64 0)=kF fun _=>0:=by
 apply adg
 .simp[kF]
 .intro i h1 h2;rw[List.getElem_replicate];simp only[kF,List.getElem_map];rfl
theorem Fs{f g:Nat->Nat}(h:∀v,v<256->f v=g v):kF f=kF g:=by apply List.map_congr_left;intro v hv;rw[h v (List.mem_range.1 hv)]
theorem My(f g:Nat->Nat){x:Nat}(hx:x<256)(h:∀v,v<256->v≠x->g v=f v):(kF f).set x ((g x:Nat):ξ)=kF g:=by
 apply adg
 .simp[kF]
 .intro i h1 h2
  have hi:i<256:=by simpa [kF] using h2
  rw[List.getElem_set];by_cases e:x=i
  .subst e;simp[kF]
  .simp[e,kF,h i hi (fun h=>e h.symm)]
def YN(w:κ)(g2 g4 g5 o:Nat)(aa:aD)(iv:ξ)(wr:κ):Prop:=∃j i:Nat,iv=.int .i64 (i:Nat)/\i=j+o/\i<=aa.length/\sH wr g4 331 (kF fun _=>0)/\sH wr g5 331 (kF (iX o aa j))/\wr.cell? (g2,1)=some (o:ξ)/\Ext w wr
theorem CN(w:κ)(h:vl kind o)(A:aS)(n c:Nat)(aa:aD)(hb:Rb w A n c aa)(hl:aa.length<=2000):τ prog 314 #[tR kind o,.slice A n c] w fun e w'=>e=.returned (.agg (kF (qM kind o aa)).toArray)/\Ext w w':=by
 obtain⟨i0,hi,dx,dA,dN⟩:=info_parts tB;have hn:=hb.len;subst hn;have hmx:=hb.max;unfold maxLen at hmx;unfold tR;rw[tF]at dx;obtain⟨F,hF⟩:∃F,qM kind o aa=F:=⟨_,rfl⟩;rw[hF];have HF:=θ hF;clear hF;go_enter func314,ntmps314;go_upto_region 1 with (with_reducible refine bA rfl 331 rfl hi dx ?_;intro W1 a1 e1 s1)
 go_upto_region 2 with (with_reducible refine bA rfl 331 rfl hi dx ?_;intro W2 a2 e2 s2)
 generalize hV:w.alloc _=V at*;have eV:Ext w V:=by subst hV;exact Ext.alloc _ _
 have k0:V.cell? w.heap.size=some (kind:ξ):=ir;have k1:V.cell? (w.heap.size,1)=some (o:ξ):=ir;have hVs:w.heap.size<V.heap.size:=by subst hV;simp
 clear hV;replace k0:=e2.cell (e1.cell k0);replace k1:=e2.cell (e1.cell k1);replace a1:=a1.ext e2;have x2:=(eV.trans e1).trans e2;have Sd:w.heap.size<V.heap.size:=hVs;have hw5:V.heap.size<W1.heap.size:=η;clear e1 e2 eV s1;clear s2 hVs;generalize hg5:W1.heap.size=g5 at a2 hw5⊢;generalize YJ:V.heap.size=g4 at a1 Sd hw5⊢;generalize kL:w.heap.size=g2 at k0 k1 Sd⊢;have tV:=θ kL;clear kL YJ hg5;rcases h with ⟨rfl,rfl⟩|⟨rfl,ho⟩
 .have hz:qM 1 0 aa=fun _=>0:=by funext v;simp[qM]
  have Se:F=fun _=>0:=by rw[←HF.o];exact hz
  clear hz;go_wp2_with (first|(with_reducible refine fH rfl 331 (.tmp 5) rfl rfl underlying331 dr a2 (cH _) ?_)|(with_reducible refine bF rfl 331 (.tmp 4) (.tmp 18) rfl rfl rfl a1 (cH _) (cH _) dr (mT _) ?_;intro W3 a3 g3 s3));exact bodyPost_ret (v:=.agg (kF fun _=>0).toArray) (kM rfl _ rfl a3 (cH _) underlying331 dr) rfl ⟨by rw[Se],Ext.own (B:=some ⟨g4,0,none⟩) x2 g3 (fun k hk=>S3)⟩
 by_cases hlo:aa.length<o
 .have hz:qM 2 o aa=fun _=>0:=by funext v;simp only[qM];rw[if_neg η]
  have zW:=dQ (aa.length<o) hlo;have Se:F=fun _=>0:=by rw[←HF.o];exact hz
  clear hz;go_wp2_with (first|(with_reducible refine fH rfl 331 (.tmp 5) rfl rfl underlying331 dr a2 (cH _) ?_)|(with_reducible refine bF rfl 331 (.tmp 4) (.tmp 18) rfl rfl rfl a1 (cH _) (cH _) dr (mT _) ?_;intro W3 a3 g3 s3));exact bodyPost_ret (v:=.agg (kF fun _=>0).toArray) (kM rfl _ rfl a3 (cH _) underlying331 dr) rfl ⟨by rw[Se],Ext.own (B:=some ⟨g4,0,none⟩) x2 g3 (fun k hk=>S3)⟩
 have zW:=dh (aa.length<o) hlo;obtain⟨A',N8,hcut⟩:=hb.cut (k:=aa.length-o) η;obtain⟨m,hm⟩:∃m,aa.length-o=m:=⟨_,rfl⟩;rw[hm]at N8 hcut;have hmo:aa.length-m=o:=η;rw[hmo]at hcut;have pz:cQ.wrap ((aa.length:Int)-(o:Int))=(m:Nat):=by rw[pS _ η];omega
 have lD:m<=aa.length:=η;have alc:(m:Int)<=(aa.length:Int):=η;have Fk:=θ hcut;have Hm:=θ hm;have Hb:=θ hb;clear hcut hm hb;go_wp2_with fail;go_loopw [7] (fun iv wr=>YN w g2 g4 g5 o aa iv wr) (fun iv _=>aa.length-(intOf iv).toNat)
 case atStart=>exact⟨0,o,rfl,η,η,a1,a2,k1,x2⟩
 case round =>
  obtain⟨j,i,rfl,yh,jI,r4,r5,q1,xr⟩:=hrel;by_cases qV:i<aa.length
  .clear k1 k0 a1 a2
   have Bl:=Hb.o.ext xr;obtain⟨gp,op,rfl,hci⟩:=Bl.at_ qV;have Fu:=Rb.acR (Bl.take (k:=i) η) (k:=j) η η;have hio:i-j=o:=η;rw[hio]at Fu;have xZ:cQ.wrap ((i:Int)-(o:Int))=(j:Nat):=by rw[pS _ η];omega
   have Gy:j<=i:=η;have heq:=AD wr _ _ _ _ _ _ _ _ Fu (Fk.o.ext xr);have Sf:(aa.take i).drop j=(aa.drop j).take o:=by rw[adh,hio]
   rw[Sf]at heq;have Heq:=θ heq;have Hij:=θ yh;have OS:aa.getD (j+o) 0=aa[i]:=by rw[←yh,cO,bf qV];rfl
   have eH:∀v,iX o aa (j+1) v=iX o aa j v+if (aa.drop j).take o=aa.drop m/\aa[i].toNat=v then 1 else 0:=by intro v;rw[EE,Hm.o,OS]
   have kR:=θ eH;have hx:=YI aa[i];generalize aa[i].toNat=x at*;have r5x:=r5.cell (tD _ hx);have f5x:=r5.free x;have hle:=EF o aa j x;have R5:=θ r5;have R4:=θ r4;clear yh Fu heq Sf OS eH r5 r4 N8;go_wp2_with fail;refine Heq.o.mono ?_;rintro e w9 ⟨rfl,rfl⟩;by_cases hq:(aa.drop j).take o=aa.drop m
   .have hbq:((aa.drop j).take o==aa.drop m)=true:=by rw[beq_iff_eq];exact hq
    rw[hbq];have YO:iX o aa (j+1) x=iX o aa j x+1:=by rw[kR.o,if_pos ⟨hq,rfl⟩]
    have gN:=My (iX o aa j) (iX o aa (j+1)) hx (fun v _ hv=>by rw[kR.o,if_neg (fun h=>hv h.2.symm)];rfl);rw[YO]at gN;have YP:=θ gN;clear gN hq hbq YO;generalize iX o aa j x=y at*;go_wp2;go_roundw
    case rel =>
     refine⟨j+1,i+1,cR,by have:=Hij.o;omega,η,?_,?_,?_,?_⟩
     .exact R4.o.dD (uc _ _ _ _ (by show g4≠g5;omega))
     .have h9:=R5.o.set x (.int .i64 ((y+1:Nat):Int));rw[YP.o]at h9;exact h9
     .rw[Ac _ _ _ _ (by intro e;injection e with e1;omega)];exact q1
     .exact Ext.own (B:=some ⟨g5,0,none⟩) xr (gG _ _ _) (fun k hk=>by cases hk;have:=tV.o;show w.heap.size<=g5;omega)
    case measure=>exact dB
   .have hbq:((aa.drop j).take o==aa.drop m)=false:=by rw[beq_eq_false_iff_ne];exact hq
    rw[hbq];have YO:kF (iX o aa (j+1))=kF (iX o aa j):=Fs fun v _=>by rw[kR.o,if_neg (fun h=>hq h.1)];rfl
    have Hwn:=θ YO;clear hq hbq YO;go_wp2;go_roundw
    case rel=>exact⟨j+1,i+1,cR,by have:=Hij.o;omega,η,R4.o,by rw[Hwn.o];exact R5.o,q1,xr⟩
    case measure=>exact dB
  .obtain rfl:j=m:=by omega
   have Se:F=iX o aa j:=by
    rw[←HF.o];funext v
    unfold qM;rw[if_pos ⟨rfl,η⟩,Hm.o]
   go_wp2_with (first|(with_reducible refine fH rfl 331 (.tmp 5) rfl rfl underlying331 dr r5 (cH _) ?_)|(with_reducible refine bF rfl 331 (.tmp 4) (.tmp 51) rfl rfl rfl r4 (cH _) (cH _) dr (mT _) ?_;intro W3 a3 g3 s3))
   exact bodyPost_ret (v:=.agg (kF (iX o aa j)).toArray) (kM rfl _ rfl a3 (cH _) underlying331 dr) rfl ⟨by rw[Se],Ext.own (B:=some ⟨g4,0,none⟩) xr g3 (fun k hk=>S3)⟩
theorem Mz(w:κ)(A:aS)(n c:Nat)(aa:aD)(hb:Rb w A n c aa):τ prog 316 #[.slice A n c] w fun e w'=>e=.returned (.int .u8 ((rO aa).toNat:Nat))/\w'=w:=by
 have hn:=hb.len;subst hn;have hmx:=hb.max;unfold maxLen at hmx;rcases rA aa.length with h0|h0
 .have hp:aa=[]:=rz h0;subst hp;have hl:(rO []).toNat=0:=rfl;rw[hl];clear hb hmx h0 hl;go_enter func316,ntmps316;go_wp2;go_ret;exact⟨rfl,rfl⟩
 .obtain⟨g,o,rfl,hc⟩:=hb.at_ (k:=aa.length-1) η
  have hl:rO aa=aa[aa.length-1]:=by unfold rO;rw[YH,ade,bf η];rfl
  rw[hl];generalize aa[aa.length-1].toNat=x at*;have hz':((aa.length:Int)==0)=false:=kO;obtain⟨m,hm⟩:∃m,aa.length-1=m:=⟨_,rfl⟩;rw[hm]at hc;have hw:cQ.wrap ((aa.length:Int)-1)=(m:Nat):=by rw[pS _ η];omega
  have Fa:m<aa.length:=η;clear hb hm hl;go_enter func316,ntmps316;go_wp2;go_ret;exact⟨rfl,rfl⟩
theorem UB(W:κ)(f:Nat->Nat)(hk:k<256):(Instr.index 331 (.agg (kF f).toArray) (k:ξ)).run prog W=.ok ((f k:Nat):ξ) W:=by have hs:(sizeOf 3).run prog W=.ok 1 W:=ey;unfold Instr.index;have hc':=tD f hk;simp[asIntOf,Sem.run_bind,run_underlying underlying331,hs,part,hc',hk]
theorem IU(w:κ)(h:vl kind o)(A:aS)(n c:Nat)(aa:aD)(hb:Rb w A n c aa)(hl:aa.length<=2000):τ prog 315 #[tR kind o,.slice A n c] w fun e w'=>e=.returned (.int .u8 ((nJ kind o aa).toNat:Nat))/\Ext w w':=by
 obtain⟨i0,hi,dx,dA,dN⟩:=info_parts tB;rw[tF]at dx;rw[JR];have hk:((kind:Int)==3)=false:=ae9;have js:(kind==3)=false:=ae9;have Hw:=θ fun W (e:Ext w W)=>CN W h A n c aa (hb.ext e) hl;have ah9:=θ fun W (e:Ext w W)=>Mz W A n c aa (hb.ext e);have aX:=YI (rO aa);obtain⟨F,hF⟩:∃F,EG kind o aa=F:=⟨_,rfl⟩;rw[hF];have hF':fP (qM kind o aa) (rO aa).toNat 256=F:=hF;have HF:=θ hF';have Hle:=θ fun v=>aF (RD kind o aa v) hl;clear hF hF';unfold tR at*;generalize qM kind o aa=f at*;generalize (rO aa).toNat=last at*;clear h hb hl;go_enter func315,ntmps315;go_wp2_with fail;generalize hV:w.alloc _=V at*;have eV:Ext w V:=by subst hV;exact Ext.alloc _ _
 clear hV;refine(Hw.o V eV).mono ?_;rintro e w1 ⟨rfl,e1⟩;go_wp2_with (first|(with_reducible refine bA rfl 331 rfl hi dx ?_;intro W1 a1 e2 s1)|(with_reducible refine bF rfl 331 (.tmp 5) (.tmp 24) rfl rfl rfl a1 (cH _) (cH _) dr (mT _) ?_;intro W3 a3 g3 s3));have e3:Ext w1 W3:=Ext.own (B:=some ⟨w1.heap.size,0,none⟩) e2 g3 (fun k hk=>by cases hk;exact aq _);have eW:=(eV.trans e1).trans e3;clear e1 e2 e3 eV g3 s1 s3 a1;generalize w1.heap.size=g5 at*;refine(ah9.o W3 eW).mono ?_;rintro e w4 ⟨rfl,rfl⟩;go_wp2_with (first|(with_reducible refine fH rfl 331 (.tmp 5) rfl rfl underlying331 dr a3 (cH _) ?_))
 go_loop [6,28] (fun bv iv=>∃v:Nat,iv=.int .i64 (v:Nat)/\v<=256/\bv=.int .u8 (fP f last v:Nat)) (fun _ iv=>256-(intOf iv).toNat)
 case atStart=>exact⟨0,rfl,aM _,rfl⟩
 case round =>
  obtain⟨v,rfl,hv,rfl⟩:=hrel;by_cases Lo:v<256
  .have jF:=dQ ((v:Int)<256)
   have DR:=Ic f aX hv;have Pb:=UB w4 f Lo;have ca:=a3.cell (tD f DR);have Gg:fP f last (v+1)=if f (fP f last v)<f v then v else fP f last v:=rfl
   have hcw:oU.u8.wrap (v:Int)=(v:Int):=Ec;by_cases BM:f (fP f last v)<f v
   .rw[if_pos BM]at Gg
    have Hnx:=θ Gg;have Gj:=dQ ((f (fP f last v):Int)<(f v:Int));have Ce:=dQ (f (fP f last v)<f v) BM;clear Gg;generalize fP f last v=b at*;generalize f b=fb at*;generalize f v=fv at*;go_wp2;go_round
    case rel=>exact⟨v+1,cR,η,by rw[Hnx.o]⟩
    case measure=>exact dB
   .rw[if_neg BM]at Gg
    have Hnx:=θ Gg;have Gj:=dh ((f (fP f last v):Int)<(f v:Int));have Ce:=dh (f (fP f last v)<f v) BM;clear Gg;generalize fP f last v=b at*;generalize f b=fb at*;generalize f v=fv at*;go_wp2;go_round
    case rel=>exact⟨v+1,cR,η,by rw[Hnx.o]⟩
    case measure=>exact dB
  .obtain rfl:v=256:=by omega
   rw[HF.o];go_wp2;go_ret;exact⟨rfl,eW⟩
theorem PT(w:κ)(A:aS)(n c:Nat)(l:aD)(hb:Rb w A n c l)(hs:l.length<=1000000):τ prog 319 #[.slice A n c] w (Made w 5 1 (dK l)):=by
 obtain⟨i0,hi,dx,dA,dN⟩:=info_parts dX;have hn:=hb.len;have hmx:=hb.max;cases A with
 |none =>
  have hl:l=[]:=by
   rcases rA n with h0|h0
   .exact rz η
   .obtain⟨b,o,e,_⟩:=hb.2.2.2 η;cases e
  subst hl;subst hn;clear hb hmx;have BQ:=yT 0 c w;go_enter func319,ntmps319;go_wp2;go_ret;exact⟨none,0,0,rfl,Own.dR _ _ _ _,Ext.refl _⟩
 |some a =>subst hn;have Hb:=θ hb;clear hb;have BQ:=Io a l.length c w;go_enter func319,ntmps319;go_wp2_with (at_builtin;refine aN _ rfl _ _ 30 rfl w.heap.size 5 i0 (.int .u8 0) 1 1 underlying30 hi dx dA dN rfl Γ (some ⟨w.heap.size,0,none⟩) 0 0 [] rfl (Own.made w w.heap.size 5 1 [] 0 (aq _) Γ rfl) (some a) l.length c _ rfl (Rd.ext Hb.o (Ext.alloc _ _)) (ez l) iQ η bT ?_;intro E Ed wy fQ fN oY);go_ret;rw[mZ]at fQ;exact⟨E,_,Ed,rfl,fQ,Below.trans (Ext.alloc _ _) (fW fN bT (by intro k hk;cases hk;exact aq _))⟩
section
variable(w:κ)(h:vl kind o)(A:aS)(n c:Nat)(aa:aD)(hb:Rb w A n c aa)
include h hb
theorem IV(hl:aa.length<=1000)(m:Nat)(hm:aa.length+m<=1000):τ prog 301 #[tR kind o,.slice A n c,m] w fun e w'=>∃B d,e=.returned (.slice B m d)/\Rb w' B m d (mM kind o aa m)/\(∀g,bn B=some g->w.heap.size<=g)/\Ext w w':=by
 obtain⟨i0,hi,dx,dA,dN⟩:=info_parts dX;have hn:=hb.len;subst hn;have hmx:=hb.max;unfold maxLen at hmx;have ku:=θ fun W=>AJ W h;have Hf:=θ fun W A n c l hb hl=>IU W h A n c l hb hl;have Hb:=θ fun W (e:Ext w W)=>PT W A aa.length c aa (hb.ext e) η;unfold tR at*;clear h hb;go_enter func301,ntmps301;go_wp2_with fail;generalize hV:w.alloc _=V at*;have eV:Ext w V:=by subst hV;exact Ext.alloc _ _
 have b0:V.cell? w.heap.size=some (kind:ξ):=ir;have b1:V.cell? (w.heap.size,1)=some (o:ξ):=ir;have b2:V.cell? (w.heap.size,2)=some (.slice none 0 0):=ir;have hgV:w.heap.size<V.heap.size:=by subst hV;simp
 clear hV;refine(ku.o V).mono ?_;rintro e w1 ⟨rfl,e1⟩;replace b0:=e1.cell b0;replace b1:=e1.cell b1;replace b2:=e1.cell b2;replace eV:=eV.trans e1;replace hgV:=eM hgV e1.size;clear e1;go_wp2_with fail;refine(Hb.o w1 eV).mono ?_;rintro e w2 ⟨B,k,d,rfl,ho,e1⟩;have hk:k=aa.length:=Ld;subst hk;replace b0:=e1.cell b0;replace b1:=e1.cell b1;replace b2:=e1.cell b2;have ald:=e1.size;replace eV:=eV.trans e1;clear e1;go_wp2_with fail;go_loopw [7,16] (fun v iv wr=>∃(k:Nat) (B:aS) (d:Nat),iv=.int .i64 (k:Nat)/\k<=m/\v=.slice B (aa.length+k) d/\Own wr w1.heap.size 5 1 B (aa.length+k) d (dK (ji kind o aa k))/\Ext w wr/\(wr.cell? w.heap.size=some (kind:ξ)/\wr.cell? (w.heap.size,1)=some (o:ξ)/\wr.cell? (w.heap.size,2)=some (.slice none 0 0))/\w1.heap.size<=wr.heap.size) (fun _ iv _=>m-(intOf iv).toNat)
 case atStart=>exact⟨0,B,d,rfl,aM _,rfl,ho,eV,⟨b0,b1,b2⟩,ald⟩
 case round =>
  obtain⟨k,B,d,rfl,hk,rfl,ho,er,⟨b0,b1,b2⟩,Fc⟩:=hrel;by_cases hkm:k<m
  .have J9:Rb wr B (aa.length+k) d (ji kind o aa k):=ho.rd
   have hf:=Hf.o wr _ _ _ _ J9 WC;have uh:ji kind o aa (k+1)=ji kind o aa k++[nJ kind o (ji kind o aa k)]:=rfl;have E4:=θ uh;have HF:=θ hf;clear hf uh J9;generalize hx:nJ kind o (ji kind o aa k)=x at*;go_wp2_with fail;refine HF.o.mono ?_;rintro e w3 ⟨rfl,e3⟩;have ho3:=ho.ext e3;go_wp2_with (at_builtin;refine ag _ rfl _ _ 30 rfl w1.heap.size 5 i0 (.int .u8 0) 1 1 underlying30 hi dx dA dN rfl Γ B (aa.length+k) d _ rfl ho3 1 _ rfl rfl gA iQ η (aF Fc e3.size) ?_;intro E Ed wy fQ fN oY);go_roundw
   case rel =>
    have hne:bn B≠some w.heap.size:=fun h=>by have:=ho.ax _ h;omega
    refine⟨k+1,E,Ed,cR,η,rfl,?_,Ext.own (er.trans e3) fN (fun q hq=>by have:=ho.ax q hq;omega),⟨?_,?_,?_⟩,by have:=fN.size;have:=e3.size;omega⟩
    .rw[E4.o,aJ];exact fQ
    .exact fN.cell (e3.cell b0) (by simpa using hne.symm)
    .exact fN.cell (e3.cell b1) (by simpa using hne.symm)
    .exact fN.cell (e3.cell b2) (by simpa using hne.symm)
   case measure=>exact dB
  .obtain rfl:k=m:=by omega
   have hmo:=ho.rd;have XK:Rb wr B (aa.length+k) d (ji kind o aa k):=hmo;have afE:=XK.max;unfold maxLen at afE;obtain⟨B',hB',hcut⟩:=XK.cut (k:=aa.length) η;have N4:aa.length+k-aa.length=k:=η;rw[N4]at hcut;have DR:∀g,bn B'=some g->w.heap.size<=g:=by
    intro g hg;rw[←hB']at hg;have:bn B=some g:=by
     split at hg
     .exact hg
     .cases B with
      |none=>cases hg
      |some a=>rw[←hg];simp only[bn,Option.map_some,cJ.add];split<;>rfl
    have:=ho.ax _ this;omega
   have Fk:=θ hcut;have Hbl:=θ DR;clear hcut DR XK hmo ho;go_wp2;go_ret;exact⟨B',_,rfl,Fk.o,Hbl.o,er⟩
theorem UC(tt:Nat)(ht:tt<=1000)(hl:aa.length<=1000):τ prog 284 #[.slice A n c,tR kind o,(0:Int),tt] w fun e w'=>∃B m d,e=.returned (.slice B m d)/\Rb w' B m d (ji kind o aa (tt-aa.length))/\(B=A\/∀g,bn B=some g->w.heap.size<=g)/\Ext w w':=by
 obtain⟨i0,hi,dx,dA,dN⟩:=info_parts dX;have hn:=hb.len;subst hn;have hmx:=hb.max;unfold maxLen at hmx;by_cases aX:tt<=aa.length
 .have zW:=dQ ((tt:Int)<=(aa.length:Int));have hz:tt-aa.length=0:=η;rw[hz];have Hb:=θ hb;unfold tR;clear hb hz;go_enter func284,ntmps284;go_wp2;go_ret;exact⟨A,_,c,rfl,Hb.o.ext (Ext.alloc _ _),.inl rfl,Ext.alloc _ _⟩
 .have zW:=dh ((tt:Int)<=(aa.length:Int))
  obtain⟨m,hm⟩:∃m,tt-aa.length=m:=⟨_,rfl⟩;rw[hm];have hw:cQ.wrap ((tt:Int)-(aa.length:Int))=(m:Nat):=by rw[pS _ η];omega
  have Hc:=θ fun W (e:Ext w W)=>IV W h A aa.length c aa (hb.ext e) hl m η;have Hb:=θ hb;have Km:=EH kind o aa m;have Hpc:=θ Km;have Bk:0<m:=η;have hmb:m<=1000:=η;unfold tR at*;clear hb hm Km h;go_enter func284,ntmps284;go_wp2_with fail;generalize hV:w.alloc _=V at*;have eV:Ext w V:=by subst hV;exact Ext.alloc _ _
  have b0:V.cell? w.heap.size=some (kind:ξ):=ir;have b1:V.cell? (w.heap.size,1)=some (o:ξ):=ir;have b2:V.cell? (w.heap.size,2)=some (.slice none 0 0):=ir;clear hV;apply lG 13;simp only[tk];repeat apply DH b0 b1 b2
  apply BC (p:=fun u W=>∃B d,u=.slice B m d/\Rb W B m d (mM kind o aa m)/\∀g,bn B=some g->w.heap.size<=g) (fun _ _ _ ⟨B,d,hv,h1,h2⟩ he=>⟨B,d,hv,h1.ext he,h2⟩)
  .intro W hR υ;refine(Hc.o W (eV.trans hR)).mono ?_;rintro e w' ⟨B,d,rfl,h1,h2,h3⟩;exact⟨_,rfl,h3,B,d,rfl,h1,fun g hg=>aF (aF eV.size hR.size) (h2 g hg)⟩
  intro v1;simp only[pu];refine lex_nil ?_;intro Wx ak υ;obtain⟨B,d,rfl,hB,hBg⟩:=υ.1 rfl;clear υ;simp only[dk];have vt:=(Hb.o.ext (eV.trans ak));go_wp2_with (at_builtin;refine jM _ rfl _ _ 30 rfl 5 i0 (.int .u8 0) 1 1 underlying30 hi dx dA dN rfl Γ A aa.length _ rfl (Rd.cap vt) B m d _ rfl hB Bk (ez _) iQ η ?_;intro E Ed wy fQ Uw);go_ret;refine⟨E,_,Ed,rfl,?_,.inr fun g hg=>?_,(eV.trans ak).trans Uw⟩
  .rw[←Hpc.o];exact Rb.of fQ.rd (by rw[aJ])
  .have:=fQ.ax g hg;have:=(eV.trans ak).size;omega
end
structure Jr(w:κ)(T:Tg)(t:Nat)(A:aS)(n c:Nat):Prop where
 le:n<=c
 max:c<=maxLen
 none_:A=none->c=0
 cells:∀a,A=some a->∃g o,a=⟨g,o,none⟩/\T g=t/\g<w.heap.size/\(∀j,j<n*2->∃x:Int,w.cell? ⟨g,o+j,none⟩=some (x:ξ))/\∀j,j<c*2->(w.cell? ⟨g,o+j,none⟩).isSome=true/\w.frozen? ⟨g,o+j,none⟩=false
def jh(w:κ)(T:Tg)(t b:Nat):Prop:=∃A n c,n<=16/\Has w T t b [.slice A n c]/\Jr w T (t+1) A n c
section
variable {w w':κ}{T T':Tg}{t b:Nat}{A:aS}{n c:Nat}
theorem qX{w w':κ}(e:w'.heap[g]?=w.heap[g]?):w'.cell? (g,o)=w.cell? (g,o):=by simp only[κ.cell?,e]
theorem AK{w w':κ}(e:w'.heap[g]?=w.heap[g]?):w'.frozen? (g,o)=w.frozen? (g,o):=by simp only[uM,e]
theorem Jr.ο(h:Jr w T t A n c)(hT:Ξ S w T w' T')(hs:¬S t):Jr w' T' t A n c:=by
 refine⟨h.le,h.max,h.none_,fun a ha=>?_⟩;obtain⟨g,o,e,ht,hg,h1,h2⟩:=h.cells a ha;have hb:=hT.block g hg (by rw[ht];exact hs);refine⟨g,o,e,(hT.tag g hg).trans ht,eM hg hT.size,fun j hj=>?_,fun j hj=>?_⟩
 .rw[qX hb];exact h1 j hj
 .rw[qX hb,AK hb];exact h2 j hj
theorem Jr.ext(h:Jr w T t A n c)(e:Ext w w'):Jr w' T t A n c:=by
 refine⟨h.le,h.max,h.none_,fun a ha=>?_⟩;obtain⟨g,o,e',ht,hg,h1,h2⟩:=h.cells a ha;have hb:=e.block g hg;refine⟨g,o,e',ht,eM hg e.size,fun j hj=>?_,fun j hj=>?_⟩
 .rw[qX hb];exact h1 j hj
 .rw[qX hb,AK hb];exact h2 j hj
theorem jh.ο(h:jh w T t b)(hT:Ξ S w T w' T')(h0:¬S t)(h1:¬S (t+1)):jh w' T' t b:=by obtain⟨A,n,c,hn,a1,a2⟩:=h;exact⟨A,n,c,hn,a1.ο hT h0,a2.ο hT h1⟩
theorem jh.ext(h:jh w T t b)(e:Ext w w'):jh w' T t b:=by obtain⟨A,n,c,hn,a1,a2⟩:=h;exact⟨A,n,c,hn,a1.ext e,a2.ext e⟩
theorem abF(h:jh w T t b):τ prog 101 #[π b] w fun e w'=>(∃n:Nat,e=.returned (n:ξ)/\n<=16)/\w'=w:=by obtain⟨A,n,c,hn,a1,a2⟩:=h;have c0:=a1.zc 0;unfold π;clear a1 a2;go_enter func101,ntmps101;go_wp2;go_ret;exact⟨⟨n,rfl,hn⟩,rfl⟩
end
theorem MC:(prog.info? 132).map (·.size)=some 2:=ey
def Zs(w:κ)(g n:Nat):Prop:=∀i,i<n->∃x:UInt8,w.cell? ⟨g,i,none⟩=some (.int .u8 (x.toNat:Nat))/\w.frozen? ⟨g,i,none⟩=false
def Sw(g n:Nat)(w w':κ):Prop:=w.grownBy w' (some g)/\Zs w' g n
section
variable {w w' w1:κ}{g n:Nat}
theorem Zs.ext(h:Zs w g n)(e:Ext w w'):Zs w' g n:=fun i hi=>by obtain⟨x,h1,h2⟩:=h i hi;exact⟨x,e.cell h1,by have hl:=κ.block_lt_of_cell? w _ h1;have:=e.block g hl;simp only[uM]at h2⊢;rw[this];exact h2⟩
theorem Sw.refl(h:Zs w g n):Sw g n w w:=⟨(Ext.refl w).grownBy _,h⟩
theorem Sw.trans(h:Sw g n w w1)(h':Sw g n w1 w'):Sw g n w w':=⟨aK h.1 h'.1,h'.2⟩
theorem Sw.set(h:Sw g n w w1)(x:UInt8):Sw g n w (w1.setCell (g,i) (.int .u8 (x.toNat:Nat))):=by
 refine⟨aK h.1 (aI _ _ _),fun j hj=>?_⟩;obtain⟨y,h1,h2⟩:=h.2 j hj;by_cases e:j=i
 .subst e;exact⟨x,Cz,Cz⟩
 .exact⟨y,Cz,Cz⟩
def zR(g n:Nat)(w w':κ):Prop:=w.grownBy w' (some g)/\(Zs w g n->Zs w' g n)
def vW(v:ξ)(w:κ):Prop:=∃x:UInt8,v=.int .u8 (x.toNat:Nat)
theorem zR.refl(w:κ):zR g n w w:=⟨(Ext.refl w).grownBy _,fun h=>h⟩
theorem zR.ai(e:Ext w w'):zR g n w w':=⟨e.grownBy _,fun h=>h.ext e⟩
theorem zR.trans(h:zR g n w w1)(h':zR g n w1 w'):zR g n w w':=⟨aK h.1 h'.1,fun k=>h'.2 (h.2 k)⟩
theorem zR.set(w:κ)(g n i:Nat)(x:UInt8):zR g n w (w.setCell (g,i) (.int .u8 (x.toNat:Nat))):=⟨aI _ _ _,fun h=>((Sw.refl h).set x).2⟩
theorem zR.sw(h:zR g n w w')(hz:Zs w g n):Sw g n w w':=⟨h.1,h.2 hz⟩
theorem vW.aQ:∀j,j≠i->∀v w w',vW v w->Rs j w w'->vW v w':=fun _ _ _ _ _ h _=>h
theorem PU(w:κ)(c:Nat)(h:Zs w g n)(hn:n<=256)(a b k:Nat)(ha:a+k<=n)(hb:b+k<=n)(cmp:ξ):τ prog 334 #[.slice g n c,a,b,k,cmp] w fun e w'=>e=.returned (.tuple #[])/\Sw g n w w':=by
 have HZ:=θ h;clear h;go_enter func334,ntmps334;go_wp2_with fail;go_loopw [10] (fun iv wr=>∃i:Nat,iv=.int .i64 (i:Nat)/\i<=k/\Sw g n w wr) (fun iv _=>k-(intOf iv).toNat)
 case atStart=>exact⟨0,rfl,aM _,Sw.refl HZ.o⟩
 case round =>
  obtain⟨i,rfl,hi,hS⟩:=hrel;by_cases hik:i<k
  .have pz:=ej ((a:Int)+(i:Int))
   have xZ:=ej ((b:Int)+(i:Int));have Uj:=ej ((i:Int)+1);have KX:(0<=(a:Int)+(i:Int)/\(a:Int)+(i:Int)<(n:Int))=True:=eq_true η;have BR:(0<=(b:Int)+(i:Int)/\(b:Int)+(i:Int)<(n:Int))=True:=eq_true η;have hn3:((a:Int)+(i:Int)).toNat=a+i:=η;have hn4:((b:Int)+(i:Int)).toNat=b+i:=η;have HS:=θ hS;have HZ:=θ hS.2;clear hS;go_wp2_with fail;apply GG (zR g n) (fun _=>zR g n) (fun _ _=>True) (fun _=>trivial);repeat apply gF (fun _ _ _ _=>trivial)
   apply aE (p:=vW) Γ Γ vW.aQ
   .rfl
   .intro W hR hJ υ;obtain⟨x,h1,_⟩:=hR.2 HZ.o (b+i) η;refine⟨_,W,?_,zR.refl _,zR.refl _,x,rfl⟩;go_simp;first|done|rfl
   intro YQ;simp only[pu];repeat apply gF (fun _ _ _ _=>trivial)
   apply aE (p:=vW) Γ Γ vW.aQ
   .rfl
   .intro W hR hJ υ;obtain⟨x,h1,_⟩:=hR.2 HZ.o (a+i) η;refine⟨_,W,?_,zR.refl _,zR.refl _,x,rfl⟩;go_simp;first|done|rfl
   intro v19;simp only[pu];repeat apply gF (fun _ _ _ _=>trivial)
   apply gQ (p:=fun _ _=>True) Γ Γ (fun _ _ _ _ _ _ _=>trivial)
   .rfl
   .intro W hR hJ υ;obtain⟨y,h1,h2⟩:=hR.2 HZ.o (a+i) η;obtain⟨x,hx⟩:=υ.2.1 rfl;refine⟨W.setCell ⟨_,a+i,none⟩ (.int .u8 (x.toNat:Nat)),?_,zR.set W _ _ (a+i) x,zR.set W _ _ (a+i) x,trivial⟩;simp only[hx];go_simp;first|done|rfl
   intro v21;simp only[rC];repeat apply gF (fun _ _ _ _=>trivial)
   apply gQ (p:=fun _ _=>True) Γ Γ (fun _ _ _ _ _ _ _=>trivial)
   .rfl
   .intro W hR hJ υ;obtain⟨y,h1,h2⟩:=hR.2 HZ.o (b+i) η;obtain⟨x,hx⟩:=υ.2.1 rfl;refine⟨W.setCell ⟨_,b+i,none⟩ (.int .u8 (x.toNat:Nat)),?_,zR.set W _ _ (b+i) x,zR.set W _ _ (b+i) x,trivial⟩;simp only[hx];go_simp;first|done|rfl
   intro v23;simp only[rC];refine aP ?_;intro Wx zm gT υ;clear υ gT;have K3:=HS.o.trans (zm.sw HZ.o);clear zm;go_wp2;go_roundw
   case rel=>exact⟨i+1,cR,η,K3⟩
   case measure=>exact dB
  .obtain rfl:i=k:=by omega
   go_wp2_with fail;go_end0
   exact⟨rfl,hS⟩
end
section
variable {w w' w1:κ}{g n:Nat}
theorem MD(w:κ)(c:Nat)(h:Zs w g n)(hn:n<=256)(a m b:Nat)(ha:a<m)(hm:m<b)(hb:b<=n)(cmp:ξ):τ prog 333 #[.slice g n c,a,m,b,cmp] w fun e w'=>e=.returned (.tuple #[])/\Sw g n w w':=by
 have HSw:=θ fun W (hz:Zs W g n) a b k h1 h2=>PU W c hz hn a b k h1 h2 cmp;have pz:=ej ((m:Int)-(a:Int));have xZ:=ej ((b:Int)-(m:Int));have kR:=θ (show ∃i j:Nat,af .i64 ((m:Int)-(a:Int))=.int .i64 (i:Nat)/\af .i64 ((b:Int)-(m:Int))=.int .i64 (j:Nat)/\1<=i/\i<=m/\1<=j/\m+j<=n/\Sw g n w w from⟨m-a,b-m,OB,OB,η,η,η,η,Sw.refl h⟩);clear h;go_enter func333,ntmps333;go_wp2_with fail;go_loopw [10,11] (fun iv jv wr=>∃i j:Nat,iv=.int .i64 (i:Nat)/\jv=.int .i64 (j:Nat)/\1<=i/\i<=m/\1<=j/\m+j<=n/\Sw g n w wr) (fun iv jv _=>(intOf iv).toNat+(intOf jv).toNat)
 case atStart=>exact kR.o
 case round =>
  obtain⟨i,j,rfl,rfl,hi1,him,Ty,mX,hS⟩:=hrel;have uR:(m:Int)-(i:Int)=((m-i:Nat):Int):=η;have Uj:=ej ((m:Int)-(i:Int));by_cases yh:i=j
  .subst yh
   have HC:=θ (HSw.o wr hS.2 (m-i) m i η η);rw[←uR]at HC;clear uR;go_wp2_with fail;refine HC.o.mono ?_;rintro e w2 ⟨rfl,K3⟩;go_wp2_with fail;go_end0
   exact⟨rfl,hS.trans K3⟩
  .have hne:((i:Int) != (j:Int))=true:=by rw[bne_iff_ne];omega
   by_cases aX:j<i
   .have zW:=dQ ((j:Int)<(i:Int))
    have Sd:=ej ((i:Int)-(j:Int));have HC:=θ (HSw.o wr hS.2 (m-i) m j η η);rw[←uR]at HC;have HS:=θ hS;clear uR hS;go_wp2_with fail;refine HC.o.mono ?_;rintro e w2 ⟨rfl,K3⟩;go_wp2;go_roundw
    case rel=>exact⟨i-j,j,OB,rfl,η,η,Ty,mX,HS.o.trans K3⟩
    case measure=>exact dB
   .have zW:=dh ((j:Int)<(i:Int))
    have Sd:=ej ((j:Int)-(i:Int));have hw5:=ej ((m:Int)+(j:Int));have hw6:=ej ((m:Int)+(j:Int)-(i:Int));have HC:=θ (HSw.o wr hS.2 (m-i) (m+j-i) i η η);rw[←uR,show((m+j-i:Nat):Int)=(m:Int)+(j:Int)-(i:Int) by omega]at HC;have HS:=θ hS;clear uR hS;go_wp2_with fail;refine HC.o.mono ?_;rintro e w2 ⟨rfl,K3⟩;go_wp2;go_roundw
    case rel=>exact⟨i,j-i,rfl,OB,hi1,him,η,η,HS.o.trans K3⟩
    case measure=>exact dB
end
def zi(v:ξ)(w:κ):Prop:=∃q:Int,v=.int .i64 q
theorem zi.aQ:∀j,j≠i->∀v w w',zi v w->Rs j w w'->zi v w':=fun _ _ _ _ _ h _=>h
def vX(c1 c2 c3 c4:Nat):ξ:=.func (.func 318) #[] #[.pointer c1,.pointer c2,.pointer c3,.pointer c4]
def Cmp(w:κ)(g c1 c2 c3 c4:Nat):Prop:=∀W (x y:UInt8),w.grownBy W (some g)->τ prog 318 #[.int .u8 (x.toNat:Nat),.int .u8 (y.toNat:Nat),.pointer c1,.pointer c2,.pointer c3,.pointer c4] W fun e w'=>(∃q:Int,e=.returned (q:ξ))/\Ext W w'
section
variable {w w' w1:κ}{g n c1 c2 c3 c4:Nat}
theorem Cmp.grown(h:Cmp w g c1 c2 c3 c4)(hg:w.grownBy w1 (some g)):Cmp w1 g c1 c2 c3 c4:=fun W x y h1=>h W x y (aK hg h1)
theorem Fv(w:κ)(c:Nat)(h:Zs w g n)(hn:n<=256)(a b:Nat)(ha:a<=n)(hb:b<=n)(hC:Cmp w g c1 c2 c3 c4):τ prog 330 #[.slice g n c,a,b,vX c1 c2 c3 c4] w fun e w'=>e=.returned (.tuple #[])/\Sw g n w w':=by
 have HC:=θ fun W (hs:Sw g n w W)=>hC.grown hs.1;have pz:=ej ((a:Int)+1);have kR:=θ (show ∃i:Nat,af .i64 ((a:Int)+1)=.int .i64 (i:Nat)/\a+1<=i/\i<=257/\Sw g n w w from⟨a+1,rfl,aq _,η,Sw.refl h⟩);unfold vX;clear h hC;go_enter func330,ntmps330;go_wp2_with fail;go_loopw [8] (fun iv wr=>∃i:Nat,iv=.int .i64 (i:Nat)/\a+1<=i/\i<=257/\Sw g n w wr) (fun iv _=>b-(intOf iv).toNat)
 case atStart=>exact kR.o
 case round =>
  obtain⟨i,rfl,hi1,CG,hS⟩:=hrel;by_cases hib:i<b
  .have hwi:=ej ((i:Int)+1)
   have HS:=θ hS;clear hS;go_wp2_with fail;go_loopw [9] (fun jv wx=>∃j:Nat,jv=.int .i64 (j:Nat)/\a<=j/\j<=i/\Sw g n w wx) (fun jv _=>(intOf jv).toNat)
   case atStart=>exact⟨i,rfl,η,aq _,HS.o⟩
   case round =>
    obtain⟨j,rfl,Ty,Gy,hS⟩:=hrel;have HZ:=θ hS.2;have HS:=θ hS;have HCx:=θ (HC.o wr hS);clear hS;by_cases hja:a<j
    .have Ce:=dQ ((a:Int)<(j:Int))
     have hwj:=ej ((j:Int)-1);have KX:(1<=(j:Int)/\(j:Int)-1<(n:Int))=True:=eq_true η;have BR:((j:Int)-1).toNat=j-1:=η;have hn3:(j<n)=True:=eq_true η;go_wp2_with fail;apply Ar 15 (zR g n) (fun _=>zR g n) (fun _ _=>True) (fun _=>trivial);simp only[tk];repeat apply gF (fun _ _ _ _=>trivial)
     apply aE (p:=vW) Γ Γ vW.aQ
     .rfl
     .intro W hR hJ υ;obtain⟨x,h1,_⟩:=hR.2 HZ.o (j) η;refine⟨_,W,?_,zR.refl _,zR.refl _,x,rfl⟩;go_simp;first|done|rfl
     intro v8;simp only[pu];repeat apply gF (fun _ _ _ _=>trivial)
     apply aE (p:=vW) Γ Γ vW.aQ
     .rfl
     .intro W hR hJ υ;obtain⟨x,h1,_⟩:=hR.2 HZ.o (j-1) η;refine⟨_,W,?_,zR.refl _,zR.refl _,x,rfl⟩;go_simp;first|done|rfl
     intro YQ;simp only[pu];apply uI (p:=zi) Γ Γ zi.aQ
     .intro W hR hJ υ;obtain⟨x1,rfl⟩:=υ.2.1 rfl;obtain⟨x2,rfl⟩:=υ.1 rfl;refine(HCx.o W x1 x2 hR.1).mono ?_;rintro e w' ⟨⟨q,rfl⟩,ee⟩;exact⟨_,rfl,zR.ai ee,zR.ai ee,q,rfl⟩
     intro v14;simp only[pu];refine aP ?_;intro Wx zm gT υ;obtain⟨q,rfl⟩:=υ.1 rfl;clear υ gT;simp only[dk];have K3:=HS.o.trans (zm.sw HZ.o);have HZ:=θ K3.2;have HS:=θ K3;clear K3 zm;by_cases hq:q<0
     .go_wp2_with fail
      apply GG (zR g n) (fun _=>zR g n) (fun _ _=>True) (fun _=>trivial);repeat apply gF (fun _ _ _ _=>trivial)
      apply aE (p:=vW) Γ Γ vW.aQ
      .rfl
      .intro W hR hJ υ;obtain⟨x,h1,_⟩:=hR.2 HZ.o (j-1) η;refine⟨_,W,?_,zR.refl _,zR.refl _,x,rfl⟩;go_simp;first|done|rfl
      intro v9;simp only[pu];repeat apply gF (fun _ _ _ _=>trivial)
      apply aE (p:=vW) Γ Γ vW.aQ
      .rfl
      .intro W hR hJ υ;obtain⟨x,h1,_⟩:=hR.2 HZ.o (j) η;refine⟨_,W,?_,zR.refl _,zR.refl _,x,rfl⟩;go_simp;first|done|rfl
      intro YQ;simp only[pu];repeat apply gF (fun _ _ _ _=>trivial)
      apply gQ (p:=fun _ _=>True) Γ Γ (fun _ _ _ _ _ _ _=>trivial)
      .rfl
      .intro W hR hJ υ;obtain⟨y,h1,h2⟩:=hR.2 HZ.o (j) η;obtain⟨x,hx⟩:=υ.2.1 rfl;refine⟨W.setCell ⟨_,j,none⟩ (.int .u8 (x.toNat:Nat)),?_,zR.set W _ _ (j) x,zR.set W _ _ (j) x,trivial⟩;simp only[hx];go_simp;first|done|rfl
      intro v15;simp only[rC];repeat apply gF (fun _ _ _ _=>trivial)
      apply gQ (p:=fun _ _=>True) Γ Γ (fun _ _ _ _ _ _ _=>trivial)
      .rfl
      .intro W hR hJ υ;obtain⟨y,h1,h2⟩:=hR.2 HZ.o (j-1) η;obtain⟨x,hx⟩:=υ.2.1 rfl;refine⟨W.setCell ⟨_,j-1,none⟩ (.int .u8 (x.toNat:Nat)),?_,zR.set W _ _ (j-1) x,zR.set W _ _ (j-1) x,trivial⟩;simp only[hx];go_simp;first|done|rfl
      intro v17;simp only[rC];refine aP ?_;intro Wx zm gT υ;clear υ gT;have AL:=HS.o.trans (zm.sw HZ.o);clear zm;go_wp2;go_roundw
      case rel=>exact⟨j-1,OB,η,η,AL⟩
      case measure=>exact dB
     .go_wp2_with fail
      go_roundw
      case rel=>exact⟨i+1,cR,η,η,HS.o⟩
      case measure=>exact dB
    .have Ce:=dh ((a:Int)<(j:Int))
     go_wp2_with fail;apply GG (zR g n) (fun _=>zR g n) (fun _ _=>True) (fun _=>trivial);repeat first|(apply j7 Γ Γ zR.refl (fun _=>zR.refl);(· rfl);(· intro W hR hJ υ;go_simp;first|done|with_reducible rfl);simp only[pu])|(apply Th Γ Γ;(· rfl);simp only[pu])
     refine aP ?_;intro Wx zm gT υ;clear υ gT;have K3:=HS.o.trans (zm.sw HZ.o);clear zm;go_wp2;go_roundw
     case rel=>exact⟨i+1,cR,η,η,K3⟩
     case measure=>exact dB
  .go_wp2_with fail
   go_end0
   exact⟨rfl,hS⟩
end
theorem UD(h1:first<=l.length)(h2:first+b.length<=1000):j8 l first b=l++b.drop (l.length-first):=by unfold j8;rw[if_pos h1,jL tU]
def nt(l b:aD)(first k:Nat):List UInt8:=l++(b.take k).drop (l.length-first)
theorem YR(h1:first<=l.length)(hk:k<=b.length):(nt l b first k).length=max l.length (first+k):=by unfold nt;rw[eU,Bq,tN];omega
theorem UE(l b:aD)(first:Nat):nt l b first 0=l:=by simp[nt]
theorem UF(h:k<l.length-first):nt l b first (k+1)=nt l b first k:=by unfold nt;rw[CM Oz,CM Oz]
theorem YS(h:l.length-first<=k)(hk:k<b.length):nt l b first (k+1)=nt l b first k++[b[k]]:=by unfold nt;rw[List.take_add_one,bf hk,List.drop_append_of_le_length Oz,ic];rfl
section
variable {w w' w0:κ}{T T':Tg}{t:Nat}{A:aS}{lc:Nat}{hs:Nat->Option cJ×Nat}{ls:bH}
def abG(w:κ)(T:Tg)(t:Nat)(g lc i first:Nat)(ls:bH)(l0 b:aD)(nv iv:ξ)(wr:κ):Prop :=
 ∃(k nn:Nat) (T':Tg) (uQ:Nat->Option cJ×Nat),iv=.int .i64 (k:Nat)/\k<=b.length/\nv=.int .i64 (nn:Nat)/\nn<=k/\Ξ (fun q=>q=t\/q=t+1+i) w T wr T'/\Cb wr T' t (some ⟨g,0,none⟩) lc uQ (ls.set i (nt l0 b first k))
theorem abH{ls:bH}(hi:i<ls.length)(l:aD):(ls.set i l).getD i []=l:=by rw[cO,List.getElem?_set_self hi];rfl
theorem YT{ls:bH}(hi:i<ls.length):ls.set i (ls.getD i [])=ls:=by rw[cO,bf hi];exact List.set_getElem_self hi
theorem UG(h:Cb w T t A lc hs ls)(hu:Θ w T)(ht:0<t)(Ij:i<ls.length)(hA:A=some ⟨g,0,none⟩)(first:Nat)(b:aD){PA:aS}{pc:Nat}(hb:Sb w T PA b.length pc b)(GA:first<=(ls.getD i []).length)(Ge:first+b.length<=1000)(K2:(ls.getD i []).length<=1000):τ prog 187 #[.pointer (g,i),first,.slice PA b.length pc] w (cG (fun q=>q=t\/q=t+1+i) w T fun v w' T'=>∃uQ,Cb w' T' t A lc uQ (ls.set i (j8 (ls.getD i []) first b))):=by
 obtain⟨i0,hi,dx,dA,dN⟩:=info_parts dX;rw[UD GA Ge];have gf:ls.getD i []++b.drop ((ls.getD i []).length-first)=nt (ls.getD i []) b first b.length:=by unfold nt;rw[List.take_length]
 rw[gf];have H:=θ h;have HB:=θ hb;have hmx:=hb.rb.max;unfold maxLen at hmx;have HL:∀k,k<=b.length->(nt (ls.getD i []) b first k).length=max (ls.getD i []).length (first+k):=fun k hk=>YR GA hk;have HL:=θ HL;have afL:=θ fun l=>abH Ij l;obtain⟨g',lY,_,h2⟩:=h.at_ η;obtain rfl:g'=g:=by rw[hA]at lY;cases lY;rfl
 have c0:=(h2 i Ij).1;have amM:first<=(ls.getD i []).length:=GA;have adj:=dh ((ls.getD i []).length<first);have akE:=dh (((ls.getD i []).length:Int)<(first:Int));subst hA;clear h hb h2 lY gf;generalize hl0:ls.getD i []=l0 at*;have ane:=dh ((first:Int)<0);go_enter func187,ntmps187;go_wp2_with fail;go_loopw [8,9] (fun nv iv wr=>abG w T t g' lc i first ls l0 b nv iv wr) (fun _ iv _=>b.length-(intOf iv).toNat)
 case atStart=>exact⟨0,0,T,hs,rfl,aM _,rfl,aq _,Ξ.refl _ hu,by rw[UE,←hl0,YT Ij];exact H.o⟩
 case round =>
  obtain⟨k,nn,T0,Fc,rfl,hk,rfl,hnn,hT,hRL⟩:=hrel;have jU:=hT.Δ;obtain⟨g2,kL,htg,h2⟩:=hRL.at_ agd;cases kL
  have hcg:=h2 i (by rw[Ae];exact Ij);rw[afL.o]at hcg;obtain⟨c0,f0⟩:=hcg;have Gh:=θ (HL.o k hk);have anf:(nt l0 b first k).length<=1000:=by rw[Gh.o];omega
  have fO:Row wr T0 (t+1+i) 5 1 (Fc i).1 (nt l0 b first k).length (Fc i).2 (dK (nt l0 b first k)):=by have:=hRL.ln i (by rw[Ae];exact Ij);rw[afL.o]at this;exact this
  have Ki:=fO.rd.2;have afD:=ej (((nt l0 b first k).length:Int)-(first:Int));have hnw:cQ.wrap ((nn:Int)+1)=((nn+1:Nat):Int):=by rw[pS _ η];omega
  have HRL:=θ hRL;have HT:=θ hT;by_cases jk:k<b.length
  .have jF:=dQ ((k:Int)<(b.length:Int))
   by_cases YU:k<l0.length-first
   .have Gj:=dQ ((k:Int)<((nt l0 b first k).length:Int)-(first:Int)) (by have:=Gh.o;omega)
    have Hsk:=θ YU;clear h2 hRL hT fO;generalize (nt l0 b first k).length=n1 at*;go_wp2;go_roundw
    case rel=>exact⟨k+1,nn,T0,Fc,cR,η,rfl,η,HT.o,by rw[UF Hsk.o];exact HRL.o⟩
    case measure=>exact dB
   .have Gj:=dh ((k:Int)<((nt l0 b first k).length:Int)-(first:Int)) (by have:=Gh.o;omega)
    have hd3:=dh ((1000:Int)<=((nt l0 b first k).length:Int)) (by have:=Gh.o;omega);have Yu:=dh (1000<=(nt l0 b first k).length) (by have:=Gh.o;omega);have hb:=HB.o.ο hT η;obtain⟨qb,qo,hqA,V5⟩:=hb.rb.at_ jk;have Rq:T0 qb=0:=hb.2 η qb (by rw[hqA];rfl);have hne:bn (Fc i).1≠some g':=fun e=>by have:=fO.2 g' e;omega
    have pF:bn (Fc i).1≠some qb:=fun e=>by have:=fO.2 qb e;omega
    have sB:=θ (YS (l:=l0) (b:=b) (first:=first) η jk);have BK:dK (nt l0 b first k)=dK (nt l0 b first k):=rfl;subst hqA;generalize hxx:b[k]=xx at*;have ang:(nt l0 b first k).length<1000:=by have:=Gh.o;omega
    clear h2 hRL hT hb;generalize anh:nt l0 b first k=cur at*;go_upto_region 12 with fail
    generalize KZ:wr=w0 at*;have eL:=(fO).1;have cU:=(fO).cond;have mA:sA (t+1+i) (fun v _ _=>v=(.int .u8 (xx.toNat:Nat))):=fun _ _ _ _ _ h _=>h;have eo:∀(v:ξ) (w:κ) (T:Tg),v=(.int .u8 (xx.toNat:Nat))->v.cells.toList.length=1/\∀y∈v.cells.toList,y.oneCell'=true:=by rintro v w T rfl;exact⟨rfl,Gu⟩
    apply Ar 13 (gR (Fc i).1) (oM 10 (Fc i).1) (BL 10 5 1 (Fc i).1 cur.length (Fc i).2 (dK cur)) (BL.start eL);simp only[tk];repeat apply gF (fun _ h _ _=>aj (h.cell c0 hne) (h.cell V5 pF))
    apply aE (p:=dI T0 w0.heap.size (fun v _ _=>v=(.int .u8 (xx.toNat:Nat))) 5) Γ Γ (dI.aQ mA cU _)
    .rfl
    .intro W hR hJ υ;have hB:=dI.made (e:=5) mA hR.size (show uO T0 w0.heap.size (fun v _ _=>v=(.int .u8 (xx.toNat:Nat))) (.int .u8 (xx.toNat:Nat)) W from⟨T0,fun _ _=>rfl,fun k hk=>jU k (aF hR.size hk),rfl⟩);refine⟨_,_,?_,(Ext.alloc _ _).grownBy _,.inr (Ext.alloc _ _),hB⟩;go_simp;first|done|rfl
    intro v2;simp only[pu];apply aE (p:=mO T0 w0.heap.size (fun v _ _=>v=(.int .u8 (xx.toNat:Nat))) (t+1+i) (Fc i).1 5 1 (cur.length+1) (dK cur)) Γ Γ (fun j hj v w w9 h hR=>mO.aQ j hj v w w9 h mA hR)
    .rfl
    .intro W hR hJ υ;exact dF W _ _ 30 rfl 5 i0 (.int .u8 0) 1 1 underlying30 hi dx dA dN rfl Γ (Fc i).1 cur.length (Fc i).2 ((dK cur)) rfl (hJ rfl) v2 rfl (υ.1 rfl) eo iQ η cU mA hR.size
    intro v3;simp only[pu];repeat apply gF (fun _ _ _ _=>trivial)
    refine aP ?_;intro W hR gT υ;obtain⟨u1,T1,E,Ed,rfl,cw,BU,ja,pJ⟩:=(υ.1 rfl).fin hR cU;clear υ gT;simp only[dk];have hrt:=HRL.o.row.ο cw η;obtain⟨g3,Mu,d0,f9,_⟩:=hrt.at_ (aO _ _ (show i<(ls.set i cur).length by rw[Ae];exact Ij));cases Mu
    have xP:(cur++[xx]).length=cur.length+1:=bT;have vD:=HRL.o.put (i:=i) (by rw[Ae];exact Ij) rfl (l2:=cur++[xx]) cw (E:=E) (d:=Ed) (by rw[xP,aJ];rw[BU]at ja;exact ja);rw[xP,List.set_set]at vD;have ME:=θ vD;have aia:=θ (sB.o);clear vD hrt ja cw xP BU fO jU c0 f0 V5 eL cU;go_wp2;go_roundw
    case rel=>exact⟨k+1,nn+1,T1,_,cR,η,cR,η,HT.o.trans ME.o.1,by rw[aia.o];exact ME.o.2⟩
    case measure=>exact dB
  .obtain rfl:k=b.length:=by omega
   clear h2 hRL hT fO;generalize (nt l0 b first b.length).length=n1 at*;go_wp2;go_ret2
   exact⟨_,rfl,T0,HT.o,Fc,HRL.o⟩
end
theorem Fw(w:κ)(h:vl kind o):τ prog 180 #[tR kind o] w (adi w true):=by
 unfold tR;rcases(show(kind=1/\o=0)\/(kind=2/\o=0)\/(kind=2/\0<o/\o<=3) by unfold vl at h;omega) with ⟨rfl,rfl⟩|⟨rfl,rfl⟩|⟨rfl,h0,ho⟩
 .go_enter func180,ntmps180;go_wp2;go_ret;exact⟨rfl,Ext.alloc _ _⟩
 .go_enter func180,ntmps180;go_wp2;go_ret;exact⟨rfl,Ext.alloc _ _⟩
 .have hd:=dh ((3:Int)<(o:Int));have zW:=dh (3<o);have h1:=dh ((o:Int)<0);have h2':((o:Int)==0)=false:=kO;go_enter func180,ntmps180;go_wp2;go_ret;exact⟨rfl,Ext.alloc _ _⟩
theorem Kn(w:κ)(h:vl kind o)(A:aS)(n c:Nat)(aa:aD)(hb:Rb w A n c aa)(hl:aa.length<=2000):τ prog 208 #[tR kind o,.slice A n c] w fun e w'=>e=.returned (.agg (kF (qM kind o aa)).toArray)/\Ext w w':=by
 obtain⟨i0,hi,dx,dA,dN⟩:=info_parts tB;have hn:=hb.len;subst hn;have hmx:=hb.max;unfold maxLen at hmx;unfold tR;rw[tF]at dx;obtain⟨F,hF⟩:∃F,qM kind o aa=F:=⟨_,rfl⟩;rw[hF];have HF:=θ hF;clear hF;go_enter func208,ntmps208;go_upto_region 1 with (with_reducible refine bA rfl 331 rfl hi dx ?_;intro W1 a1 e1 s1)
 go_upto_region 2 with (with_reducible refine bA rfl 331 rfl hi dx ?_;intro W2 a2 e2 s2)
 generalize hV:w.alloc _=V at*;have eV:Ext w V:=by subst hV;exact Ext.alloc _ _
 have k0:V.cell? w.heap.size=some (kind:ξ):=ir;have k1:V.cell? (w.heap.size,1)=some (o:ξ):=ir;have hVs:w.heap.size<V.heap.size:=by subst hV;simp
 clear hV;replace k0:=e2.cell (e1.cell k0);replace k1:=e2.cell (e1.cell k1);replace a1:=a1.ext e2;have x2:=(eV.trans e1).trans e2;have Sd:w.heap.size<V.heap.size:=hVs;have hw5:V.heap.size<W1.heap.size:=η;clear e1 e2 eV s1;clear s2 hVs;generalize hg5:W1.heap.size=g5 at a2 hw5⊢;generalize YJ:V.heap.size=g4 at a1 Sd hw5⊢;generalize kL:w.heap.size=g2 at k0 k1 Sd⊢;have tV:=θ kL;clear kL YJ hg5;rcases h with ⟨rfl,rfl⟩|⟨rfl,ho⟩
 .have hz:qM 1 0 aa=fun _=>0:=by funext v;simp[qM]
  have Se:F=fun _=>0:=by rw[←HF.o];exact hz
  clear hz;go_wp2_with (first|(with_reducible refine fH rfl 331 (.tmp 5) rfl rfl underlying331 dr a2 (cH _) ?_)|(with_reducible refine bF rfl 331 (.tmp 4) (.tmp 18) rfl rfl rfl a1 (cH _) (cH _) dr (mT _) ?_;intro W3 a3 g3 s3));exact bodyPost_ret (v:=.agg (kF fun _=>0).toArray) (kM rfl _ rfl a3 (cH _) underlying331 dr) rfl ⟨by rw[Se],Ext.own (B:=some ⟨g4,0,none⟩) x2 g3 (fun k hk=>S3)⟩
 by_cases hlo:aa.length<o
 .have hz:qM 2 o aa=fun _=>0:=by funext v;simp only[qM];rw[if_neg η]
  have zW:=dQ (aa.length<o) hlo;have Se:F=fun _=>0:=by rw[←HF.o];exact hz
  clear hz;go_wp2_with (first|(with_reducible refine fH rfl 331 (.tmp 5) rfl rfl underlying331 dr a2 (cH _) ?_)|(with_reducible refine bF rfl 331 (.tmp 4) (.tmp 18) rfl rfl rfl a1 (cH _) (cH _) dr (mT _) ?_;intro W3 a3 g3 s3));exact bodyPost_ret (v:=.agg (kF fun _=>0).toArray) (kM rfl _ rfl a3 (cH _) underlying331 dr) rfl ⟨by rw[Se],Ext.own (B:=some ⟨g4,0,none⟩) x2 g3 (fun k hk=>S3)⟩
 have zW:=dh (aa.length<o) hlo;obtain⟨A',N8,hcut⟩:=hb.cut (k:=aa.length-o) η;obtain⟨m,hm⟩:∃m,aa.length-o=m:=⟨_,rfl⟩;rw[hm]at N8 hcut;have hmo:aa.length-m=o:=η;rw[hmo]at hcut;have pz:cQ.wrap ((aa.length:Int)-(o:Int))=(m:Nat):=by rw[pS _ η];omega
 have lD:m<=aa.length:=η;have alc:(m:Int)<=(aa.length:Int):=η;have xP:=dS (P:=prog) _ 30 9 5 underlying30 underlying5 underlying9 _ _ _ _ (hcut.ext x2);have Hm:=θ hm;have Hb:=θ hb;clear hcut hm hb;go_wp2_with fail;go_loopw [7] (fun iv wr=>YN w g2 g4 g5 o aa iv wr) (fun iv _=>aa.length-(intOf iv).toNat)
 case atStart=>exact⟨0,o,rfl,η,η,a1,a2,k1,x2⟩
 case round =>
  obtain⟨j,i,rfl,yh,jI,r4,r5,q1,xr⟩:=hrel;by_cases qV:i<aa.length
  .clear k1 k0 a1 a2
   have Bl:=Hb.o.ext xr;obtain⟨gp,op,rfl,hci⟩:=Bl.at_ qV;have Fu:=Rb.acR (Bl.take (k:=i) η) (k:=j) η η;have hio:i-j=o:=η;rw[hio]at Fu;have xZ:cQ.wrap ((i:Int)-(o:Int))=(j:Nat):=by rw[pS _ η];omega
   have Gy:j<=i:=η;have heq:=dS (P:=prog) wr 30 9 5 underlying30 underlying5 underlying9 _ _ _ _ Fu;have Sf:(aa.take i).drop j=(aa.drop j).take o:=by rw[adh,hio]
   rw[Sf]at heq;have Hij:=θ yh;have OS:aa.getD (j+o) 0=aa[i]:=by rw[←yh,cO,bf qV];rfl
   have eH:∀v,iX o aa (j+1) v=iX o aa j v+if (aa.drop j).take o=aa.drop m/\aa[i].toNat=v then 1 else 0:=by intro v;rw[EE,Hm.o,OS]
   have kR:=θ eH;have hx:=YI aa[i];generalize aa[i].toNat=x at*;have r5x:=r5.cell (tD _ hx);have f5x:=r5.free x;have hle:=EF o aa j x;have R5:=θ r5;have R4:=θ r4;clear yh Fu Sf OS eH r5 r4 N8;by_cases hq:(aa.drop j).take o=aa.drop m
   .have hbq:((aa.drop j).take o==aa.drop m)=true:=by rw[beq_iff_eq];exact hq
    have YO:iX o aa (j+1) x=iX o aa j x+1:=by rw[kR.o,if_pos ⟨hq,rfl⟩]
    have gN:=My (iX o aa j) (iX o aa (j+1)) hx (fun v _ hv=>by rw[kR.o,if_neg (fun h=>hv h.2.symm)];rfl);rw[YO]at gN;have YP:=θ gN;clear gN hq YO;generalize iX o aa j x=y at*;go_wp2;go_roundw
    case rel =>
     refine⟨j+1,i+1,cR,by have:=Hij.o;omega,η,?_,?_,?_,?_⟩
     .exact R4.o.dD (uc _ _ _ _ (by show g4≠g5;omega))
     .have h9:=R5.o.set x (.int .i64 ((y+1:Nat):Int));rw[YP.o]at h9;exact h9
     .rw[Ac _ _ _ _ (by intro e;injection e with e1;omega)];exact q1
     .exact Ext.own (B:=some ⟨g5,0,none⟩) xr (gG _ _ _) (fun k hk=>by cases hk;have:=tV.o;show w.heap.size<=g5;omega)
    case measure=>exact dB
   .have hbq:((aa.drop j).take o==aa.drop m)=false:=by rw[beq_eq_false_iff_ne];exact hq
    have YO:kF (iX o aa (j+1))=kF (iX o aa j):=Fs fun v _=>by rw[kR.o,if_neg (fun h=>hq h.1)];rfl
    have Hwn:=θ YO;clear hq YO;go_wp2;go_roundw
    case rel=>exact⟨j+1,i+1,cR,by have:=Hij.o;omega,η,R4.o,by rw[Hwn.o];exact R5.o,q1,xr⟩
    case measure=>exact dB
  .obtain rfl:j=m:=by omega
   have Se:F=iX o aa j:=by
    rw[←HF.o];funext v
    unfold qM;rw[if_pos ⟨rfl,η⟩,Hm.o]
   go_wp2_with (first|(with_reducible refine fH rfl 331 (.tmp 5) rfl rfl underlying331 dr r5 (cH _) ?_)|(with_reducible refine bF rfl 331 (.tmp 4) (.tmp 53) rfl rfl rfl r4 (cH _) (cH _) dr (mT _) ?_;intro W3 a3 g3 s3))
   exact bodyPost_ret (v:=.agg (kF (iX o aa j)).toArray) (kM rfl _ rfl a3 (cH _) underlying331 dr) rfl ⟨by rw[Se],Ext.own (B:=some ⟨g4,0,none⟩) xr g3 (fun k hk=>S3)⟩
theorem PV(w:κ)(f:Nat->Nat)(v u last:Nat)(hv:v<256)(hu:u<256):τ prog 209 #[v,u,.agg (kF f).toArray,last,(-1:Int)] w fun e w'=>e=.returned (.bool (decide (f u<f v\/f v=f u/\v=last)))/\Ext w w':=by
 have q1:((v:Int)<256)=True:=eq_true η;have q2:((u:Int)<256)=True:=eq_true η;have e1:((v:Int)==-1)=false:=kO;have e2:((u:Int)==-1)=false:=kO;obtain⟨r,hr⟩:∃r,decide (f u<f v\/f v=f u/\v=last)=r:=⟨_,rfl⟩;rw[hr];have Hr:=θ hr;clear hr;go_enter func209,ntmps209;go_upto_region 1 with fail
 have x0:=Ext.alloc w (.cells (kF f).toArray 331);have hb:=heap_alloc_new w (.cells (kF f).toArray 331);generalize hW:aB w _=W0 at*;have hc:∀i,i<256->W0.cell? ⟨w.heap.size,i,none⟩=some ((f i:Nat):ξ):=fun i hi=>by rw[cell_of_row _ _ _ _ _ _ hb];simpa using tD f hi
 have cv:=hc v hv;have cu:=hc u hu;generalize w.heap.size=g at*;clear hc hb hW;generalize f v=fv at*;generalize f u=fu at*;by_cases hq:fv=fu
 .subst hq
  by_cases hl:v=last
  .obtain rfl:r=true:=by rw[←Hr.o];exact zF (.inr ⟨rfl,hl⟩)
   subst hl;go_wp2_with fail;apply iL trivial;repeat apply kZ cv cu
   refine jq fun Wx ak=>?_;go_wp2;go_ret;exact⟨rfl,x0.trans ak⟩
  .obtain rfl:r=false:=by rw[←Hr.o];exact zG η
   have e4':((v:Int)==(last:Int))=false:=kO;go_wp2_with fail;apply iL trivial;repeat apply kZ cv cu
   refine jq fun Wx ak=>?_;go_wp2;go_ret;exact⟨rfl,x0.trans ak⟩
 .have e3':((fv:Int)==(fu:Int))=false:=by rw[beq_eq_false_iff_ne];omega
  by_cases hl:fu<fv
  .obtain rfl:r=true:=by rw[←Hr.o];exact zF (.inl hl)
   have e5':=dQ ((fu:Int)<(fv:Int));go_wp2_with fail;apply iL trivial;repeat apply kZ cv cu
   refine jq fun Wx ak=>?_;have cv:=ak.cell cv;have cu:=ak.cell cu;have xa:=ak;clear ak;go_wp2_with fail;apply iL trivial;repeat apply kZ cv cu
   refine jq fun Wx ak=>?_;go_wp2;go_ret;exact⟨rfl,(x0.trans xa).trans ak⟩
  .obtain rfl:r=false:=by rw[←Hr.o];exact zG η
   have e5':=dh ((fu:Int)<(fv:Int));go_wp2_with fail;apply iL trivial;repeat apply kZ cv cu
   refine jq fun Wx ak=>?_;have cv:=ak.cell cv;have cu:=ak.cell cu;have xa:=ak;clear ak;go_wp2_with fail;apply iL trivial;repeat apply kZ cv cu
   refine jq fun Wx ak=>?_;go_wp2;go_ret;exact⟨rfl,(x0.trans xa).trans ak⟩
def L0(k:Nat):List UInt8:=1::(List.range k).map fun i=>UInt8.ofNat i
end Go.Proofs.YtffcefoadaogbaaGreat
