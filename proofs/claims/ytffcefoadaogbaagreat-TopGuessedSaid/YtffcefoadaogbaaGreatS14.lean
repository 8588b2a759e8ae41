/- A part of the proof: texts put together and cut down by a program of mine (wip/gen/mini.py). -/
import Derived.Test.YtffcefoadaogbaaGreatS13
namespace Go.Proofs.YtffcefoadaogbaaGreat
open Go.RowKit
open Go.Proofs.Tryz
set_option linter.unusedVariables false
set_option maxRecDepth 100000
set_option maxHeartbeats 16000000
section
variable {w w':World} {T T':Tg} {ts sb n free last b tw tt tb tj jb fr most tlast epoch:Nat} {gs:List (Nat×List Int)} {l:List Br} {tp:List UInt8} {A:Option Addr} {an ad:Nat} {k:Wk}
theorem br_get(h:TreeAt w T tt tb sb most tlast epoch fr l)(hm:most≤8){id:Int}{i:Nat}{x:Br}(hk:idxB id l=some i)(hx:l[i]?=some x)(hok:okPs x.press)(W:World)(e:Ext w W):Calls prog 47 #[ptrV tb,.int .i64 id] W fun e w'=>(∃ us,e = .returned (.tuple #[.agg us.toArray,.bool true])∧cpG fr w.heap.size x us w')∧Ext W w' :=
 (tree_get (h.ext e) hm hk hx hok).mono fun _ _ ⟨B,d,h1,h2,h3⟩=>⟨⟨_,h1,B,d,rfl,h2.base e.size⟩,h3⟩
theorem br_get_no(h:TreeAt w T tt tb sb most tlast epoch fr l)(hm:most≤8){id:Int}(hk:idxB id l=none)(W:World)(e:Ext w W):Calls prog 47 #[ptrV tb,.int .i64 id] W fun e w'=>(∃ us,e = .returned (.tuple #[.agg us.toArray,.bool false])∧noG us w')∧Ext W w' :=
 (tree_get_no (h.ext e) hm hk).mono fun _ _ ⟨h1,h3⟩=>⟨⟨zB,h1,rfl⟩,h3⟩
def TakeP(T:Tg)(ts sb n free last b tw tt tb tj jb fr most tlast epoch:Nat)(gs:List (Nat×List Int))(l:List Br)(tp:List UInt8)(A:Option Addr)(an ad:Nat)(k:Wk)(v:Value)(w':World)(T':Tg):Prop :=
 (∃ r,v = .bool r)∧JobsAt w' T' tj jb∧TreeAt w' T' tt tb sb most tlast epoch fr l ∧
  ((Has w' T' tw b (wkC tp A an ad tb jb sb k)∧StoreAt w' T' ts sb n free last gs) ∨
   ∃ id ep i x g,idxB id l=some i∧l[i]?=some x∧x.done<x.press.length∧(x.pic,g)∈gs∧Has w' T' tw b (wkC tp A an ad tb jb sb ⟨true,id,ep,last+1,x.done,false⟩)∧StoreAt w' T' ts sb n free (last+1) (gs++[(last+1,g)]))
def tkF(i:Nat):List Nat:=if i=11 then [5] else if i=14 then [6,7] else if i=17 then [8] else if i=20 then [9] else if i=23 then [10] else []
theorem tkF_in(i:Nat):∀ j∈tkF i,j∈[5,6,7,8,9,10]:=by
 unfold tkF;repeat' split
 all_goals simp
theorem tk_vs{w:World}{T:Tg}{tw b:Nat}{vs:List Value}{tp:List UInt8}{A:Option Addr}{an ad tb jb sb:Nat}{k k':Wk}(hl:vs.length=11)(h0:∀ j,j∉[5,6,7,8,9,10]→vs[j]?=(wkC tp A an ad tb jb sb k)[j]?)(hv:Has w T tw b vs)
  (h5:mP T tw b [(5,.bool k'.busy)] w) (h6:mP T tw b [(6,.int .i64 k'.id),(7,.int .i64 k'.ep)] w) (h8:mP T tw b [(8,.int .i64 (k'.x:Nat))] w) (h9:mP T tw b [(9,.int .i64 (k'.done:Nat))] w) (h10:mP T tw b [(10,.bool k'.played)] w):Has w T tw b (wkC tp A an ad tb jb sb k'):=by
 have key:∀ {kv},mP T tw b kv w→∀ q∈kv,vs[q.1]?=some q.2:=by
  rintro kv ⟨v1,h1,h2⟩ q hq;rw[hv.uniq h1];exact h2 q hq
 have e:vs=wkC tp A an ad tb jb sb k':=by
  apply List.ext_getElem?;intro i;match i with
  | 0=>exact h0 0 (by decide)
  | 1=>exact h0 1 (by decide)
  | 2=>exact h0 2 (by decide)
  | 3=>exact h0 3 (by decide)
  | 4=>exact h0 4 (by decide)
  | 5=>exact key h5 (5,_) (List.mem_singleton.2 rfl)
  | 6=>exact key h6 (6,_) List.mem_cons_self
  | 7=>exact key h6 (7,_) (List.mem_cons_of_mem _ (List.mem_singleton.2 rfl))
  | 8=>exact key h8 (8,_) (List.mem_singleton.2 rfl)
  | 9=>exact key h9 (9,_) (List.mem_singleton.2 rfl)
  | 10=>exact key h10 (10,_) (List.mem_singleton.2 rfl)
  | n+11=>rw[List.getElem?_eq_none (by omega),List.getElem?_eq_none (by simp[wkC])]
 rw[← e];exact hv
theorem wk_take(h:Has w T tw b (wkC tp A an ad tb jb sb k))(hS:StoreAt w T ts sb n free last gs)(hJ:JobsAt w T tj jb)(hTr:TreeAt w T tt tb sb most tlast epoch fr l)(hu:Unborn w T)(hts:0<ts)(htj:0<tj)(hm:most≤8)(hok:∀ x∈l,okPs x.press)(hpx:∀ x∈l,∃ g,(x.pic,g)∈gs)
  (hd1:¬ In ts 5 tw∧¬ In tj 2 tw∧¬ In ts 5 tt∧¬ In ts 5 (tt+1)∧¬ In tj 2 tt∧¬ In tj 2 (tt+1)∧¬ In ts 5 tj∧¬ In ts 5 (tj+1)∧tw≠tt∧tw≠tt+1∧0<tw)
  (hl:last<4611686018427387903) (hn:gs.length≤1000) :
  Calls prog 46 #[ptrV b] w (Gives (fun j=>j=tw∨In ts 5 j∨In tj 2 j) w T (TakeP T ts sb n free last b tw tt tb tj jb fr most tlast epoch gs l tp A an ad k)):=by
 have HT0:=hqd (job_take hJ hu htj);have HH:=hqd h;have HS:=hqd hS;have HTr:=hqd hTr;have Hok:=hqd hok;have Hpx:=hqd hpx;have c2:=h.cell (i:=2) rfl;have c3:=h.cell (i:=3) rfl;have c4:=h.cell (i:=4) rfl;unfold ptrV at *;clear h hS hJ hTr hok hpx;go_enter func46,ntmps46;go_wp2_with fail;refine HT0.out.mono ?_;rintro e w1 ⟨v,rfl,Ta,hTa,⟨x0,e0,r,rfl⟩,hJ1⟩;have hn2:∀ j,j=0∨j=tw∨j=tt∨j=tt+1→¬ In tj 2 j:=by
  obtain⟨_,q2,_,_,q5,q6,_⟩:=hd1;rintro j (rfl|rfl|rfl|rfl)
  ·unfold In;omega
  ·exact q2
  ·exact q5
  ·exact q6
 have hH1:=HH.out.turn hTa (hn2 _ (by omega));have hS1:=HS.out.turn hTa (fun j hj h=>by unfold In at *;obtain⟨_,_,_,_,_,_,q7,q8,_⟩:=hd1;omega);have hTr1:=HTr.out.turn hTa (hn2 _ (by omega)) (hn2 _ (by omega)) (hn2 _ (by omega));have HT1:=hqd (hTa.mono fun j hj=>(.inr (.inr hj):j=tw∨In ts 5 j∨In tj 2 j));cases r with
 | false =>
  have HF:=hqd (show TakeP T ts sb n free last b tw tt tb tj jb fr most tlast epoch gs l tp A an ad k (.bool false) (w1.alloc (.cells #[.int .i64 x0,.int .i64 e0] 132)) Ta from⟨⟨_,rfl⟩,hJ1.ext (Ext.alloc _ _),hTr1.ext (Ext.alloc _ _),.inl ⟨hH1.ext (Ext.alloc _ _),hS1.ext (Ext.alloc _ _)⟩⟩);have HT2:=hqd (HT1.out.ext (Ext.alloc _ (.cells #[.int .i64 x0,.int .i64 e0] 132)));clear hJ1 hS1 hTr1 hH1 hTa;go_wp2_with fail;go_ret;exact⟨_,rfl,Ta,HT2.out,HF.out⟩
 | true =>
  have HJ1:=hqd hJ1;have HS1:=hqd hS1;have HTr1:=hqd hTr1;have HH1:=hqd hH1;have hu1:=hTa.unborn;clear hJ1 hS1 hTr1 hH1 hTa;go_upto_region 4 with fail
  have b9:=Has.new w1 (fun _=>0) [.int .i64 x0,.int .i64 e0] 132 rfl;have x1:=Ext.alloc w1 (.cells #[.int .i64 x0,.int .i64 e0] 132);generalize hW:World.alloc w1 _=W1 at *;obtain⟨gj,hgj⟩:∃ gj,gj=w1.heap.size:=⟨_,rfl⟩;rw[← hgj]at b9 ⊢;have hgjT:Ta gj=0:=hu1 gj (by omega);clear hW hgj;have j0:=b9.cell (i:=0) rfl;have j1:=b9.cell (i:=1) rfl;have hH2:=HH1.out.ext x1;have c1:=hH2.cell (i:=1) rfl;have c2:=hH2.cell (i:=2) rfl;have c4:=hH2.cell (i:=4) rfl;have hu2:=hu1.ext x1;have HT2:=hqd (HT1.out.ext x1);have HH2:=hqd hH2;have HTr2:=hqd (HTr1.out.ext x1);have HS2:=hqd (HS1.out.ext x1);have HJ2:=hqd (HJ1.out.ext x1);have HEp:=hqd fun W (e:Ext W1 W)=>tree_epoch (HTr2.out.ext e);have HG:=hqd fun id i x hk hx hok W (e:Ext W1 W)=>br_get HTr2.out hm (id:=id) (i:=i) (x:=x) hk hx hok W e;have HGn:=hqd fun id hk W (e:Ext W1 W)=>br_get_no HTr2.out hm (id:=id) hk W e;unfold ptrV at *;clear b9 hH2;cases hi:idxB x0 l with
  | none =>
   have HG0:=hqd (HGn.out x0 hi);clear hi;have HF:=hqd fun W (e:Ext W1 W)=>(show TakeP T ts sb n free last b tw tt tb tj jb fr most tlast epoch gs l tp A an ad k (.bool true) W Ta from⟨⟨_,rfl⟩,HJ2.out.ext e,HTr2.out.ext e,.inl ⟨HH2.out.ext e,HS2.out.ext e⟩⟩);apply wp_region_lexS (F1:=99) (F2:=99) (R:=Below W1.heap.size) (Rs:=gsRs 11 10 W1.heap.size 136) (J:=fun _ _=>True) (by kernel_rfl) (by kernel_rfl) (Below.refl _) (fun _ _ W=>.inl (Ext.refl W)) (fun _ _ h=>h.size) (fun _ _ _ _ _ _ _ _ _=>trivial) (fun _ _ _=>Below.trans) (Below.of_ext' (Ext.drew _) (Nat.le_refl _)) (fun _=>trivial);intro σ;apply lxS (fun _ h _ _=>aj ((Below.to_ext h).cell c2) ((Below.to_ext h).cell j0));apply lxS (fun _ h _ _=>aj ((Below.to_ext h).cell c2) ((Below.to_ext h).cell j0));apply lxS (fun _ h _ _=>aj ((Below.to_ext h).cell c2) ((Below.to_ext h).cell j0));apply lxS (fun _ h _ _=>aj ((Below.to_ext h).cell c2) ((Below.to_ext h).cell j0));apply lxS (fun _ h _ _=>aj ((Below.to_ext h).cell c2) ((Below.to_ext h).cell j0));apply lxS (fun _ h _ _=>aj ((Below.to_ext h).cell c2) ((Below.to_ext h).cell j0));apply lexS_call (p:=gsV 6 (fun us=>.tuple #[.agg us.toArray,.bool false]) noG) (by decide) (by decide) (gsV.keeps (noG.stab _ _))
   ·rfl
   ·intro W
    go_simp;exact⟨rfl,rfl⟩
   ·intro W hR hJ hΦ
    refine(HG0.out W (Below.to_ext hR)).mono ?_;rintro e w' ⟨⟨us,rfl,hg⟩,ee⟩;exact⟨_,rfl,Below.of_ext' ee hR.size,.inl ee,us,upd_eq,hg⟩
   simp only[pu];apply lexS_new (p:=gsV 7 (fun us=>.tuple #[.agg us.toArray,.bool false]) noG) (by decide) (by decide) (gsV.keeps (noG.stab _ _))
   ·rfl
   ·intro W hR hJ hΦ
    obtain⟨us,e1,hg⟩:=hΦ.1 rfl;refine⟨_,W,?_,Below.refl _ _,.inl (Ext.refl _),us,upd_eq,hg⟩;simp only[e1];go_simp;first|done|rfl
   simp only[pu];apply lexS_new (p:=gsV 8 (fun us=>.agg us.toArray) noG) (by decide) (by decide) (gsV.keeps (noG.stab _ _))
   ·rfl
   ·intro W hR hJ hΦ
    obtain⟨us,e1,hg⟩:=hΦ.1 rfl;refine⟨_,W,?_,Below.refl _ _,.inl (Ext.refl _),us,upd_eq,hg⟩;simp only[e1];go_simp;first|done|rfl
   simp only[pu];apply lexS_ex (u:=.bool false) (by decide) (by decide) (Below.refl _) (fun _ _ W=>.inl (Ext.refl W))
   ·rfl
   ·intro W hR hJ hΦ
    obtain⟨us,e1,hg⟩:=hΦ.2.1 rfl;simp only[e1];go_simp;first|done|rfl
   simp only[pu];apply lexS_new (p:=gsA W1.heap.size 10 136) (by decide) (by decide) gsA.keeps
   ·rfl
   ·intro W hR hJ hΦ
    refine⟨.pointer (some ⟨W.heap.size,0,none⟩),W.alloc (.cells zB.toArray 136),?_,Below.of_ext' (Ext.alloc _ _) hR.size,.inl (Ext.alloc _ _),W.heap.size,upd_eq,hR.size,zB,⟨_,_,_,_,_,_,_,rfl⟩,heap_alloc_new W _⟩;unfold zB;go_simp;first|done|rfl
   simp only[pu];apply lexS_store (p:=gsS W1.heap.size 10 136 noG) (by decide) (by decide) (gsS.keeps (noG.stab _ _) (by kernel_rfl))
   ·rfl
   ·intro W hR hJ hΦ
    obtain⟨g8,e8,hm8,hs8⟩:=hΦ.1 rfl;obtain⟨us,e1,hg⟩:=hΦ.2.1 rfl;obtain⟨W2,r1,r2,r3,r4⟩:=gs_store (P:=prog) (K:=11) (al:=10) (m:=W1.heap.size) (σ:=σ) (noG.stab _ _) size_br hm8 hs8 hg e8 (by decide);exact⟨W2,r1 _ _ _ _ rfl e8 e1,r2 hR.size,r3,r4⟩
   simp only[Act.put];apply lxS (fun _ h _ _=>aj ((Below.to_ext h).cell c2) ((Below.to_ext h).cell j0));refine lexS_nil ?_;intro Wx hR hap hΦ;obtain⟨gx,us,e8,hgx,hG8,hb8⟩:=hΦ.1 rfl;have hWx:=Below.to_ext hR;clear hΦ hap hR;rw[e8];generalize σ 6=s6 at *;generalize σ 7=s7 at *;generalize σ 8=s8 at *;generalize σ 10=s10 at *;generalize σ 11=s11 at *;clear e8;clear hG8 hb8;have j0:=hWx.cell j0;have j1:=hWx.cell j1;have c1:=hWx.cell c1;have c2:=hWx.cell c2;have HEp:=hqd fun W (e:Ext Wx W)=>HEp.out W (hWx.trans e);have HF:=hqd fun W (e:Ext Wx W)=>HF.out W (hWx.trans e);have HT3:=hqd fun W (e:Ext Wx W)=>HT2.out.ext (hWx.trans e);generalize hWZ:Wx=W3 at *;clear hWZ hWx;go_wp2_with fail;by_cases he:e0=(epoch:Int)
   ·have he1:(e0==(epoch:Int))=true:=by rw[beq_iff_eq];exact he
    subst he;apply wrA trivial;repeat apply lxA (fun _ h _=>aj (h.cell c1) (aj (h.cell c2) (h.cell j1)))
    apply lxC (fun W hR=>HEp.out W hR);repeat first|apply lxA (fun _ h _=>h.cell c1)|apply lxK trivial
    refine lex_nil ?_;intro Wx hWx hΦ;clear hΦ;go_wp2_with fail;go_ret;exact⟨_,rfl,Ta,HT3.out _ hWx,HF.out _ hWx⟩
   ·have he1:(e0 != (epoch:Int))=true:=by rw[bne_iff_ne];exact he
    apply wrA trivial;repeat apply lxA (fun _ h _=>aj (h.cell c1) (aj (h.cell c2) (h.cell j1)))
    apply lxC (fun W hR=>HEp.out W hR);repeat first|apply lxA (fun _ h _=>h.cell c1)|apply lxK trivial
    refine lex_nil ?_;intro Wx hWx hΦ;clear hΦ;go_wp2_with fail;go_ret;exact⟨_,rfl,Ta,HT3.out _ hWx,HF.out _ hWx⟩
  | some i =>
   obtain⟨x,hx,_,_⟩:=idxB_some hi;have hxl:=List.mem_of_getElem? hx;obtain⟨g,hg⟩:=Hpx.out x hxl;have HG0:=hqd (HG.out x0 i x hi hx (Hok.out x hxl));have HF:=hqd fun W (e:Ext W1 W)=>(show TakeP T ts sb n free last b tw tt tb tj jb fr most tlast epoch gs l tp A an ad k (.bool true) W Ta from⟨⟨_,rfl⟩,HJ2.out.ext e,HTr2.out.ext e,.inl ⟨HH2.out.ext e,HS2.out.ext e⟩⟩);have Hi:=hqd hi;have Hx:=hqd hx;have Hg:=hqd hg;clear hi hx hxl hg;apply wp_region_lexS (F1:=99) (F2:=99) (R:=Below W1.heap.size) (Rs:=gsRs 11 10 W1.heap.size 136) (J:=fun _ _=>True) (by kernel_rfl) (by kernel_rfl) (Below.refl _) (fun _ _ W=>.inl (Ext.refl W)) (fun _ _ h=>h.size) (fun _ _ _ _ _ _ _ _ _=>trivial) (fun _ _ _=>Below.trans) (Below.of_ext' (Ext.drew _) (Nat.le_refl _)) (fun _=>trivial);intro σ;apply lxS (fun _ h _ _=>aj ((Below.to_ext h).cell c2) ((Below.to_ext h).cell j0));apply lxS (fun _ h _ _=>aj ((Below.to_ext h).cell c2) ((Below.to_ext h).cell j0));apply lxS (fun _ h _ _=>aj ((Below.to_ext h).cell c2) ((Below.to_ext h).cell j0));apply lxS (fun _ h _ _=>aj ((Below.to_ext h).cell c2) ((Below.to_ext h).cell j0));apply lxS (fun _ h _ _=>aj ((Below.to_ext h).cell c2) ((Below.to_ext h).cell j0));apply lxS (fun _ h _ _=>aj ((Below.to_ext h).cell c2) ((Below.to_ext h).cell j0));apply lexS_call (p:=gsV 6 (fun us=>.tuple #[.agg us.toArray,.bool true]) (cpG fr W1.heap.size x)) (by decide) (by decide) (gsV.keeps (cpG.stab fr _ x))
   ·rfl
   ·intro W
    go_simp;exact⟨rfl,rfl⟩
   ·intro W hR hJ hΦ
    refine(HG0.out W (Below.to_ext hR)).mono ?_;rintro e w' ⟨⟨us,rfl,hg⟩,ee⟩;exact⟨_,rfl,Below.of_ext' ee hR.size,.inl ee,us,upd_eq,hg⟩
   simp only[pu];apply lexS_new (p:=gsV 7 (fun us=>.tuple #[.agg us.toArray,.bool true]) (cpG fr W1.heap.size x)) (by decide) (by decide) (gsV.keeps (cpG.stab fr _ x))
   ·rfl
   ·intro W hR hJ hΦ
    obtain⟨us,e1,hg⟩:=hΦ.1 rfl;refine⟨_,W,?_,Below.refl _ _,.inl (Ext.refl _),us,upd_eq,hg⟩;simp only[e1];go_simp;first|done|rfl
   simp only[pu];apply lexS_new (p:=gsV 8 (fun us=>.agg us.toArray) (cpG fr W1.heap.size x)) (by decide) (by decide) (gsV.keeps (cpG.stab fr _ x))
   ·rfl
   ·intro W hR hJ hΦ
    obtain⟨us,e1,hg⟩:=hΦ.1 rfl;refine⟨_,W,?_,Below.refl _ _,.inl (Ext.refl _),us,upd_eq,hg⟩;simp only[e1];go_simp;first|done|rfl
   simp only[pu];apply lexS_ex (u:=.bool true) (by decide) (by decide) (Below.refl _) (fun _ _ W=>.inl (Ext.refl W))
   ·rfl
   ·intro W hR hJ hΦ
    obtain⟨us,e1,hg⟩:=hΦ.2.1 rfl;simp only[e1];go_simp;first|done|rfl
   simp only[pu];apply lexS_new (p:=gsA W1.heap.size 10 136) (by decide) (by decide) gsA.keeps
   ·rfl
   ·intro W hR hJ hΦ
    refine⟨.pointer (some ⟨W.heap.size,0,none⟩),W.alloc (.cells zB.toArray 136),?_,Below.of_ext' (Ext.alloc _ _) hR.size,.inl (Ext.alloc _ _),W.heap.size,upd_eq,hR.size,zB,⟨_,_,_,_,_,_,_,rfl⟩,heap_alloc_new W _⟩;unfold zB;go_simp;first|done|rfl
   simp only[pu];apply lexS_store (p:=gsS W1.heap.size 10 136 (cpG fr W1.heap.size x)) (by decide) (by decide) (gsS.keeps (cpG.stab fr _ x) (by kernel_rfl))
   ·rfl
   ·intro W hR hJ hΦ
    obtain⟨g8,e8,hm8,hs8⟩:=hΦ.1 rfl;obtain⟨us,e1,hg⟩:=hΦ.2.1 rfl;obtain⟨W2,r1,r2,r3,r4⟩:=gs_store (P:=prog) (K:=11) (al:=10) (m:=W1.heap.size) (σ:=σ) (cpG.stab fr _ x) size_br hm8 hs8 hg e8 (by decide);exact⟨W2,r1 _ _ _ _ rfl e8 e1,r2 hR.size,r3,r4⟩
   simp only[Act.put];apply lxS (fun _ h _ _=>aj ((Below.to_ext h).cell c2) ((Below.to_ext h).cell j0));refine lexS_nil ?_;intro Wx hR hap hΦ;obtain⟨gx,us,e8,hgx,hG8,hb8⟩:=hΦ.1 rfl;have hWx:=Below.to_ext hR;clear hΦ hap hR;rw[e8];generalize σ 6=s6 at *;generalize σ 7=s7 at *;generalize σ 8=s8 at *;generalize σ 10=s10 at *;generalize σ 11=s11 at *;clear e8;obtain⟨B,d,rfl,hRw⟩:=hG8;have hgxT:Ta gx=0:=hu2 gx hgx;have b9:Has Wx (fun _=>0) 0 gx (brC fr x (B,d)):=⟨rfl,_,hb8⟩;have k2:=b9.cell (i:=2) rfl;have k3:=b9.cell (i:=3) rfl;have k4:=b9.cell (i:=4) rfl;clear b9 hb8 hRw;have j0:=hWx.cell j0;have j1:=hWx.cell j1;have c1:=hWx.cell c1;have c2:=hWx.cell c2;have c4:=hWx.cell c4;have HEp:=hqd fun W (e:Ext Wx W)=>HEp.out W (hWx.trans e);have HF:=hqd fun W (e:Ext Wx W)=>HF.out W (hWx.trans e);have HT3:=hqd fun W (e:Ext Wx W)=>HT2.out.ext (hWx.trans e);have HH3:=hqd (HH2.out.ext hWx);have HS3:=hqd (HS2.out.ext hWx);have HJ3:=hqd (HJ2.out.ext hWx);have HTr3:=hqd (HTr2.out.ext hWx);have hu3:=hu2.ext hWx;generalize hWZ:Wx=W3 at *;clear hWZ hWx;obtain⟨pl,hpl⟩:∃ pl,pl=x.press.length:=⟨_,rfl⟩;obtain⟨xd,hxd⟩:∃ xd,xd=x.done:=⟨_,rfl⟩;obtain⟨xp,hxp⟩:∃ xp,xp=x.pic:=⟨_,rfl⟩;have Hpl:=hqd hpl;have Hxd:=hqd hxd;have Hxp:=hqd hxp;rw[← hpl]at k2;rw[← hxd]at k3;rw[← hxp]at k4;clear hpl hxd hxp;dsimp only at k2
   go_wp2_with fail;by_cases he:e0=(epoch:Int)
   ·have he1:(e0==(epoch:Int))=true:=by rw[beq_iff_eq];exact he
    subst he;by_cases hdn:pl≤xd
    ·have hd5:decide (pl≤xd)=true:=decide_eq_true hdn
     have hd5':decide ((pl:Int)≤(xd:Int))=true:=decide_eq_true (by omega);apply wrA trivial;repeat apply lxA (fun _ h _=>aj (h.cell c1) (aj (h.cell c2) (h.cell j1)))
     apply lxC (fun W hR=>HEp.out W hR);repeat first|apply lxA (fun _ h _=>aj (h.cell k2) (h.cell k3))|apply lxK trivial
     refine lex_nil ?_;intro Wx hWx hΦ;clear hΦ;go_wp2_with fail;go_ret;exact⟨_,rfl,Ta,HT3.out _ hWx,HF.out _ hWx⟩
    ·have hd5:decide (pl≤xd)=false:=decide_eq_false hdn
     have hd5':decide ((pl:Int)≤(xd:Int))=false:=decide_eq_false (by omega);apply wrA trivial;repeat apply lxA (fun _ h _=>aj (h.cell c1) (aj (h.cell c2) (h.cell j1)))
     apply lxC (fun W hR=>HEp.out W hR);repeat first|apply lxA (fun _ h _=>aj (h.cell k2) (h.cell k3))|apply lxK trivial
     refine lex_nil ?_;intro Wx hWx hΦ;clear hΦ;have j0:=hWx.cell j0;have j1:=hWx.cell j1;have k3:=hWx.cell k3;have k4:=hWx.cell k4;have c4:=hWx.cell c4;have hu4:=hu3.ext hWx;have HH4:=hqd (HH3.out.ext hWx);have HS4:=hqd (HS3.out.ext hWx);have HJ4:=hqd (HJ3.out.ext hWx);have HTr4:=hqd (HTr3.out.ext hWx);have HT4:=hqd (HT3.out _ hWx);generalize hWZ:Wx=W4 at *;clear hWZ hWx;go_wp2_with fail;have hFk:∀ W,Ext W4 W→Calls prog 72 #[ptrV sb,.int .i64 (xp:Nat)] W (Gives (In ts 5) W Ta fun v w' T'=>v = .tuple #[.int .i64 ((last:Int)+1),.bool true]∧StoreAt w' T' ts sb n free (last+1) (gs++[(last+1,g)])):=fun W e=>by
      rw[Hxp.out];exact at_fork (HS4.out.ext e) Hg.out (hu4.ext e) hts hl hn
     have HFk:=hqd hFk;have hgr:Grow fun v w' T'=>v=Value.tuple #[.int .i64 ((last:Int)+1),.bool true]∧StoreAt w' T' ts sb n free (last+1) (gs++[(last+1,g)]):=by
      rintro v w T w' ⟨h1,h2⟩ e;exact⟨h1,h2.ext e⟩
     unfold ptrV at HFk;clear hFk;have hu:=hu4;have hnb:¬ In ts 5 (Ta b):=by rw[HH4.out.1];exact hd1.1
     have hnx:¬ In ts 5 (Ta gx):=by rw[hgxT];unfold In;omega
     have hnj:¬ In ts 5 (Ta gj):=by rw[hgjT];unfold In;omega
     apply wrG (oR (In ts 5) Ta) (oRs 6 (In ts 5) Ta) (oJ 6 _) (oJ.start _ _);repeat apply lxG (fun _ h _ _=>aj (h.cell c4 hnb) (h.cell k4 hnx))
     apply lexG_call (p:=oP _ _ _ _) (by decide) (by decide) (oP.stab hgr _)
     ·rfl
     ·intro W
      go_simp;exact⟨rfl,rfl⟩
     ·intro W hR hJ hΦ
      exact one_call hu (hJ rfl) ((HFk.out) W (hJ rfl))
     intro v6;simp only[pu];repeat apply lxG (fun _ _ _ _=>trivial)
     repeat apply lxG (fun _ _ _ hΦ=>oP_val (hΦ.1 rfl))
     refine lexG_nil ?_;intro Wx hR hap hΦ;obtain⟨T1,hT1,rfl,hS5⟩:=hΦ.1 rfl;clear hΦ hap;have hgj1:T1 gj=0:=(hT1.tag gj (World.block_lt_of_cell? _ _ j0)).trans hgjT;have hgx1:T1 gx=0:=(hT1.tag gx (World.block_lt_of_cell? _ _ k3)).trans hgxT;have j0:=(hR.cell j0 hnj);have j1:=(hR.cell j1 hnj);have k3:=(hR.cell k3 hnx);have hH5:=HH4.out.turn hT1 hd1.1;have hJ5:=HJ4.out.turn hT1 hd1.2.2.2.2.2.2.1 hd1.2.2.2.2.2.2.2.1;have hTr5:=HTr4.out.turn hT1 (by unfold In;omega) hd1.2.2.1 hd1.2.2.2.1;have HT5:=hqd (HT4.out.trans (hT1.mono fun j hj=>(.inr (.inl hj):j=tw∨In ts 5 j∨In tj 2 j)));have HH5:=hqd hH5;have HJ5:=hqd hJ5;have HTr5:=hqd hTr5;have HS5:=hqd hS5;have hu5:=hT1.unborn;clear hH5 hJ5 hTr5 hS5 hT1 hR c1 c2 c4 k2 k4;go_wp2_with fail;have hnj:¬ T1 gj=tw:=by rw[hgj1];omega
     have hnx:¬ T1 gx=tw:=by rw[hgx1];omega
     apply wrG (mC T1 tw b [5,6,7,8,9,10]) (fun i=>mC T1 tw b (tkF i)) (fun _ _=>True) (fun _=>trivial);repeat apply lxG (fun _ h _ _=>aj (h.1.cell j0 hnj) (aj (h.1.cell j1 hnj) (h.1.cell k3 hnx)))
     apply lexG_eff (p:=fun _ W=>mP T1 tw b [(5,.bool true)] W) (by decide) (by decide) (fun j hj v w w' h hR=>h.keep hR (by
      intro q hq;simp at hq
      subst hq;dsimp only
      unfold tkF;repeat' split
      all_goals simp_all))
     ·rfl
     ·intro W hR hJ hΦ
      obtain⟨vs,hv,hlen,_⟩:=hR.2 _ HH5.out;have hl11:vs.length=11:=hlen;obtain⟨ua,hua⟩:∃ u,vs[5]?=some u:=⟨_,List.getElem?_eq_getElem (by omega)⟩;have hcell:=hv.cell hua;have hfree:=hv.free 5;obtain⟨k1,k2⟩:=mC.put (fun j hj=>hu5 j (Nat.le_trans hR.1.size hj)) hv (i:=5) (by omega) (.bool true);have K:=hqd (And.intro k1 k2);clear k1 k2 hv hlen;refine⟨W.setCell ⟨b,5,none⟩ (.bool true),?_,K.out.1.mono (tkF_in 11),K.out.1,K.out.2⟩;go_simp
     intro v11;simp only[Act.put];repeat apply lxG (fun _ h _ _=>aj (h.1.cell j0 hnj) (aj (h.1.cell j1 hnj) (h.1.cell k3 hnx)))
     apply lexG_eff (p:=fun _ W=>mP T1 tw b [(6,.int .i64 x0),(7,.int .i64 (epoch:Nat))] W) (by decide) (by decide) (fun j hj v w w' h hR=>h.keep hR (by
      intro q hq;simp at hq
      unfold tkF;rcases hq with rfl|rfl
      all_goals (dsimp only;(repeat' split)<;>simp_all)))
     ·rfl
     ·intro W hR hJ hΦ
      obtain⟨vs,hv,hlen,_⟩:=hR.2 _ HH5.out;have hl11:vs.length=11:=hlen;obtain⟨ua,hua⟩:∃ u,vs[6]?=some u:=⟨_,List.getElem?_eq_getElem (by omega)⟩;have hcell:=hv.cell hua;obtain⟨ub,hub⟩:∃ u,vs[7]?=some u:=⟨_,List.getElem?_eq_getElem (by omega)⟩;have hcell7:=hv.cell hub;have hfree:=hv.free 6;have hfree7:=hv.free 7;obtain⟨k1,k2⟩:=mC.put2 (fun j hj=>hu5 j (Nat.le_trans hR.1.size hj)) hv (i:=6) (j:=7) (by omega) (by omega) (by decide) (.int .i64 x0) (.int .i64 (epoch:Nat));have K:=hqd (And.intro k1 k2);clear k1 k2 hv hlen;refine⟨(W.setCell ⟨b,6,none⟩ (.int .i64 x0)).setCell ⟨b,7,none⟩ (.int .i64 (epoch:Nat)),?_,K.out.1.mono (tkF_in 14),K.out.1,K.out.2⟩;go_simp
     intro v14;simp only[Act.put];repeat apply lxG (fun _ h _ _=>aj (h.1.cell j0 hnj) (aj (h.1.cell j1 hnj) (h.1.cell k3 hnx)))
     apply lexG_eff (p:=fun _ W=>mP T1 tw b [(8,.int .i64 ((last:Int)+1))] W) (by decide) (by decide) (fun j hj v w w' h hR=>h.keep hR (by
      intro q hq;simp at hq
      subst hq;dsimp only
      unfold tkF;repeat' split
      all_goals simp_all))
     ·rfl
     ·intro W hR hJ hΦ
      obtain⟨vs,hv,hlen,_⟩:=hR.2 _ HH5.out;have hl11:vs.length=11:=hlen;obtain⟨ua,hua⟩:∃ u,vs[8]?=some u:=⟨_,List.getElem?_eq_getElem (by omega)⟩;have hcell:=hv.cell hua;have hfree:=hv.free 8;obtain⟨k1,k2⟩:=mC.put (fun j hj=>hu5 j (Nat.le_trans hR.1.size hj)) hv (i:=8) (by omega) (.int .i64 ((last:Int)+1));have K:=hqd (And.intro k1 k2);clear k1 k2 hv hlen;refine⟨W.setCell ⟨b,8,none⟩ (.int .i64 ((last:Int)+1)),?_,K.out.1.mono (tkF_in 17),K.out.1,K.out.2⟩;go_simp
     intro v17;simp only[Act.put];repeat apply lxG (fun _ h _ _=>aj (h.1.cell j0 hnj) (aj (h.1.cell j1 hnj) (h.1.cell k3 hnx)))
     apply lexG_eff (p:=fun _ W=>mP T1 tw b [(9,.int .i64 (xd:Nat))] W) (by decide) (by decide) (fun j hj v w w' h hR=>h.keep hR (by
      intro q hq;simp at hq
      subst hq;dsimp only
      unfold tkF;repeat' split
      all_goals simp_all))
     ·rfl
     ·intro W hR hJ hΦ
      obtain⟨vs,hv,hlen,_⟩:=hR.2 _ HH5.out;have hl11:vs.length=11:=hlen;obtain⟨ua,hua⟩:∃ u,vs[9]?=some u:=⟨_,List.getElem?_eq_getElem (by omega)⟩;have hcell:=hv.cell hua;have hfree:=hv.free 9;obtain⟨k1,k2⟩:=mC.put (fun j hj=>hu5 j (Nat.le_trans hR.1.size hj)) hv (i:=9) (by omega) (.int .i64 (xd:Nat));have K:=hqd (And.intro k1 k2);clear k1 k2 hv hlen;refine⟨W.setCell ⟨b,9,none⟩ (.int .i64 (xd:Nat)),?_,K.out.1.mono (tkF_in 20),K.out.1,K.out.2⟩;go_simp
     intro v20;simp only[Act.put];repeat apply lxG (fun _ h _ _=>aj (h.1.cell j0 hnj) (aj (h.1.cell j1 hnj) (h.1.cell k3 hnx)))
     apply lexG_eff (p:=fun _ W=>mP T1 tw b [(10,.bool false)] W) (by decide) (by decide) (fun j hj v w w' h hR=>h.keep hR (by
      intro q hq;simp at hq
      subst hq;dsimp only
      unfold tkF;repeat' split
      all_goals simp_all))
     ·rfl
     ·intro W hR hJ hΦ
      obtain⟨vs,hv,hlen,_⟩:=hR.2 _ HH5.out;have hl11:vs.length=11:=hlen;obtain⟨ua,hua⟩:∃ u,vs[10]?=some u:=⟨_,List.getElem?_eq_getElem (by omega)⟩;have hcell:=hv.cell hua;have hfree:=hv.free 10;obtain⟨k1,k2⟩:=mC.put (fun j hj=>hu5 j (Nat.le_trans hR.1.size hj)) hv (i:=10) (by omega) (.bool false);have K:=hqd (And.intro k1 k2);clear k1 k2 hv hlen;refine⟨W.setCell ⟨b,10,none⟩ (.bool false),?_,K.out.1.mono (tkF_in 23),K.out.1,K.out.2⟩;go_simp
     intro v23;simp only[Act.put];refine lexG_nil ?_;intro W hR hap hΦ;obtain⟨p23,p20,p17,p14,p11,_⟩:=hΦ;clear hap;have p23:=p23 rfl;have p20:=p20 rfl;have p17:=p17 rfl;have p14:=p14 rfl;have p11:=p11 rfl;obtain⟨vs,hv,hlen,hsame⟩:=hR.2 _ HH5.out;have hH6:=tk_vs (k':=⟨true,x0,epoch,last+1,xd,false⟩) hlen hsame hv p11 p14 p17 p20 p23;have hT6:Turn (· = tw) Wx T1 W T1:=⟨hR.1.os,hR.1.tape,hR.1.output,hR.1.size,fun j hj hn=>hR.1.block j hj hn,fun _ _=>rfl,fun j hj=>hu5 j (Nat.le_trans hR.1.size hj)⟩;rw[Hxd.out]at hH6;have hlt:x.done<x.press.length:=by rw[← Hxd.out,← Hpl.out];omega
     have hd:=hd1;have HF:=hqd (show TakeP T ts sb n free last b tw tt tb tj jb fr most tlast epoch gs l tp A an ad k (.bool true) W T1 from⟨⟨_,rfl⟩,HJ5.out.turn hT6 (by unfold In at hd;omega) (by unfold In at hd;omega),HTr5.out.turn hT6 (by omega) (by omega) (by omega),.inr ⟨x0,(epoch:Int),i,x,g,Hi.out,Hx.out,hlt,Hg.out,hH6,HS5.out.turn hT6 (fun j hj e=>hd.1 (e▸hj))⟩⟩);have HT6:=hqd (HT5.out.trans (hT6.mono fun j hj=>(.inl hj:j=tw∨In ts 5 j∨In tj 2 j)));clear hH6 hT6 hR p23 p20 p17 p14 p11 hv hsame;go_wp2_with fail;go_ret;exact⟨_,rfl,T1,HT6.out,HF.out⟩
   ·have he1:(e0 != (epoch:Int))=true:=by rw[bne_iff_ne];exact he
    apply wrA trivial;repeat apply lxA (fun _ h _=>aj (h.cell c1) (aj (h.cell c2) (h.cell j1)))
    apply lxC (fun W hR=>HEp.out W hR);repeat first|apply lxA (fun _ h _=>aj (h.cell k2) (h.cell k3))|apply lxK trivial
    refine lex_nil ?_;intro Wx hWx hΦ;clear hΦ;go_wp2_with fail;go_ret;exact⟨_,rfl,Ta,HT3.out _ hWx,HF.out _ hWx⟩
end
section
variable {w w':World} {T T':Tg} {ts sb n free last b tw tt tb tj jb fr most tlast epoch:Nat} {gs:List (Nat×List Int)} {l:List Br} {tp:List UInt8} {A:Option Addr} {an ad:Nat} {k:Wk}
theorem idxB_set{id:Int}:∀ {l:List Br} {i:Nat} {x y:Br},idxB id l=some i→l[i]?=some x→y.id=x.id→idxB id (l.set i y)=some i
 | [],i,x,y,h,_,_=>by cases h
 | a::l,i,x,y,h,hx,hy=>by
  unfold idxB at h;split at h
  ·cases h
   cases hx
   rw[List.set_cons_zero];unfold idxB;rw[hy,if_pos (by assumption)]
  ·obtain⟨i',hi',rfl⟩:=Option.map_eq_some_iff.1 h
   rw[List.set_cons_succ];unfold idxB;rw[if_neg (by assumption),idxB_set hi' (by simpa using hx) hy];rfl
def PubW(ts sb n last b tw tt tb tj jb fr most tlast epoch:Nat)(gs:List (Nat×List Int))(l:List Br)(tp:List UInt8)(A:Option Addr)(an ad:Nat)(k:Wk)(i:Nat)(x:Br)(v:Value)(w':World)(T':Tg):Prop :=
 v = .tuple #[]∧JobsAt w' T' tj jb∧Has w' T' tw b (wkC tp A an ad tb jb sb {k with busy:=false})∧∃ free',(x.done<k.done+1∧TreeAt w' T' tt tb sb most tlast epoch fr (l.set i {x with done:=k.done+1,pic:=k.x})∧StoreAt w' T' ts sb n free' last (delG gs x.pic)) ∨
  (TreeAt w' T' tt tb sb most tlast epoch fr l∧StoreAt w' T' ts sb n free' last (delG gs k.x))
theorem wk_rest_no(h:Has w T tw b (wkC tp A an ad tb jb sb k))(hb:k.busy=false):Calls prog 49 #[ptrV b] w fun e w'=>e = .returned (.bool false)∧w'=w:=by
 have HB:=hqd (wk_busy h);rw[hb]at HB;unfold ptrV at *;clear h hb;go_enter func49,ntmps49;go_wp2_with fail;refine HB.out.mono ?_;rintro e w1 ⟨rfl,hw⟩;subst hw;go_wp2_with fail;go_ret;exact⟨rfl,rfl⟩
theorem wk_publish(h:Has w T tw b (wkC tp A an ad tb jb sb k))(hS:StoreAt w T ts sb n free last gs)(hJ:JobsAt w T tj jb)(hTr:TreeAt w T tt tb sb most tlast epoch fr l)(hu:Unborn w T)(hts:0<ts)(htj:0<tj)(htt:0<tt)(hm:most≤8)
  (hd1:¬ In ts 5 tw∧¬ In tj 2 tw∧¬ In ts 5 tt∧¬ In ts 5 (tt+1)∧¬ In tj 2 tt∧¬ In tj 2 (tt+1)∧¬ In ts 5 tj∧¬ In ts 5 (tj+1)∧tw≠tt∧tw≠tt+1∧0<tw) (hdis:tt+2≤ts∨ts+5≤tt)
  (hl:last<4611686018427387903) (hn:gs.length≤1000) (hb:k.busy=true) (hx:k.x∈gs.map Prod.fst) {i:Nat} {x:Br} (hi:idxB k.id l=some i) (hxi:l[i]?=some x) (hok:okPs x.press) (hpx:x.pic∈gs.map Prod.fst) (hdn:k.done<x.press.length) {B:Option Addr} {d:Nat} :
  Calls prog 51 #[ptrV b,brV fr x (B,d)] w (Gives (fun j=>j=tw∨j=tt+1∨In ts 5 j∨In tj 2 j) w T (PubW ts sb n last b tw tt tb tj jb fr most tlast epoch gs l tp A an ad k i x)):=by
 have hid:(x.id:Int)=k.id:=by
  obtain⟨y,h1,h2,_⟩:=idxB_some hi;rw[hxi]at h1;cases h1
  exact h2
 have hH:=hqd h;obtain⟨pl,hpl⟩:∃ pl,pl=x.press.length:=⟨_,rfl⟩;have Hpl:=hqd hpl;have c2:=h.cell (i:=2) rfl;have c8:=h.cell (i:=8) rfl;have c9:=h.cell (i:=9) rfl;have HPy:=hqd fun W (e:Ext w W) (h1:x.done<k.done+1)=>tree_publish (hTr.ext e) hm (hS.ext e) (hu.ext e) htt hts hdis hl hn (id:=k.id) hi hxi hpx (d:=k.done+1) hx h1 (by omega);have HPn:=hqd fun W (e:Ext w W) (h1:k.done+1≤x.done)=>tree_publish_no (hTr.ext e) hm (id:=k.id) hi hxi (d:=k.done+1) (p:=k.x) h1;have hok2:=hok.1;have hw1:IntKind.i64.wrap ((k.done:Int)+1)=(k.done:Int)+1:=IntWalk.i64_in _ (by omega);rw[← hid]at HPy HPn;rw[brV_eq,← hpl];dsimp only
 have HX:=hqd hxi;have HI:=hqd hi;have Hid:=hqd hid;have HS:=hqd hS;have HJ:=hqd hJ;have HTr:=hqd hTr;have Hhx:=hqd hx;have Hdn:=hqd hdn;clear h hS hJ hTr hxi hi hpl hid hx;unfold ptrV at *;go_enter func51,ntmps51;go_upto_region 1 with fail
 have b9:=Has.new w (fun _=>0) [.int .i64 (x.id:Nat),.int .i64 (fr:Nat),.slice B pl d,.int .i64 (x.done:Nat),.int .i64 (x.pic:Nat)] 136 rfl;have x1:=Ext.alloc w (.cells #[.int .i64 (x.id:Nat),.int .i64 (fr:Nat),.slice B pl d,.int .i64 (x.done:Nat),.int .i64 (x.pic:Nat)] 136);generalize hW:World.alloc w _=W1 at *;obtain⟨gv,hgv⟩:∃ gv,gv=w.heap.size:=⟨_,rfl⟩;rw[← hgv]at b9 ⊢;have hgT:T gv=0:=hu gv (by omega);clear hW hgv;have j0:=b9.cell (i:=0) rfl;clear b9;have c2:=x1.cell c2;have c8:=x1.cell c8;have c9:=x1.cell c9;apply wrN 15;simp only[tk];repeat apply lxA (fun _ h _=>aj (h.cell c2) (aj (h.cell c8) (aj (h.cell c9) (h.cell j0))))
 refine lex_nil ?_;intro Wx hWx hΦ;clear hΦ;simp only[dk];have j0:=hWx.cell j0;have x2:=x1.trans hWx;clear c2 c8 c9;go_wp2_with fail;by_cases h1:x.done<k.done+1
 ·refine(HPy.out Wx x2 h1).mono ?_
  rintro e w3 ⟨v,rfl,T3,hT3,rfl,hTe,hTr3,free4,hS3⟩;rw[hTe]at hT3;have hd:=hd1;have hH3:=(hH.out.ext x2).turn hT3 (by rintro (h|h);omega;exact hd.1 h);have hJ3:=(HJ.out.ext x2).turn hT3 (by rintro (h|h);unfold In at hd;omega;exact hd.2.2.2.2.2.2.1 h) (by rintro (h|h);unfold In at hd;omega;exact hd.2.2.2.2.2.2.2.1 h);have j0:=oR.cell (Moved.of_turn hT3) j0 (by rw[hgT];unfold In;omega);have c5:=hH3.cell (i:=5) rfl;have f5:=hH3.free 5;obtain⟨hT4,hH4⟩:=hH3.put (S:=(· = tw)) hT3.unborn 5 (.bool false) rfl;have hH4:Has (w3.setCell ⟨b,5,none⟩ (.bool false)) T tw b (wkC tp A an ad tb jb sb {k with busy:=false}):=hH4;have j0:=oR.cell (Moved.of_turn hT4) j0 (by rw[hgT];omega);have hJ4:=hJ3.turn hT4 (by unfold In at hd;omega) (by unfold In at hd;omega);have hTr4:=hTr3.turn hT4 (by omega) (by omega) (by omega);have hS4:=hS3.turn hT4 (fun j hj e=>hd.1 (e▸hj));have hT4:=((Turn.of_ext (fun j=>j=tw∨j=tt+1∨In ts 5 j∨In tj 2 j) hu x2).trans (hT3.mono fun j hj=>by rcases hj with hj|hj;exact .inr (.inl hj);exact .inr (.inr (.inl hj)))).trans (hT4.mono fun j hj=>.inl hj);have HI4:=hqd (idxB_set HI.out HX.out (show({x with done:=k.done+1,pic:=k.x}:Br).id=x.id from rfl));have HX4:=hqd (show(l.set i {x with done:=k.done+1,pic:=k.x})[i]?=some {x with done:=k.done+1,pic:=k.x} from List.getElem?_set_self (List.getElem?_eq_some_iff.1 HX.out).1);rw[← Hid.out]at HI4;have HRest:=hqd (wk_rest_no hH4 rfl);clear hT3 hH3 hJ3 hTr3 hS3;unfold ptrV at HRest;go_wp2_with fail;refine HRest.out.mono ?_;rintro e w5 ⟨rfl,hw⟩;subst hw;clear c5 f5;generalize hWZ:World.setCell w3 _ _=w4 at *;clear hWZ;have c2:=hH4.cell (i:=2) rfl;have c3:=hH4.cell (i:=3) rfl;have c6:=hH4.cell (i:=6) rfl;have c7:=hH4.cell (i:=7) rfl;have HG:=hqd fun W (e:Ext w4 W)=>br_get hTr4 hm (id:=x.id) HI4.out HX4.out (show okPs ({x with done:=k.done+1,pic:=k.x}).press from hok) W e;have HPut:=hqd fun W (e:Ext w4 W)=>job_put (hJ4.ext e) (hT4.unborn.ext e) htj k.id k.ep;have HH4:=hqd hH4;have HJ4:=hqd hJ4;have HTr4:=hqd hTr4;have HS4:=hqd hS4;have HT4:=hqd hT4;unfold ptrV at *;clear hH4 hJ4 hTr4 hS4 hT4;go_wp2_with fail;apply wp_region_lexS (F1:=99) (F2:=99) (R:=Below w4.heap.size) (Rs:=gsRs 11 10 w4.heap.size 136) (J:=fun _ _=>True) (by kernel_rfl) (by kernel_rfl) (Below.refl _) (fun _ _ W=>.inl (Ext.refl W)) (fun _ _ h=>h.size) (fun _ _ _ _ _ _ _ _ _=>trivial) (fun _ _ _=>Below.trans) (Below.of_ext' (Ext.drew _) (Nat.le_refl _)) (fun _=>trivial);intro σ;apply lxS (fun _ h _ _=>aj ((Below.to_ext h).cell c2) ((Below.to_ext h).cell j0));apply lxS (fun _ h _ _=>aj ((Below.to_ext h).cell c2) ((Below.to_ext h).cell j0));apply lxS (fun _ h _ _=>aj ((Below.to_ext h).cell c2) ((Below.to_ext h).cell j0));apply lxS (fun _ h _ _=>aj ((Below.to_ext h).cell c2) ((Below.to_ext h).cell j0));apply lxS (fun _ h _ _=>aj ((Below.to_ext h).cell c2) ((Below.to_ext h).cell j0));apply lxS (fun _ h _ _=>aj ((Below.to_ext h).cell c2) ((Below.to_ext h).cell j0));apply lexS_call (p:=gsV 6 (fun us=>.tuple #[.agg us.toArray,.bool true]) (cpG fr w4.heap.size ({x with done:=k.done+1,pic:=k.x}))) (by decide) (by decide) (gsV.keeps (cpG.stab fr _ ({x with done:=k.done+1,pic:=k.x})))
  ·rfl
  ·intro W
   go_simp;exact⟨rfl,rfl⟩
  ·intro W hR hJ hΦ
   refine(HG.out W (Below.to_ext hR)).mono ?_;rintro e w' ⟨⟨us,rfl,hg⟩,ee⟩;exact⟨_,rfl,Below.of_ext' ee hR.size,.inl ee,us,upd_eq,hg⟩
  simp only[pu];apply lexS_new (p:=gsV 7 (fun us=>.tuple #[.agg us.toArray,.bool true]) (cpG fr w4.heap.size ({x with done:=k.done+1,pic:=k.x}))) (by decide) (by decide) (gsV.keeps (cpG.stab fr _ ({x with done:=k.done+1,pic:=k.x})))
  ·rfl
  ·intro W hR hJ hΦ
   obtain⟨us,e1,hg⟩:=hΦ.1 rfl;refine⟨_,W,?_,Below.refl _ _,.inl (Ext.refl _),us,upd_eq,hg⟩;simp only[e1];go_simp;first|done|rfl
  simp only[pu];apply lexS_new (p:=gsV 8 (fun us=>.agg us.toArray) (cpG fr w4.heap.size ({x with done:=k.done+1,pic:=k.x}))) (by decide) (by decide) (gsV.keeps (cpG.stab fr _ ({x with done:=k.done+1,pic:=k.x})))
  ·rfl
  ·intro W hR hJ hΦ
   obtain⟨us,e1,hg⟩:=hΦ.1 rfl;refine⟨_,W,?_,Below.refl _ _,.inl (Ext.refl _),us,upd_eq,hg⟩;simp only[e1];go_simp;first|done|rfl
  simp only[pu];apply lexS_ex (u:=.bool true) (by decide) (by decide) (Below.refl _) (fun _ _ W=>.inl (Ext.refl W))
  ·rfl
  ·intro W hR hJ hΦ
   obtain⟨us,e1,hg⟩:=hΦ.2.1 rfl;simp only[e1];go_simp;first|done|rfl
  simp only[pu];apply lexS_new (p:=gsA w4.heap.size 10 136) (by decide) (by decide) gsA.keeps
  ·rfl
  ·intro W hR hJ hΦ
   refine⟨.pointer (some ⟨W.heap.size,0,none⟩),W.alloc (.cells zB.toArray 136),?_,Below.of_ext' (Ext.alloc _ _) hR.size,.inl (Ext.alloc _ _),W.heap.size,upd_eq,hR.size,zB,⟨_,_,_,_,_,_,_,rfl⟩,heap_alloc_new W _⟩;unfold zB;go_simp;first|done|rfl
  simp only[pu];apply lexS_store (p:=gsS w4.heap.size 10 136 (cpG fr w4.heap.size ({x with done:=k.done+1,pic:=k.x}))) (by decide) (by decide) (gsS.keeps (cpG.stab fr _ ({x with done:=k.done+1,pic:=k.x})) (by kernel_rfl))
  ·rfl
  ·intro W hR hJ hΦ
   obtain⟨g8,e8,hm8,hs8⟩:=hΦ.1 rfl;obtain⟨us,e1,hg⟩:=hΦ.2.1 rfl;obtain⟨W2,r1,r2,r3,r4⟩:=gs_store (P:=prog) (K:=11) (al:=10) (m:=w4.heap.size) (σ:=σ) (cpG.stab fr _ ({x with done:=k.done+1,pic:=k.x})) size_br hm8 hs8 hg e8 (by decide);exact⟨W2,r1 _ _ _ _ rfl e8 e1,r2 hR.size,r3,r4⟩
  simp only[Act.put];apply lxS (fun _ h _ _=>aj ((Below.to_ext h).cell c2) ((Below.to_ext h).cell j0));refine lexS_nil ?_;intro Wx hR hap hΦ;obtain⟨gx,us,e8,hgx,hG8,hb8⟩:=hΦ.1 rfl;have hWx:=Below.to_ext hR;clear hΦ hap hR;rw[e8];generalize σ 6=s6 at *;generalize σ 7=s7 at *;generalize σ 8=s8 at *;generalize σ 10=s10 at *;generalize σ 11=s11 at *;clear e8;obtain⟨B2,d2,rfl,hRw⟩:=hG8;have b9:Has Wx (fun _=>0) 0 gx (brC fr ({x with done:=k.done+1,pic:=k.x}) (B2,d2)):=⟨rfl,_,hb8⟩;have k2:=b9.cell (i:=2) rfl;have k3:=b9.cell (i:=3) rfl;clear b9 hb8 hRw;have c3:=hWx.cell c3;have c6:=hWx.cell c6;have c7:=hWx.cell c7;have HPut:=hqd fun W (e:Ext Wx W)=>HPut.out W (hWx.trans e);have HH5:=hqd (HH4.out.ext hWx);have HJ5:=hqd (HJ4.out.ext hWx);have HTr5:=hqd (HTr4.out.ext hWx);have HS5:=hqd (HS4.out.ext hWx);have HT5:=hqd (HT4.out.ext hWx);generalize hWZ:Wx=W5 at *;clear hWZ hWx;try dsimp only at k2 k3
  rw[← Hpl.out]at k2;obtain⟨dv,hdv⟩:∃ dv:Int,dv=((({x with done:=k.done+1,pic:=k.x}).done:Nat):Int):=⟨_,rfl⟩;try dsimp only at hdv
  rw[← hdv]at k3;clear hdv;by_cases hlt:dv<(pl:Int)
  ·have hd5:decide (dv<(pl:Int))=true:=decide_eq_true hlt
   go_wp2_with fail;apply wrN 8;simp only[tk];repeat apply lxA (fun _ h _=>aj (h.cell c3) (aj (h.cell c6) (h.cell c7)))
   refine lex_nil ?_;intro Wx hWx hΦ;clear hΦ;simp only[dk];go_wp2_with fail;refine(HPut.out Wx hWx).mono ?_;rintro e w6 ⟨v,rfl,T6,hT6,⟨r6,rfl⟩,hJ6⟩;have hd:=hd1;have hH6:=(HH5.out.ext hWx).turn hT6 hd.2.1;have hTr6:=(HTr5.out.ext hWx).turn hT6 (by unfold In;omega) hd.2.2.2.2.1 hd.2.2.2.2.2.1;have hS6:=(HS5.out.ext hWx).turn hT6 (fun j hj h=>by unfold In at *;omega);have hT7:=(HT5.out.ext hWx).trans (hT6.mono fun j hj=>(.inr (.inr (.inr hj)):j=tw∨j=tt+1∨In ts 5 j∨In tj 2 j));go_wp2_with fail;go_end0
   exact⟨_,rfl,T6,hT7,rfl,hJ6,hH6,free4,.inl ⟨h1,hTr6,hS6⟩⟩
  ·have hd5:decide (dv<(pl:Int))=false:=decide_eq_false hlt
   go_wp2_with fail;go_end0
   exact⟨_,rfl,T,HT5.out,rfl,HJ5.out,HH5.out,free4,.inl ⟨h1,HTr5.out,HS5.out⟩⟩
 ·refine(HPn.out Wx x2 (by omega)).mono ?_
  rintro e w3 ⟨rfl,e3⟩;have hd:=hd1;have x3:=x2.trans e3;have j0:=e3.cell j0;have HRest:=hqd (wk_rest (hH.out.ext x3) (HS.out.ext x3) (hu.ext x3) hts hd.1 hl hn fun _=>Hhx.out);unfold ptrV at HRest;go_wp2_with fail;refine HRest.out.mono ?_;rintro e w4 ⟨v,rfl,T3,hT3,⟨r3,rfl⟩,hTe,hH4,free4,hf4,hS4⟩;rw[hTe]at hT3;rw[if_pos hb]at hS4;have j0:=oR.cell (Moved.of_turn hT3) j0 (by rw[hgT];unfold In;omega);have hJ4:=(HJ.out.ext x3).turn hT3 (by rintro (h|h);unfold In at hd;omega;exact hd.2.2.2.2.2.2.1 h) (by rintro (h|h);unfold In at hd;omega;exact hd.2.2.2.2.2.2.2.1 h);have hTr4:=(HTr.out.ext x3).turn hT3 (by rintro (h|h);omega;unfold In at h;omega) (by rintro (h|h);omega;exact hd.2.2.1 h) (by rintro (h|h);omega;exact hd.2.2.2.1 h);have hT4:=(Turn.of_ext (fun j=>j=tw∨j=tt+1∨In ts 5 j∨In tj 2 j) hu x3).trans (hT3.mono fun j hj=>by rcases hj with hj|hj;exact .inl hj;exact .inr (.inr (.inl hj)));have HI4:=hqd HI.out;have HX4:=hqd HX.out;rw[← Hid.out]at HI4;clear hT3;have c2:=hH4.cell (i:=2) rfl;have c3:=hH4.cell (i:=3) rfl;have c6:=hH4.cell (i:=6) rfl;have c7:=hH4.cell (i:=7) rfl;have HG:=hqd fun W (e:Ext w4 W)=>br_get hTr4 hm (id:=x.id) HI4.out HX4.out (show okPs (x).press from hok) W e;have HPut:=hqd fun W (e:Ext w4 W)=>job_put (hJ4.ext e) (hT4.unborn.ext e) htj k.id k.ep;have HH4:=hqd hH4;have HJ4:=hqd hJ4;have HTr4:=hqd hTr4;have HS4:=hqd hS4;have HT4:=hqd hT4;unfold ptrV at *;clear hH4 hJ4 hTr4 hS4 hT4;go_wp2_with fail;apply wp_region_lexS (F1:=99) (F2:=99) (R:=Below w4.heap.size) (Rs:=gsRs 11 10 w4.heap.size 136) (J:=fun _ _=>True) (by kernel_rfl) (by kernel_rfl) (Below.refl _) (fun _ _ W=>.inl (Ext.refl W)) (fun _ _ h=>h.size) (fun _ _ _ _ _ _ _ _ _=>trivial) (fun _ _ _=>Below.trans) (Below.of_ext' (Ext.drew _) (Nat.le_refl _)) (fun _=>trivial);intro σ;apply lxS (fun _ h _ _=>aj ((Below.to_ext h).cell c2) ((Below.to_ext h).cell j0));apply lxS (fun _ h _ _=>aj ((Below.to_ext h).cell c2) ((Below.to_ext h).cell j0));apply lxS (fun _ h _ _=>aj ((Below.to_ext h).cell c2) ((Below.to_ext h).cell j0));apply lxS (fun _ h _ _=>aj ((Below.to_ext h).cell c2) ((Below.to_ext h).cell j0));apply lxS (fun _ h _ _=>aj ((Below.to_ext h).cell c2) ((Below.to_ext h).cell j0));apply lxS (fun _ h _ _=>aj ((Below.to_ext h).cell c2) ((Below.to_ext h).cell j0));apply lexS_call (p:=gsV 6 (fun us=>.tuple #[.agg us.toArray,.bool true]) (cpG fr w4.heap.size (x))) (by decide) (by decide) (gsV.keeps (cpG.stab fr _ (x)))
  ·rfl
  ·intro W
   go_simp;exact⟨rfl,rfl⟩
  ·intro W hR hJ hΦ
   refine(HG.out W (Below.to_ext hR)).mono ?_;rintro e w' ⟨⟨us,rfl,hg⟩,ee⟩;exact⟨_,rfl,Below.of_ext' ee hR.size,.inl ee,us,upd_eq,hg⟩
  simp only[pu];apply lexS_new (p:=gsV 7 (fun us=>.tuple #[.agg us.toArray,.bool true]) (cpG fr w4.heap.size (x))) (by decide) (by decide) (gsV.keeps (cpG.stab fr _ (x)))
  ·rfl
  ·intro W hR hJ hΦ
   obtain⟨us,e1,hg⟩:=hΦ.1 rfl;refine⟨_,W,?_,Below.refl _ _,.inl (Ext.refl _),us,upd_eq,hg⟩;simp only[e1];go_simp;first|done|rfl
  simp only[pu];apply lexS_new (p:=gsV 8 (fun us=>.agg us.toArray) (cpG fr w4.heap.size (x))) (by decide) (by decide) (gsV.keeps (cpG.stab fr _ (x)))
  ·rfl
  ·intro W hR hJ hΦ
   obtain⟨us,e1,hg⟩:=hΦ.1 rfl;refine⟨_,W,?_,Below.refl _ _,.inl (Ext.refl _),us,upd_eq,hg⟩;simp only[e1];go_simp;first|done|rfl
  simp only[pu];apply lexS_ex (u:=.bool true) (by decide) (by decide) (Below.refl _) (fun _ _ W=>.inl (Ext.refl W))
  ·rfl
  ·intro W hR hJ hΦ
   obtain⟨us,e1,hg⟩:=hΦ.2.1 rfl;simp only[e1];go_simp;first|done|rfl
  simp only[pu];apply lexS_new (p:=gsA w4.heap.size 10 136) (by decide) (by decide) gsA.keeps
  ·rfl
  ·intro W hR hJ hΦ
   refine⟨.pointer (some ⟨W.heap.size,0,none⟩),W.alloc (.cells zB.toArray 136),?_,Below.of_ext' (Ext.alloc _ _) hR.size,.inl (Ext.alloc _ _),W.heap.size,upd_eq,hR.size,zB,⟨_,_,_,_,_,_,_,rfl⟩,heap_alloc_new W _⟩;unfold zB;go_simp;first|done|rfl
  simp only[pu];apply lexS_store (p:=gsS w4.heap.size 10 136 (cpG fr w4.heap.size (x))) (by decide) (by decide) (gsS.keeps (cpG.stab fr _ (x)) (by kernel_rfl))
  ·rfl
  ·intro W hR hJ hΦ
   obtain⟨g8,e8,hm8,hs8⟩:=hΦ.1 rfl;obtain⟨us,e1,hg⟩:=hΦ.2.1 rfl;obtain⟨W2,r1,r2,r3,r4⟩:=gs_store (P:=prog) (K:=11) (al:=10) (m:=w4.heap.size) (σ:=σ) (cpG.stab fr _ (x)) size_br hm8 hs8 hg e8 (by decide);exact⟨W2,r1 _ _ _ _ rfl e8 e1,r2 hR.size,r3,r4⟩
  simp only[Act.put];apply lxS (fun _ h _ _=>aj ((Below.to_ext h).cell c2) ((Below.to_ext h).cell j0));refine lexS_nil ?_;intro Wx hR hap hΦ;obtain⟨gx,us,e8,hgx,hG8,hb8⟩:=hΦ.1 rfl;have hWx:=Below.to_ext hR;clear hΦ hap hR;rw[e8];generalize σ 6=s6 at *;generalize σ 7=s7 at *;generalize σ 8=s8 at *;generalize σ 10=s10 at *;generalize σ 11=s11 at *;clear e8;obtain⟨B2,d2,rfl,hRw⟩:=hG8;have b9:Has Wx (fun _=>0) 0 gx (brC fr (x) (B2,d2)):=⟨rfl,_,hb8⟩;have k2:=b9.cell (i:=2) rfl;have k3:=b9.cell (i:=3) rfl;clear b9 hb8 hRw;have c3:=hWx.cell c3;have c6:=hWx.cell c6;have c7:=hWx.cell c7;have HPut:=hqd fun W (e:Ext Wx W)=>HPut.out W (hWx.trans e);have HH5:=hqd (HH4.out.ext hWx);have HJ5:=hqd (HJ4.out.ext hWx);have HTr5:=hqd (HTr4.out.ext hWx);have HS5:=hqd (HS4.out.ext hWx);have HT5:=hqd (HT4.out.ext hWx);generalize hWZ:Wx=W5 at *;clear hWZ hWx;try dsimp only at k2 k3
  rw[← Hpl.out]at k2;obtain⟨dv,hdv⟩:∃ dv:Int,dv=(((x).done:Nat):Int):=⟨_,rfl⟩;try dsimp only at hdv
  rw[← hdv]at k3;clear hdv;by_cases hlt:dv<(pl:Int)
  ·have hd5:decide (dv<(pl:Int))=true:=decide_eq_true hlt
   go_wp2_with fail;apply wrN 8;simp only[tk];repeat apply lxA (fun _ h _=>aj (h.cell c3) (aj (h.cell c6) (h.cell c7)))
   refine lex_nil ?_;intro Wx hWx hΦ;clear hΦ;simp only[dk];go_wp2_with fail;refine(HPut.out Wx hWx).mono ?_;rintro e w6 ⟨v,rfl,T6,hT6,⟨r6,rfl⟩,hJ6⟩;have hd:=hd1;have hH6:=(HH5.out.ext hWx).turn hT6 hd.2.1;have hTr6:=(HTr5.out.ext hWx).turn hT6 (by unfold In;omega) hd.2.2.2.2.1 hd.2.2.2.2.2.1;have hS6:=(HS5.out.ext hWx).turn hT6 (fun j hj h=>by unfold In at *;omega);have hT7:=(HT5.out.ext hWx).trans (hT6.mono fun j hj=>(.inr (.inr (.inr hj)):j=tw∨j=tt+1∨In ts 5 j∨In tj 2 j));go_wp2_with fail;go_end0
   exact⟨_,rfl,T6,hT7,rfl,hJ6,hH6,free4,.inr ⟨hTr6,hS6⟩⟩
  ·have hd5:decide (dv<(pl:Int))=false:=decide_eq_false hlt
   go_wp2_with fail;go_end0
   exact⟨_,rfl,T,HT5.out,rfl,HJ5.out,HH5.out,free4,.inr ⟨HTr5.out,HS5.out⟩⟩
end
def WNext(tp:List UInt8)(ops:List OpT)(fr:Nat)(l:List Br)(gs:List (Nat×List Int))(last:Nat)(k:Wk)(l':List Br)(gs':List (Nat×List Int))(last':Nat)(k':Wk):Prop :=
 (l'=l∧gs'=gs∧last'=last∧k'=k) ∨
 (k.busy=false∧l'=l∧last'=last+1∧∃ id ep i x g,idxB id l=some i∧l[i]?=some x∧x.done<x.press.length∧(x.pic,g)∈gs∧k'=⟨true,id,ep,last+1,x.done,false⟩∧gs'=gs++[(last+1,g)]) ∨
 (k.busy=true∧l'=l∧last'=last∧k'={k with busy:=false}∧gs'=delG gs k.x) ∨
 (k.busy=true∧k.played=false∧l'=l∧last'=last∧k'={k with played:=true}∧∃(i:Nat) (x:Br) (g:List Int) (h:k.done<x.press.length),idxB k.id l=some i∧l[i]?=some x∧(k.x,g)∈gs∧gs'=putG gs k.x (stepN tp x.press[k.done] ((fr:Int)+(k.done:Nat)) ops g).1) ∨
 (k.busy=true∧k.played=true∧last'=last∧k'={k with busy:=false}∧∃ i x,idxB k.id l=some i∧l[i]?=some x∧x.done<k.done+1∧l'=l.set i {x with done:=k.done+1,pic:=k.x}∧gs'=delG gs x.pic)
section
variable {w w':World} {T T':Tg} {ts sb n free last b tw tt tb tj jb fr most tlast epoch ot:Nat} {gs:List (Nat×List Int)} {l:List Br} {tp:List UInt8} {ops:List OpT} {A:Option Addr} {an ad:Nat} {k:Wk}
def StepP(ts sb n last b tw tt tb tj jb fr most tlast epoch:Nat)(gs:List (Nat×List Int))(l:List Br)(tp:List UInt8)(ops:List OpT)(A:Option Addr)(an ad:Nat)(k:Wk)(v:Value)(w':World)(T':Tg):Prop :=
 (∃ r,v = .bool r)∧JobsAt w' T' tj jb∧∃ l' gs' last' k' free',WNext tp ops fr l gs last k l' gs' last' k'∧Has w' T' tw b (wkC tp A an ad tb jb sb k')∧TreeAt w' T' tt tb sb most tlast epoch fr l'∧StoreAt w' T' ts sb n free' last' gs'
theorem wk_step(h:Has w T tw b (wkC tp A an ad tb jb sb k))(hS:StoreAt w T ts sb n free last gs)(hJ:JobsAt w T tj jb)(hTr:TreeAt w T tt tb sb most tlast epoch fr l)(hR:Row w T ot 127 4 A an ad (opcs ops))(hu:Unborn w T)(hts:0<ts)(htj:0<tj)(htt:0<tt)(hm:most≤8)
  (hd1:¬ In ts 5 tw∧¬ In tj 2 tw∧¬ In ts 5 tt∧¬ In ts 5 (tt+1)∧¬ In tj 2 tt∧¬ In tj 2 (tt+1)∧¬ In ts 5 tj∧¬ In ts 5 (tj+1)∧tw≠tt∧tw≠tt+1∧0<tw) (hdis:tt+2≤ts∨ts+5≤tt) (hot:¬ In ts 5 ot) (htp:tp.length≤1099511627776)
  (hl:last<4611686018427387903) (hn:gs.length≤1000) (hfr:fr≤1000000) (hok:∀ x∈l,okPs x.press) (hpx:∀ x∈l,∃ g,(x.pic,g)∈gs) (hkx:k.busy=true→∃ g,(k.x,g)∈gs∧okG g) (hkd:k.busy=true→∀ i x,idxB k.id l=some i→l[i]?=some x→k.done<x.press.length) :
  Calls prog 35 #[ptrV b] w (Gives (fun j=>j=tw∨j=tt+1∨In ts 5 j∨In tj 2 j) w T (StepP ts sb n last b tw tt tb tj jb fr most tlast epoch gs l tp ops A an ad k)):=by
 have c2:=h.cell (i:=2) rfl;have c5:=h.cell (i:=5) rfl;have c6:=h.cell (i:=6) rfl;have c7:=h.cell (i:=7) rfl;have c10:=h.cell (i:=10) rfl;have HU:=hqd hu;have hd:=hd1;cases hb:k.busy with
 | false =>
  have HTk:=hqd (wk_take h hS hJ hTr hu hts htj hm hok hpx hd1 hl hn);rw[hb]at c5;have Hb:=hqd hb;unfold ptrV at *;clear h hS hJ hTr hR hok hpx hkx hkd hb;go_enter func35,ntmps35;go_wp2_with fail;refine HTk.out.mono ?_;rintro e w1 ⟨v,rfl,T1,hT1,⟨r,rfl⟩,hJ1,hTr1,hres⟩;have hT1:=hT1.mono fun j hj=>(by rcases hj with hj|hj|hj;exact .inl hj;exact .inr (.inr (.inl hj));exact .inr (.inr (.inr hj)):j=tw∨j=tt+1∨In ts 5 j∨In tj 2 j);have HF:=hqd (show StepP ts sb n last b tw tt tb tj jb fr most tlast epoch gs l tp ops A an ad k (.bool r) w1 T1 from by
   refine⟨⟨r,rfl⟩,hJ1,?_⟩;rcases hres with ⟨q1,q2⟩|⟨id,ep,i,x,g,q1,q2,q3,q4,q5,q6⟩
   ·exact⟨l,gs,last,k,free,.inl ⟨rfl,rfl,rfl,rfl⟩,q1,hTr1,q2⟩
   ·exact⟨l,_,last+1,_,free,.inr (.inl ⟨Hb.out,rfl,rfl,id,ep,i,x,g,q1,q2,q3,q4,rfl,rfl⟩),q5,hTr1,q6⟩)
  have HT1:=hqd hT1;clear hres hJ1 hTr1 hT1;go_wp2_with fail;go_ret;exact⟨_,rfl,T1,HT1.out,HF.out⟩
 | true =>
  obtain⟨g,hg,hgo⟩:=hkx hb;have hkm:k.x∈gs.map Prod.fst:=List.mem_map.2 ⟨_,hg,rfl⟩;have HRest:=hqd fun W (e:Ext w W)=>wk_rest (h.ext e) (hS.ext e) (hu.ext e) hts hd1.1 hl hn fun _=>hkm;have HRF:=hqd fun W W' T3 v (e:Ext w W) (hT:Turn (fun j=>j=tw∨In ts 5 j) W T W' T3) (hP:RestP T ts sb n free last b tw tb jb gs tp A an ad k v W' T3)=>(show StepP ts sb n last b tw tt tb tj jb fr most tlast epoch gs l tp ops A an ad k (.bool true) W' T from by
   obtain⟨_,hTe,q1,free',_,q2⟩:=hP;rw[hTe]at hT;rw[if_pos hb]at q2;exact⟨⟨true,rfl⟩,(hJ.ext e).turn hT (by unfold In at *;omega) (by unfold In at *;omega),l,_,last,_,free',.inr (.inr (.inl ⟨hb,rfl,rfl,rfl,rfl⟩)),q1,(hTr.ext e).turn hT (by unfold In at *;omega) (by unfold In at *;omega) (by unfold In at *;omega),q2⟩)
  have HEp:=hqd fun W (e:Ext w W)=>tree_epoch (hTr.ext e);rw[hb]at c5;cases hi:idxB k.id l with
  | none =>
   have HG0:=hqd (br_get_no hTr hm hi);have Hb:=hqd hb;unfold ptrV at *;clear h hS hJ hTr hR hok hpx hkx hkd hb hi hg hkm;obtain⟨kb,ki,ke,kx,kd,kp⟩:=k;try dsimp only at *
   go_enter func35,ntmps35;go_wp2_with fail;apply wp_region_lexS (F1:=99) (F2:=99) (R:=Below w.heap.size) (Rs:=gsRs 14 13 w.heap.size 136) (J:=fun _ _=>True) (by kernel_rfl) (by kernel_rfl) (Below.refl _) (fun _ _ W=>.inl (Ext.refl W)) (fun _ _ h=>h.size) (fun _ _ _ _ _ _ _ _ _=>trivial) (fun _ _ _=>Below.trans) (Below.of_ext' (Ext.drew _) (Nat.le_refl _)) (fun _=>trivial);intro σ;apply lxS (fun _ h _ _=>aj ((Below.to_ext h).cell c2) ((Below.to_ext h).cell c6));apply lxS (fun _ h _ _=>aj ((Below.to_ext h).cell c2) ((Below.to_ext h).cell c6));apply lxS (fun _ h _ _=>aj ((Below.to_ext h).cell c2) ((Below.to_ext h).cell c6));apply lxS (fun _ h _ _=>aj ((Below.to_ext h).cell c2) ((Below.to_ext h).cell c6));apply lxS (fun _ h _ _=>aj ((Below.to_ext h).cell c2) ((Below.to_ext h).cell c6));apply lxS (fun _ h _ _=>aj ((Below.to_ext h).cell c2) ((Below.to_ext h).cell c6));apply lxS (fun _ h _ _=>aj ((Below.to_ext h).cell c2) ((Below.to_ext h).cell c6));apply lxS (fun _ h _ _=>aj ((Below.to_ext h).cell c2) ((Below.to_ext h).cell c6));apply lxS (fun _ h _ _=>aj ((Below.to_ext h).cell c2) ((Below.to_ext h).cell c6));apply lexS_call (p:=gsV 9 (fun us=>.tuple #[.agg us.toArray,.bool false]) noG) (by decide) (by decide) (gsV.keeps (noG.stab _ _))
   ·rfl
   ·intro W
    go_simp;exact⟨rfl,rfl⟩
   ·intro W hR hJ hΦ
    refine(HG0.out W (Below.to_ext hR)).mono ?_;rintro e w' ⟨⟨us,rfl,hg⟩,ee⟩;exact⟨_,rfl,Below.of_ext' ee hR.size,.inl ee,us,upd_eq,hg⟩
   simp only[pu];apply lexS_new (p:=gsV 10 (fun us=>.tuple #[.agg us.toArray,.bool false]) noG) (by decide) (by decide) (gsV.keeps (noG.stab _ _))
   ·rfl
   ·intro W hR hJ hΦ
    obtain⟨us,e1,hg⟩:=hΦ.1 rfl;refine⟨_,W,?_,Below.refl _ _,.inl (Ext.refl _),us,upd_eq,hg⟩;simp only[e1];go_simp;first|done|rfl
   simp only[pu];apply lexS_new (p:=gsV 11 (fun us=>.agg us.toArray) noG) (by decide) (by decide) (gsV.keeps (noG.stab _ _))
   ·rfl
   ·intro W hR hJ hΦ
    obtain⟨us,e1,hg⟩:=hΦ.1 rfl;refine⟨_,W,?_,Below.refl _ _,.inl (Ext.refl _),us,upd_eq,hg⟩;simp only[e1];go_simp;first|done|rfl
   simp only[pu];apply lexS_ex (u:=.bool false) (by decide) (by decide) (Below.refl _) (fun _ _ W=>.inl (Ext.refl W))
   ·rfl
   ·intro W hR hJ hΦ
    obtain⟨us,e1,hg⟩:=hΦ.2.1 rfl;simp only[e1];go_simp;first|done|rfl
   simp only[pu];apply lexS_new (p:=gsA w.heap.size 13 136) (by decide) (by decide) gsA.keeps
   ·rfl
   ·intro W hR hJ hΦ
    refine⟨.pointer (some ⟨W.heap.size,0,none⟩),W.alloc (.cells zB.toArray 136),?_,Below.of_ext' (Ext.alloc _ _) hR.size,.inl (Ext.alloc _ _),W.heap.size,upd_eq,hR.size,zB,⟨_,_,_,_,_,_,_,rfl⟩,heap_alloc_new W _⟩;unfold zB;go_simp;first|done|rfl
   simp only[pu];apply lexS_store (p:=gsS w.heap.size 13 136 noG) (by decide) (by decide) (gsS.keeps (noG.stab _ _) (by kernel_rfl))
   ·rfl
   ·intro W hR hJ hΦ
    obtain⟨g8,e8,hm8,hs8⟩:=hΦ.1 rfl;obtain⟨us,e1,hg⟩:=hΦ.2.1 rfl;obtain⟨W2,r1,r2,r3,r4⟩:=gs_store (P:=prog) (K:=14) (al:=13) (m:=w.heap.size) (σ:=σ) (noG.stab _ _) size_br hm8 hs8 hg e8 (by decide);exact⟨W2,r1 _ _ _ _ rfl e8 e1,r2 hR.size,r3,r4⟩
   simp only[Act.put];apply lxS (fun _ h _ _=>aj ((Below.to_ext h).cell c2) ((Below.to_ext h).cell c6));refine lexS_nil ?_;intro Wx hR hap hΦ;obtain⟨gx,us,e8,hgx,hG8,hb8⟩:=hΦ.1 rfl;have hWx:=Below.to_ext hR;clear hΦ hap hR;rw[e8];generalize σ 9=s9 at *;generalize σ 10=s10 at *;generalize σ 11=s11 at *;generalize σ 13=s13 at *;generalize σ 14=s14 at *;clear e8;clear hG8 hb8;have c2:=hWx.cell c2;have c7:=hWx.cell c7;have hx3:=hWx;generalize hWZ:Wx=W3 at *;clear hWZ hWx;go_wp2_with fail;by_cases he:ke=(epoch:Int)
   ·subst he
    apply wrA trivial;repeat apply lxA (fun _ h _=>aj (h.cell c7) (h.cell c2))
    apply lxC (fun W hR=>HEp.out W (hx3.trans hR));repeat first|apply lxA (fun _ h _=>h.cell c2)|apply lxK trivial
    refine lex_nil ?_;intro Wx hWx hΦ;clear hΦ;have x4:=hx3.trans hWx;go_wp2_with fail;refine(HRest.out Wx x4).mono ?_;rintro e w5 ⟨v5,rfl,T5,hT5,hP5⟩;have hF:=HRF.out Wx w5 T5 v5 x4 hT5 hP5;obtain⟨⟨r5,rfl⟩,hTe,_⟩:=hP5;rw[hTe]at hT5;have HT:=hqd ((Turn.of_ext (fun j=>j=tw∨j=tt+1∨In ts 5 j∨In tj 2 j) HU.out x4).trans (hT5.mono fun j hj=>(by rcases hj with hj|hj;exact .inl hj;exact .inr (.inr (.inl hj)))));have HF:=hqd hF;clear hF hT5;go_wp2_with fail;go_ret;exact⟨_,rfl,T,HT.out,HF.out⟩
   ·have he1:(ke != (epoch:Int))=true:=by rw[bne_iff_ne];exact he
    apply wrA trivial;repeat apply lxA (fun _ h _=>aj (h.cell c7) (h.cell c2))
    apply lxC (fun W hR=>HEp.out W (hx3.trans hR));repeat first|apply lxA (fun _ h _=>h.cell c2)|apply lxK trivial
    refine lex_nil ?_;intro Wx hWx hΦ;clear hΦ;have x4:=hx3.trans hWx;go_wp2_with fail;refine(HRest.out Wx x4).mono ?_;rintro e w5 ⟨v5,rfl,T5,hT5,hP5⟩;have hF:=HRF.out Wx w5 T5 v5 x4 hT5 hP5;obtain⟨⟨r5,rfl⟩,hTe,_⟩:=hP5;rw[hTe]at hT5;have HT:=hqd ((Turn.of_ext (fun j=>j=tw∨j=tt+1∨In ts 5 j∨In tj 2 j) HU.out x4).trans (hT5.mono fun j hj=>(by rcases hj with hj|hj;exact .inl hj;exact .inr (.inr (.inl hj)))));have HF:=hqd hF;clear hF hT5;go_wp2_with fail;go_ret;exact⟨_,rfl,T,HT.out,HF.out⟩
  | some i =>
   obtain⟨x,hxi,_,_⟩:=idxB_some hi;have hxm:=List.mem_of_getElem? hxi;have hokx:=hok x hxm;have hdn:=hkd hb i x hi hxi;have HG0:=hqd (br_get hTr hm hi hxi hokx);obtain⟨gp,hgp⟩:=hpx x hxm;have hPl:∀ W B d,Ext w W→Sp W T B x.press.length d x.press→Calls prog 50 #[ptrV b,brV fr x (B,d)] W fun e w'=>e = .returned (.tuple #[])∧(k.played=false→∃ T',Turn (fun j=>j=tw∨j=tt+1∨In ts 5 j∨In tj 2 j) W T w' T'∧StepP ts sb n last b tw tt tb tj jb fr most tlast epoch gs l tp ops A an ad k (.bool true) w' T'):=fun W B d e hp=>by
    refine(wk_play (h.ext e) (hS.ext e) (hJ.ext e) (hR.ext e) (hu.ext e) hts hd1.1 htj (by unfold In at *;omega) hot htp hl hn hg hgo hb hp hdn hfr (by have:=hokx.1;omega)).mono ?_;rintro e' w' ⟨v,rfl,T',hT,rfl,q1,free',q2⟩;refine⟨rfl,fun hkp=>⟨T',hT.mono fun j hj=>(by rcases hj with hj|hj|hj;exact .inl hj;exact .inr (.inr (.inl hj));exact .inr (.inr (.inr hj))),⟨true,rfl⟩,q1,?_⟩⟩;have hTr':=(hTr.ext e).turn hT (by unfold In at *;omega) (by unfold In at *;omega) (by unfold In at *;omega);rcases q2 with ⟨q3,q4⟩|⟨q3,q4⟩
    ·exact⟨l,_,last,_,free',.inr (.inr (.inr (.inl ⟨hb,hkp,rfl,rfl,rfl,i,x,g,hdn,hi,hxi,hg,rfl⟩))),q3,hTr',q4⟩
    ·exact⟨l,_,last,_,free',.inr (.inr (.inl ⟨hb,rfl,rfl,rfl,rfl⟩)),q3,hTr',q4⟩
   have hPu:∀ W B d,Ext w W→Calls prog 51 #[ptrV b,brV fr x (B,d)] W fun e w'=>e = .returned (.tuple #[])∧(k.played=true→∃ T',Turn (fun j=>j=tw∨j=tt+1∨In ts 5 j∨In tj 2 j) W T w' T'∧StepP ts sb n last b tw tt tb tj jb fr most tlast epoch gs l tp ops A an ad k (.bool true) w' T'):=fun W B d e=>by
    refine(wk_publish (B:=B) (d:=d) (h.ext e) (hS.ext e) (hJ.ext e) (hTr.ext e) (hu.ext e) hts htj htt hm hd1 hdis hl hn hb hkm hi hxi hokx (List.mem_map.2 ⟨_,hgp,rfl⟩) hdn).mono ?_;rintro e' w' ⟨v,rfl,T',hT,rfl,q1,q2,free',q3⟩;refine⟨rfl,fun hkp=>⟨T',hT,⟨true,rfl⟩,q1,?_⟩⟩;rcases q3 with ⟨q4,q5,q6⟩|⟨q5,q6⟩
    ·exact⟨_,_,last,_,free',.inr (.inr (.inr (.inr ⟨hb,hkp,rfl,rfl,i,x,hi,hxi,q4,rfl,rfl⟩))),q2,q5,q6⟩
    ·exact⟨l,_,last,_,free',.inr (.inr (.inl ⟨hb,rfl,rfl,rfl,rfl⟩)),q2,q5,q6⟩
   have HPl:=hqd hPl;have HPu:=hqd hPu;clear hPl hPu;unfold ptrV at *;clear h hS hJ hTr hR hok hpx hkx hkd hb hi hxi hg hkm hdn hgp;obtain⟨kb,ki,ke,kx,kd,kp⟩:=k;try dsimp only at *
   go_enter func35,ntmps35;go_wp2_with fail;apply wp_region_lexS (F1:=99) (F2:=99) (R:=Below w.heap.size) (Rs:=gsRs 14 13 w.heap.size 136) (J:=fun _ _=>True) (by kernel_rfl) (by kernel_rfl) (Below.refl _) (fun _ _ W=>.inl (Ext.refl W)) (fun _ _ h=>h.size) (fun _ _ _ _ _ _ _ _ _=>trivial) (fun _ _ _=>Below.trans) (Below.of_ext' (Ext.drew _) (Nat.le_refl _)) (fun _=>trivial);intro σ;apply lxS (fun _ h _ _=>aj ((Below.to_ext h).cell c2) ((Below.to_ext h).cell c6));apply lxS (fun _ h _ _=>aj ((Below.to_ext h).cell c2) ((Below.to_ext h).cell c6));apply lxS (fun _ h _ _=>aj ((Below.to_ext h).cell c2) ((Below.to_ext h).cell c6));apply lxS (fun _ h _ _=>aj ((Below.to_ext h).cell c2) ((Below.to_ext h).cell c6));apply lxS (fun _ h _ _=>aj ((Below.to_ext h).cell c2) ((Below.to_ext h).cell c6));apply lxS (fun _ h _ _=>aj ((Below.to_ext h).cell c2) ((Below.to_ext h).cell c6));apply lxS (fun _ h _ _=>aj ((Below.to_ext h).cell c2) ((Below.to_ext h).cell c6));apply lxS (fun _ h _ _=>aj ((Below.to_ext h).cell c2) ((Below.to_ext h).cell c6));apply lxS (fun _ h _ _=>aj ((Below.to_ext h).cell c2) ((Below.to_ext h).cell c6));apply lexS_call (p:=gsV 9 (fun us=>.tuple #[.agg us.toArray,.bool true]) (cpG fr w.heap.size x)) (by decide) (by decide) (gsV.keeps (cpG.stab fr _ x))
   ·rfl
   ·intro W
    go_simp;exact⟨rfl,rfl⟩
   ·intro W hR hJ hΦ
    refine(HG0.out W (Below.to_ext hR)).mono ?_;rintro e w' ⟨⟨us,rfl,hg⟩,ee⟩;exact⟨_,rfl,Below.of_ext' ee hR.size,.inl ee,us,upd_eq,hg⟩
   simp only[pu];apply lexS_new (p:=gsV 10 (fun us=>.tuple #[.agg us.toArray,.bool true]) (cpG fr w.heap.size x)) (by decide) (by decide) (gsV.keeps (cpG.stab fr _ x))
   ·rfl
   ·intro W hR hJ hΦ
    obtain⟨us,e1,hg⟩:=hΦ.1 rfl;refine⟨_,W,?_,Below.refl _ _,.inl (Ext.refl _),us,upd_eq,hg⟩;simp only[e1];go_simp;first|done|rfl
   simp only[pu];apply lexS_new (p:=gsV 11 (fun us=>.agg us.toArray) (cpG fr w.heap.size x)) (by decide) (by decide) (gsV.keeps (cpG.stab fr _ x))
   ·rfl
   ·intro W hR hJ hΦ
    obtain⟨us,e1,hg⟩:=hΦ.1 rfl;refine⟨_,W,?_,Below.refl _ _,.inl (Ext.refl _),us,upd_eq,hg⟩;simp only[e1];go_simp;first|done|rfl
   simp only[pu];apply lexS_ex (u:=.bool true) (by decide) (by decide) (Below.refl _) (fun _ _ W=>.inl (Ext.refl W))
   ·rfl
   ·intro W hR hJ hΦ
    obtain⟨us,e1,hg⟩:=hΦ.2.1 rfl;simp only[e1];go_simp;first|done|rfl
   simp only[pu];apply lexS_new (p:=gsA w.heap.size 13 136) (by decide) (by decide) gsA.keeps
   ·rfl
   ·intro W hR hJ hΦ
    refine⟨.pointer (some ⟨W.heap.size,0,none⟩),W.alloc (.cells zB.toArray 136),?_,Below.of_ext' (Ext.alloc _ _) hR.size,.inl (Ext.alloc _ _),W.heap.size,upd_eq,hR.size,zB,⟨_,_,_,_,_,_,_,rfl⟩,heap_alloc_new W _⟩;unfold zB;go_simp;first|done|rfl
   simp only[pu];apply lexS_store (p:=gsS w.heap.size 13 136 (cpG fr w.heap.size x)) (by decide) (by decide) (gsS.keeps (cpG.stab fr _ x) (by kernel_rfl))
   ·rfl
   ·intro W hR hJ hΦ
    obtain⟨g8,e8,hm8,hs8⟩:=hΦ.1 rfl;obtain⟨us,e1,hg⟩:=hΦ.2.1 rfl;obtain⟨W2,r1,r2,r3,r4⟩:=gs_store (P:=prog) (K:=14) (al:=13) (m:=w.heap.size) (σ:=σ) (cpG.stab fr _ x) size_br hm8 hs8 hg e8 (by decide);exact⟨W2,r1 _ _ _ _ rfl e8 e1,r2 hR.size,r3,r4⟩
   simp only[Act.put];apply lxS (fun _ h _ _=>aj ((Below.to_ext h).cell c2) ((Below.to_ext h).cell c6));refine lexS_nil ?_;intro Wx hR hap hΦ;obtain⟨gx,us,e8,hgx,hG8,hb8⟩:=hΦ.1 rfl;have hWx:=Below.to_ext hR;clear hΦ hap hR;rw[e8];generalize σ 9=s9 at *;generalize σ 10=s10 at *;generalize σ 11=s11 at *;generalize σ 13=s13 at *;generalize σ 14=s14 at *;clear e8;obtain⟨B,d,rfl,hRw⟩:=hG8;have hsp:Sp Wx T B x.press.length d x.press:=hRw.sp fun q hq=>HU.out q hq;have HPl:=hqd fun W (e:Ext Wx W)=>HPl.out W B d (hWx.trans e) (hsp.ext e);have HPu:=hqd fun W (e:Ext Wx W)=>HPu.out W B d (hWx.trans e);have b9:Has Wx (fun _=>0) 0 gx (brC fr x (B,d)):=⟨rfl,_,hb8⟩;have hk:=fun W (e:Ext Wx W)=>(b9.ext e).all;have Hk:=hqd hk;have c2:=hWx.cell c2;have c7:=hWx.cell c7;have c10:=hWx.cell c10;have hx3:=hWx;clear hRw hsp hb8 b9 hk;generalize hWZ:Wx=W3 at *;clear hWZ hWx;go_wp2_with fail;by_cases he:ke=(epoch:Int)
   ·subst he
    apply wrA trivial;repeat apply lxA (fun _ h _=>aj (h.cell c7) (h.cell c2))
    apply lxC (fun W hR=>HEp.out W (hx3.trans hR));repeat first|apply lxA (fun _ h _=>h.cell c2)|apply lxK trivial
    refine lex_nil ?_;intro Wx hWx hΦ;clear hΦ;have c10:=hWx.cell c10;have x4:=hx3.trans hWx;have Hx4:=hqd x4;have hks:=Hk.out Wx hWx;have hl5:(brC fr x (B,d)).length=5:=rfl;cases kp with
    | false =>
     have HC:=hqd (HPl.out Wx hWx);unfold brV at HC;generalize hus:brC fr x (B,d)=us at *;go_wp2_with (first|(with_reducible refine wpList_load_st rfl 136 (.tmp 3) rfl rfl underlying136 size_br hl5 hks ?_))
     refine HC.out.mono ?_;rintro e w5 ⟨rfl,hP5⟩;obtain⟨T5,hT5,hF⟩:=hP5 trivial;have HT:=hqd ((Turn.of_ext (fun j=>j=tw∨j=tt+1∨In ts 5 j∨In tj 2 j) HU.out Hx4.out).trans hT5);have HF:=hqd hF;clear hF hT5 hP5;go_wp2_with fail;go_ret;exact⟨_,rfl,T5,HT.out,HF.out⟩
    | true =>
     have HC:=hqd (HPu.out Wx hWx);unfold brV at HC;generalize hus:brC fr x (B,d)=us at *;go_wp2_with (first|(with_reducible refine wpList_load_st rfl 136 (.tmp 3) rfl rfl underlying136 size_br hl5 hks ?_))
     refine HC.out.mono ?_;rintro e w5 ⟨rfl,hP5⟩;obtain⟨T5,hT5,hF⟩:=hP5 trivial;have HT:=hqd ((Turn.of_ext (fun j=>j=tw∨j=tt+1∨In ts 5 j∨In tj 2 j) HU.out Hx4.out).trans hT5);have HF:=hqd hF;clear hF hT5 hP5;go_wp2_with fail;go_ret;exact⟨_,rfl,T5,HT.out,HF.out⟩
   ·have he1:(ke != (epoch:Int))=true:=by rw[bne_iff_ne];exact he
    apply wrA trivial;repeat apply lxA (fun _ h _=>aj (h.cell c7) (h.cell c2))
    apply lxC (fun W hR=>HEp.out W (hx3.trans hR));repeat first|apply lxA (fun _ h _=>h.cell c2)|apply lxK trivial
    refine lex_nil ?_;intro Wx hWx hΦ;clear hΦ;have x4:=hx3.trans hWx;go_wp2_with fail;refine(HRest.out Wx x4).mono ?_;rintro e w5 ⟨v5,rfl,T5,hT5,hP5⟩;have hF:=HRF.out Wx w5 T5 v5 x4 hT5 hP5;obtain⟨⟨r5,rfl⟩,hTe,_⟩:=hP5;rw[hTe]at hT5;have HT:=hqd ((Turn.of_ext (fun j=>j=tw∨j=tt+1∨In ts 5 j∨In tj 2 j) HU.out x4).trans (hT5.mono fun j hj=>(by rcases hj with hj|hj;exact .inl hj;exact .inr (.inr (.inl hj)))));have HF:=hqd hF;clear hF hT5;go_wp2_with fail;go_ret;exact⟨_,rfl,T,HT.out,HF.out⟩
end
theorem mem_sub{gs gs':List (Nat×List Int)}(hs:∀ q∈gs',q∈gs)(hn:(gs.map Prod.fst).Nodup){i:Nat}{g:List Int}(h:(i,g)∈gs)(hi:i∈gs'.map Prod.fst):(i,g)∈gs':=by
 obtain⟨q,hq,e⟩:=List.mem_map.1 hi;have:q=(i,g):=eq_of_fst hn (hs q hq) h e;exact this▸hq
theorem delG_ids(gs:List (Nat×List Int))(x:Nat):(delG gs x).map Prod.fst=(gs.map Prod.fst).filter (· != x):=by
 unfold delG;rw[List.filter_map];rfl
theorem filter_ne{x:Nat}{L:List Nat}(h:x∉L):L.filter (· != x)=L:=List.filter_eq_self.2 fun y hy=>by
 rw[bne_iff_ne];rintro rfl;exact h hy
theorem delG_perm{gs:List (Nat×List Int)}{x:Nat}{L:List Nat}(hn:(gs.map Prod.fst).Nodup)(hp:(gs.map Prod.fst).Perm (x::L)):((delG gs x).map Prod.fst).Perm L:=by
 rw[delG_ids];have h1:=hp.filter (· != x);have hx:=hp.nodup_iff.1 hn;rw[List.filter_cons_of_neg (by simp),filter_ne (List.nodup_cons.1 hx).1]at h1;exact h1
theorem delG_sub{gs:List (Nat×List Int)}{x:Nat}:∀ q∈delG gs x,q∈gs:=fun q hq=>(mem_delG.1 hq).1
theorem delG_nodup{gs:List (Nat×List Int)}{x:Nat}(hn:(gs.map Prod.fst).Nodup):((delG gs x).map Prod.fst).Nodup:=by
 rw[delG_ids];exact hn.filter _
theorem left_perm:∀ {gs:List (Nat×List Int)} {l:List Br} {ks:List Bool} {M:List Nat},ks.length=l.length→(gs.map Prod.fst).Nodup→(gs.map Prod.fst).Perm (l.map Br.pic++M)→((left gs l ks).map Prod.fst).Perm ((sel l ks).map Br.pic++M)
 | gs,[],[],M,_,_,h=>h
 | gs,x::l,k::ks,M,hl,hn,h=>by
  have hl2:ks.length=l.length:=by simpa using hl
  clear hl;rw[left,sel];cases k with
  | true =>
   rw[if_pos rfl,if_pos rfl];have h1:(gs.map Prod.fst).Perm (l.map Br.pic++x.pic::M):=h.trans (by
    rw[List.map_cons,List.cons_append];exact List.perm_middle.symm)
   refine(left_perm (gs:=gs) (l:=l) (ks:=ks) hl2 hn h1).trans ?_;rw[List.map_cons,List.cons_append];exact List.perm_middle
  | false =>
   rw[if_neg (by decide),if_neg (by decide)];refine left_perm (l:=l) (ks:=ks) hl2 (delG_nodup hn) (delG_perm hn ?_);rw[List.map_cons,List.cons_append]at h;exact h
 | gs,[],k::ks,M,hl,_,_=>by simp at hl
 | gs,x::l,[],M,hl,_,_=>by simp at hl
def wpk(k:Wk):List Nat:=if k.busy=true then [k.x] else []
def wp(ks:List Wk):List Nat:=ks.flatMap wpk
theorem wp_app(a b:List Wk):wp (a++b)=wp a++wp b:=by unfold wp;rw[List.flatMap_append]
theorem wp_cons(k:Wk)(b:List Wk):wp (k::b)=wpk k++wp b:=by unfold wp;rw[List.flatMap_cons]
theorem wpk_le(k:Wk):(wpk k).length≤1:=by unfold wpk;split<;>simp
theorem wp_le:∀ ks:List Wk,(wp ks).length≤ks.length
 | []=>Nat.le_refl _
 | k::ks=>by
  have h1:=wpk_le k;have h2:=wp_le ks;rw[wp_cons,List.length_append,List.length_cons];omega
theorem wp_mem{k:Wk}{ks:List Wk}(h:k∈ks)(hb:k.busy=true):k.x∈wp ks:=List.mem_flatMap.2 ⟨k,h,by unfold wpk;rw[if_pos hb];exact List.mem_singleton.2 rfl⟩
theorem at_split{α:Type}:∀ {l:List α} {i:Nat} {x:α},l[i]?=some x→∃ a b,l=a++x::b∧∀ y,l.set i y=a++y::b
 | y::l,0,x,h=>by
  cases h
  exact⟨[],l,rfl,fun _=>rfl⟩
 | y::l,i+1,x,h=>by
  rw[List.getElem?_cons_succ]at h;obtain⟨a,b,e1,e2⟩:=at_split h;refine⟨y::a,b,by rw[e1];rfl,fun z=>?_⟩;rw[List.set_cons_succ,e2];rfl
structure MOk(tp:List UInt8)(ops:List OpT)(fr base:Nat)(G0:List Int)(gs:List (Nat×List Int))(tlast:Nat)(bl:List Br)(ks:List Wk):Prop where
 nd:(gs.map Prod.fst).Nodup
 g0:okG G0
 base_:(base,G0)∈gs
 ids:(bl.map Br.id).Nodup
 brs:∀ x∈bl,okPs x.press∧x.done≤x.press.length∧x.id≤tlast∧(x.pic,foldN tp ops (fr:Nat) G0 (x.press.take x.done))∈gs
 wks:∀ k∈ks,k.busy=true→k.id≤(tlast:Int)∧(∃ g,(k.x,g)∈gs∧okG g)∧∀ x∈bl,(x.id:Int)=k.id→k.done<x.press.length∧(k.x,foldN tp ops (fr:Nat) G0 (x.press.take (k.done+if k.played=true then 1 else 0)))∈gs
 perm:(gs.map Prod.fst).Perm (base::(bl.map Br.pic++wp ks))
section
variable {tp:List UInt8} {ops:List OpT} {fr base tlast last last':Nat} {G0:List Int} {gs gs':List (Nat×List Int)} {bl bl':List Br} {ks:List Wk} {k k':Wk} {i:Nat}
theorem MOk.len(h:MOk tp ops fr base G0 gs tlast bl ks):gs.length=1+bl.length+(wp ks).length:=by
 have:=h.perm.length_eq;simp at this
 omega
theorem MOk.same{q:Nat}{g g':List Int}(h:MOk tp ops fr base G0 gs tlast bl ks)(h1:(q,g)∈gs)(h2:(q,g')∈gs):g=g':=by
 have:=eq_of_fst h.nd h1 h2 rfl;exact(Prod.mk.inj this).2
theorem MOk.uniq(h:MOk tp ops fr base G0 gs tlast bl ks){x y:Br}(hx:x∈bl)(hy:y∈bl)(e:x.id=y.id):x=y:=by
 obtain⟨i,hi,rfl⟩:=List.getElem_of_mem hx;obtain⟨j,hj,rfl⟩:=List.getElem_of_mem hy;have h1:(bl.map Br.id)[i]'(by simpa using hi)=(bl.map Br.id)[j]'(by simpa using hj):=by simpa using e
 have:=(List.getElem_inj h.ids).1 h1;subst this;rfl
theorem mem_putG{x q:Nat}{g y:List Int}(h:(q,g)∈gs)(hne:q≠x):(q,g)∈putG gs x y:=List.mem_map.2 ⟨(q,g),h,by rw[if_neg hne]⟩
theorem MOk.step(h:MOk tp ops fr base G0 gs tlast bl ks)(hk:ks[i]?=some k)(hW:WNext tp ops fr bl gs last k bl' gs' last' k')(hlow:∀ q∈gs.map Prod.fst,q≤last)(hn':(gs'.map Prod.fst).Nodup):MOk tp ops fr base G0 gs' tlast bl' (ks.set i k'):=by
 obtain⟨a,b,e1,e2⟩:=at_split hk;have hkm:k∈ks:=by rw[e1];simp
 have hab:∀ q,q∈a∨q∈b→q∈ks:=fun q hq=>by rw[e1];simp;rcases hq with hq|hq<;>simp[hq]
 have hwp:wp ks=wp a++(wpk k++wp b):=by rw[e1,wp_app,wp_cons]
 have hP:=h.perm;have hN:=hP.nodup_iff.1 h.nd;rw[hwp]at hP hN;have hset:∀ q∈ks.set i k',q=k'∨q∈a∨q∈b:=fun q hq=>by
  rw[e2]at hq;simp at hq
  rcases hq with hq|hq|hq
  ·exact .inr (.inl hq)
  ·exact .inl hq
  ·exact .inr (.inr hq)
 rcases hW with ⟨rfl,rfl,rfl,rfl⟩|⟨hb,rfl,rfl,id,ep,j,x,g,hi,hx,hd,hg,rfl,rfl⟩|⟨hb,rfl,rfl,rfl,rfl⟩|⟨hb,hp,rfl,rfl,rfl,j,x,g,hd,hi,hx,hg,rfl⟩|⟨hb,hp,rfl,rfl,j,x,hi,hx,hd,rfl,rfl⟩
 ·rw[e2,← e1]
  exact h
 ·have hxm:=List.mem_of_getElem? hx
  obtain⟨x9,hx9,hid,_⟩:=idxB_some hi;rw[hx]at hx9;cases hx9
  have hxb:=h.brs x hxm;have hge:=h.same hg hxb.2.2.2;have hin:∀ q:Nat×List Int,q∈gs→q∈gs++[(last+1,g)]:=fun q hq=>List.mem_append_left _ hq;refine⟨hn',h.g0,hin _ h.base_,h.ids,fun y hy=>?_,fun q hq hqb=>?_,?_⟩
  ·obtain⟨q1,q2,q3,q4⟩:=h.brs y hy
   exact⟨q1,q2,q3,hin _ q4⟩
  ·rcases hset q hq with rfl|hq
   ·refine⟨by show id≤_;have:=hxb.2.2.1;omega,⟨g,by simp,by rw[hge];exact foldN_ok tp ops _ _ h.g0⟩,fun y hy he=>?_⟩
    have:y=x:=h.uniq hy hxm (by have:(y.id:Int)=id:=he;omega);subst this;refine⟨hd,?_⟩;show(last+1,foldN tp ops (fr:Nat) G0 (y.press.take y.done))∈_
    rw[← hge];simp
   ·obtain⟨q1,⟨g1,q2,q3⟩,q4⟩:=h.wks q (hab q hq) hqb
    exact⟨q1,⟨g1,hin _ q2,q3⟩,fun y hy he=>⟨(q4 y hy he).1,hin _ (q4 y hy he).2⟩⟩
  ·have h0:wpk k=[]:=by unfold wpk;rw[if_neg (by rw[hb];decide)]
   rw[h0]at hP;rw[e2,wp_app,wp_cons,List.map_append];have h9:wpk ⟨true,id,ep,last+1,x.done,false⟩=[last+1]:=rfl;rw[h9];rw[List.perm_iff_count]at hP ⊢;intro z;have:=hP z;simp[List.count_cons,List.count_append]at this ⊢
   omega
 ·have h1:wpk k=[k.x]:=by unfold wpk;rw[if_pos hb]
  rw[h1]at hP;have hP':(gs.map Prod.fst).Perm (k.x::(base::(bl'.map Br.pic++(wp a++wp b)))):=by
   rw[List.perm_iff_count]at hP ⊢;intro z;have:=hP z;simp[List.count_cons,List.count_append]at this ⊢
   omega
  have hD:=delG_perm h.nd hP';have hin:∀ {q:Nat} {g:List Int},(q,g)∈gs→q∈(base::(bl'.map Br.pic++(wp a++wp b)))→(q,g)∈delG gs k.x:=fun hq hm=>mem_sub delG_sub h.nd hq (hD.mem_iff.2 hm);refine⟨hn',h.g0,hin h.base_ (by simp),h.ids,fun y hy=>?_,fun q hq hqb=>?_,?_⟩
  ·obtain⟨q1,q2,q3,q4⟩:=h.brs y hy
   exact⟨q1,q2,q3,hin q4 (List.mem_cons_of_mem _ (List.mem_append_left _ (List.mem_map.2 ⟨y,hy,rfl⟩)))⟩
  ·rcases hset q hq with rfl|hq
   ·cases hqb
   ·obtain⟨q1,⟨g1,q2,q3⟩,q4⟩:=h.wks q (hab q hq) hqb
    have hm:q.x∈(base::(bl'.map Br.pic++(wp a++wp b))):=List.mem_cons_of_mem _ (List.mem_append_right _ (by
     rcases hq with hq|hq
     ·exact List.mem_append_left _ (wp_mem hq hqb)
     ·exact List.mem_append_right _ (wp_mem hq hqb)))
    exact⟨q1,⟨g1,hin q2 hm,q3⟩,fun y hy he=>⟨(q4 y hy he).1,hin (q4 y hy he).2 hm⟩⟩
  ·have h9:wpk {k with busy:=false}=[]:=rfl
   rw[e2,wp_app,wp_cons,h9];exact hD
 ·have hxm:=List.mem_of_getElem? hx
  obtain⟨x9,hx9,hid,_⟩:=idxB_some hi;rw[hx]at hx9;cases hx9
  have h1:wpk k=[k.x]:=by unfold wpk;rw[if_pos hb]
  rw[h1]at hP hN;have hN':(k.x::(base::(bl'.map Br.pic++(wp a++wp b)))).Nodup:=by
   refine(List.Perm.nodup_iff ?_).1 hN;rw[List.perm_iff_count];intro z;simp[List.count_cons,List.count_append]
   omega
  have hne:∀ {q:Nat},q∈(base::(bl'.map Br.pic++(wp a++wp b)))→q≠k.x:=fun hq e=>(List.nodup_cons.1 hN').1 (e▸hq);have hge:=h.same hg ((h.wks k hkm hb).2.2 x hxm hid).2;rw[hp,if_neg (by decide),Nat.add_zero]at hge;have hnew:(stepN tp x.press[k.done] ((fr:Int)+(k.done:Nat)) ops g).1=foldN tp ops (fr:Nat) G0 (x.press.take (k.done+1)):=by
   rw[foldN_snoc tp ops _ _ hd,hge]
  rw[hnew];have hkin:(k.x,foldN tp ops (fr:Nat) G0 (x.press.take (k.done+1)))∈putG gs k.x (foldN tp ops (fr:Nat) G0 (x.press.take (k.done+1))):=putG_mem (List.mem_map.2 ⟨_,hg,rfl⟩);refine⟨hnew▸hn',h.g0,mem_putG h.base_ (hne (by simp)),h.ids,fun y hy=>?_,fun q hq hqb=>?_,?_⟩
  ·obtain⟨q1,q2,q3,q4⟩:=h.brs y hy
   exact⟨q1,q2,q3,mem_putG q4 (hne (List.mem_cons_of_mem _ (List.mem_append_left _ (List.mem_map.2 ⟨y,hy,rfl⟩))))⟩
  ·rcases hset q hq with rfl|hq
   ·refine⟨(h.wks k hkm hb).1,⟨_,hkin,foldN_ok tp ops _ _ h.g0⟩,fun y hy he=>?_⟩
    have:y=x:=h.uniq hy hxm (by have:(y.id:Int)=k.id:=he;omega);subst this;exact⟨hd,hkin⟩
   ·obtain⟨q1,⟨g1,q2,q3⟩,q4⟩:=h.wks q (hab q hq) hqb
    have hm:q.x∈(base::(bl'.map Br.pic++(wp a++wp b))):=List.mem_cons_of_mem _ (List.mem_append_right _ (by
     rcases hq with hq|hq
     ·exact List.mem_append_left _ (wp_mem hq hqb)
     ·exact List.mem_append_right _ (wp_mem hq hqb)))
    exact⟨q1,⟨g1,mem_putG q2 (hne hm),q3⟩,fun y hy he=>⟨(q4 y hy he).1,mem_putG (q4 y hy he).2 (hne hm)⟩⟩
  ·have h9:wpk {k with played:=true}=[k.x]:=by unfold wpk;rw[if_pos (show({k with played:=true}:Wk).busy=true from hb)]
   rw[putG_ids,e2,wp_app,wp_cons,h9];exact hP
 ·have hxm:=List.mem_of_getElem? hx
  obtain⟨x9,hx9,hid,_⟩:=idxB_some hi;rw[hx]at hx9;cases hx9
  have h1:wpk k=[k.x]:=by unfold wpk;rw[if_pos hb]
  rw[h1]at hP;obtain⟨p,q,f1,f2⟩:=at_split hx;have hpq:∀ y,y∈p∨y∈q→y∈bl:=fun y hy=>by rw[f1];simp;rcases hy with hy|hy<;>simp[hy]
  have hP':(gs.map Prod.fst).Perm (x.pic::(base::((p++{x with done:=k.done+1,pic:=k.x}::q).map Br.pic++(wp a++wp b)))):=by
   rw[f1]at hP;rw[List.perm_iff_count]at hP ⊢;intro z;have:=hP z;simp[List.count_cons,List.count_append]at this ⊢
   omega
  have hD:=delG_perm h.nd hP';have hin:∀ {u:Nat} {g:List Int},(u,g)∈gs→u∈(base::((p++{x with done:=k.done+1,pic:=k.x}::q).map Br.pic++(wp a++wp b)))→(u,g)∈delG gs x.pic:=fun hq hm=>mem_sub delG_sub h.nd hq (hD.mem_iff.2 hm);have hmem:∀ y∈bl.set j {x with done:=k.done+1,pic:=k.x},y={x with done:=k.done+1,pic:=k.x}∨y∈p∨y∈q:=fun y hy=>by
   rw[f2]at hy;simp at hy
   rcases hy with hy|hy|hy
   ·exact .inr (.inl hy)
   ·exact .inl hy
   ·exact .inr (.inr hy)
  have hwk:=(h.wks k hkm hb).2.2 x hxm hid;rw[hp,if_pos rfl]at hwk;have hids:(bl.set j {x with done:=k.done+1,pic:=k.x}).map Br.id=bl.map Br.id:=by
   rw[f2,f1];simp
  refine⟨hn',h.g0,hin h.base_ (by simp),by rw[hids];exact h.ids,fun y hy=>?_,fun u hu hub=>?_,?_⟩
  ·rcases hmem y hy with rfl|hy
   ·refine⟨(h.brs x hxm).1,hwk.1,(h.brs x hxm).2.2.1,hin hwk.2 ?_⟩
    simp
   ·obtain⟨q1,q2,q3,q4⟩:=h.brs y (hpq y hy)
    refine⟨q1,q2,q3,hin q4 ?_⟩;simp
    rcases hy with hy|hy
    ·exact .inr (.inl ⟨y,hy,rfl⟩)
    ·exact .inr (.inr (.inr (.inl ⟨y,hy,rfl⟩)))
  ·rcases hset u hu with rfl|hu
   ·cases hub
   ·obtain⟨q1,⟨g1,q2,q3⟩,q4⟩:=h.wks u (hab u hu) hub
    have hm:u.x∈(base::((p++{x with done:=k.done+1,pic:=k.x}::q).map Br.pic++(wp a++wp b))):=List.mem_cons_of_mem _ (List.mem_append_right _ (by
     rcases hu with hu|hu
     ·exact List.mem_append_left _ (wp_mem hu hub)
     ·exact List.mem_append_right _ (wp_mem hu hub)))
    refine⟨q1,⟨g1,hin q2 hm,q3⟩,fun y hy he=>?_⟩;rcases hmem y hy with rfl|hy
    ·exact⟨(q4 x hxm he).1,hin (q4 x hxm he).2 hm⟩
    ·exact⟨(q4 y (hpq y hy) he).1,hin (q4 y (hpq y hy) he).2 hm⟩
  ·have h9:wpk {k with busy:=false}=[]:=rfl
   rw[e2,wp_app,wp_cons,h9,f2];exact hD
theorem MOk.rest(h:MOk tp ops fr base G0 gs tlast bl ks)(hk:ks[i]?=some k)(hlow:∀ q∈gs.map Prod.fst,q≤last)(hn':((if k.busy=true then delG gs k.x else gs).map Prod.fst).Nodup):MOk tp ops fr base G0 (if k.busy=true then delG gs k.x else gs) tlast bl (ks.set i {k with busy:=false}):=by
 cases hb:k.busy with
 | true =>
  rw[hb]at hn';exact h.step hk (.inr (.inr (.inl ⟨hb,rfl,rfl,rfl,rfl⟩))) hlow hn'
 | false =>
  rw[if_neg (by decide)];have:({k with busy:=false}:Wk)=k:=by
   obtain⟨kb,ki,ke,kx,kd,kp⟩:=k;cases hb
   rfl
  rw[this];obtain⟨a,b,e1,e2⟩:=at_split hk;rw[e2,← e1];exact h
theorem MOk.drop(h:MOk tp ops fr base G0 gs tlast bl ks){fl:List Bool}(hl:fl.length=bl.length):MOk tp ops fr base G0 (left gs bl fl) tlast (sel bl fl) ks:=by
 have hP:(gs.map Prod.fst).Perm (bl.map Br.pic++(base::wp ks)):=h.perm.trans List.perm_middle.symm;have hD:=left_perm hl h.nd hP;have hin:∀ {u:Nat} {g:List Int},(u,g)∈gs→u∈(sel bl fl).map Br.pic++(base::wp ks)→(u,g)∈left gs bl fl:=fun hq hm=>mem_sub (fun q hq=>left_sub.subset hq) h.nd hq (hD.mem_iff.2 hm);have hsub:=(sel_sub bl fl).subset;refine⟨(left_sub.map Prod.fst).nodup h.nd,h.g0,hin h.base_ (by simp),((sel_sub bl fl).map Br.id).nodup h.ids,fun y hy=>?_,fun q hq hqb=>?_,hD.trans List.perm_middle⟩
 ·obtain⟨q1,q2,q3,q4⟩:=h.brs y (hsub hy)
  exact⟨q1,q2,q3,hin q4 (List.mem_append_left _ (List.mem_map.2 ⟨y,hy,rfl⟩))⟩
 ·obtain⟨q1,⟨g1,q2,q3⟩,q4⟩:=h.wks q hq hqb
  have hm:q.x∈(sel bl fl).map Br.pic++(base::wp ks):=List.mem_append_right _ (List.mem_cons_of_mem _ (wp_mem hq hqb));exact⟨q1,⟨g1,hin q2 hm,q3⟩,fun y hy he=>⟨(q4 y (hsub hy) he).1,hin (q4 y (hsub hy) he).2 hm⟩⟩
theorem MOk.low(h:MOk tp ops fr base G0 gs tlast bl ks)(hlow:∀ q∈gs.map Prod.fst,q≤last):last+1∉gs.map Prod.fst:=fun hm=>by
 have:=hlow _ hm;omega
theorem snoc_nodup{g:List Int}(hn:(gs.map Prod.fst).Nodup){x:Nat}(hx:x∉gs.map Prod.fst):((gs++[(x,g)]).map Prod.fst).Nodup:=by
 rw[List.map_append,List.nodup_append];refine⟨hn,by simp,fun a ha b hb=>?_⟩;simp at hb
 subst hb;rintro rfl;exact hx ha
theorem MOk.add(h:MOk tp ops fr base G0 gs tlast bl ks)(hlow:∀ q∈gs.map Prod.fst,q≤last){press:List (List UInt8)}(hp:okPs press):MOk tp ops fr base G0 (gs++[(last+1,G0)]) (tlast+1) (bl++[⟨tlast+1,press,0,last+1⟩]) ks:=by
 have hin:∀ q:Nat×List Int,q∈gs→q∈gs++[(last+1,G0)]:=fun q hq=>List.mem_append_left _ hq;refine⟨snoc_nodup h.nd (h.low hlow),h.g0,hin _ h.base_,?_,fun y hy=>?_,fun q hq hqb=>?_,?_⟩
 ·rw[List.map_append,List.nodup_append]
  refine⟨h.ids,by simp,fun a ha b hb=>?_⟩;obtain⟨y,hy,rfl⟩:=List.mem_map.1 ha;simp at hb
  have:=(h.brs y hy).2.2.1;omega
 ·rcases List.mem_append.1 hy with hy|hy
  ·obtain⟨q1,q2,q3,q4⟩:=h.brs y hy
   exact⟨q1,q2,by omega,hin _ q4⟩
  ·simp at hy
   subst hy;exact⟨hp,Nat.zero_le _,Nat.le_refl _,by simp[foldN]⟩
 ·obtain⟨q1,⟨g1,q2,q3⟩,q4⟩:=h.wks q hq hqb
  refine⟨by omega,⟨g1,hin _ q2,q3⟩,fun y hy he=>?_⟩;rcases List.mem_append.1 hy with hy|hy
  ·exact⟨(q4 y hy he).1,hin _ (q4 y hy he).2⟩
  ·simp at hy
   subst hy;have:((tlast+1:Nat):Int)=q.id:=he;omega
 ·have hP:=h.perm
  rw[List.perm_iff_count]at hP ⊢;intro z;have:=hP z;simp[List.count_cons,List.count_append]at this ⊢
  omega
theorem MOk.moved(h:MOk tp ops fr base G0 gs tlast [] ks)(hlow:∀ q∈gs.map Prod.fst,q≤last)(fr':Nat){G1:List Int}(hG:okG G1):MOk tp ops fr' (last+1) G1 (delG (gs++[(last+1,G1)]) base) tlast [] ks:=by
 have hn2:=snoc_nodup (g:=G1) h.nd (h.low hlow);have hP:((gs++[(last+1,G1)]).map Prod.fst).Perm (base::((last+1)::wp ks)):=by
  have hP:=h.perm;rw[List.perm_iff_count]at hP ⊢;intro z;have:=hP z;simp[List.count_cons,List.count_append]at this ⊢
  omega
 have hD:=delG_perm hn2 hP;have hin:∀ {u:Nat} {g:List Int},(u,g)∈gs++[(last+1,G1)]→u∈((last+1)::wp ks)→(u,g)∈delG (gs++[(last+1,G1)]) base:=fun hq hm=>mem_sub delG_sub hn2 hq (hD.mem_iff.2 hm);refine⟨delG_nodup hn2,hG,hin (by simp) (by simp),by simp,fun y hy=>by simp at hy,fun q hq hqb=>?_,hD⟩;obtain⟨q1,⟨g1,q2,q3⟩,q4⟩:=h.wks q hq hqb;exact⟨q1,⟨g1,hin (List.mem_append_left _ q2) (List.mem_cons_of_mem _ (wp_mem hq hqb)),q3⟩,fun y hy=>by simp at hy⟩
end
structure Mx where
 xb:Nat
 cb:Nat
 qb:Nat
 ps:Nat→Nat
 sb:Nat
 tb:Nat
 jb:Nat
 A:Option Addr
 an:Nat
 ad:Nat
 WA:Option Addr
 wc:Nat
 wb:List Nat
structure Ms where
 base:Nat
 fr:Nat
 free:Nat
 last:Nat
 tlast:Nat
 epoch:Nat
 gs:List (Nat×List Int)
 bl:List Br
 ks:List Wk
def mulC(x:Mx)(tp:List UInt8)(base fr:Nat):List Value:=[ptrV x.xb,.string (bs tp),.slice x.A x.an x.ad,ptrV x.sb,ptrV x.tb,ptrV x.jb,.slice x.WA x.wb.length x.wc,.int .i64 (base:Nat),.int .i64 (fr:Nat)]
structure MIn(w:World)(T:Tg)(t b:Nat)(cf:Cf)(me:Nat)(tp:List UInt8)(ops:List OpT)(x:Mx)(c:Cr)(s:Ms):Prop where
 hd:Has w T t b (mulC x tp s.base s.fr)
 op:Row w T (t+1) 127 4 x.A x.an x.ad (opcs ops)
 row:Row w T (t+2) 113 1 x.WA x.wb.length x.wc (x.wb.map ptrV)
 nw:x.wb.length=cf.workers
 nk:s.ks.length=cf.workers
 wk:∀(i:Nat) wb k,x.wb[i]?=some wb→s.ks[i]?=some k→Has w T (t+3+i) wb (wkC tp x.A x.an x.ad x.tb x.jb x.sb k)
 st:StoreAt w T (t+7) x.sb (4*cf.room) s.free s.last s.gs
 tr:TreeAt w T (t+12) x.tb x.sb cf.branches s.tlast s.epoch s.fr s.bl
 jo:JobsAt w T (t+14) x.jb
 pl:PlainAt w T (t+16) x.xb cf me tp ops x.cb x.qb x.ps c c.front
 ok:MOk tp ops s.fr s.base (gameAt tp ops c.ls s.fr) s.gs s.tlast s.bl s.ks
 jn:∀ y∈s.bl,∀ p∈y.press,p.length=cf.n
def MultiAt(w:World)(T:Tg)(t b:Nat)(cf:Cf)(me:Nat)(tp:List UInt8)(ops:List OpT)(c:Cr)(B:Nat):Prop :=
 ∃ x s,MIn w T t b cf me tp ops x c s∧s.fr=c.front∧s.last≤B∧s.tlast≤B∧s.epoch≤B
section
variable {w w':World} {T T':Tg} {t b:Nat} {cf:Cf} {me:Nat} {tp:List UInt8} {ops:List OpT} {x:Mx} {c c':Cr} {s:Ms} {B:Nat}
theorem MIn.turn{S:Nat→Prop}(h:MIn w T t b cf me tp ops x c s)(hw:cf.workers≤4)(hl:c.ls.length≤8)(hT:Turn S w T w' T')(h0:¬ S 0)(hs:∀ k,In t 40 k→¬ S k):MIn w' T' t b cf me tp ops x c s :=
 ⟨h.hd.turn hT (hs _ (by unfold In;omega)),h.op.turn hT (hs _ (by unfold In;omega)),h.row.turn hT (hs _ (by unfold In;omega)),h.nw,h.nk,fun i wb k h1 h2=>(h.wk i wb k h1 h2).turn hT (hs _ (by have:=(List.getElem?_eq_some_iff.1 h1).1;have:=h.nw;unfold In;omega)),h.st.turn hT (fun k hk=>hs _ (by unfold In at *;omega)),h.tr.turn hT h0 (hs _ (by unfold In;omega)) (hs _ (by unfold In;omega)),h.jo.turn hT (hs _ (by unfold In;omega)) (hs _ (by unfold In;omega)),h.pl.turn hT (fun k hk=>hs _ (by unfold In at *;omega)),h.ok,h.jn⟩
theorem MIn.ext(h:MIn w T t b cf me tp ops x c s)(e:Ext w w'):MIn w' T t b cf me tp ops x c s :=
 ⟨h.hd.ext e,h.op.ext e,h.row.ext e,h.nw,h.nk,fun i wb k h1 h2=>(h.wk i wb k h1 h2).ext e,h.st.ext e,h.tr.ext e,h.jo.ext e,h.pl.ext e,h.ok,h.jn⟩
theorem MultiAt.turn{S:Nat→Prop}(h:MultiAt w T t b cf me tp ops c B)(hw:cf.workers≤4)(hl:c.ls.length≤8)(hT:Turn S w T w' T')(h0:¬ S 0)(hs:∀ k,In t 40 k→¬ S k):MultiAt w' T' t b cf me tp ops c B:=by
 obtain⟨x,s,h1,h2⟩:=h;exact⟨x,s,h1.turn hw hl hT h0 hs,h2⟩
theorem MultiAt.ext(h:MultiAt w T t b cf me tp ops c B)(e:Ext w w'):MultiAt w' T t b cf me tp ops c B:=by
 obtain⟨x,s,h1,h2⟩:=h;exact⟨x,s,h1.ext e,h2⟩
theorem MultiAt.mono(h:MultiAt w T t b cf me tp ops c B){B':Nat}(hB:B≤B'):MultiAt w T t b cf me tp ops c B':=by
 obtain⟨x,s,h1,h2,h3,h4,h5⟩:=h;exact⟨x,s,h1,h2,by omega,by omega,by omega⟩
theorem MIn.plain(h:MIn w T t b cf me tp ops x c s)(hw:cf.workers≤4)(hT:Turn (In (t+16) 24) w T w' T')(hp:PlainAt w' T' (t+16) x.xb cf me tp ops x.cb x.qb x.ps c' c'.front)(hg:gameAt tp ops c'.ls s.fr=gameAt tp ops c.ls s.fr):MIn w' T' t b cf me tp ops x c' s :=
 ⟨h.hd.turn hT (by unfold In;omega),h.op.turn hT (by unfold In;omega),h.row.turn hT (by unfold In;omega),h.nw,h.nk,fun i wb k h1 h2=>(h.wk i wb k h1 h2).turn hT (by have:=(List.getElem?_eq_some_iff.1 h1).1;have:=h.nw;unfold In;omega),h.st.turn hT (fun k hk=>by unfold In at *;omega),h.tr.turn hT (by unfold In;omega) (by unfold In;omega) (by unfold In;omega),h.jo.turn hT (by unfold In;omega) (by unfold In;omega),hp,by rw[hg];exact h.ok,h.jn⟩
theorem MIn.grows(h:MIn w T t b cf me tp ops x c s)(hf:s.fr≤c.front)(hg:Grows c.ls c'.ls):gameAt tp ops c'.ls s.fr=gameAt tp ops c.ls s.fr :=
 gameAt_congr tp ops fun k hk=>hg.joint (show k<frontL c.ls from Nat.lt_of_lt_of_le hk hf)
theorem mul_plain{base fr:Nat}(h:Has w T t b (mulC x tp base fr)):Calls prog 44 #[ptrV b] w fun e w'=>e = .returned (ptrV x.xb)∧w'=w:=by
 have b0:=h.cell (i:=0) rfl;clear h;unfold ptrV at *;go_enter func44,ntmps44;go_wp2_with fail;go_ret;exact⟨rfl,rfl⟩
theorem mul_closed(h:MIn w T t b cf me tp ops x c s):Calls prog 34 #[ptrV b] w fun e w'=>e = .returned (.bool c.closed)∧w'=w:=by
 have H1:=hqd (mul_plain h.hd);have H2:=hqd (plain_closed h.pl);unfold ptrV at *;clear h;go_enter func34,ntmps34;go_wp2_with fail;refine H1.out.mono ?_;rintro e w1 ⟨rfl,hw⟩;subst hw;go_wp2_with fail;refine H2.out.mono ?_;rintro e w1 ⟨rfl,hw⟩;subst hw;go_wp2_with fail;go_ret;exact⟨rfl,rfl⟩
theorem mul_core(h:MIn w T t b cf me tp ops x c s):Calls prog 262 #[ptrV b] w fun e w'=>e = .returned (ptrV x.cb)∧w'=w:=by
 have H1:=hqd (mul_plain h.hd);have H2:=hqd (plain_core h.pl);unfold ptrV at *;clear h;go_enter func262,ntmps262;go_wp2_with fail;refine H1.out.mono ?_;rintro e w1 ⟨rfl,hw⟩;subst hw;go_wp2_with fail;refine H2.out.mono ?_;rintro e w1 ⟨rfl,hw⟩;subst hw;go_wp2_with fail;go_ret;exact⟨rfl,rfl⟩
theorem MultiAt.plain(h:MIn w T t b cf me tp ops x c s)(hf:s.fr=c.front∧s.last≤B∧s.tlast≤B∧s.epoch≤B)(hw:cf.workers≤4)(hT:Turn (In (t+16) 24) w T w' T')(hp:PlainAt w' T' (t+16) x.xb cf me tp ops x.cb x.qb x.ps c' c'.front)(hg:c'.ls=c.ls):Turn (In t 40) w T w' T'∧MultiAt w' T' t b cf me tp ops c' B :=
 ⟨hT.mono fun k hk=>hk.sub (by omega) (by omega),x,s,h.plain hw hT hp (by rw[hg]),by unfold Cr.front at *;rw[hg];exact hf⟩
theorem mul_tick(h:MultiAt w T t b cf me tp ops c B)(hk:CrOk cf me c [])(hu:Unborn w T)(hnow:c.now<1000000):Calls prog 260 #[ptrV b] w (Gives (In t 40) w T fun v w' T'=>∃ B2 n d,v = .slice B2 n d∧MlsT w' T' w.heap.size cf.id B2 n d (c.ticks (smP tp ops) me)∧MultiAt w' T' t b cf me tp ops (c.tick me) B):=by
 obtain⟨x,s,h,hf⟩:=h;have H1:=hqd (mul_plain h.hd);have H2:=hqd (plain_tick h.pl hk hu hnow);have HG:=hqd fun w' T' (hT:Turn (In (t+16) 24) w T w' T') (hp:PlainAt w' T' (t+16) x.xb cf me tp ops x.cb x.qb x.ps (c.tick me) (c.tick me).front)=>MultiAt.plain h hf hk.ok.workers hT hp (tick_ls me c);unfold ptrV at *;clear h hk;go_enter func260,ntmps260;go_wp2_with fail;refine H1.out.mono ?_;rintro e w1 ⟨rfl,hw⟩;subst hw;go_wp2_with fail;refine H2.out.mono ?_;rintro e w2 ⟨v,rfl,T2,hT2,B2,n,d,rfl,hM,hC2⟩;have HP2:=hqd (HG.out _ _ hT2 hC2);have HM:=hqd hM;clear hT2 hC2 hM;go_wp2_with fail;go_ret;exact⟨_,rfl,T2,HP2.out.1,B2,n,d,rfl,HM.out,HP2.out.2⟩
theorem mul_events(h:MultiAt w T t b cf me tp ops c B)(hk:CrOk cf me c [])(hu:Unborn w T):Calls prog 256 #[ptrV b] w (Gives (In t 40) w T fun v w' T'=>∃ EA ec,v = .slice EA c.evs.length ec∧(∃ tt,In t 40 tt∧Row w' T tt 197 1 EA c.evs.length ec (c.evs.map evC))∧T'=T∧w'.heap.size=w.heap.size∧MultiAt w' T' t b cf me tp ops {c with evs:=[]} B):=by
 obtain⟨x,s,h,hf⟩:=h;have H1:=hqd (mul_plain h.hd);have H2:=hqd (plain_events h.pl hu);have HG:=hqd fun w' T' (hT:Turn (In (t+16) 24) w T w' T') (hp:PlainAt w' T' (t+16) x.xb cf me tp ops x.cb x.qb x.ps {c with evs:=[]} c.front)=>MultiAt.plain (c':={c with evs:=[]}) h hf hk.ok.workers hT hp rfl;unfold ptrV at *;clear h hk;go_enter func256,ntmps256;go_wp2_with fail;refine H1.out.mono ?_;rintro e w1 ⟨rfl,hw⟩;subst hw;go_wp2_with fail;refine H2.out.mono ?_;rintro e w2 ⟨v,rfl,T2,hT2,EA,ec,rfl,⟨tt,htt,hM⟩,hte,hsz,hC2⟩;have HP2:=hqd (HG.out _ _ hT2 hC2);have HM:=hqd hM;clear hT2 hC2 hM;go_wp2_with fail;go_ret;exact⟨_,rfl,T2,HP2.out.1,EA,ec,rfl,⟨tt,by unfold In at *;omega,HM.out⟩,hte,hsz,HP2.out.2⟩
end
section
variable {w w':World} {T T':Tg} {t b:Nat} {cf:Cf} {me:Nat} {tp:List UInt8} {ops:List OpT} {x:Mx} {c c':Cr} {s:Ms} {B:Nat}
theorem MOk.pics_nd{fr base tlast:Nat}{G0:List Int}{gs:List (Nat×List Int)}{bl:List Br}{ks:List Wk}(h:MOk tp ops fr base G0 gs tlast bl ks):(bl.map Br.pic).Nodup :=
 (List.nodup_append.1 (List.nodup_cons.1 (h.perm.nodup_iff.1 h.nd)).2).1
theorem MOk.pics_in{fr base tlast:Nat}{G0:List Int}{gs:List (Nat×List Int)}{bl:List Br}{ks:List Wk}(h:MOk tp ops fr base G0 gs tlast bl ks):∀ y∈bl,y.pic∈gs.map Prod.fst:=fun y hy=>List.mem_map.2 ⟨_,(h.brs y hy).2.2.2,rfl⟩
theorem MIn.small(h:MIn w T t b cf me tp ops x c s)(hok:CfOk cf):s.gs.length≤20:=by
 have h1:=h.ok.len;have h2:=h.tr.most8;have h3:=wp_le s.ks;have h4:=h.nk;have:=hok.branches;have:=hok.workers;omega
theorem MIn.worker(h:MIn w T t b cf me tp ops x c s)(hok:CfOk cf)(hl:c.ls.length≤8){i wb free' last':Nat}{k':Wk}{gs':List (Nat×List Int)}{bl':List Br}(hi:x.wb[i]?=some wb)
  (hT:Turn (fun j=>j=t+3+i∨j=t+12+1∨In (t+7) 5 j∨In (t+14) 2 j) w T w' T') (hH:Has w' T' (t+3+i) wb (wkC tp x.A x.an x.ad x.tb x.jb x.sb k')) (hS:StoreAt w' T' (t+7) x.sb (4*cf.room) free' last' gs')
  (hTr:TreeAt w' T' (t+12) x.tb x.sb cf.branches s.tlast s.epoch s.fr bl') (hJ:JobsAt w' T' (t+14) x.jb) (hM:MOk tp ops s.fr s.base (gameAt tp ops c.ls s.fr) gs' s.tlast bl' (s.ks.set i k')) (hjn:∀ y∈bl',∀ p∈y.press,p.length=cf.n) :
  MIn w' T' t b cf me tp ops x c {s with free:=free',last:=last',gs:=gs',bl:=bl',ks:=s.ks.set i k'}:=by
 have hil:=(List.getElem?_eq_some_iff.1 hi).1;have hnw:=h.nw;have hw4:=hok.workers;refine⟨h.hd.turn hT (by unfold In;omega),h.op.turn hT (by unfold In;omega),h.row.turn hT (by unfold In;omega),h.nw,by rw[List.length_set];exact h.nk,fun j wb2 k2 h1 h2=>?_,hS,hTr,hJ,h.pl.turn hT (fun k hk=>by unfold In at *;omega),hM,hjn⟩;have hjl:=(List.getElem?_eq_some_iff.1 h1).1;by_cases e:j=i
 ·subst e
  rw[h1]at hi;cases hi
  rw[List.getElem?_set,if_pos rfl]at h2;split at h2
  ·cases h2
   exact hH
  ·cases h2
 ·rw[List.getElem?_set,if_neg (fun h=>e h.symm)]at h2
  exact(h.wk j wb2 k2 h1 h2).turn hT (by unfold In;omega)
theorem StoreAt.ids_low{n free last:Nat}{sb ts:Nat}{gs:List (Nat×List Int)}(h:StoreAt w T ts sb n free last gs):∀ q∈gs.map Prod.fst,q≤last:=fun q hq=>by
 obtain⟨p,hp,rfl⟩:=List.mem_map.1 hq;exact h.ids.2 p hp
def restRel(w:World)(T:Tg)(t b:Nat)(cf:Cf)(me:Nat)(tp:List UInt8)(ops:List OpT)(x:Mx)(c:Cr)(s:Ms)(iv:Value)(wr:World):Prop :=
 ∃(k:Nat) (s':Ms),iv = .int .i64 (k:Nat)∧k≤cf.workers∧Turn (In (t+3) 11) w T wr T∧MIn wr T t b cf me tp ops x c s'∧s'.base=s.base∧s'.fr=s.fr∧s'.last=s.last∧s'.tlast=s.tlast∧s'.epoch=s.epoch∧s'.bl=s.bl∧∀ i k',i<k→s'.ks[i]?=some k'→k'.busy=false
def RestM(t b:Nat)(cf:Cf)(me:Nat)(tp:List UInt8)(ops:List OpT)(x:Mx)(c:Cr)(s:Ms)(v:Value)(w':World)(T':Tg):Prop :=
 v = .tuple #[]∧∃ s',MIn w' T' t b cf me tp ops x c s'∧s'.base=s.base∧s'.fr=s.fr∧s'.last=s.last∧s'.tlast=s.tlast∧s'.epoch≤s.epoch+1∧s'.bl=[]∧4≤s'.free
theorem wp_none{ks:List Wk}(h:∀ k∈ks,k.busy=false):wp ks=[]:=List.flatMap_eq_nil_iff.2 fun k hk=>by
 unfold wpk;rw[if_neg (by rw[h k hk];decide)]
theorem MIn.dropped(h:MIn w T t b cf me tp ops x c s)(hok:CfOk cf)(hl:c.ls.length≤8){P:Bool→Prop}{v:Value}(hT:Turn (fun j=>j=t+12∨j=t+12+1∨In (t+7) 5 j) w T w' T')(hP:DropP (t+12) x.tb x.sb cf.branches s.tlast s.epoch s.fr (t+7) (4*cf.room) s.free s.last s.bl s.gs P v w' T') :
  ∃ fl ep free',fl.length=s.bl.length∧(∀ q∈fl,P (!q))∧ep≤s.epoch+1∧s.free≤free'∧MIn w' T' t b cf me tp ops x c {s with free:=free',epoch:=ep,gs:=left s.gs s.bl fl,bl:=sel s.bl fl}:=by
 obtain⟨r,fl,ep,free',rfl,h1,h2,h3,h4,hS,hTr⟩:=hP;refine⟨fl,ep,free',h1,h2,h4,h3,h.hd.turn hT (by unfold In;omega),h.op.turn hT (by unfold In;omega),h.row.turn hT (by unfold In;omega),h.nw,h.nk,fun j wb2 k2 h1 h2=>?_,hS,hTr,h.jo.turn hT (by unfold In;omega) (by unfold In;omega),h.pl.turn hT (fun k hk=>by unfold In at *;omega),h.ok.drop h1,fun y hy=>h.jn y ((sel_sub _ _).subset hy)⟩;have hjl:=(List.getElem?_eq_some_iff.1 h1).1;have:=h.nw;have:=hok.workers;exact(h.wk j wb2 k2 h1 h2).turn hT (by unfold In;omega)
theorem MIn.clear(h:MIn w T t b cf me tp ops x c s)(hok:CfOk cf)(hu:Unborn w T)(hN:s.last≤1000000000∧s.epoch≤1000000000):Calls prog 310 #[ptrV x.tb] w (Gives (fun j=>j=t+12∨j=t+12+1∨In (t+7) 5 j) w T (DropP (t+12) x.tb x.sb cf.branches s.tlast s.epoch s.fr (t+7) (4*cf.room) s.free s.last s.bl s.gs (· = true))) :=
 tree_clear h.tr hok.branches h.st hu (by omega) (by omega) (by omega) (by omega) (by omega) (by have:=h.small hok;omega) h.ok.pics_nd h.ok.pics_in
theorem all_false{fl:List Bool}(h:∀ q∈fl,(!q)=true):∀ q∈fl,q=false:=fun q hq=>by simpa using h q hq
theorem mul_rest(h:MIn w T t b cf me tp ops x c s)(hok:CfOk cf)(hl:c.ls.length≤8)(hu:Unborn w T)(hN:s.last≤1000000000∧s.epoch≤1000000000):Calls prog 292 #[ptrV b] w (Gives (In (t+3) 11) w T (RestM t b cf me tp ops x c s)):=by
 have b6:=h.hd.cell (i:=6) rfl;have hnw:=h.nw;have hw4:=hok.workers;rw[hnw]at b6;have HM:=hqd h;have HU:=hqd hu;have hmx:=h.row.rd.2.1;unfold ptrV at *;clear h hu;obtain⟨WA,hWA⟩:∃ WA,x.WA=WA:=⟨_,rfl⟩;have HWA:=hqd hWA;rw[hWA]at b6;clear hWA;go_enter func292,ntmps292;go_wp2_with fail;go_loopw [9] (fun iv wr=>restRel w T t b cf me tp ops x c s iv wr) (fun iv _=>cf.workers-(intOf iv).toNat)
 case atStart=>exact⟨0,s,rfl,Nat.zero_le _,Turn.refl _ HU.out,HM.out,rfl,rfl,rfl,rfl,rfl,rfl,fun i k' hi=>absurd hi (Nat.not_lt_zero _)⟩
 case round =>
  obtain⟨k,s1,rfl,hk,hT,hM1,hb,hf,hla,htl,hep,hbl,hbs⟩:=hrel;by_cases hkn:k<cf.workers
  ·have hd1:decide (k<cf.workers)=true:=decide_eq_true hkn
   obtain⟨wbk,hwb⟩:∃ q,x.wb[k]?=some q:=⟨_,List.getElem?_eq_getElem (by rw[hnw];exact hkn)⟩;obtain⟨wk,hwk⟩:∃ q,s1.ks[k]?=some q:=⟨_,List.getElem?_eq_getElem (by rw[hM1.nk];exact hkn)⟩;obtain⟨g,hg,cg,_,_⟩:=hM1.row.at_ (i:=k) (v:=ptrV wbk) (by rw[List.getElem?_map,hwb];rfl);rw[HWA.out]at hg;subst hg;have hlow:=hM1.st.ids_low;have HR:=hqd (wk_rest (hM1.wk k wbk wk hwb hwk) hM1.st hT.unborn (by omega) (by unfold In;omega) (by omega) (by have:=hM1.small hok;omega) (fun hb=>List.mem_map.2 ⟨_,((hM1.ok.wks wk (List.mem_of_getElem? hwk) hb).2.1).choose_spec.1,rfl⟩));have HF:=hqd (show ∀ w3 T3 v,Turn (fun j=>j=t+3+k∨In (t+7) 5 j) wr T w3 T3→RestP T (t+7) x.sb (4*cf.room) s1.free s1.last wbk (t+3+k) x.tb x.jb s1.gs tp x.A x.an x.ad wk v w3 T3→restRel w T t b cf me tp ops x c s (.int .i64 ((k+1:Nat):Int)) w3 from fun w3 T3 v hT3 hP=>by
    obtain⟨_,hTe,q1,free',_,q2⟩:=hP;rw[hTe]at hT3;have hT4:=hT3.mono (S':=fun j=>j=t+3+k∨j=t+12+1∨In (t+7) 5 j∨In (t+14) 2 j) fun j hj=>(by rcases hj with hj|hj;exact .inl hj;exact .inr (.inr (.inl hj)));refine⟨k+1,_,rfl,hkn,hT.trans (hT3.mono fun j hj=>by unfold In at *;omega),hM1.worker hok hl hwb hT4 q1 q2 (hM1.tr.turn hT3 (by unfold In;omega) (by unfold In;omega) (by unfold In;omega)) (hM1.jo.turn hT3 (by unfold In;omega) (by unfold In;omega)) (hM1.ok.rest hwk hlow q2.ids.1) hM1.jn,hb,hf,hla,htl,hep,hbl,fun i k' hi h9=>?_⟩;have h9:(s1.ks.set k {wk with busy:=false})[i]?=some k':=h9;rw[List.getElem?_set]at h9;split at h9
    ·split at h9
     ·cases h9
      rfl
     ·cases h9
    ·exact hbs i k' (by omega) h9)
   unfold ptrV at *;clear hM1 hbs hlow hT;have hmx2:k<x.wc:=by omega
   go_wp2_with fail;refine HR.out.mono ?_;rintro e w3 ⟨v,rfl,T3,hT3,hP3⟩;obtain⟨r,rfl⟩:=hP3.1;have HF3:=hqd (HF.out w3 T3 _ hT3 hP3);clear hT3 hP3;go_wp2_with fail;go_roundw
   case rel=>exact HF3.out
   case measure=>simp[intOf];omega
  ·obtain rfl:k=cf.workers:=by omega
   have hd1:decide (cf.workers<cf.workers)=false:=decide_eq_false (by omega);have b4:=hM1.hd.cell (i:=4) rfl;have HCl:=hqd (hM1.clear hok hT.unborn (by omega));have HF:=hqd (show ∀ w3 T3 v,Turn (fun j=>j=t+12∨j=t+12+1∨In (t+7) 5 j) wr T w3 T3→DropP (t+12) x.tb x.sb cf.branches s1.tlast s1.epoch s1.fr (t+7) (4*cf.room) s1.free s1.last s1.bl s1.gs (· = true) v w3 T3→Turn (In (t+3) 11) w T w3 T3∧RestM t b cf me tp ops x c s (.tuple #[]) w3 T3 from fun w3 T3 v hT3 hP=>by
    obtain⟨fl,ep,free',q1,q2,q3,q4,q5⟩:=hM1.dropped hok hl hT3 hP;refine⟨hT.trans (hT3.mono fun j hj=>by unfold In at *;omega),rfl,_,q5,hb,hf,hla,htl,by show ep≤_;omega,sel_none _ _ (all_false q2),?_⟩;have h1:=q5.st.room_;have h2:=q5.ok.len;have h3:wp s1.ks=[]:=wp_none fun k hk=>by
     obtain⟨i,hi,rfl⟩:=List.getElem_of_mem hk;exact hbs i _ (by rw[← hM1.nk];exact hi) (List.getElem?_eq_getElem hi)
    have h4:=hok.room3;have h5:=sel_none s1.bl fl (all_false q2);simp only[h3,h5,List.length_nil]at h1 h2;show 4≤free'
    omega)
   unfold ptrV at *;clear hM1 hbs hT;go_wp2_with fail;refine HCl.out.mono ?_;rintro e w3 ⟨v,rfl,T3,hT3,hP3⟩;have HF3:=hqd (HF.out w3 T3 _ hT3 hP3);obtain⟨r,fl,ep,free',rfl,_⟩:=hP3;clear hT3;go_wp2_with fail;go_end0
   exact⟨_,rfl,T3,HF3.out⟩
end
end Go.Proofs.YtffcefoadaogbaaGreat
