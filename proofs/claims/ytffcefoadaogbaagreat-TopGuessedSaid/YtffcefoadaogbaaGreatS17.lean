/- A part of the proof: texts put together and cut down by a program of mine (wip/gen/mini.py). -/
import Derived.Test.YtffcefoadaogbaaGreatS16
namespace Go.Proofs.YtffcefoadaogbaaGreat
open Go.RowKit
open Go.Proofs.Tryz
set_option linter.unusedVariables false
set_option maxRecDepth 100000
set_option maxHeartbeats 16000000
def bsG(fr:Nat)(y:Br)(us:List Value)(w:World):Prop:=∃ h,us=brC fr y h
theorem bsG.stab(fr m:Nat)(y:Br):GStab m 136 (bsG fr y):=⟨fun us w ⟨h,e⟩=>by subst e;exact⟨_,_,_,_,_,_,_,rfl⟩,fun _ _ _ h _=>h,fun _ _ _ _ _ _ _ h=>h⟩
theorem bestBr_good{l:List Br}{press:List (List UInt8)}:∀ {k:Nat} {x:Br},bestBr l press k=some x→good l press x
 | 0,x,h=>by cases h
 | k+1,x,h=>by
  rw[bestBr]at h;split at h
  ·rename_i y hy
   split at h
   ·rename_i hc
    cases h
    exact⟨List.mem_of_getElem? hy,by omega,hc.2.1,hc.2.2⟩
   ·exact bestBr_good h
  ·exact bestBr_good h
theorem tg_bound{w:World}{T:Tg}(hu:Unborn w T):∃ M,∀ k,T k≤M:=by
 have key:∀ n:Nat,∃ M,∀ k,k<n→T k≤M:=fun n=>by
  induction n with
  | zero=>exact⟨0,fun k hk=>absurd hk (Nat.not_lt_zero _)⟩
  | succ n ih =>
   obtain⟨M,hM⟩:=ih;refine⟨max M (T n),fun k hk=>?_⟩;by_cases e:k=n
   ·subst e;exact Nat.le_max_right _ _
   ·exact Nat.le_trans (hM k (by omega)) (Nat.le_max_left _ _)
 obtain⟨M,hM⟩:=key w.heap.size;refine⟨M,fun k=>?_⟩;by_cases h:k<w.heap.size
 ·exact hM k h
 ·rw[hu k (by omega)];exact Nat.zero_le _
section
variable {w w':World} {T T':Tg} {t b:Nat} {cf:Cf} {me:Nat} {tp:List UInt8} {ops:List OpT} {x:Mx} {c c':Cr} {s:Ms} {B:Nat}
theorem mul_display_low(h:MIn w T t b cf me tp ops x c s)(hf:s.fr=c.front)(hk:CrOk cf me c [])(htp:tp.length≤1099511627776)(hle:c.head me≤c.front):Calls prog 255 #[ptrV b] w (Shown w (gameAt tp ops c.ls c.front) c.front):=by
 have hlen:=hk.len;have hn8:=hk.ok.n8;have h2:=hk.ok.n2;have hfr:=hk.front_le;have Hco:=hqd fun W (e:Ext w W)=>mul_core (h.ext e);have Hhd:=hqd fun W (e:Ext w W)=>core_head (h.pl.core.ext e) (hk.marksP tp ops hfr);have Hqu:=hqd fun W (e:Ext w W)=>core_queue (h.pl.core.ext e);have Hfr:=hqd fun W (e:Ext w W)=>queue_front (h.pl.core.que.ext e) (by rw[hlen];exact hn8) (by rw[hlen];omega) hk.short;rw[show frontL c.ls=c.front from rfl]at Hfr;have Hpl:=hqd fun W (e:Ext w W)=>mul_plain (h.hd.ext e);have HDi:=hqd fun W (e:Ext w W)=>plain_display (h.pl.ext e) hk htp;simp only[if_pos hle]at HDi;have b8:=h.hd.cell (i:=8) rfl;rw[hf]at b8;have e1:decide (c.head me≤c.front)=true:=decide_eq_true hle;have e1':decide ((c.head me:Int)≤(c.front:Int))=true:=decide_eq_true (by omega);unfold ptrV at *;clear h hf hk hle hlen;generalize gameAt tp ops c.ls c.front=G at *;generalize c.head me=hd at *;generalize hff:c.front=fr at *;clear hff;go_enter func255,ntmps255;go_wp2_with fail;refine(Hco.out _ (Ext.refl _)).mono ?_;rintro e w1 ⟨rfl,hw⟩;subst hw;go_wp2_with fail;refine(Hhd.out _ (Ext.refl _)).mono ?_;rintro e w2 ⟨rfl,e2⟩;replace b8:=e2.cell b8;go_wp2_with fail;apply wrA trivial;repeat first|apply lxA (fun _ h _=>h.cell b8)|apply lxK trivial
 apply lxC (fun W hR=>Hco.out W (e2.trans hR));apply lxC (fun W hR=>Hqu.out W (e2.trans hR));apply lxC (fun W hR=>Hfr.out W (e2.trans hR));repeat first|apply lxA (fun _ h _=>h.cell b8)|apply lxK trivial
 refine lex_nil ?_;intro Wx hWx hΦ;clear hΦ;have e3:=e2.trans hWx;go_wp2_with fail;refine(Hpl.out _ e3).mono ?_;rintro e w4 ⟨rfl,hw⟩;have hw:=hw.symm;subst hw;go_wp2_with fail;refine(HDi.out _ e3).mono ?_;rintro e w5 ⟨B2,bd,rfl,hB2,e5⟩;go_wp2_with fail;go_ret2
 exact⟨B2,bd,rfl,hB2,e3.trans e5⟩
theorem fold_rest(tp:List UInt8)(ops:List OpT)(fr:Nat)(G0:List Int)(al:List (List UInt8))(k:Nat)(hk:k≤al.length):foldN tp ops ((fr:Int)+(k:Int)) (foldN tp ops (fr:Nat) G0 (al.take k)) (al.drop k)=foldN tp ops (fr:Nat) G0 al:=by
 conv=>rhs;rw[← List.take_append_drop k al]
 rw[foldN_app,List.length_take,Nat.min_eq_left hk]
theorem mul_display_high(h:MIn w T t b cf me tp ops x c s)(ht:0<t)(hu:Unborn w T)(hf:s.fr=c.front)(hB:s.last≤1000000000)(hk:CrOk cf me c [])(htp:tp.length≤1099511627776)(hgt:¬ c.head me≤c.front):Calls prog 255 #[ptrV b] w (Shown w (dispG tp ops cf.guess cf.order me c) (c.head me)):=by
 obtain⟨i,hi,hz⟩:∃ i,prog.info? 205=some i∧i.zero=some (.agg (List.replicate 32 (Value.int .i32 0)).toArray):=by
  have h9:=zero_state;cases hq:prog.info? 205 with
  | none=>rw[hq]at h9;cases h9
  | some i=>rw[hq]at h9;exact⟨i,rfl,by simpa using h9⟩
 have hlen:=hk.len;have hn8:=hk.ok.n8;have h2:=hk.ok.n2;have hfr:=hk.front_le;have hbr:=hk.ok.branches;have hhd:c.head me≤1000:=by
  have hml:me<c.ls.length:=by rw[hk.len];exact hk.me
  have:(c.head me)=c.ls[me].length:=by simp[Cr.head,Cr.mine,List.getD_eq_getElem?_getD,hml]
  rw[this];exact hk.short _ (List.getElem_mem hml)
 have hby:okBy cf.guess cf.order:=hk.ok.by_;have hG0:=gameAt_ok tp ops c.ls c.front;have hGD:okG (dispG tp ops cf.guess cf.order me c):=foldN_ok tp ops _ _ hG0;have hMk:=h.ok;have hbs:=hMk.base_;rw[hf]at hbs;have Hco:=hqd fun W (e:Ext w W)=>mul_core (h.ext e);have Hhd:=hqd fun W (e:Ext w W)=>core_head (h.pl.core.ext e) (hk.marksP tp ops hfr);have Hqu:=hqd fun W (e:Ext w W)=>core_queue (h.pl.core.ext e);have Hfr:=hqd fun W (e:Ext w W)=>queue_front (h.pl.core.que.ext e) (by rw[hlen];exact hn8) (by rw[hlen];omega) hk.short;rw[show frontL c.ls=c.front from rfl]at Hfr;have Hby:=hqd fun W (e:Ext w W)=>plain_by (h.pl.ext e);have Hah:Hid (∀ W,Ext w W→Calls prog 267 #[ptrV x.qb,byV cf.guess cf.order,.int .i64 0,.int .i64 (c.head me:Nat)] W fun e w'=>∃ B m d,e = .returned (.slice B m d)∧Rp w' B m d (aheadL cf.guess cf.order c.ls (c.head me))∧Ext W w'):=hqd fun W e=>by
  refine(ahead_of (h.pl.core.que.ext e) (by rw[hlen];exact hn8) (by rw[hlen];omega) hk.short hby 0 (c.head me) (by decide) hhd (fun W rr hrr A n c past hb hl=>by
   obtain rfl:rr=0:=by omega
   exact gline_zero W hby A n c past hb _ hhd hl)).mono ?_
  rintro e w' ⟨B,m,d,full,h1,h2,h3,h4⟩;rw[h2.zero]at h3;exact⟨B,m,d,h1,h3,h4⟩
 have Hpi:=hqd fun W (e:Ext w W)=>mul_picture (h.hd.ext e) (h.st.ext e) hbs (by omega);have HBe:=hqd fun W (e:Ext w W) PA pn pc (hp:Rp W PA pn pc (aheadL cf.guess cf.order c.ls (c.head me)))=>tree_bestD (h.tr.ext e) hbr (fun y hy=>(hMk.brs y hy).1) (fun y hy=>(hMk.brs y hy).2.1) hp;have Hpy:=hqd fun(y:Br) (hy:y∈s.bl) W T2 (hH:Has W T2 t b (mulC x tp s.base s.fr)) (hS:StoreAt W T2 (t+7) x.sb (4*cf.room) s.free s.last s.gs)=>mul_picture hH hS (hMk.brs y hy).2.2.2 (by omega);have hal:(aheadL cf.guess cf.order c.ls (c.head me)).length≤1000:=by rw[aheadL_len];omega
 have hRo:Ro w x.A x.an x.ad ops:=h.op.rd;have Hfrom:=hqd fun W (e:Ext w W) PA pn pc ps (hp:Rp W PA pn pc ps) (hl:ps.length≤1000) G (hG:okG G) (k:Nat) (hk:k≤1000)=>from_any W tp x.A x.an x.ad ops ((c.front:Int)+(k:Int)) PA pn pc ps G htp (hRo.ext e) hp hG (by omega) (by omega) hl;have Henc:=hqd fun W=>sencode_any W (dispG tp ops cf.guess cf.order me c) hGD;have HH:=hqd h.hd;have HS:=hqd h.st;have HU:=hqd hu;have Hft:=hqd hf;have HG0:=hqd hG0;rw[hf]at HBe Hpy HH;have b0:=h.hd.cell (i:=0) rfl;have b1:=h.hd.cell (i:=1) rfl;have b2:=h.hd.cell (i:=2) rfl;have b4:=h.hd.cell (i:=4) rfl;have b7:=h.hd.cell (i:=7) rfl;have b8:=h.hd.cell (i:=8) rfl;rw[hf]at b8;have hbt:T b=t:=h.hd.1;have hblt:=h.hd.lt;have e1:decide (c.head me≤c.front)=false:=decide_eq_false hgt;have e1':decide ((c.head me:Int)≤(c.front:Int))=false:=decide_eq_false (by omega);have hl1:((gameAt tp ops c.ls c.front).map (Value.int .i32)).length=32:=by rw[List.length_map,hG0.1]
 have hone:∀ u∈(gameAt tp ops c.ls c.front).map (Value.int .i32),u.oneCell'=true:=by
  intro u hu;obtain⟨x,_,rfl⟩:=List.mem_map.1 hu;rfl
 have hzl:(List.replicate 32 (Value.int .i32 0)).length=32:=by simp
 have Hfold:=hqd (show ∀ k,k≤(aheadL cf.guess cf.order c.ls (c.head me)).length→foldN tp ops ((c.front:Int)+(k:Int)) (foldN tp ops (c.front:Nat) (gameAt tp ops c.ls c.front) ((aheadL cf.guess cf.order c.ls (c.head me)).take k)) ((aheadL cf.guess cf.order c.ls (c.head me)).drop k)=dispG tp ops cf.guess cf.order me c from fun k hk=>fold_rest tp ops c.front _ _ k hk);have hbest:=fun y (hy:bestBr s.bl (aheadL cf.guess cf.order c.ls (c.head me)) s.bl.length=some y)=>hy;unfold ptrV byV gcs pAgg at *;clear h hk hgt hlen hMk hbs hRo hf hby hG0 hbest;generalize dispG tp ops cf.guess cf.order me c=GD at *;generalize aheadL cf.guess cf.order c.ls (c.head me)=al at *;generalize hGG:gameAt tp ops c.ls c.front=G0 at *;generalize c.head me=hd at *;generalize c.front=fr at *;clear hGG;go_enter func255,ntmps255;go_wp2_with fail;refine(Hco.out _ (Ext.refl _)).mono ?_;rintro e w1 ⟨rfl,hw⟩;have hw:=hw.symm;subst hw;go_wp2_with fail;refine(Hhd.out _ (Ext.refl _)).mono ?_;rintro e w2 ⟨rfl,e2⟩;have B8:=hqd b8;replace b0:=e2.cell b0;replace b8:=e2.cell b8;go_wp2_with fail;apply wrA trivial;repeat first|apply lxA (fun _ h _=>h.cell b8)|apply lxK trivial
 apply lxC (fun W hR=>Hco.out W (e2.trans hR));apply lxC (fun W hR=>Hqu.out W (e2.trans hR));apply lxC (fun W hR=>Hfr.out W (e2.trans hR));repeat first|apply lxA (fun _ h _=>h.cell b8)|apply lxK trivial
 refine lex_nil ?_;intro Wx hWx hΦ;clear hΦ;replace b0:=hWx.cell b0;have e3:=e2.trans hWx;clear e2 hWx;generalize hWZ:Wx=W3 at *;clear hWZ;go_wp2_with fail;apply wrA trivial;repeat apply lxA (fun _ h _=>h.cell b0)
 apply lxC (fun W hR=>Hco.out W (e3.trans hR));apply lxC (fun W hR=>Hqu.out W (e3.trans hR));repeat apply lxA (fun _ h _=>h.cell b0)
 apply lxC (fun W hR=>Hby.out W (e3.trans hR));repeat apply lxA (fun _ h _=>h.cell b0)
 apply lex_call (p:=fun u W=>∃ B m d,u = .slice B m d∧Rp W B m d al) (fun _ _ _ ⟨B,m,bd,hv,h1⟩ he=>⟨B,m,bd,hv,h1.ext he⟩)
 ·rfl
 ·intro W
  go_simp;exact⟨rfl,rfl⟩
 ·intro W hR hΦ
  refine(Hah.out W (e3.trans hR)).mono ?_;rintro e w' ⟨B,m,bd,rfl,ho,he⟩;exact⟨_,rfl,he,B,m,bd,rfl,ho⟩
 intro v1;simp only[pu];apply lex_new (p:=fun u W=>∃ B m d,u = .slice B m d∧Rp W B m d al) (fun _ _ _ ⟨B,m,bd,hv,h1⟩ he=>⟨B,m,bd,hv,h1.ext he⟩)
 ·rfl
 ·intro W hR hΦ
  obtain⟨B,m,bd,rfl,ho⟩:=hΦ.1 rfl;refine⟨_,W,?_,Ext.refl _,B,m,bd,rfl,ho⟩;go_simp;first|done|rfl
 intro v2;simp only[pu];refine lex_nil ?_;intro Wx hWx hΦ;obtain⟨PA,pn,pc,rfl,hRp⟩:=hΦ.1 rfl;clear hΦ;have e4:=e3.trans hWx;clear e3 hWx b0;generalize hWZ:Wx=W4 at *;clear hWZ;replace b7:=e4.cell b7;go_wp2_with fail;refine(Hpi.out _ e4).mono ?_;rintro e w5 ⟨rfl,e5⟩;go_upto_region 6 with (first|(with_reducible refine wpList_alloc_ar rfl 205 rfl hi hz ?_;intro W6 a6 x6 s6)|(with_reducible refine wpList_store_ar rfl 205 (.tmp 6) (.tmp 54) rfl rfl rfl a6 hl1 hzl size_state hone ?_;intro W7 a7 g7 s7))
 have hs5:=e5.size;have e47:Ext W4 W7:=Ext.own (B:=some ⟨w5.heap.size,0,none⟩) (e5.trans x6) g7 (fun k hk=>by have h9:w5.heap.size=k:=Option.some.inj hk;omega);have e7:=e4.trans e47;have hRp7:=hRp.ext e47;have hgl:=e4.size;have hg6:w.heap.size≤w5.heap.size:=by omega
 have hg7:w5.heap.size<W7.heap.size:=a7.lt;obtain⟨g6,hg6e⟩:∃ g6,g6=w5.heap.size:=⟨_,rfl⟩;rw[← hg6e]at a7 hg6 hg7 ⊢;have hplen:pn≤al.length∧al.length≤pn:=by have:=hRp7.len;omega
 have HRp4:=hqd hRp;have E47:=hqd e47;have hg64:W4.heap.size≤g6:=by omega
 clear hg6e g7 x6 a6 s6 s7 hs5 e5 e4 e47 hRp hgl b7;have c4:=e7.cell b4;have c8:=e7.cell B8.out;cases hbst:bestBr s.bl al s.bl.length with
 | none =>
  have HC:Hid (∀ W,Ext W7 W→Calls prog 269 #[.pointer (some ⟨x.tb,0,none⟩),.int .i64 (fr:Nat),.slice PA pn pc] W fun e w'=>(∃ us,e = .returned (.tuple #[.agg us.toArray,.bool false])∧noG us w')∧Ext W w'):=hqd fun W e=>by
   refine(HBe.out W (e7.trans e) PA pn pc (hRp7.ext e)).mono ?_;rintro e9 w9 ⟨x9,⟨_,rfl⟩|⟨y,q,h9,_⟩⟩
   ·exact⟨⟨zB,rfl,rfl⟩,x9⟩
   ·rw[hbst]at h9
    cases h9
  clear hbst;go_wp2_with fail;apply wp_region_lexS (F1:=99) (F2:=99) (R:=Below W7.heap.size) (Rs:=gsRs 14 13 W7.heap.size 136) (J:=fun _ _=>True) (by kernel_rfl) (by kernel_rfl) (Below.refl _) (fun _ _ W=>.inl (Ext.refl W)) (fun _ _ h=>h.size) (fun _ _ _ _ _ _ _ _ _=>trivial) (fun _ _ _=>Below.trans) (Below.of_ext' (Ext.drew _) (Nat.le_refl _)) (fun _=>trivial);intro σ;apply lxS (fun _ h _ _=>aj ((Below.to_ext h).cell c4) ((Below.to_ext h).cell c8));apply lxS (fun _ h _ _=>aj ((Below.to_ext h).cell c4) ((Below.to_ext h).cell c8));apply lxS (fun _ h _ _=>aj ((Below.to_ext h).cell c4) ((Below.to_ext h).cell c8));apply lxS (fun _ h _ _=>aj ((Below.to_ext h).cell c4) ((Below.to_ext h).cell c8));apply lxS (fun _ h _ _=>aj ((Below.to_ext h).cell c4) ((Below.to_ext h).cell c8));apply lxS (fun _ h _ _=>aj ((Below.to_ext h).cell c4) ((Below.to_ext h).cell c8));apply lxS (fun _ h _ _=>aj ((Below.to_ext h).cell c4) ((Below.to_ext h).cell c8));apply lxS (fun _ h _ _=>aj ((Below.to_ext h).cell c4) ((Below.to_ext h).cell c8));apply lxS (fun _ h _ _=>aj ((Below.to_ext h).cell c4) ((Below.to_ext h).cell c8));apply lexS_call (p:=gsV 9 (fun us=>.tuple #[.agg us.toArray,.bool false]) noG) (by decide) (by decide) (gsV.keeps (noG.stab _ _))
  ·rfl
  ·intro W
   go_simp;exact⟨rfl,rfl⟩
  ·intro W hR hJ hΦ
   refine(HC.out W (Below.to_ext hR)).mono ?_;rintro e w' ⟨⟨us,rfl,hg⟩,ee⟩;exact⟨_,rfl,Below.of_ext' ee hR.size,.inl ee,us,upd_eq,hg⟩
  simp only[pu];apply lexS_new (p:=gsV 10 (fun us=>.tuple #[.agg us.toArray,.bool false]) noG) (by decide) (by decide) (gsV.keeps (noG.stab _ _))
  ·rfl
  ·intro W hR hJ hΦ
   obtain⟨us,e1,hg⟩:=hΦ.1 rfl;refine⟨_,W,?_,Below.refl _ _,.inl (Ext.refl _),us,upd_eq,hg⟩;simp only[e1];go_simp;first|done|rfl
  simp only[pu];apply lexS_new (p:=gsV 11 (fun us=>.agg us.toArray) noG) (by decide) (by decide) (gsV.keeps (noG.stab _ _))
  ·rfl
  ·intro W hR hJ hΦ
   obtain⟨us,e1,hg⟩:=hΦ.1 rfl;refine⟨_,W,?_,Below.refl _ _,.inl (Ext.refl _),us,upd_eq,hg⟩;simp only[e1];go_simp;first|done|rfl
  simp only[pu];apply lexS_ex (u:=.bool false) (by decide) (by decide) (Below.refl _) (fun _ _ W=>.inl (Ext.refl W))
  ·rfl
  ·intro W hR hJ hΦ
   obtain⟨us,e1,hg⟩:=hΦ.2.1 rfl;simp only[e1];go_simp;first|done|rfl
  simp only[pu];apply lexS_new (p:=gsA W7.heap.size 13 136) (by decide) (by decide) gsA.keeps
  ·rfl
  ·intro W hR hJ hΦ
   refine⟨.pointer (some ⟨W.heap.size,0,none⟩),W.alloc (.cells zB.toArray 136),?_,Below.of_ext' (Ext.alloc _ _) hR.size,.inl (Ext.alloc _ _),W.heap.size,upd_eq,hR.size,zB,⟨_,_,_,_,_,_,_,rfl⟩,heap_alloc_new W _⟩;unfold zB;go_simp;first|done|rfl
  simp only[pu];apply lexS_store (p:=gsS W7.heap.size 13 136 noG) (by decide) (by decide) (gsS.keeps (noG.stab _ _) (by kernel_rfl))
  ·rfl
  ·intro W hR hJ hΦ
   obtain⟨g8,e8,hm8,hs8⟩:=hΦ.1 rfl;obtain⟨us,e1,hg⟩:=hΦ.2.1 rfl;obtain⟨W2,r1,r2,r3,r4⟩:=gs_store (P:=prog) (K:=14) (al:=13) (m:=W7.heap.size) (σ:=σ) (noG.stab _ _) size_br hm8 hs8 hg e8 (by decide);exact⟨W2,r1 _ _ _ _ rfl e8 e1,r2 hR.size,r3,r4⟩
  simp only[Act.put];apply lxS (fun _ h _ _=>aj ((Below.to_ext h).cell c4) ((Below.to_ext h).cell c8));refine lexS_nil ?_;intro Wx hR hap hΦ;obtain⟨gx,us,e8,hgx,hG8,hb8⟩:=hΦ.1 rfl;have hWx:=Below.to_ext hR;clear hΦ hap hR;rw[e8];generalize σ 9=s9 at *;generalize σ 10=s10 at *;generalize σ 11=s11 at *;generalize σ 13=s13 at *;generalize σ 14=s14 at *;clear e8;clear hG8 hb8;have e8:=e7.trans hWx;have a8:=a7.ext hWx;have hRp8:=hRp7.ext hWx;generalize hWZ:Wx=W8 at *;clear hWZ hWx;go_wp2_with fail;have b1:=e8.cell b1;have b2:=e8.cell b2;have b8:=e8.cell B8.out;have Hfr9:Hid (∀ W,Ext W8 W→Calls prog 270 #[.agg #[.string (bs tp),.slice x.A x.an x.ad],.agg (List.map (Value.int .i32) G0).toArray,.int .i64 (fr:Nat),.slice PA pn pc] W fun e w'=>e = .returned (.agg (List.map (Value.int .i32) GD).toArray)∧Ext W w'):=hqd fun W e=>by
   have h9:=Hfrom.out W (e8.trans e) PA pn pc al (hRp8.ext e) hal G0 HG0.out 0 (Nat.zero_le _);have hf9:=Hfold.out 0 (Nat.zero_le _);simp only[List.take_zero,List.drop_zero,Int.natCast_zero,Int.add_zero,foldN]at h9 hf9;rw[hf9]at h9;exact h9
  have hlG:(List.map (Value.int .i32) (G0)).length=32:=by rw[List.length_map,(HG0.out).1]
  have hpm:=hRp8.max;unfold maxLen at hpm;have hkc:0≤pc:=by omega
  have hww:IntKind.i64.wrap ((fr:Int)+(0:Nat))=(fr:Int)+(0:Nat):=IntWalk.i64_in _ (by omega);have hww0:IntKind.i64.wrap (fr:Int)=(fr:Int):=IntWalk.i64_in _ (by omega);apply wrA trivial;repeat apply lxA (fun _ h _=>aj (h.cell b1) (h.cell b2))
  apply lex_ex (u:=.agg (List.map (Value.int .i32) (G0)).toArray) Ext.refl
  ·rfl
  ·intro W hR hΦ
   exact exec_load_ar 205 (.tmp 6) rfl rfl underlying205 size_state (a8.ext hR) hlG
  simp only[pu];repeat apply lxA (fun _ h _=>h.cell b8)
  apply lxC (fun W hR=>Hfr9.out W hR);apply lex_call (p:=fun u W=>∃ B d,u = .slice B 128 d∧Rb W B 128 d (gameL GD)) (fun _ _ _ ⟨B,bd,hv,h1⟩ he=>⟨B,bd,hv,h1.ext he⟩)
  ·rfl
  ·intro W
   go_simp;exact⟨rfl,rfl⟩
  ·intro W hR hΦ
   refine(Henc.out W).mono ?_;rintro e w' ⟨B,bd,rfl,ho,he⟩;exact⟨_,rfl,he,B,bd,rfl,ho⟩
  intro v12;simp only[pu];repeat apply lxA (fun _ h _=>h.cell b8)
  apply lex_new (p:=fun u W=>∃ B d,u = .slice B 128 d∧Rb W B 128 d (gameL GD)) (fun _ _ _ ⟨B,bd,hv,h1⟩ he=>⟨B,bd,hv,h1.ext he⟩)
  ·rfl
  ·intro W hR hΦ
   obtain⟨B,bd,rfl,ho⟩:=hΦ.1 rfl;refine⟨_,W,?_,Ext.refl _,B,bd,rfl,ho⟩;go_simp;first|done|rfl
  intro v13;simp only[pu];repeat apply lxA (fun _ h _=>h.cell b8)
  refine lex_nil ?_;intro Wx hWx hΦ;obtain⟨B2,bd,rfl,hB2⟩:=hΦ.1 rfl;clear hΦ;go_wp2_with fail;go_ret2
  exact⟨B2,bd,rfl,hB2,e8.trans hWx⟩
 | some y =>
  obtain⟨hym,hy0,hyl,hye⟩:=bestBr_good hbst;have HC:Hid (∀ W,Ext W7 W→Calls prog 269 #[.pointer (some ⟨x.tb,0,none⟩),.int .i64 (fr:Nat),.slice PA pn pc] W fun e w'=>(∃ us,e = .returned (.tuple #[.agg us.toArray,.bool true])∧bsG fr y us w')∧Ext W w'):=hqd fun W e=>by
   refine(HBe.out W (e7.trans e) PA pn pc (hRp7.ext e)).mono ?_;rintro e9 w9 ⟨x9,⟨h9,_⟩|⟨y9,q,h9,rfl,_⟩⟩
   ·rw[hbst]at h9
    cases h9
   ·rw[hbst]at h9
    cases h9
    exact⟨⟨_,rfl,q,rfl⟩,x9⟩
  clear hbst;obtain⟨M,hM,hMt⟩:∃ M,(∀ k,T k≤M)∧t+20≤M:=by
   obtain⟨M,hM⟩:=tg_bound HU.out;exact⟨M+t+20,fun k=>Nat.le_trans (hM k) (by omega),by omega⟩
  have hG1:okG (foldN tp ops (fr:Nat) G0 (al.take y.done)):=foldN_ok tp ops _ _ HG0.out;have hfd1:=Hfold.out y.done hyl;have Hpy1:=Hpy.out y hym;rw[hye]at Hpy1;have Hpy1:=hqd Hpy1;generalize foldN tp ops (fr:Nat) G0 (al.take y.done)=G1 at *;go_wp2_with fail;apply wp_region_lexS (F1:=99) (F2:=99) (R:=Below W7.heap.size) (Rs:=gsRs 14 13 W7.heap.size 136) (J:=fun _ _=>True) (by kernel_rfl) (by kernel_rfl) (Below.refl _) (fun _ _ W=>.inl (Ext.refl W)) (fun _ _ h=>h.size) (fun _ _ _ _ _ _ _ _ _=>trivial) (fun _ _ _=>Below.trans) (Below.of_ext' (Ext.drew _) (Nat.le_refl _)) (fun _=>trivial);intro σ;apply lxS (fun _ h _ _=>aj ((Below.to_ext h).cell c4) ((Below.to_ext h).cell c8));apply lxS (fun _ h _ _=>aj ((Below.to_ext h).cell c4) ((Below.to_ext h).cell c8));apply lxS (fun _ h _ _=>aj ((Below.to_ext h).cell c4) ((Below.to_ext h).cell c8));apply lxS (fun _ h _ _=>aj ((Below.to_ext h).cell c4) ((Below.to_ext h).cell c8));apply lxS (fun _ h _ _=>aj ((Below.to_ext h).cell c4) ((Below.to_ext h).cell c8));apply lxS (fun _ h _ _=>aj ((Below.to_ext h).cell c4) ((Below.to_ext h).cell c8));apply lxS (fun _ h _ _=>aj ((Below.to_ext h).cell c4) ((Below.to_ext h).cell c8));apply lxS (fun _ h _ _=>aj ((Below.to_ext h).cell c4) ((Below.to_ext h).cell c8));apply lxS (fun _ h _ _=>aj ((Below.to_ext h).cell c4) ((Below.to_ext h).cell c8));apply lexS_call (p:=gsV 9 (fun us=>.tuple #[.agg us.toArray,.bool true]) (bsG fr y)) (by decide) (by decide) (gsV.keeps (bsG.stab fr _ y))
  ·rfl
  ·intro W
   go_simp;exact⟨rfl,rfl⟩
  ·intro W hR hJ hΦ
   refine(HC.out W (Below.to_ext hR)).mono ?_;rintro e w' ⟨⟨us,rfl,hg⟩,ee⟩;exact⟨_,rfl,Below.of_ext' ee hR.size,.inl ee,us,upd_eq,hg⟩
  simp only[pu];apply lexS_new (p:=gsV 10 (fun us=>.tuple #[.agg us.toArray,.bool true]) (bsG fr y)) (by decide) (by decide) (gsV.keeps (bsG.stab fr _ y))
  ·rfl
  ·intro W hR hJ hΦ
   obtain⟨us,e1,hg⟩:=hΦ.1 rfl;refine⟨_,W,?_,Below.refl _ _,.inl (Ext.refl _),us,upd_eq,hg⟩;simp only[e1];go_simp;first|done|rfl
  simp only[pu];apply lexS_new (p:=gsV 11 (fun us=>.agg us.toArray) (bsG fr y)) (by decide) (by decide) (gsV.keeps (bsG.stab fr _ y))
  ·rfl
  ·intro W hR hJ hΦ
   obtain⟨us,e1,hg⟩:=hΦ.1 rfl;refine⟨_,W,?_,Below.refl _ _,.inl (Ext.refl _),us,upd_eq,hg⟩;simp only[e1];go_simp;first|done|rfl
  simp only[pu];apply lexS_ex (u:=.bool true) (by decide) (by decide) (Below.refl _) (fun _ _ W=>.inl (Ext.refl W))
  ·rfl
  ·intro W hR hJ hΦ
   obtain⟨us,e1,hg⟩:=hΦ.2.1 rfl;simp only[e1];go_simp;first|done|rfl
  simp only[pu];apply lexS_new (p:=gsA W7.heap.size 13 136) (by decide) (by decide) gsA.keeps
  ·rfl
  ·intro W hR hJ hΦ
   refine⟨.pointer (some ⟨W.heap.size,0,none⟩),W.alloc (.cells zB.toArray 136),?_,Below.of_ext' (Ext.alloc _ _) hR.size,.inl (Ext.alloc _ _),W.heap.size,upd_eq,hR.size,zB,⟨_,_,_,_,_,_,_,rfl⟩,heap_alloc_new W _⟩;unfold zB;go_simp;first|done|rfl
  simp only[pu];apply lexS_store (p:=gsS W7.heap.size 13 136 (bsG fr y)) (by decide) (by decide) (gsS.keeps (bsG.stab fr _ y) (by kernel_rfl))
  ·rfl
  ·intro W hR hJ hΦ
   obtain⟨g8,e8,hm8,hs8⟩:=hΦ.1 rfl;obtain⟨us,e1,hg⟩:=hΦ.2.1 rfl;obtain⟨W2,r1,r2,r3,r4⟩:=gs_store (P:=prog) (K:=14) (al:=13) (m:=W7.heap.size) (σ:=σ) (bsG.stab fr _ y) size_br hm8 hs8 hg e8 (by decide);exact⟨W2,r1 _ _ _ _ rfl e8 e1,r2 hR.size,r3,r4⟩
  simp only[Act.put];apply lxS (fun _ h _ _=>aj ((Below.to_ext h).cell c4) ((Below.to_ext h).cell c8));refine lexS_nil ?_;intro Wx hR hap hΦ;obtain⟨gx,us,e8,hgx,hG8,hb8⟩:=hΦ.1 rfl;have hWx:=Below.to_ext hR;clear hΦ hap hR;rw[e8];generalize σ 9=s9 at *;generalize σ 10=s10 at *;generalize σ 11=s11 at *;generalize σ 13=s13 at *;generalize σ 14=s14 at *;clear e8;obtain⟨q,rfl⟩:=hG8;have e8:=e7.trans hWx;have a8:=a7.ext hWx;have e48:=hqd (E47.out.trans hWx);have hs78:=hWx.size;generalize hWZ:Wx=W8 at *;clear hWZ hWx;obtain⟨T2,hT2⟩:∃ T2:Tg,T2=fun k=>if k=g6 then M+1 else T k:=⟨_,rfl⟩
  have h2g:T2 g6=M+1:=by rw[hT2];exact if_pos rfl
  have h2o:∀ k,k≠g6→T2 k=T k:=fun k hk=>by rw[hT2];exact if_neg hk
  clear hT2;have hu:Unborn W8 T2:=fun k hk=>by rw[h2o k (by omega)];exact HU.out k (by have:=e8.size;omega)
  have hkept:Kept T T2:=fun k hk=>h2o k fun e=>hk (by rw[e];exact HU.out g6 hg6);have hgT:T2 gx=0:=by rw[h2o gx (by omega)];exact HU.out gx (by have:=e7.size;omega)
  have b9:Has W8 T2 0 gx (brC fr y q):=⟨hgT,_,hb8⟩;have k3:=b9.cell (i:=3) rfl;have k4:=b9.cell (i:=4) rfl;have hng:¬ T2 gx=M+1:=by rw[hgT];omega
  have hne0:t≠M+1:=by have:=hM b;omega
  have HH2:=(HH.out.ext e8).kept (by omega) hkept;have HS2:=(HS.out.ext e8).kept (by omega) hkept;have hlt5:∀ k,In (t+7) 5 k→¬ k=M+1:=fun k hk=>by unfold In at hk;omega
  have Hpic:=hqd fun W (hR:oR (· = M+1) T2 W8 W)=>Hpy1.out W T2 (HH2.turn (hR.turn hu) hne0) (HS2.turn (hR.turn hu) hlt5);have a8h:Has W8 T2 (M+1) g6 (List.map (Value.int .i32) G0):=⟨h2g,_,a8⟩;have HA8:=hqd a8h;have hlG1:(List.map (Value.int .i32) G1).length=32:=by rw[List.length_map,hG1.1]
  have hone1:∀ u∈List.map (Value.int .i32) G1,u.oneCell'=true:=by
   intro u hu;obtain⟨x,_,rfl⟩:=List.mem_map.1 hu;rfl
  clear b9 hb8 HH2 HS2 a8h;go_wp2_with fail;apply wrG (oR (· = M+1) T2) (oRs 6 (· = M+1) T2) (oJ 6 _) (oJ.start _ _);repeat apply lxG (fun _ h _ _=>h.cell k4 hng)
  apply lexG_callx (by decide) (by decide)
  ·rfl
  ·intro W
   go_simp;exact⟨rfl,rfl⟩
  ·intro W hR hJ hΦ
   refine((fun W hR=>Hpic.out W hR) W hR).mono ?_;rintro e w' ⟨rfl,ee⟩;have ex:Ext W w':=by first|exact ee|(subst ee;exact Ext.refl _)
   exact⟨rfl,oR.of_ext ex,.inr ex⟩
  simp only[pu];repeat apply lxG (fun _ h _ _=>h.cell k3 hng)
  apply lexG_eff (p:=fun _ W=>Has W T2 (M+1) g6 (List.map (Value.int .i32) G1)) (by decide) (by decide) (fun j hj v w w' h hR=>by
   rcases hR with ⟨h9,_⟩|h9
   ·exact absurd h9 hj
   ·exact h.ext h9)
  ·rfl
  ·intro W hR hJ hΦ
   obtain⟨W2,h2,h3,h1⟩:=exec_store_st (P:=prog) 205 (us:=List.map (Value.int .i32) G1) (HA8.out.ext (hJ rfl)) hlG1 hl1 size_state hone1;have hmv:oR (· = M+1) T2 W W2:=⟨h3.os,h3.tape,h3.output,h3.size,fun k hk hn=>h3.block k hk (fun e=>hn (by cases e;exact h2.1))⟩;exact⟨W2,h1 _ _ _ _ rfl rfl rfl,hmv,.inl ⟨rfl,hmv⟩,h2⟩
  intro v6;simp only[Act.put];repeat apply lxG (fun _ h _ _=>h.cell k3 hng)
  refine lexG_nil ?_;intro Wy hR hap hΦ;have hZ:=hΦ.1 rfl;clear hΦ hap;have hg9:W8.grownBy Wy (some g6):=⟨hR.os,hR.tape,hR.output,hR.size,fun k hk hne=>hR.block k hk fun e=>by
   by_cases h9:k=g6
   ·exact hne (by rw[h9])
   ·rw[h2o k h9]at e
    have:=hM k;omega⟩
  have e9:Ext w Wy:=Ext.own (B:=some ⟨g6,0,none⟩) e8 hg9 (fun k hk=>by have h9:g6=k:=Option.some.inj hk;omega);have hRp9:=HRp4.out.keep e48.out hg64 hg9;obtain⟨_,ty9,a9⟩:=hZ;have a9:ArB Wy g6 ty9 (List.map (Value.int .i32) G1):=a9;clear hg9 hR k3 k4;have hyd:y.done≤pn:=by omega
  generalize y.done=kd at *;go_wp2_with fail;have b1:=e9.cell b1;have b2:=e9.cell b2;have b8:=e9.cell B8.out;have hdr:=hRp9.drop (k:=kd) hyd;obtain⟨PA',hPA'⟩:∃ q,(if pc=kd then PA else PA.map (·.add kd))=q:=⟨_,rfl⟩;rw[hPA']at hdr;have Hfr9:=hqd fun W (e:Ext Wy W)=>Hfrom.out W (e9.trans e) PA' (pn-kd) (pc-kd) (al.drop kd) (hdr.ext e) (by rw[List.length_drop];omega) G1 hG1 kd (by omega);rw[hfd1]at Hfr9;have hlG:(List.map (Value.int .i32) (G1)).length=32:=by rw[List.length_map,(hG1).1]
  have hpm:=hRp9.max;unfold maxLen at hpm;have hkc:kd≤pc:=by omega
  have hww:IntKind.i64.wrap ((fr:Int)+(kd:Nat))=(fr:Int)+(kd:Nat):=IntWalk.i64_in _ (by omega);have hww0:IntKind.i64.wrap (fr:Int)=(fr:Int):=IntWalk.i64_in _ (by omega);apply wrA trivial;repeat apply lxA (fun _ h _=>aj (h.cell b1) (h.cell b2))
  apply lex_ex (u:=.agg (List.map (Value.int .i32) (G1)).toArray) Ext.refl
  ·rfl
  ·intro W hR hΦ
   exact exec_load_ar 205 (.tmp 6) rfl rfl underlying205 size_state (a9.ext hR) hlG
  simp only[pu];repeat apply lxA (fun _ h _=>h.cell b8)
  apply lxC (fun W hR=>Hfr9.out W hR);apply lex_call (p:=fun u W=>∃ B d,u = .slice B 128 d∧Rb W B 128 d (gameL GD)) (fun _ _ _ ⟨B,bd,hv,h1⟩ he=>⟨B,bd,hv,h1.ext he⟩)
  ·rfl
  ·intro W
   go_simp;exact⟨rfl,rfl⟩
  ·intro W hR hΦ
   refine(Henc.out W).mono ?_;rintro e w' ⟨B,bd,rfl,ho,he⟩;exact⟨_,rfl,he,B,bd,rfl,ho⟩
  intro v12;simp only[pu];repeat apply lxA (fun _ h _=>h.cell b8)
  apply lex_new (p:=fun u W=>∃ B d,u = .slice B 128 d∧Rb W B 128 d (gameL GD)) (fun _ _ _ ⟨B,bd,hv,h1⟩ he=>⟨B,bd,hv,h1.ext he⟩)
  ·rfl
  ·intro W hR hΦ
   obtain⟨B,bd,rfl,ho⟩:=hΦ.1 rfl;refine⟨_,W,?_,Ext.refl _,B,bd,rfl,ho⟩;go_simp;first|done|rfl
  intro v13;simp only[pu];repeat apply lxA (fun _ h _=>h.cell b8)
  refine lex_nil ?_;intro Wx hWx hΦ;obtain⟨B2,bd,rfl,hB2⟩:=hΦ.1 rfl;clear hΦ;go_wp2_with fail;go_ret2
  exact⟨B2,bd,rfl,hB2,e9.trans hWx⟩
end
section
variable {w w':World} {T T':Tg} {t b:Nat} {cf:Cf} {me:Nat} {tp:List UInt8} {ops:List OpT} {x:Mx} {c c':Cr} {s:Ms} {B:Nat}
theorem mul_display(h:MultiAt w T t b cf me tp ops c B)(ht:0<t)(hu:Unborn w T)(hk:CrOk cf me c [])(htp:tp.length≤1099511627776)(hB:B≤700000000):Calls prog 255 #[ptrV b] w (if c.head me≤c.front then Shown w (gameAt tp ops c.ls c.front) c.front else Shown w (dispG tp ops cf.guess cf.order me c) (c.head me)):=by
 obtain⟨x,s,h,hf,hl,_⟩:=h;split
 ·rename_i e
  exact mul_display_low h hf hk htp e
 ·rename_i e
  exact mul_display_high h ht hu hf (by omega) hk htp e
def WorkP(t b:Nat)(cf:Cf)(me:Nat)(tp:List UInt8)(ops:List OpT)(c:Cr)(B:Nat)(v:Value)(w':World)(T':Tg):Prop:=(∃ r,v = .bool r)∧MultiAt w' T' t b cf me tp ops c (B+1)
theorem mul_work(h:MultiAt w T t b cf me tp ops c B)(ht:0<t)(hu:Unborn w T)(hk:CrOk cf me c [])(htp:tp.length≤1099511627776)(hB:B≤700000000)(i:Int):Calls prog 16 #[ptrV b,.int .i64 i] w (Gives (In t 40) w T (WorkP t b cf me tp ops c B)):=by
 have Hst:=hqd (show MultiAt w T t b cf me tp ops c (B+1) from h.mono (by omega));have HU:=hqd hu;obtain⟨x,s,h,hf,hla,htl,hep⟩:=h;have hok:=hk.ok;have hl8:c.ls.length≤8:=by have:=hok.n8;have:=hk.len;omega
 have hw4:=hok.workers;have hnw:=h.nw;have HC:=hqd (mul_closed h);have b6:=h.hd.cell (i:=6) rfl;rw[hnw]at b6;cases hcd:c.closed with
 | true =>
  rw[hcd]at HC;unfold ptrV at *;clear h hk hf hcd;go_enter func16,ntmps16;go_wp2_with fail;refine HC.out.mono ?_;rintro e w1 ⟨rfl,hw⟩;have hw:=hw.symm;subst hw;go_wp2_with fail;go_ret;exact⟨_,rfl,T,Turn.refl _ HU.out,⟨_,rfl⟩,Hst.out⟩
 | false =>
  rw[hcd]at HC;by_cases h0:i<0
  ·have e1:decide (i<0)=true:=decide_eq_true h0
   unfold ptrV at *;clear h hk hf hcd;go_enter func16,ntmps16;go_wp2_with fail;refine HC.out.mono ?_;rintro e w1 ⟨rfl,hw⟩;have hw:=hw.symm;subst hw;go_wp2_with fail;go_ret;exact⟨_,rfl,T,Turn.refl _ HU.out,⟨_,rfl⟩,Hst.out⟩
  ·have e1:decide (i<0)=false:=decide_eq_false h0
   obtain⟨k,rfl⟩:=Int.eq_ofNat_of_zero_le (Int.not_lt.1 h0);by_cases h9:cf.workers≤k
   ·have e2:decide (cf.workers≤k)=true:=decide_eq_true h9
    have e2':decide ((cf.workers:Int)≤(k:Int))=true:=decide_eq_true (by omega);unfold ptrV at *;clear h hk hf hcd;go_enter func16,ntmps16;go_wp2_with fail;refine HC.out.mono ?_;rintro e w1 ⟨rfl,hw⟩;have hw:=hw.symm;subst hw;go_wp2_with fail;go_ret;exact⟨_,rfl,T,Turn.refl _ HU.out,⟨_,rfl⟩,Hst.out⟩
   ·have e2:decide (cf.workers≤k)=false:=decide_eq_false h9
    have e2':decide ((cf.workers:Int)≤(k:Int))=false:=decide_eq_false (by omega);obtain⟨wbk,hwb⟩:∃ q,x.wb[k]?=some q:=⟨_,List.getElem?_eq_getElem (by rw[hnw];omega)⟩;obtain⟨wk,hwk⟩:∃ q,s.ks[k]?=some q:=⟨_,List.getElem?_eq_getElem (by rw[h.nk];omega)⟩;obtain⟨g,hg,cg,_,_⟩:=h.row.at_ (i:=k) (v:=ptrV wbk) (by rw[List.getElem?_map,hwb];rfl);have hmx:=h.row.rd.2.1;have hgs:=h.small hok;have hwm:=List.mem_of_getElem? hwk;have HS:=hqd (wk_step (h.wk k wbk wk hwb hwk) h.st h.jo h.tr h.op hu (by omega) (by omega) (by omega) hok.branches (by unfold In;omega) (by omega) (by unfold In;omega) htp (by omega) (by omega) (by rw[hf];have:=hk.front_le;omega) (fun y hy=>(h.ok.brs y hy).1) (fun y hy=>⟨_,(h.ok.brs y hy).2.2.2⟩) (fun hb=>(h.ok.wks wk hwm hb).2.1) (fun hb i y hi hy=>by
     obtain⟨y9,hy9,hid,_⟩:=idxB_some hi;rw[hy]at hy9;cases hy9
     exact((h.ok.wks wk hwm hb).2.2 y (List.mem_of_getElem? hy) hid).1))
    have HF:=hqd (show ∀ w2 T2 v,Turn (fun j=>j=t+3+k∨j=t+12+1∨In (t+7) 5 j∨In (t+14) 2 j) w T w2 T2→StepP (t+7) x.sb (4*cf.room) s.last wbk (t+3+k) (t+12) x.tb (t+14) x.jb s.fr cf.branches s.tlast s.epoch s.gs s.bl tp ops x.A x.an x.ad wk v w2 T2→Turn (In t 40) w T w2 T2∧WorkP t b cf me tp ops c B v w2 T2 from fun w2 T2 v hT hP=>by
     obtain⟨hv,hJ,l',gs',last',k',free',hW,hH,hTr,hS⟩:=hP;have hM:=h.ok.step hwk hW h.st.ids_low hS.ids.1;have hjn:∀ y∈l',∀ p∈y.press,p.length=cf.n:=by
      rcases hW with ⟨rfl,_⟩|⟨_,rfl,_⟩|⟨_,rfl,_⟩|⟨_,_,rfl,_⟩|⟨_,_,_,_,i,y,_,hy,_,rfl,_⟩
      ·exact h.jn
      ·exact h.jn
      ·exact h.jn
      ·exact h.jn
      ·intro z hz
       rcases List.mem_or_eq_of_mem_set hz with hz|rfl
       ·exact h.jn z hz
       ·exact h.jn y (List.mem_of_getElem? hy)
     have hll:last'≤s.last+1:=by
      rcases hW with ⟨_,_,h9,_⟩|⟨_,_,h9,_⟩|⟨_,_,h9,_⟩|⟨_,_,_,h9,_⟩|⟨_,_,h9,_⟩<;>omega
     exact⟨hT.mono fun j hj=>by unfold In at *;omega,hv,x,_,h.worker hok hl8 hwb hT hH hS hTr hJ hM hjn,hf,by show last'≤_;omega,by show s.tlast≤_;omega,by show s.epoch≤_;omega⟩)
    have hkc:k<x.wc:=by omega
    have hkc2:k<cf.workers:=by omega
    rw[hg]at b6;unfold ptrV at *;clear h hk hf hcd hwb hwk hwm hg hgs;go_enter func16,ntmps16;go_wp2_with fail;refine HC.out.mono ?_;rintro e w1 ⟨rfl,hw⟩;have hw:=hw.symm;subst hw;go_wp2_with fail;refine HS.out.mono ?_;rintro e w2 ⟨v,rfl,T2,hT2,hP2⟩;have HF2:=hqd (HF.out w2 T2 v hT2 hP2);obtain⟨⟨r,rfl⟩,_⟩:=hP2;clear hT2;go_wp2_with fail;go_ret;exact⟨_,rfl,T2,HF2.out⟩
end
def Stay(C:Addr→Prop)(w w':World):Prop:=∀ p u,C p→w.cell? p=some u→w'.cell? p=some u
def yRs(F:Nat→Nat→Prop)(C:Addr→Prop)(T:Tg)(i:Nat)(w w':World):Prop:=oR (F i) T w w'∧Stay C w w'
def yR(F:Nat→Nat→Prop)(C:Addr→Prop)(T:Tg)(w w':World):Prop:=oR (fun k=>∃ i,F i k) T w w'∧Stay C w w'
def yJ(F:Nat→Nat→Prop)(T:Tg)(w0:World)(j:Nat)(w:World):Prop:=oR (fun k=>∃ i,i≠j∧F i k) T w0 w
def yP(w0:World)(T:Tg)(P:Value→World→Tg→Prop)(v:Value)(w:World):Prop:=∃ T',(∀ k,k<w0.heap.size→T' k=T k)∧Unborn w T'∧P v w T'
section
variable {F:Nat→Nat→Prop} {C:Addr→Prop} {S S':Nat→Prop} {T T':Tg} {K:Nat} {w w' w0:World} {P:Value→World→Tg→Prop} {v:Value}
theorem oR.mono(h:oR S T w w')(hs:∀ k,S k→S' k):oR S' T w w':=⟨h.os,h.tape,h.output,h.size,fun k hk hn=>h.block k hk (fun e=>hn (hs _ e))⟩
theorem Stay.of_ext(h:Ext w w'):Stay C w w':=fun _ _ _ hc=>h.cell hc
theorem yRs.of_ext{i:Nat}(h:Ext w w'):yRs F C T i w w':=⟨oR.of_ext h,Stay.of_ext h⟩
theorem yR.of_ext(h:Ext w w'):yR F C T w w':=⟨oR.of_ext h,Stay.of_ext h⟩
theorem yRs.refl(F:Nat→Nat→Prop)(C:Addr→Prop)(T:Tg):∀ i w,yRs F C T i w w:=fun i w=>yRs.of_ext (Ext.refl w)
theorem yR.refl(F:Nat→Nat→Prop)(C:Addr→Prop)(T:Tg):∀ w,yR F C T w w:=fun w=>yR.of_ext (Ext.refl w)
theorem yR.sz(F:Nat→Nat→Prop)(C:Addr→Prop)(T:Tg):∀ a b,yR F C T a b→a.heap.size≤b.heap.size:=fun _ _ h=>h.1.size
theorem yR.trans(F:Nat→Nat→Prop)(C:Addr→Prop)(T:Tg):∀ a b c,yR F C T a b→yR F C T b c→yR F C T a c:=fun _ _ _ h1 h2=>⟨oR.trans _ _ _ _ _ h1.1 h2.1,fun p u hp hc=>h2.2 p u hp (h1.2 p u hp hc)⟩
theorem yR.drew(F:Nat→Nat→Prop)(C:Addr→Prop)(T:Tg)(w:World):yR F C T w w.drew:=yR.of_ext (Ext.drew w)
theorem yR.cell{p:Addr}{u:Value}(h:yR F C T w w')(hp:C p)(hc:w.cell? p=some u):w'.cell? p=some u:=h.2 p u hp hc
theorem yJ.stab:∀ j i,i≠j→∀ w w',yJ F T w0 j w→yRs F C T i w w'→yJ F T w0 j w':=fun j i hij w w' h1 h2=>oR.trans _ _ _ _ _ h1 (h2.1.mono fun k hk=>⟨i,hij,hk⟩)
theorem yJ.start(F:Nat→Nat→Prop)(T:Tg)(w:World):∀ i,yJ F T w i w.drew:=fun _=>oR.drew _ _ w
theorem oR.later(h:oR S T w w')(hu0:Unborn w0 T)(h0:¬ S 0)(ht:∀ k,k<w0.heap.size→T' k=T k)(hu:Unborn w T'):Turn S w T' w' T' :=
 ⟨h.os,h.tape,h.output,h.size,fun k hk hn=>h.block k hk (by
  by_cases h2:k<w0.heap.size
  ·rw[← ht k h2];exact hn
  ·rw[hu0 k (by omega)];exact h0),fun _ _=>rfl,fun k hk=>hu k (Nat.le_trans h.size hk)⟩
theorem yP.stab(hu0:Unborn w0 T)(h0:∀ j,¬ F j 0)(hP:∀ j,j≠K→∀ v w T' w',P v w T'→Turn (F j) w T' w' T'→P v w' T'):∀ j,j≠K→∀ v w w',yP w0 T P v w→yRs F C T j w w'→yP w0 T P v w':=by
 rintro j hj v w w' ⟨T',h1,h2,h3⟩ hR;exact⟨T',h1,fun k hk=>h2 k (Nat.le_trans hR.1.size hk),hP j hj v w T' w' h3 (oR.later hR.1 hu0 (h0 j) h1 h2)⟩
theorem many_call{Pr:Program}{f:FuncId}{args:Array Value}(hu:Unborn w0 T)(hs:∀ k,S k→F K k)(hC:∀ p,C p→¬ S (T p.block))(hR:yR F C T w0 w)(h:Calls Pr f args w (Gives S w T P)) :
  Calls Pr f args w fun e w'=>∃ v,e = .returned v∧yR F C T w w'∧yRs F C T K w w'∧yP w0 T P v w':=by
 refine h.mono ?_;rintro e w' ⟨v,rfl,T',hT,hP⟩;have h1:oR S T w w':=Moved.of_turn hT;have h2:Stay C w w':=fun p u hp hc=>h1.cell hc (hC p hp);exact⟨v,rfl,⟨h1.mono (fun k hk=>⟨K,hs k hk⟩),h2⟩,⟨h1.mono hs,h2⟩,T',fun k hk=>hT.tag k (Nat.lt_of_lt_of_le hk hR.1.size),hT.unborn,hP⟩
theorem yP_val{u:Value}{Q:World→Tg→Prop}(h:yP w0 T (fun v w T=>v=u∧Q w T) v w):v=u:=by
 obtain⟨_,_,_,h,_⟩:=h;exact h
theorem yP.fin(h:yP w0 T P v w)(hR:yR F C T w0 w):∃ T',Turn (fun k=>∃ i,F i k) w0 T w T'∧P v w T':=by
 obtain⟨T',h1,h2,h3⟩:=h;exact⟨T',⟨hR.1.os,hR.1.tape,hR.1.output,hR.1.size,hR.1.block,h1,h2⟩,h3⟩
theorem many_store{t b:Nat}{vs:List Value}(h:Has w0 T t b vs)(hJ:yJ F T w0 K w)(hd:∀ j,j≠K→¬ F j t)(hK:F K t)(i:Nat)(u:Value)(hC:∀ p,C p→p≠⟨b,i,none⟩) :
  yR F C T w (w.setCell ⟨b,i,none⟩ u)∧yRs F C T K w (w.setCell ⟨b,i,none⟩ u)∧Has (w.setCell ⟨b,i,none⟩ u) T t b (vs.set i u):=by
 have h1:Has w T t b vs:=Has.moved h hJ (fun⟨j,h1,h2⟩=>hd j h1 h2);have hk:oR (F K) T w (w.setCell ⟨b,i,none⟩ u):=⟨rfl,rfl,rfl,by simp[World.setCell],fun k _ hn=>Below.heap_setCell w _ u k (fun e=>hn (by rw[e];show F K (T b);rw[h1.1];exact hK))⟩;have hs:Stay C w (w.setCell ⟨b,i,none⟩ u):=fun p v hp hc=>by
  rw[World.cell?_setCell_other (h:=fun e=>hC p hp e.symm)];exact hc
 exact⟨⟨hk.mono fun k hk=>⟨K,hk⟩,hs⟩,⟨hk,hs⟩,h1.set i u⟩
end
def nwF(t i k:Nat):Prop:=(i=7∧In (t+7) 5 k)∨(i=13∧k=t)
def nwC(gb:Nat)(p:Addr):Prop:=p.block=gb∧p.off≠7
theorem nwF_not{t j k:Nat}(h:¬ In (t+7) 5 k)(h2:k≠t):¬ nwF t j k:=fun e=>by
 rcases e with e|e
 ·exact h e.2
 ·exact h2 e.2
theorem nwF_13{t j:Nat}(hj:j≠13):¬ nwF t j t:=fun e=>by
 rcases e with e|e
 ·have:=e.2;unfold In at this;omega
 ·exact hj e.1
theorem nwF_7{t j k:Nat}(hj:j≠7)(h:In (t+7) 5 k):¬ nwF t j k:=fun e=>by
 rcases e with e|e
 ·exact hj e.1
 ·have:=e.2;unfold In at h;omega
section
variable {w w':World} {T T':Tg} {t b:Nat} {cf:Cf} {me:Nat} {tp:List UInt8} {ops:List OpT} {x:Mx} {c c':Cr} {s:Ms} {B:Nat}
theorem info_wkr:(prog.info? 113).map (fun i=>(i.zero,i.size,i.bytes))=some (some (.pointer none),1,8):=by kernel_rfl
theorem job_made(w:World):Calls prog 139 #[] w fun e w'=>e = .returned (ptrV w.heap.size)∧w'=w.alloc (.cells #[.slice none 0 0] 214):=by
 unfold ptrV;go_enter func139,ntmps139;go_wp2_with fail;go_ret;exact⟨rfl,rfl⟩
theorem StoreAt.retag{n free last jb:Nat}{gs:List (Nat×List Int)}{ty:TypeId}(h:StoreAt w T t b n free last gs)(hn:0<n)(hj:w.heap[jb]?=some (.cells #[.slice none 0 0] ty (0,0)))(hT:∀ k,k≠jb→T' k=T k):StoreAt w T' t b n free last gs:=by
 obtain⟨rb,g,mb,rf,vs,ps,h,h2⟩:=h;have cj:∀ o v,w.cell? ⟨jb,o,none⟩=some v→v = .slice none 0 0:=fun o v hv=>by
  rw[cell_of_row _ _ _ _ _ _ hj]at hv;cases o with
  | zero=>simpa using hv.symm
  | succ o=>simp at hv
 have hbl:∀ {t' b':Nat} {vs:List Value},Has w T t' b' vs→vs.length≠1→b'≠jb:=fun {t' b' vs} h hl e=>by
  obtain⟨_,ty',h9⟩:=h;rw[e,hj]at h9;have h8:=congrArg (fun q:Option Obj=>match q with|some (.cells a _ _)=>a.size|_=>0) h9;simp at h8
  omega
 have e1:b≠jb:=hbl h.hd (by simp[storeC]);have e2:mb≠jb:=fun e=>by
  obtain⟨D,⟨es,cl,h9,_⟩,_⟩:=h.map_;rw[e,hj]at h9;cases h9
 have e3:rb≠jb:=fun e=>by
  have h9:=h.room.hd;rw[e]at h9;cases cj _ _ h9
 have e4:g≠jb:=fun e=>by
  have h9:=h.room.refs 0 hn;rw[e]at h9;cases cj _ _ h9
 refine⟨rb,g,mb,rf,vs,ps,⟨⟨by rw[hT _ e1];exact h.hd.1,h.hd.2⟩,by rw[hT _ e2];exact h.tm,by rw[hT _ e3];exact h.tr,by rw[hT _ e4];exact h.tg,h.map_,h.room,fun p hp=>?_⟩,h2⟩;have h9:=h.pics p hp;have e5:p.bl≠jb:=hbl h9 (by rw[picC,List.length_append,List.length_map,h2.1.four p hp];decide)
 exact⟨by rw[hT _ e5];exact h9.1,h9.2⟩
theorem Jobs.fresh{w w':World}{T T':Tg}{jb t:Nat}(hT:Turn (fun _=>False) w T w' T')(h1:w.heap.size≤jb)(h2:w'.heap[jb]?=some (.cells #[.slice none 0 0] 214 (0,0))):Turn (fun _=>False) w T w' (fun k=>if k=jb then t else T' k)∧JobsAt w' (fun k=>if k=jb then t else T' k) t jb:=by
 refine⟨⟨hT.os,hT.tape,hT.output,hT.size,hT.block,fun k hk=>?_,fun k hk=>?_⟩,none,0,0,by omega,⟨?_,_,h2⟩,⟨Nat.le_refl _,Nat.zero_le _,fun _=>rfl,fun a h=>by cases h⟩⟩
 ·show(if k=jb then t else T' k)=T k
  rw[if_neg (by omega)];exact hT.tag k hk
 ·show(if k=jb then t else T' k)=0
  have:=(Array.getElem?_eq_some_iff.1 h2).1;rw[if_neg (by omega)];exact hT.unborn k hk
 ·show(if jb=jb then t else T' jb)=t
  rw[if_pos rfl]
theorem front_new(n d:Nat)(hn:0<n):(Cr.new n d).front=d:=by
 obtain⟨k,rfl⟩:∃ k,n=k+1:=⟨n-1,by omega⟩;unfold Cr.front Cr.new;simp only[List.replicate_succ,frontL,List.length_replicate];have h:∀ j m:Nat,(List.replicate j (List.replicate d (0:UInt8))).foldl (fun n x=>min n x.length) d=d:=by
  intro j;induction j with
  | zero=>intro _;rfl
  | succ j ih =>
   intro m;rw[List.replicate_succ,List.foldl_cons,List.length_replicate,Nat.min_self];exact ih m
 exact h k 0
theorem wp_new(m:Nat):wp (List.replicate m wk0)=[]:=by
 unfold wp;induction m with
 | zero=>rfl
 | succ m ih=>rw[List.replicate_succ,List.flatMap_cons,ih];rfl
theorem MOk.new(tp:List UInt8)(ops:List OpT)(fr:Nat){G:List Int}(hG:okG G)(m:Nat):MOk tp ops fr 1 G [(1,G)] 0 [] (List.replicate m wk0) :=
 ⟨by simp,hG,by simp,by simp,fun x h=>by simp at h,fun k hk hb=>by rw[(List.mem_replicate.1 hk).2]at hb;exact absurd hb (by decide),by rw[wp_new];exact List.Perm.refl _⟩
def mulN(xb:Nat)(tp:List UInt8)(A:Option Addr)(an ad sb:Nat)(tr:Value)(jb:Nat)(WA:Option Addr)(wn wc base fr:Nat):List Value:=[ptrV xb,.string (bs tp),.slice A an ad,ptrV sb,tr,ptrV jb,.slice WA wn wc,.int .i64 (base:Nat),.int .i64 (fr:Nat)]
structure MNew(w:World)(T:Tg)(t:Nat)(cf:Cf)(me:Nat)(tp:List UInt8)(l:List OpT)(gc xb cb qb:Nat)(ps:Nat→Nat)(sb jb free last:Nat)(gs:List (Nat×List Int))(B:Option Addr)(n bd:Nat)(c:Cr):Prop where
 cf_:Has w T 0 gc (confCells cf me)
 op:Row w T (t+1) 127 4 B n bd (opcs l)
 st:StoreAt w T (t+7) sb (4*cf.room) free last gs
 jo:JobsAt w T (t+14) jb
 pl:PlainAt w T (t+16) xb cf me tp l cb qb ps c c.front
theorem MNew.turn{S:Nat→Prop}{gc xb cb qb sb jb free last n bd:Nat}{ps:Nat→Nat}{l:List OpT}{gs:List (Nat×List Int)}{B:Option Addr}(h:MNew w T t cf me tp l gc xb cb qb ps sb jb free last gs B n bd c)(hl8:c.ls.length≤8)(hT:Turn S w T w' T')(h0:¬ S 0)(h1:∀ k,In t 40 k→k≠t→k≠t+2→¬ S k):MNew w' T' t cf me tp l gc xb cb qb ps sb jb free last gs B n bd c :=
 ⟨h.cf_.turn hT h0,h.op.turn hT (h1 _ (by unfold In;omega) (by omega) (by omega)),h.st.turn hT (fun k hk=>h1 _ (by unfold In at *;omega) (by unfold In at *;omega) (by unfold In at *;omega)),h.jo.turn hT (h1 _ (by unfold In;omega) (by omega) (by omega)) (h1 _ (by unfold In;omega) (by omega) (by omega)),h.pl.turn hT (fun k hk=>h1 _ (by unfold In at *;omega) (by unfold In at *;omega) (by unfold In at *;omega))⟩
def wrkRel(w:World)(T:Tg)(t b:Nat)(n:Nat)(C0:Option Addr→Nat→Nat→List Value)(K:List Value)(iv:Value)(wr:World):Prop :=
 ∃(k:Nat) (T':Tg) (WA:Option Addr) (wc:Nat) (wb:List Nat),iv = .int .i64 (k:Nat)∧k≤n∧wb.length=k∧Turn (fun j=>j=t∨j=t+2) w T wr T'∧Has wr T' t b (C0 WA wb.length wc)∧Row wr T' (t+2) 113 1 WA wb.length wc (wb.map ptrV)∧∀(i:Nat) q,wb[i]?=some q→Has wr T' (t+3+i) q K
theorem mul_new(w:World)(T:Tg)(hu:Unborn w T)(cf:Cf)(me:Nat)(hok:CfOk cf)(hme:me<cf.n)(t:Nat)(ht:0<t)(hT0:∀ k,k<w.heap.size→¬ In t 40 (T k))(tp:List UInt8)(l:List OpT){A:Option Addr}{n d:Nat}(hRo:Ro w A n d l)(htp:tp.length≤1099511627776)(hfl:faultL tp l = -1)(hll:l.length≤64) :
  Calls prog 97 #[confV cf me,pAgg tp A n d,.slice none 0 0] w (Gives (fun _=>False) w T fun v w' T'=>∃ b,v = .tuple #[ptrV b,.int .i64 0]∧MultiAt w' T' t b cf me tp l (Cr.new cf.n cf.delay) 10):=by
 have Hpl:=hqd fun W (e:Ext w W)=>plain_new W T (hu.ext e) cf me hok hme (t+16) (by omega) (fun k hk hin=>by
  by_cases h:k<w.heap.size
  ·exact hT0 k h (by unfold In at *;omega)
  ·rw[hu k (by omega)]at hin;unfold In at hin;omega) tp l (hRo.ext e) htp hfl hll
 have Hop:=hqd (opcs_one l);have Hl8:=hqd (show(Cr.new cf.n cf.delay).ls.length≤8 by simp only[Cr.new,List.length_replicate];exact hok.n8);have h41:1≤cf.room:=by have:=hok.room3;omega
 have Hsn:=hqd fun W T1 (h1:Unborn W T1)=>snap_new W T1 h1 (t+7) (by omega) cf.room h41 hok.room;have Hjo:=hqd fun W=>job_made W;unfold confV pAgg at *;go_enter func97,ntmps97;go_upto_region 1 with fail
 have x0:=(Ext.alloc w (.cells (confCells cf me).toArray 26)).trans (Ext.alloc _ (.cells #[.string (bs tp),.slice A n d] 65));have hb:=(Has.new w (fun _=>0) (confCells cf me) 26 rfl).2;have hp:=(Has.new (w.alloc (.cells (confCells cf me).toArray 26)) (fun _=>0) [.string (bs tp),.slice A n d] 65 (b:=w.heap.size+1) (by simp)).2;have hb:Has _ T 0 w.heap.size _:=(show Has _ T 0 w.heap.size _ from⟨hu _ (Nat.le_refl _),hb⟩).ext (Ext.alloc _ (.cells #[.string (bs tp),.slice A n d] 65));have hp:Has _ T 0 (w.heap.size+1) _:=⟨hu _ (by omega),hp⟩;unfold confCells at *;generalize hW:World.alloc (World.alloc w _) _=W0 at *;obtain⟨gc,hgc⟩:∃ gc,gc=w.heap.size:=⟨_,rfl⟩;obtain⟨gp,hgp⟩:∃ gp,gp=w.heap.size+1:=⟨_,rfl⟩;rw[← hgp]at hp ⊢;rw[← hgc]at hb ⊢;have Hgp:=hqd (show w.heap.size≤gp by omega);have Hgc:=hqd (show w.heap.size≤gc by omega);have Hne:=hqd (show gc≠gp by omega);clear hW hgc hgp;have hl10:[Value.int .i64 (cf.n:Nat),.int .i64 (me:Nat),.int .i64 (cf.id:Nat),.int .i64 (cf.delay:Nat),.int .i64 (cf.window:Nat),.int .i64 (cf.guess:Nat),.int .i64 (cf.order:Nat),.int .i64 (cf.branches:Nat),.int .i64 (cf.workers:Nat),.int .i64 (cf.room:Nat)].length=10:=rfl;have hbA:=hb.all;have p0:=hp.cell (i:=0) rfl;have p1:=hp.cell (i:=1) rfl;have HB:=hqd hb;have HP:=hqd hp;clear hb hp;go_wp2_with (first|(with_reducible refine wpList_load_st rfl 26 (.tmp 3) rfl rfl underlying26 size_conf hl10 hbA ?_))
 refine(Hpl.out W0 x0).mono ?_;rintro e w1 ⟨v,rfl,T1,hT1,xb,cb,qb,ps,rfl,hP1⟩;have x1:Ext W0 w1:=⟨hT1.os,hT1.tape,hT1.output,hT1.size,fun k hk=>hT1.block k hk (fun h=>h)⟩;have hp1:=HP.out.turn hT1 (fun h=>h);have hRo1:Ro w1 A n d l:=hRo.ext (x0.trans x1);have HT1:=hqd ((Turn.of_ext (fun _=>False) hu x0).trans hT1);have HP1:=hqd hP1;have HB1:=hqd (HB.out.turn hT1 (fun h=>h));have p1:=hp1.cell (i:=1) rfl;have hnl:=hRo.len;have hn64:n≤64:=by omega
 have hop1:∀ u∈opcs l,u.oneCell'=true:=Hop.out;have HX1:=hqd (x0.trans x1);clear hnl x1 hT1 hP1 p0 hbA;obtain⟨i0,hi,hz0,hz1,hz2⟩:=info_parts info_op9;go_upto_region 5 with (at_builtin;refine wpList_append_nil _ rfl _ _ 63 rfl w1.heap.size 127 i0 (.agg #[.int .i64 0,.int .i64 0,.int .i64 0,.int .i64 0]) 4 32 underlying63 hi hz0 hz1 hz2 rfl (by decide) rfl A n d _ rfl hRo1 hop1 (by unfold maxLen;omega) (by omega) (Nat.le_refl _) ?_;intro B2 bd2 w5 ho5 e5;have hp5:=hp1.ext e5;have q1:=hp5.cell (i:=1) rfl;have qf:=hp5.free 1)
 have hTu:=HT1.out.unborn;obtain⟨hTr,hRow⟩:=Row.fresh hTu ho5 e5 (t+1);have hgp5:give T1 (Proofs.YtffcefoadaogbaaGreat.went none B2) (t+1) gp=0:=by rw[hTr.tag gp hp1.lt];exact hp1.1
 have hgc5:give T1 (Proofs.YtffcefoadaogbaaGreat.went none B2) (t+1) gc=0:=by rw[hTr.tag gc HB1.out.lt];exact HB1.out.1
 have hTs:Turn (· = 0) w5 (give T1 (Proofs.YtffcefoadaogbaaGreat.went none B2) (t+1)) (w5.setCell ⟨gp,1,none⟩ (.slice B2 n bd2)) (give T1 (Proofs.YtffcefoadaogbaaGreat.went none B2) (t+1)):=Turn.of_set hTr.unborn _ _ hgp5;have hP5:=(HP1.out.turn hTr (fun _ _ h=>h)).turn hTs (fun k hk=>by unfold In at hk;omega);have hR5:=hRow.turn hTs (by omega);have hp6:=(hp5.of hgp5).set 1 (.slice B2 n bd2);have hb6:=(((HB1.out.ext e5).of hgc5).set_other (a:=⟨gp,1,none⟩) (by exact fun e=>Hne.out e.symm) (.slice B2 n bd2));have hTw:=((HT1.out.trans hTr).set ⟨gp,1,none⟩ (.slice B2 n bd2) (.inr Hgp.out));generalize give T1 (Proofs.YtffcefoadaogbaaGreat.went none B2) (t+1)=T5 at *;generalize hW6:World.setCell w5 _ _=w6 at *;have p0:=hp6.cell (i:=0) rfl;have p1:=hp6.cell (i:=1) rfl;have k9:=hb6.cell (i:=9) rfl;have HP5:=hqd hP5;have HR5:=hqd hR5;have HTw:=hqd hTw;have HB6:=hqd hb6;clear hW6 hTs hRow hTr hp5 q1 qf hP5 hR5 hTw hb6 hp6 hp1 hgp5 hgc5 hTu;have hu6:=HTw.out.unborn;apply wrN 6;simp only[tk];repeat apply lxA (fun _ h _=>aj (h.cell p0) (aj (h.cell p1) (h.cell k9)))
 apply lex_call (p:=fun u W=>∃ T' sb,u=ptrV sb∧Turn (fun _=>False) w6 T5 W T'∧StoreAt W T' (t+7) sb (4*cf.room) (4*cf.room) 0 []) (fun _ _ _ ⟨T',sb,h1,h2,h3⟩ he=>⟨T',sb,h1,h2.ext he,h3.ext he⟩)
 ·rfl
 ·intro W
  go_simp;exact⟨rfl,rfl⟩
 ·intro W hR hΦ
  refine(Hsn.out W T5 (hu6.ext hR)).mono ?_;rintro e w' ⟨v,rfl,T',hT',sb,rfl,hq⟩;exact⟨_,rfl,⟨hT'.os,hT'.tape,hT'.output,hT'.size,fun k hk=>hT'.block k hk (fun h=>h)⟩,T',sb,rfl,(Turn.of_ext _ hu6 hR).trans hT',hq⟩
 intro v1;simp only[pu];apply lex_call (p:=fun u W=>∃ jb,u=ptrV jb∧w6.heap.size≤jb∧W.heap[jb]?=some (.cells #[.slice none 0 0] 214 (0,0))) (fun _ _ _ ⟨jb,h1,h2,h3⟩ he=>⟨jb,h1,h2,by rw[he.block jb (by have:=Array.getElem?_eq_some_iff.1 h3;exact this.1)];exact h3⟩)
 ·rfl
 ·intro W
  go_simp;exact⟨rfl,rfl⟩
 ·intro W hR hΦ
  refine(Hjo.out W).mono ?_;rintro e w' ⟨rfl,rfl⟩;exact⟨_,rfl,Ext.alloc _ _,W.heap.size,rfl,hR.size,heap_alloc_new W _⟩
 intro v2;simp only[pu];refine lex_nil ?_;intro Wx hWx hΦ;obtain⟨jb,rfl,hj0,hj⟩:=hΦ.1 rfl;obtain⟨T9,sb,rfl,hT9,hS9⟩:=hΦ.2.1 rfl;clear hΦ;simp only[dk];obtain⟨hTj,hJj⟩:=Jobs.fresh (t:=t+14) hT9 hj0 hj;have hSj:=hS9.retag (T':=fun k=>if k=jb then t+14 else T9 k) (by omega) hj (fun k hk=>by show(if k=jb then t+14 else T9 k)=T9 k;rw[if_neg hk]);generalize (fun k=>if k=jb then t+14 else T9 k)=Tj at *;have HSj:=hqd hSj;have HJj:=hqd hJj;have HPj:=hqd (HP5.out.turn hTj (fun _ _ h=>h));have HRj:=hqd (HR5.out.turn hTj (fun h=>h));have HBj:=hqd (HB6.out.turn hTj (fun h=>h));have HTj:=hqd (HTw.out.trans hTj);unfold ptrV at *;clear hSj hJj hTj hS9 hT9 hj p0 p1 k9 HP5 HR5 HB6 HTw hu6;go_upto_region 6 with fail
 obtain⟨hT0',hH0⟩:=Has.fresh HTj.out.unborn (mulN xb tp B2 n bd2 sb (.pointer none) jb none 0 0 0 0) 112 t;generalize hW7:World.alloc Wx _=w7;have hW7':Wx.alloc (.cells (mulN xb tp B2 n bd2 sb (.pointer none) jb none 0 0 0 0).toArray 112)=w7:=by rw[← hW7];rfl
 rw[hW7']at hT0' hH0;clear hW7 hW7';generalize Wx.heap.size=gb at *;have hB7:=HBj.out.turn hT0' (fun h=>h);have HM7:=hqd (show MNew w7 _ t cf me tp l gc xb cb qb ps sb jb _ _ _ B2 n bd2 _ from⟨hB7,HRj.out.turn hT0' (fun h=>h),HSj.out.turn hT0' (fun _ _ h=>h),HJj.out.turn hT0' (fun h=>h) (fun h=>h),HPj.out.turn hT0' (fun _ _ h=>h)⟩);have HT7:=hqd (HTj.out.trans hT0');have hu:=HT7.out.unborn;clear hT0' HSj HJj HPj HRj HBj HTj;generalize give Tj (one gb) t=T7 at *;have b3:=hH0.cell (i:=3) rfl;have k7:=hB7.cell (i:=7) rfl;have Htr:=hqd fun W (e:Ext w7 W)=>tree_new W T7 (hu.ext e) (t+12) sb cf.branches hok.branches cf.delay;have hgT:Grow (fun v w' T'=>∃ q,v=ptrV q∧TreeAt w' T' (t+12) q sb cf.branches 0 0 cf.delay []):=by
  rintro v w T w' ⟨q,h1,h2⟩ e;exact⟨q,h1,h2.ext e⟩
 have HH7:=hqd hH0;clear hH0 hB7;unfold ptrV at *;apply wrH 8 (oR (fun _=>False) T7) (oRs 7 (fun _=>False) T7) (oJ 7 _) (oJ.start _ _);simp only[tk];repeat apply lxG (fun _ hR _ _=>aj (hR.cell b3 (fun h=>h)) (hR.cell k7 (fun h=>h)))
 apply lexG_call (p:=oP _ _ _ _) (by decide) (by decide) (oP.stab hgT _)
 ·rfl
 ·intro W
  go_simp;exact⟨rfl,rfl⟩
 ·intro W hR hJ hΦ
  exact one_call hu (hJ rfl) ((Htr.out) W (hJ rfl))
 intro v7;simp only[pu];refine lexG_nil ?_;intro Wx hR hap hΦ;obtain⟨T1,hT1,tbk,rfl,hTr⟩:=hΦ.1 rfl;clear hΦ hap;simp only[dk];have hHa:=HH7.out.turn hT1 (fun h=>h);have hMa:=HM7.out.turn Hl8.out hT1 (fun h=>h) (fun _ _ _ _ h=>h);have HTa:=hqd (HT7.out.trans hT1);have b4:=hHa.cell (i:=4) rfl;have f4:=hHa.free 4;obtain⟨hTs,hHs⟩:=hHa.put (S:=(· = t)) hT1.unborn 4 (ptrV tbk) rfl;have HHb:=hqd hHs;have HMb:=hqd (hMa.turn Hl8.out hTs (by omega) (fun k _ h _ e=>h e));have HRb:=hqd (hTr.turn hTs (by omega) (by omega) (by omega));have HTb:=hqd hTs;clear hHa hMa hTr hT1 hTs hHs b3 k7 HM7 HH7 Htr hgT HT7 hu;unfold ptrV at *;go_upto_region 7 with fail
 generalize hWb:World.setCell Wx _ _=w8 at *;have k8:=HMb.out.cf_.cell (i:=8) rfl;clear hWb b4 f4 hz0 hz1 hz2 hi i0;obtain⟨i0,hi,hz0,hz1,hz2⟩:=info_parts info_wkr;go_upto_region 8 with fail
 have HTb1:=hqd HTb.out.unborn;go_loopw [45] (fun iv wr=>wrkRel w8 T1 t gb cf.workers (fun WA wn wc=>mulN xb tp B2 n bd2 sb (ptrV tbk) jb WA wn wc 0 0) (wkC tp B2 n bd2 tbk jb sb wk0) iv wr) (fun iv _=>cf.workers-(intOf iv).toNat)
 case atStart=>exact⟨0,T1,none,0,[],rfl,Nat.zero_le _,rfl,Turn.refl _ HTb1.out,HHb.out,Row.nil_ _ _ _ _ _,fun i q h=>by simp at h⟩
 case round =>
  obtain⟨k,T0,WA,wc,wb,rfl,hk,hlk,hT,hH,hRw,hL⟩:=hrel;have hu0:=hT.unborn;have hw4:=hok.workers;by_cases hkn:k<cf.workers
  ·have hd1:decide (k<cf.workers)=true:=decide_eq_true hkn
   have hd1':decide ((k:Int)<(cf.workers:Int))=true:=decide_eq_true (by omega);have hlk8:wb.length≤7:=by omega
   have c1:=hH.cell (i:=1) rfl;have c2:=hH.cell (i:=2) rfl;have c3:=hH.cell (i:=3) rfl;have c4:=hH.cell (i:=4) rfl;have c5:=hH.cell (i:=5) rfl;have c6:=hH.cell (i:=6) rfl;have hne:=hH.ne_row hRw (by omega);have hPs:Stab (t+2) (fun v w T=>∃ lb,v = .pointer (some ⟨lb,0,none⟩)∧Has w T (t+3+wb.length) lb (wkC tp B2 n bd2 tbk jb sb wk0)):=by
    rintro v w T w' T' ⟨lb,rfl,h⟩ hT;exact⟨lb,rfl,h.turn hT (by omega)⟩
   have hone:∀(v:Value) (w:World) (T:Tg),(∃ lb,v = .pointer (some ⟨lb,0,none⟩)∧Has w T (t+3+wb.length) lb (wkC tp B2 n bd2 tbk jb sb wk0))→v.cells.toList.length=1∧∀ y∈v.cells.toList,y.oneCell'=true:=by
    rintro v w T ⟨lb,rfl,_⟩;exact⟨rfl,by simp[Value.cells,Value.oneCell']⟩
   have HC:=fun W (hR:gR WA wr W)=>wk_new W T0 (fun k hk=>hu0 k (Nat.le_trans hR.size hk)) (t+3+wb.length) tp B2 n bd2 tbk jb sb;have HH:=hqd hH;have HL:=hqd hL;have HT:=hqd hT;have Hlk:=hqd hlk;unfold pAgg ptrV at *;clear hH hL hT hlk;go_wp2_with fail;generalize hw0:wr=w0 at *;have hRowOwn:=(hRw).1;have hRowC:=(hRw).cond;apply wrH 24 (gR WA) (gRs 23 WA) (gJs 23 113 1 WA wb.length wc (wb.map ptrV)) (gJs.start hRowOwn);simp only[tk];repeat apply lxG (fun _ h _ _=>aj (h.cell c1 hne) (aj (h.cell c2 hne) (aj (h.cell c3 hne) (aj (h.cell c4 hne) (aj (h.cell c5 hne) (h.cell c6 hne))))))
   apply lexG_call (p:=FrP T0 w0.heap.size (fun v w T=>∃ lb,v = .pointer (some ⟨lb,0,none⟩)∧Has w T (t+3+wb.length) lb (wkC tp B2 n bd2 tbk jb sb wk0))) (by decide) (by decide) (FrP.stab hPs hRowC _)
   ·rfl
   ·intro W
    go_simp;exact⟨rfl,rfl⟩
   ·intro W hR hJ hΦ
    exact FrP.call (fun k hk=>hu0 k (Nat.le_trans hR.size hk)) hR.size (HC W hR)
   intro v1;simp only[pu];try ((repeat (apply lexG_ex (by decide) (by decide) (gR.refl _) (gRs.refl _ _);(· rfl);(· intro W hR hJ hΦ;go_simp;first|done|with_reducible rfl);simp only[pu])))
   apply lexG_new (p:=BuiltP T0 w0.heap.size (fun v w T=>∃ lb,v = .pointer (some ⟨lb,0,none⟩)∧Has w T (t+3+wb.length) lb (wkC tp B2 n bd2 tbk jb sb wk0)) 113) (by decide) (by decide) (BuiltP.stab hPs hRowC _)
   ·rfl
   ·intro W hR hJ hΦ
    have hF:=hΦ.1 rfl;have hB:=BuiltP.made (e:=113) hPs hR.size hF;obtain⟨T9,hk9,hu9,hp9⟩:=hF;obtain⟨lb,rfl,hlb⟩:=hp9;refine⟨_,_,?_,(Ext.alloc _ _).grownBy _,.inr (Ext.alloc _ _),hB⟩;go_simp;first|done|rfl
   intro v2;simp only[pu];apply lexG_new (p:=AppP T0 w0.heap.size (fun v w T=>∃ lb,v = .pointer (some ⟨lb,0,none⟩)∧Has w T (t+3+wb.length) lb (wkC tp B2 n bd2 tbk jb sb wk0)) (t+2) WA 113 1 (wb.length+1) (wb.map ptrV)) (by decide) (by decide) (fun j hj v w w9 h hR=>AppP.stab j hj v w w9 h hPs hR)
   ·rfl
   ·intro W hR hJ hΦ
    exact exec_append_call W _ _ 109 rfl 113 i0 (.pointer none) 1 8 underlying109 hi hz0 hz1 hz2 rfl (by decide) WA wb.length wc ((wb.map ptrV)) rfl (hJ rfl) v2 rfl (hΦ.1 rfl) hone (by unfold maxLen;omega) (by omega) hRowC hPs hR.size
   intro v3;simp only[pu];repeat apply lxG (fun _ h _ _=>aj (h.cell c1 hne) (aj (h.cell c2 hne) (aj (h.cell c3 hne) (aj (h.cell c4 hne) (aj (h.cell c5 hne) (h.cell c6 hne))))))
   refine lexG_nil ?_;intro W hR hap hΦ;obtain⟨u1,T1,E,Ed,rfl,hT1,hP1,hRow1,hWent⟩:=(hΦ.1 rfl).fin hR hRowC;clear hΦ hap;simp only[dk];obtain⟨lb,rfl,hlb⟩:=hP1;have hH1:=HH.out.turn hT1 (by omega);have c6:=hH1.cell (i:=6) rfl;have f6:=hH1.free 6;obtain⟨hTs,hHs⟩:=hH1.put (S:=(· = t)) hT1.unborn 6 (.slice E (wb.length+1) Ed) rfl;have hLs:∀(i:Nat) q,(wb++[lb])[i]?=some q→Has _ T1 (t+3+i) q (wkC tp B2 n bd2 tbk jb sb wk0):=fun i q hq=>by
    by_cases h:i<wb.length
    ·rw[List.getElem?_append_left h]at hq
     exact((HL.out i q hq).turn hT1 (by omega)).turn hTs (by omega)
    ·rw[List.getElem?_append_right (by omega)]at hq
     have e:i=wb.length:=by
      have:=(List.getElem?_eq_some_iff.1 hq).1;simp at this
      omega
     subst e;simp only[Nat.sub_self,List.getElem?_cons_zero,Option.some.injEq]at hq;subst hq;exact hlb.turn hTs (by omega)
   have HTs:=hqd ((HT.out.trans (hT1.mono (fun k h=>.inr h))).trans (hTs.mono (fun k h=>.inl h)));have HLs:=hqd hLs;have HHs:=hqd hHs;have HRs:=hqd (hRow1.turn hTs (by omega));clear hH1 hlb hRow1 hT1 hTs hHs hLs;go_wp2_with fail;go_roundw
   case rel =>
    have hl2:(wb++[lb]).length=wb.length+1:=by simp
    refine⟨k+1,T1,E,Ed,wb++[lb],by go_num,by omega,by rw[hl2,Hlk.out],HTs.out,by rw[hl2];exact HHs.out,?_,HLs.out⟩;rw[hl2,List.map_append];exact HRs.out
   case measure=>simp[intOf];omega
  ·obtain rfl:k=cf.workers:=by omega
   have hu:=hT.unborn;have hMe:=HMb.out.turn Hl8.out hT (by omega) (fun k _ h1 h2 e=>by rcases e with e|e;exact h1 e;exact h2 e);have HRe:=hqd (HRb.out.turn hT (by omega) (by omega) (by omega));have c0:=hH.cell (i:=0) rfl;have c3:=hH.cell (i:=3) rfl;have hTg:T0 gb=t:=hH.1;obtain⟨PA,pn,pd,hPh,_⟩:=hMe.pl.blk;have hPT:¬ ∃ i,nwF t i (t+16):=fun⟨i,h⟩=>nwF_not (by unfold In;omega) (by omega) h;have hPS:∀ k,In (t+7) 5 k→¬ ∃ i,i≠7∧nwF t i k:=fun k hk ⟨i,h1,h⟩=>nwF_7 h1 hk h;have hkp:∀ j,j≠13→∀(v:Value) w w',Has w T0 t gb (mulN xb tp B2 n bd2 sb (ptrV tbk) jb WA wb.length wc 1 0)→yRs (nwF t) (nwC gb) T0 j w w'→Has w' T0 t gb (mulN xb tp B2 n bd2 sb (ptrV tbk) jb WA wb.length wc 1 0):=fun j hj v w w' h hR=>h.moved hR.1 (nwF_13 hj);have hC7:=hqd (show ∀ p:Addr,nwC gb p→¬ In (t+7) 5 (T0 p.block) from fun p hp h=>by rw[hp.1,hTg]at h;unfold In at h;omega);have hC13:=hqd (show ∀ p:Addr,nwC gb p→p≠⟨gb,7,none⟩ from fun p hp h=>hp.2 (by rw[h]));have Hg:=hqd fun W (hR:yR (nwF t) (nwC gb) T0 wr W)=>plain_game_has (hPh.moved hR.1 hPT);have Hmk:=hqd fun W (e:yJ (nwF t) T0 wr 7 W)=>at_make (hMe.st.turn (oR.turn e hu) hPS) (by omega) (gameAt_ok tp l (Cr.new cf.n cf.delay).ls (Cr.new cf.n cf.delay).front).1 (oR.turn e hu).unborn (by omega) (by omega) (by simp);have hgP:∀ j,j≠7→∀ v w w',yP wr T0 (fun v w' T'=>v = .tuple #[.int .i64 ((0+1:Nat):Int),.bool true]∧StoreAt w' T' (t+7) sb (4*cf.room) (4*cf.room-4) (0+1) ([]++[(0+1,gameAt tp l (Cr.new cf.n cf.delay).ls (Cr.new cf.n cf.delay).front)])) v w→yRs (nwF t) (nwC gb) T0 j w w'→yP wr T0 (fun v w' T'=>v = .tuple #[.int .i64 ((0+1:Nat):Int),.bool true]∧StoreAt w' T' (t+7) sb (4*cf.room) (4*cf.room-4) (0+1) ([]++[(0+1,gameAt tp l (Cr.new cf.n cf.delay).ls (Cr.new cf.n cf.delay).front)])) v w':=by
    refine yP.stab hu (fun j=>nwF_not (by unfold In;omega) (by omega)) ?_;rintro j hj v w T w' ⟨h1,h2⟩ hT;exact⟨h1,h2.turn hT fun k hk=>nwF_7 hj hk⟩
   have HMe:=hqd hMe;have HHe:=hqd hH;have HTe:=hqd hT;have HRw:=hqd hRw;have HLe:=hqd hL;have Hlk:=hqd hlk;unfold ptrV at *;clear hMe hPh hTg hH hT hRw hL HMb HRb HHb hlk;go_wp2_with fail;apply wrG (yR (nwF t) (nwC gb) T0) (yRs (nwF t) (nwC gb) T0) (yJ (nwF t) T0 _) (yJ.start _ _ _);repeat apply lxG (fun _ h _ _=>aj (h.cell ⟨rfl,(by decide:(0:Nat)≠7)⟩ c0) (h.cell ⟨rfl,(by decide:(3:Nat)≠7)⟩ c3))
   apply lexG_callx (by decide) (by decide)
   ·rfl
   ·intro W
    go_simp;exact⟨rfl,rfl⟩
   ·intro W hR hJ hΦ
    refine((fun W hR=>Hg.out W hR) W hR).mono ?_;rintro e w' ⟨rfl,ee⟩;have ex:Ext W w':=by first|exact ee|(subst ee;exact Ext.refl _)
    exact⟨rfl,yR.of_ext ex,yRs.of_ext ex⟩
   simp only[pu];apply lexG_call (p:=yP _ T0 _) (by decide) (by decide) (hgP)
   ·rfl
   ·intro W
    go_simp;exact⟨rfl,rfl⟩
   ·intro W hR hJ hΦ
    exact many_call hu (fun k hk=>.inl ⟨rfl,hk⟩) (hC7.out) hR ((Hmk.out) W hJ)
   intro v9;simp only[pu];repeat apply lxG (fun _ _ _ hΦ=>yP_val (hΦ.1 rfl))
   apply lexG_eff (p:=fun _ W=>Has W T0 t gb (mulN xb tp B2 n bd2 sb (ptrV tbk) jb WA wb.length wc 1 0)) (by decide) (by decide) hkp
   ·rfl
   ·intro W hR hJ hΦ
    have h9:=many_store HHe.out hJ (fun j hj=>nwF_13 hj) (.inr ⟨rfl,rfl⟩) 7 (.int .i64 1) hC13.out;have c7:=(Has.moved HHe.out hJ (fun⟨i,h1,h⟩=>nwF_13 h1 h)).cell (i:=7) rfl;have f7:=(Has.moved HHe.out hJ (fun⟨i,h1,h⟩=>nwF_13 h1 h)).free 7;refine⟨W.setCell ⟨gb,7,none⟩ (.int .i64 1),?_,h9.1,h9.2.1,h9.2.2⟩;go_simp;first|done|rfl
   intro v13;simp only[Act.put];refine lexG_nil ?_;intro Wx hR hap hΦ;have hH2:=hΦ.1 rfl;obtain⟨T1,hT1,_,hS1⟩:=(hΦ.2.1 rfl).fin hR;clear hΦ hap;have hno:∀ k,¬ In (t+7) 5 k→k≠t→¬ ∃ i,nwF t i k:=fun k h1 h2 ⟨i,h⟩=>nwF_not h1 h2 h;have hM2:MNew Wx T1 t cf me tp l gc xb cb qb ps sb jb _ _ _ B2 n bd2 (Cr.new cf.n cf.delay):=⟨HMe.out.cf_.turn hT1 (hno _ (by unfold In;omega) (by omega)),HMe.out.op.turn hT1 (hno _ (by unfold In;omega) (by omega)),hS1,HMe.out.jo.turn hT1 (hno _ (by unfold In;omega) (by omega)) (hno _ (by unfold In;omega) (by omega)),HMe.out.pl.turn hT1 (fun k hk=>hno _ (by have:=Hl8.out;unfold In at *;omega) (by unfold In at hk;omega))⟩;have HM2:=hqd hM2;have HRw2:=hqd (HRw.out.turn hT1 (hno _ (by unfold In;omega) (by omega)));have HRe2:=hqd (HRe.out.turn hT1 (hno _ (by unfold In;omega) (by omega)) (hno _ (by unfold In;omega) (by omega)) (hno _ (by unfold In;omega) (by omega)));have HLe2:=hqd (show ∀(i:Nat) q,wb[i]?=some q→Has Wx T1 (t+3+i) q (wkC tp B2 n bd2 tbk jb sb wk0) from fun i q h=>(HLe.out i q h).turn hT1 (hno _ (by have:=(List.getElem?_eq_some_iff.1 h).1;have:=Hlk.out;unfold In;omega) (by omega)));have hH3:Has Wx T1 t gb (mulN xb tp B2 n bd2 sb (ptrV tbk) jb WA wb.length wc 1 0):=hH2.of ((hT1.tag gb HHe.out.lt).trans HHe.out.1);have HT3:=hqd ((HTe.out.mono (fun k h=>(show(k=t∨k=t+2∨In (t+7) 5 k) by omega))).trans (hT1.mono fun k ⟨i,h⟩=>by
    rcases h with h|h
    ·exact .inr (.inr h.2)
    ·exact .inl h.2))
   have k3:=hM2.cf_.cell (i:=3) rfl;have c8:=hH3.cell (i:=8) rfl;have f8:=hH3.free 8;obtain⟨hTs,hHs⟩:=hH3.put (S:=(· = t)) hT1.unborn 8 (.int .i64 (cf.delay:Nat)) rfl;have HTs:=hqd hTs;have HHs:=hqd hHs;unfold ptrV at *;clear hM2 hH2 hS1 hT1 hH3 hTs hHs HMe HRw HRe HLe HTe HHe c0 c3 hno hPT hPS hkp hgP Hg Hmk hC7 hC13;go_wp2_with fail;go_ret2
   have hfr:=front_new cf.n cf.delay (by have:=hok.n2;omega);have hTT:=(HTb.out.mono (fun k h=>(show(k=t∨k=t+2∨In (t+7) 5 k) from .inl h))).trans (HT3.out.trans (HTs.out.mono fun k h=>.inl h));have hM3:=HM2.out.turn Hl8.out HTs.out (by omega) (fun k _ h1 _ h=>h1 h);refine⟨_,rfl,T1,HTa.out.fresh hTT (fun k hk h=>hT0 k hk (by unfold In at *;omega)),gb,rfl,⟨xb,cb,qb,ps,sb,tbk,jb,B2,n,bd2,WA,wc,wb⟩,⟨1,cf.delay,4*cf.room-4,1,0,0,[(1,gameAt tp l (Cr.new cf.n cf.delay).ls (Cr.new cf.n cf.delay).front)],[],List.replicate cf.workers wk0⟩,⟨HHs.out,hM3.op,HRw2.out.turn HTs.out (by omega),Hlk.out,by simp,fun i q k h1 h2=>?_,hM3.st,HRe2.out.turn HTs.out (by omega) (by omega) (by omega),hM3.jo,hM3.pl,?_,fun y h=>by cases h⟩,hfr.symm,(by decide:(1:Nat)≤10),(by decide:(0:Nat)≤10),(by decide:(0:Nat)≤10)⟩
   ·rw[List.getElem?_replicate]at h2
    split at h2
    ·cases h2
     exact(HLe2.out i q h1).turn HTs.out (by omega)
    ·cases h2
   ·rw[hfr]
    exact MOk.new tp l cf.delay (gameAt_ok tp l _ _) cf.workers
end
def pv(ah:Bool)(b:Nat):Value:=if ah=true then .iface 53 (.pointer (some ⟨b,0,none⟩)) else .iface 105 (.pointer (some ⟨b,0,none⟩))
def PlayerAt(ah:Bool)(w:World)(T:Tg)(t b:Nat)(cf:Cf)(me:Nat)(tp:List UInt8)(ops:List OpT)(c:Cr)(B:Nat):Prop :=
 if ah=true then MultiAt w T t b cf me tp ops c B else ∃ cb qb ps,PlainAt w T t b cf me tp ops cb qb ps c c.front
section
variable {ah:Bool} {w w':World} {T T':Tg} {t b:Nat} {cf:Cf} {me:Nat} {tp:List UInt8} {ops:List OpT} {c c':Cr} {B:Nat}
theorem PlayerAt.turn{S:Nat→Prop}(h:PlayerAt ah w T t b cf me tp ops c B)(hw:cf.workers≤4)(hl:c.ls.length≤8)(hT:Turn S w T w' T')(h0:¬ S 0)(hs:∀ k,In t 40 k→¬ S k):PlayerAt ah w' T' t b cf me tp ops c B:=by
 unfold PlayerAt at *;split
 ·rename_i e
  rw[if_pos e]at h;exact h.turn hw hl hT h0 hs
 ·rename_i e
  rw[if_neg e]at h;obtain⟨cb,qb,ps,h⟩:=h;exact⟨cb,qb,ps,h.turn hT fun k hk=>hs k (by unfold In at *;omega)⟩
theorem PlayerAt.ext(h:PlayerAt ah w T t b cf me tp ops c B)(e:Ext w w'):PlayerAt ah w' T t b cf me tp ops c B:=by
 unfold PlayerAt at *;split
 ·rename_i e1
  rw[if_pos e1]at h;exact h.ext e
 ·rename_i e1
  rw[if_neg e1]at h;obtain⟨cb,qb,ps,h⟩:=h;exact⟨cb,qb,ps,h.ext e⟩
theorem PlayerAt.mono(h:PlayerAt ah w T t b cf me tp ops c B){B':Nat}(hB:B≤B'):PlayerAt ah w T t b cf me tp ops c B':=by
 unfold PlayerAt at *;split
 ·rename_i e1
  rw[if_pos e1]at h;exact h.mono hB
 ·rename_i e1
  rw[if_neg e1]at h;exact h
theorem in24{k:Nat}(h:In t 24 k):In t 40 k:=by unfold In at *;omega
theorem play_press(h:PlayerAt ah w T t b cf me tp ops c B)(u:UInt8)(hk:CrOk cf me c [])(hu:Unborn w T)(ht:0<t)(htp:tp.length≤1099511627776)(hQ:WordsOk tp ops cf (c.press me cf.window u))(hB:B≤700000000) :
  Calls prog (if ah=true then 257 else 272) #[ptrV b,.int .u8 (u.toNat:Nat)] w (Does (In t 40) w T (.int .i64 (c.pressE me cf.window:Nat)) fun w' T'=>PlayerAt ah w' T' t b cf me tp ops (c.press me cf.window u) (B+20)):=by
 cases ah with
 | true=>exact mul_press h u hk hu ht htp hQ hB
 | false =>
  obtain⟨cb,qb,ps,h⟩:=h;refine(plain_press h u hk (hk.press u) hu ht htp hQ).mono ?_;rintro e w' ⟨rfl,T',hT,hP⟩;exact⟨rfl,T',hT.mono fun k=>in24,cb,qb,ps,hP⟩
theorem play_recv(h:PlayerAt ah w T t b cf me tp ops c B)(p:Pk)(hk:CrOk cf me c [])(hk':CrOk cf me (c.recv me p) [])(hu:Unborn w T)(ht:0<t)(htp:tp.length≤1099511627776){A:Option Addr}{n d:Nat}(hp:okPk p)(hdst:p.dst=me)(hsrc:p.src<cf.n)(hb:Rb w A n d (encPk cf.id p))
  (hf9:p.quit=false→p.first≤(c.ls.getD p.src []).length∧p.first+p.press.length≤1000) (hQ:WordsOk tp ops cf (c.recv me p)) (hB:B≤700000000) :
  Calls prog (if ah=true then 259 else 274) #[ptrV b,.slice A n d] w (Does (In t 40) w T (.int .i64 (if c.closed then 6 else 0)) fun w' T'=>PlayerAt ah w' T' t b cf me tp ops (c.recv me p) (B+20)):=by
 cases ah with
 | true=>exact mul_recv h p hk hk' hu ht htp hp hdst hsrc hb hf9 hQ hB
 | false =>
  obtain⟨cb,qb,ps,h⟩:=h;refine(plain_recv h p hk hk' hu ht htp hp hdst hsrc hb hf9 hQ).mono ?_;rintro e w' ⟨rfl,T',hT,hP⟩;exact⟨rfl,T',hT.mono fun k=>in24,cb,qb,ps,hP⟩
theorem play_tick(h:PlayerAt ah w T t b cf me tp ops c B)(hk:CrOk cf me c [])(hu:Unborn w T)(hnow:c.now<1000000) :
  Calls prog (if ah=true then 260 else 275) #[ptrV b] w (Gives (In t 40) w T fun v w' T'=>∃ B2 n d,v = .slice B2 n d∧MlsT w' T' w.heap.size cf.id B2 n d (c.ticks (smP tp ops) me)∧PlayerAt ah w' T' t b cf me tp ops (c.tick me) B):=by
 cases ah with
 | true=>exact mul_tick h hk hu hnow
 | false =>
  obtain⟨cb,qb,ps,h⟩:=h;refine(plain_tick h hk hu hnow).mono ?_;rintro e w' ⟨v,rfl,T',hT,B2,n,d,rfl,hM,hP⟩;exact⟨_,rfl,T',hT.mono fun k=>in24,B2,n,d,rfl,hM,cb,qb,ps,hP⟩
theorem play_events(h:PlayerAt ah w T t b cf me tp ops c B)(hk:CrOk cf me c [])(hu:Unborn w T) :
  Calls prog (if ah=true then 256 else 271) #[ptrV b] w (Gives (In t 40) w T fun v w' T'=>∃ EA ec,v = .slice EA c.evs.length ec∧(∃ tt,In t 40 tt∧Row w' T tt 197 1 EA c.evs.length ec (c.evs.map evC))∧T'=T∧w'.heap.size=w.heap.size∧PlayerAt ah w' T' t b cf me tp ops {c with evs:=[]} B):=by
 cases ah with
 | true=>exact mul_events h hk hu
 | false =>
  obtain⟨cb,qb,ps,h⟩:=h;refine(plain_events h hu).mono ?_;rintro e w' ⟨v,rfl,T',hT,EA,ec,rfl,⟨tt,htt,hM⟩,hte,hsz,hP⟩;exact⟨_,rfl,T',hT.mono fun k=>in24,EA,ec,rfl,⟨tt,in24 htt,hM⟩,hte,hsz,cb,qb,ps,hP⟩
theorem play_confirmed(h:PlayerAt ah w T t b cf me tp ops c B)(hk:CrOk cf me c [])(hB:B≤700000000) :
  Calls prog (if ah=true then 254 else 263) #[ptrV b] w (Shown w (gameAt tp ops c.ls c.front) c.front):=by
 cases ah with
 | true=>exact mul_confirmed h hk hB
 | false =>
  obtain⟨cb,qb,ps,h⟩:=h;exact plain_confirmed h hk
def showG(tp:List UInt8)(ops:List OpT)(cf:Cf)(me:Nat)(c:Cr):List Int:=if c.head me≤c.front then gameAt tp ops c.ls c.front else dispG tp ops cf.guess cf.order me c
def showF(me:Nat)(c:Cr):Nat:=if c.head me≤c.front then c.front else c.head me
theorem play_display(h:PlayerAt ah w T t b cf me tp ops c B)(ht:0<t)(hu:Unborn w T)(hk:CrOk cf me c [])(htp:tp.length≤1099511627776)(hB:B≤700000000) :
  Calls prog (if ah=true then 255 else 266) #[ptrV b] w (Shown w (showG tp ops cf me c) (showF me c)):=by
 have key:Calls prog (if ah=true then 255 else 266) #[ptrV b] w (if c.head me≤c.front then Shown w (gameAt tp ops c.ls c.front) c.front else Shown w (dispG tp ops cf.guess cf.order me c) (c.head me)):=by
  cases ah with
  | true=>exact mul_display h ht hu hk htp hB
  | false =>
   obtain⟨cb,qb,ps,h⟩:=h;exact plain_display h hk htp
 unfold showG showF;by_cases e:c.head me≤c.front
 ·rw[if_pos e]at key
  rw[if_pos e,if_pos e];exact key
 ·rw[if_neg e]at key
  rw[if_neg e,if_neg e];exact key
end
structure Mb where
 nb:Nat
 A:Option Addr
 lc:Nat
 EA:Option Addr
 ec:Nat
 bs:Nat→Nat
 ts:Nat→Nat
 hs:Nat→Option Addr×Nat
structure MtIn(w:World)(T:Tg)(b:Nat)(cf:Cf)(tp:List UInt8)(ops:List OpT)(ah:Bool)(m:Mb)(W:Wd)(B:Nat):Prop where
 hd:Has w T 1 b [.slice m.A cf.n m.lc,ptrV m.nb,.slice m.EA cf.n m.ec]
 row:Row w T 2 40 1 m.A cf.n m.lc ((List.range cf.n).map fun i=>pv ah (m.bs i))
 evs:Row w T 3 152 1 m.EA cf.n m.ec ((List.range cf.n).map fun i=>.slice (m.hs i).1 (W.log i).length (m.hs i).2)
 ev:∀ i,i<cf.n→Row w T (4+i) 197 1 (m.hs i).1 (W.log i).length (m.hs i).2 ((W.log i).map evC)
 net:NetAt w T 12 m.nb cf.id W.net
 ts0:∀ i,i<cf.n→14≤m.ts i
 tsd:∀ i j,i<j→j<cf.n→m.ts i+40≤m.ts j
 ps:∀ i,i<cf.n→PlayerAt ah w T (m.ts i) (m.bs i) cf i tp ops (W.ps i) B
def MatchAt(w:World)(T:Tg)(b:Nat)(cf:Cf)(tp:List UInt8)(ops:List OpT)(ah:Bool)(W:Wd)(B:Nat):Prop:=∃ m,MtIn w T b cf tp ops ah m W B
structure MtOk(cf:Cf)(tp:List UInt8)(ops:List OpT)(W:Wd)(B:Nat):Prop where
 ok:CfOk cf
 tp_:tp.length≤1099511627776
 cr:∀ i,i<cf.n→CrOk cf i (W.ps i) []
 big:B≤600000000
section
variable {ah:Bool} {w w':World} {T T':Tg} {b:Nat} {cf:Cf} {tp:List UInt8} {ops:List OpT} {m:Mb} {W W':Wd} {B:Nat}
theorem MtIn.ext(h:MtIn w T b cf tp ops ah m W B)(e:Ext w w'):MtIn w' T b cf tp ops ah m W B :=
 ⟨h.hd.ext e,h.row.ext e,h.evs.ext e,fun i hi=>(h.ev i hi).ext e,h.net.ext e,h.ts0,h.tsd,fun i hi=>(h.ps i hi).ext e⟩
theorem MtIn.apart(h:MtIn w T b cf tp ops ah m W B){i j:Nat}(hi:i<cf.n)(hj:j<cf.n)(hne:i≠j){k:Nat}(hk:In (m.ts i) 40 k):¬ In (m.ts j) 40 k:=by
 unfold In at *;rcases Nat.lt_or_gt_of_ne hne with h1|h1
 ·have:=h.tsd i j h1 hj
  omega
 ·have:=h.tsd j i h1 hi
  omega
theorem MtIn.player(h:MtIn w T b cf tp ops ah m W B)(hk:MtOk cf tp ops W B){p:Nat}(hp:p<cf.n){c':Cr}{B':Nat}(hB:B≤B')(hT:Turn (In (m.ts p) 40) w T w' T')(hP:PlayerAt ah w' T' (m.ts p) (m.bs p) cf p tp ops c' B'):MtIn w' T' b cf tp ops ah m {W with ps:=updF W.ps p c'} B':=by
 have h0:=h.ts0 p hp;have hn8:=hk.ok.n8;refine⟨h.hd.turn hT (by unfold In;omega),h.row.turn hT (by unfold In;omega),h.evs.turn hT (by unfold In;omega),fun i hi=>(h.ev i hi).turn hT (by unfold In;omega),h.net.turn hT (by unfold In;omega) (by unfold In;omega) (by unfold In;omega),h.ts0,h.tsd,fun i hi=>?_⟩;by_cases e:i=p
 ·subst e
  show PlayerAt ah w' T' (m.ts i) (m.bs i) cf i tp ops (updF W.ps i c' i) B'
  rw[updF_same];exact hP
 ·show PlayerAt ah w' T' (m.ts i) (m.bs i) cf i tp ops (updF W.ps p c' i) B'
  rw[updF_other _ _ e];exact((h.ps i hi).turn hk.ok.workers (by rw[(hk.cr i hi).len];exact hn8) hT (by unfold In;omega) (fun k hk2=>h.apart hi hp e hk2)).mono hB
theorem mt_player(h:MtIn w T b cf tp ops ah m W B){p:Nat}(hp:p<cf.n):Calls prog 14 #[ptrV b,.int .i64 (p:Nat)] w fun e w'=>e = .returned (pv ah (m.bs p))∧w'=w:=by
 have c0:=h.hd.cell (i:=0) rfl;obtain⟨g,hg,cg,_,_⟩:=h.row.at_ (range_map_get cf.n _ hp);have hmx:=h.row.rd.2.1;have e1:decide (cf.n≤p)=false:=decide_eq_false (by omega);have e2:decide ((p:Int)<0)=false:=decide_eq_false (by omega);generalize pv ah (m.bs p)=v at *;rw[hg]at c0;unfold ptrV at *;clear h hg;go_enter func14,ntmps14;go_wp2_with fail;go_ret;exact⟨rfl,rfl⟩
end
def pty(ah:Bool):TypeId:=if ah=true then 53 else 105
def pPress(ah:Bool):FuncId:=if ah=true then 257 else 272
def pRecv(ah:Bool):FuncId:=if ah=true then 259 else 274
def pTick(ah:Bool):FuncId:=if ah=true then 260 else 275
def pEvents(ah:Bool):FuncId:=if ah=true then 256 else 271
def pConf(ah:Bool):FuncId:=if ah=true then 254 else 263
def pDisp(ah:Bool):FuncId:=if ah=true then 255 else 266
theorem pv_eq(ah:Bool)(b:Nat):pv ah b = .iface (pty ah) (.pointer (some ⟨b,0,none⟩)):=by cases ah<;>rfl
section
variable (ah:Bool) (b:Nat)
theorem m_press:∀ f w,(method (f+1) (pty ah) (.pointer (some ⟨b,0,none⟩)) "Press").run prog w = .ok (pPress ah,.pointer (some ⟨b,0,none⟩)) w:=by cases ah<;>(intro f w;kernel_rfl)
theorem m_recv:∀ f w,(method (f+1) (pty ah) (.pointer (some ⟨b,0,none⟩)) "Receive").run prog w = .ok (pRecv ah,.pointer (some ⟨b,0,none⟩)) w:=by cases ah<;>(intro f w;kernel_rfl)
theorem m_tick:∀ f w,(method (f+1) (pty ah) (.pointer (some ⟨b,0,none⟩)) "Tick").run prog w = .ok (pTick ah,.pointer (some ⟨b,0,none⟩)) w:=by cases ah<;>(intro f w;kernel_rfl)
theorem m_events:∀ f w,(method (f+1) (pty ah) (.pointer (some ⟨b,0,none⟩)) "Events").run prog w = .ok (pEvents ah,.pointer (some ⟨b,0,none⟩)) w:=by cases ah<;>(intro f w;kernel_rfl)
theorem m_conf:∀ f w,(method (f+1) (pty ah) (.pointer (some ⟨b,0,none⟩)) "Confirmed").run prog w = .ok (pConf ah,.pointer (some ⟨b,0,none⟩)) w:=by cases ah<;>(intro f w;kernel_rfl)
theorem m_disp:∀ f w,(method (f+1) (pty ah) (.pointer (some ⟨b,0,none⟩)) "Display").run prog w = .ok (pDisp ah,.pointer (some ⟨b,0,none⟩)) w:=by cases ah<;>(intro f w;kernel_rfl)
theorem e_press(x:Value):∀ w,(callFunc (pPress ah) #[.pointer (some ⟨b,0,none⟩),x]).run prog w = .ok (.enter (pPress ah) #[.pointer (some ⟨b,0,none⟩),x]) w:=by cases ah<;>(intro w;kernel_rfl)
theorem e_recv(x:Value):∀ w,(callFunc (pRecv ah) #[.pointer (some ⟨b,0,none⟩),x]).run prog w = .ok (.enter (pRecv ah) #[.pointer (some ⟨b,0,none⟩),x]) w:=by cases ah<;>(intro w;kernel_rfl)
theorem e_tick:∀ w,(callFunc (pTick ah) #[.pointer (some ⟨b,0,none⟩)]).run prog w = .ok (.enter (pTick ah) #[.pointer (some ⟨b,0,none⟩)]) w:=by cases ah<;>(intro w;kernel_rfl)
theorem e_events:∀ w,(callFunc (pEvents ah) #[.pointer (some ⟨b,0,none⟩)]).run prog w = .ok (.enter (pEvents ah) #[.pointer (some ⟨b,0,none⟩)]) w:=by cases ah<;>(intro w;kernel_rfl)
theorem e_conf:∀ w,(callFunc (pConf ah) #[.pointer (some ⟨b,0,none⟩)]).run prog w = .ok (.enter (pConf ah) #[.pointer (some ⟨b,0,none⟩)]) w:=by cases ah<;>(intro w;kernel_rfl)
theorem e_disp:∀ w,(callFunc (pDisp ah) #[.pointer (some ⟨b,0,none⟩)]).run prog w = .ok (.enter (pDisp ah) #[.pointer (some ⟨b,0,none⟩)]) w:=by cases ah<;>(intro w;kernel_rfl)
end
theorem ta_yes(q:Nat):∀ w:World,(Instr.typeAssert (.iface 53 (.pointer (some ⟨q,0,none⟩))) 40 53 true).run prog w = .ok (.tuple #[.pointer (some ⟨q,0,none⟩),.bool true]) w:=by intro w;kernel_rfl
theorem ta_no(q:Nat):∀ w:World,(Instr.typeAssert (.iface 105 (.pointer (some ⟨q,0,none⟩))) 40 53 true).run prog w = .ok (.tuple #[.pointer none,.bool false]) w:=by intro w;kernel_rfl
section
variable {ah:Bool} {w w':World} {T T':Tg} {b:Nat} {cf:Cf} {tp:List UInt8} {ops:List OpT} {m:Mb} {W W':Wd} {B:Nat}
theorem mt_multi(h:MtIn w T b cf tp ops ah m W B){p:Nat}(hp:p<cf.n):Calls prog 15 #[ptrV b,.int .i64 (p:Nat)] w fun e w'=>e = .returned (if ah=true then ptrV (m.bs p) else .pointer none)∧w'=w:=by
 have H1:=hqd (mt_player h hp);generalize m.bs p=q at *;unfold ptrV pv at *;clear h;cases ah with
 | true =>
  rw[if_pos rfl]at H1 ⊢;go_enter func15,ntmps15;go_wp2_with fail;refine H1.out.mono ?_;rintro e w1 ⟨rfl,hw⟩;subst hw;have hta:=ta_yes q;go_wp2_with fail;go_ret;exact⟨rfl,rfl⟩
 | false =>
  rw[if_neg (by decide)]at H1 ⊢;go_enter func15,ntmps15;go_wp2_with fail;refine H1.out.mono ?_;rintro e w1 ⟨rfl,hw⟩;subst hw;have hta:=ta_no q;go_wp2_with fail;go_ret;exact⟨rfl,rfl⟩
theorem mt_net(h:MtIn w T b cf tp ops ah m W B):Calls prog 62 #[ptrV b] w fun e w'=>e = .returned (ptrV m.nb)∧w'=w:=by
 have c1:=h.hd.cell (i:=1) rfl;unfold ptrV at *;clear h;go_enter func62,ntmps62;go_wp2_with fail;go_ret;exact⟨rfl,rfl⟩
def sentN(net l:List Pk):List Pk:=net++l.take (300-net.length)
theorem sentN_one(net l:List Pk)(h:net.length≤300){j:Nat}(hj:j<l.length):(if (sentN net (l.take j)).length<300 then sentN net (l.take j)++[l[j]] else sentN net (l.take j))=sentN net (l.take (j+1)):=by
 unfold sentN;rw[List.length_append,List.length_take,List.length_take];by_cases hr:j<300-net.length
 ·rw[if_pos (by omega),List.take_of_length_le (by simp;omega),List.append_assoc,← List.take_succ_eq_append_getElem hj,List.take_of_length_le (l:=l.take (j+1)) (by simp;omega)]
 ·rw[if_neg (by omega),List.take_take,List.take_take,Nat.min_eq_left (by omega),Nat.min_eq_left (by omega)]
theorem sentN_len(net l:List Pk)(h:net.length≤300):(sentN net l).length≤300:=by
 unfold sentN;rw[List.length_append,List.length_take];omega
theorem mt_goes{A:Option Addr}{n d:Nat}{l:List Pk}{base:Nat}(h:MtIn w T b cf tp ops ah m W B)(hu:Unborn w T)(hn:W.net.length≤300)(hM:MlsT w T base cf.id A n d l)(hl:∀ k∈l,okPk k):Calls prog 114 #[ptrV b,.slice A n d] w (Does (In 12 2) w T (.int .i64 0) fun w' T'=>NetAt w' T' 12 m.nb cf.id (sentN W.net l)):=by
 obtain⟨m0,_,⟨hs,g1,rfl,g3,g4⟩,g5⟩:=hM;have hRw:Row w T 0 176 3 A l.length d (mailsC cf.id l hs):=⟨g3.mono (Nat.zero_le _),fun k hk=>g5 k (g3.blk_ge k hk)⟩;have hSb:∀(i:Nat) k h,l[i]?=some k→hs[i]?=some h→Sb w T h.1 (encPk cf.id k).length h.2 (encPk cf.id k):=fun i k a h1 h2=>⟨(g4 i k a h1 h2).1.1,fun _ q hq=>g5 q ((g4 i k a h1 h2).2 q hq)⟩;have HRw:=hqd hRw;have HSb:=hqd hSb;have HH:=hqd h.hd;have HN:=hqd h.net;have hmx:=hRw.rd.2.1;have hmy:=hRw.rd.2.2.1;unfold maxLen at hmy;have Hl:=hqd hl;unfold ptrV at *;clear h g3 g4 g5 hRw hSb hl;go_enter func114,ntmps114;go_wp2_with fail;go_loopw [9] (fun iv wr=>∃(j:Nat) (T':Tg),iv = .int .i64 (j:Nat)∧j≤l.length∧Turn (In 12 2) w T wr T'∧NetAt wr T' 12 m.nb cf.id (sentN W.net (l.take j))) (fun iv _=>l.length-(intOf iv).toNat)
 case atStart=>exact⟨0,T,rfl,Nat.zero_le _,Turn.refl _ hu,by rw[List.take_zero];unfold sentN;simpa using HN.out⟩
 case round =>
  obtain⟨j,T1,rfl,hj,hT,hNt⟩:=hrel;by_cases hjl:j<l.length
  ·have hd1:decide (j<l.length)=true:=decide_eq_true hjl
   have hd1':decide ((j:Int)<(l.length:Int))=true:=decide_eq_true (by omega);have hRw1:=HRw.out.turn hT (by unfold In;omega);obtain⟨g,hgA,hcells⟩:=mail_at hRw1 g1 hjl;have hsb:=(HSb.out j l[j] (hs[j]'(by omega)) (List.getElem?_eq_getElem hjl) (List.getElem?_eq_getElem (by omega))).turn hT (by unfold In;omega);have hH1:=HH.out.turn hT (by unfold In;omega);have c1:=hH1.cell (i:=1) rfl;have hok:=Hl.out _ (List.getElem_mem hjl);have hsn:=hqd (sentN_one W.net l hn hjl);have hle:=sentN_len W.net (l.take j) hn;generalize hs[j]'(by omega)=hh at *;generalize l[j]=k at *;have b1:=(Has.new wr T1 [.int .i64 0,.int .i64 0,.slice none 0 0] 176 rfl);have x1:=Ext.alloc wr (.cells #[.int .i64 0,.int .i64 0,.slice none 0 0] 176);have hg0:T1 wr.heap.size=0:=hT.unborn _ (Nat.le_refl _);rw[hg0]at b1;have hc1:∀ j' v,(mailC cf.id k hh)[j']?=some v→(wr.alloc (.cells #[.int .i64 0,.int .i64 0,.slice none 0 0] 176)).cell? ⟨g,j*3+j',none⟩=some v:=fun j' v h=>x1.cell (hcells j' v h);have hl3:(mailC cf.id k hh).length=3:=rfl;have hv3:[Value.int .i64 0,.int .i64 0,.slice none 0 0].length=3:=rfl;have h13:∀ u∈mailC cf.id k hh,u.oneCell'=true:=by simp[mailC,Value.oneCell']
   subst hgA;have HNt:=hqd hNt;have Hsb:=hqd hsb;have HT:=hqd hT;clear hRw1 hH1 hNt hsb hT;go_wp2_with (first|(with_reducible refine wpList_load_st rfl 176 (.tmp 11) rfl rfl underlying176 size_mail hl3 hcells ?_)|(with_reducible refine wpList_store_st rfl 176 (.tmp 6) (.tmp 12) rfl rfl (us:=mailC cf.id k hh) rfl b1 hl3 hv3 size_mail h13 ?_;intro Z bZ gZ sZ));have eZ:=Ext.own (B:=some ⟨wr.heap.size,0,none⟩) x1 gZ (fun k hk=>by have h9:wr.heap.size=k:=Option.some.inj hk;omega);have huZ:=HT.out.unborn.ext eZ;have Hsnd:∀ W2,Ext Z W2→Calls prog 154 #[ptrV m.nb,mailV k.src k.dst hh.1 (encPk cf.id k).length hh.2] W2 (Gives (In 12 2) W2 T1 fun v w' T'=>v = .bool (decide ((sentN W.net (l.take j)).length<300))∧NetAt w' T' 12 m.nb cf.id (sentN W.net (l.take (j+1)))):=fun W2 e=>by
    refine(net_send ((HNt.out.ext eZ).ext e) (huZ.ext e) (by omega) k hok hle ((Hsb.out.ext eZ).ext e)).mono ?_;rintro e w' ⟨rfl,T',hT,hN⟩;rw[hsn.out]at hN;exact⟨_,rfl,T',hT,rfl,hN⟩
   have Hsnd:=hqd Hsnd;have hgP:Grow (fun v w' T'=>v = .bool (decide ((sentN W.net (l.take j)).length<300))∧NetAt w' T' 12 m.nb cf.id (sentN W.net (l.take (j+1)))):=by
    rintro v w T w' ⟨h1,h2⟩ e;exact⟨h1,h2.ext e⟩
   have HeZ:=hqd eZ;replace c1:=eZ.cell c1;have k0:=bZ.cell (i:=0) rfl;have k1:=bZ.cell (i:=1) rfl;have k2:=bZ.cell (i:=2) rfl;generalize wr.heap.size=gm at *;unfold ptrV mailV at *;have hnb:¬ In 12 2 (T1 b):=by rw[(HH.out.turn HT.out (by unfold In;omega)).1];unfold In;omega
   have hng:¬ In 12 2 (T1 gm):=by rw[bZ.1];unfold In;omega
   have hu:=huZ;clear b1 x1 hg0 hc1 hl3 hv3 h13 gZ sZ hcells eZ bZ;simp only[Act.put];apply wrG (oR (In 12 2) T1) (oRs 5 (In 12 2) T1) (oJ 5 _) (oJ.start _ _);repeat apply lxG (fun _ h _ _=>aj (h.cell c1 hnb) (aj (h.cell k0 hng) (aj (h.cell k1 hng) (h.cell k2 hng))))
   apply lexG_call (p:=oP _ _ _ _) (by decide) (by decide) (oP.stab hgP _)
   ·rfl
   ·intro W
    go_simp;exact⟨rfl,rfl⟩
   ·intro W hR hJ hΦ
    exact one_call hu (hJ rfl) ((Hsnd.out) W (hJ rfl))
   intro v5;simp only[pu];refine lexG_nil ?_;intro Wx hR hap hΦ;obtain⟨T2,hT2,rfl,hN2⟩:=hΦ.1 rfl;clear hΦ hap;have HT2:=hqd hT2;have HN2:=hqd hN2;clear hT2 hN2;go_wp2_with fail;go_roundw
   case rel=>exact⟨j+1,T2,by go_num,by omega,(HT.out.ext HeZ.out).trans HT2.out,HN2.out⟩
   case measure=>simp[intOf];omega
  ·obtain rfl:j=l.length:=by omega
   rw[List.take_length]at hNt;have HNt:=hqd hNt;have HT:=hqd hT;clear hNt hT;go_wp2_with fail;go_ret;exact⟨rfl,T1,HT.out,HNt.out⟩
end
def stepV(fn a bb n:Int):Value:=.agg #[.int .i64 fn,.int .i64 a,.int .i64 bb,.int .i64 n]
def tellK(W:Wd)(j:Nat):Wd:={W with log:=fun i=>if i<j then W.log i++(W.ps i).evs else W.log i,ps:=fun i=>if i<j then {W.ps i with evs:=[]} else W.ps i}
theorem evC_one(e:Nat×Nat):(evC e).oneCell'=true:=by
 unfold evC evW;split
 ·rfl
 ·split
  ·rfl
  ·split<;>rfl
section
variable {ah:Bool} {w w' w0:World} {T T':Tg} {b:Nat} {cf:Cf} {tp:List UInt8} {ops:List OpT} {m:Mb} {W W':Wd} {B:Nat}
theorem MtIn.congr(h:MtIn w T b cf tp ops ah m W B)(hn:W'.net=W.net)(hl:∀ i,i<cf.n→W'.log i=W.log i)(hp:∀ i,i<cf.n→W'.ps i=W.ps i):MtIn w T b cf tp ops ah m W' B :=
 ⟨h.hd,h.row,h.evs.to (List.map_congr_left fun i hi=>by rw[hl i (List.mem_range.1 hi)]),fun i hi=>by rw[hl i hi];exact h.ev i hi,by rw[hn];exact h.net,h.ts0,h.tsd,fun i hi=>by rw[hp i hi];exact h.ps i hi⟩
theorem MtIn.told(h:MtIn w T b cf tp ops ah m (tellK W cf.n) B):MtIn w T b cf tp ops ah m W.told B :=
 h.congr rfl (fun i hi=>by show _=(if i<cf.n then W.log i++(W.ps i).evs else W.log i);rw[if_pos hi];rfl) (fun i hi=>by show _=(if i<cf.n then {W.ps i with evs:=[]} else W.ps i);rw[if_pos hi];rfl)
theorem MtIn.start(h:MtIn w T b cf tp ops ah m W B):MtIn w T b cf tp ops ah m (tellK W 0) B :=
 h.congr rfl (fun i hi=>by show(if i<0 then W.log i++(W.ps i).evs else W.log i)=W.log i;rw[if_neg (Nat.not_lt_zero i)]) (fun i hi=>by show(if i<0 then {W.ps i with evs:=[]} else W.ps i)=W.ps i;rw[if_neg (Nat.not_lt_zero i)])
def tlF(t j i k:Nat):Prop:=(i=13∧In t 40 k)∨(i=14∧k=4+j)
def tlC(T:Tg)(p:Addr):Prop:=T p.block=1∨T p.block=3
theorem tlF_not{t j i k:Nat}(h:¬ In t 40 k)(h2:k≠4+j):¬ tlF t j i k:=fun e=>by
 rcases e with e|e
 ·exact h e.2
 ·exact h2 e.2
theorem tlF_13{t j i k:Nat}(h14:14≤t)(hj:j<8)(hi:i≠13)(hk:In t 40 k):¬ tlF t j i k:=fun e=>by
 rcases e with e|e
 ·exact hi e.1
 ·have:=e.2;unfold In at hk;omega
theorem tlF_14{t j i:Nat}(h14:14≤t)(hj:j<8)(hi:i≠14):¬ tlF t j i (4+j):=fun e=>by
 rcases e with e|e
 ·have:=e.2;unfold In at this;omega
 ·exact hi e.1
theorem y_grown{F:Nat→Nat→Prop}{C:Addr→Prop}{K t:Nat}{A:Option Addr}(hg:w.grownBy w' (blk A))(hA:∀ g,blk A=some g→T g=t)(hF:F K t)(hC:∀ p,C p→T p.block≠t):yR F C T w w'∧yRs F C T K w w':=by
 have h1:oR (· = t) T w w':=⟨hg.os,hg.tape,hg.output,hg.size,fun k hk hn=>hg.block k hk fun e=>hn (hA k e.symm)⟩;have h2:Stay C w w':=fun p u hp hc=>h1.cell hc (hC p hp);exact⟨⟨h1.mono fun k hk=>⟨K,by cases hk;exact hF⟩,h2⟩,⟨h1.mono fun k hk=>(by cases hk;exact hF),h2⟩⟩
def tlP(ah:Bool)(T:Tg)(t q:Nat)(cf:Cf)(tp:List UInt8)(ops:List OpT)(c:Cr)(B j:Nat)(v:Value)(w:World):Prop :=
 ∃ EA ec,v = .slice EA c.evs.length ec∧(∃ tt,In t 40 tt∧Row w T tt 197 1 EA c.evs.length ec (c.evs.map evC))∧PlayerAt ah w T t q cf j tp ops {c with evs:=[]} B
theorem tlP.stab{t q j:Nat}{c:Cr}(h14:14≤t)(hj:j<8)(hw:cf.workers≤4)(hl:c.ls.length≤8)(hu:Unborn w0 T):∀ i,i≠13→∀ v w w',(w0.heap.size≤w.heap.size∧tlP ah T t q cf tp ops c B j v w)→yRs (tlF t j) (tlC T) T i w w'→(w0.heap.size≤w'.heap.size∧tlP ah T t q cf tp ops c B j v w'):=by
 rintro i hi v w w' ⟨h0,EA,ec,h1,⟨tt,h2,h3⟩,h4⟩ hR;have hT:=oR.turn hR.1 (show Unborn w T from fun k hk=>hu k (Nat.le_trans h0 hk));exact⟨Nat.le_trans h0 hR.1.size,EA,ec,h1,⟨tt,h2,h3.turn hT (tlF_13 h14 hj hi h2)⟩,h4.turn hw hl hT (tlF_not (by unfold In;omega) (by omega)) (fun k hk=>tlF_13 h14 hj hi hk)⟩
def tlQ(ah:Bool)(w0:World)(T:Tg)(t q:Nat)(cf:Cf)(tp:List UInt8)(ops:List OpT)(c:Cr)(B j n:Nat)(xs:List Value)(v:Value)(w:World)(T':Tg):Prop :=
 ∃ E Ed,v = .slice E n Ed∧Row w T' (4+j) 197 1 E n Ed xs∧PlayerAt ah w T' t q cf j tp ops {c with evs:=[]} B
theorem tlQ.stab{t q j n:Nat}{xs:List Value}{c:Cr}(h14:14≤t)(hj:j<8)(hw:cf.workers≤4)(hl:c.ls.length≤8)(hu:Unborn w0 T):∀ i,i≠13→i≠14→∀ v w w',yP w0 T (tlQ ah w0 T t q cf tp ops c B j n xs) v w→yRs (tlF t j) (tlC T) T i w w'→yP w0 T (tlQ ah w0 T t q cf tp ops c B j n xs) v w':=by
 rintro i hi hi2 v w w' ⟨T',h1,h2,E,Ed,h3,h4,h5⟩ hR;have hno:∀ k,¬ tlF t j i k:=fun k e=>by
  rcases e with e|e
  ·exact hi e.1
  ·exact hi2 e.1
 have hT:=oR.later hR.1 hu (hno 0) h1 h2;exact⟨T',h1,hT.unborn,E,Ed,h3,h4.turn hT (hno _),h5.turn hw hl hT (hno _) (fun k _=>hno k)⟩
theorem tellK_log(W:Wd)(j:Nat):(tellK W j).log j=W.log j:=by show(if j<j then W.log j++(W.ps j).evs else W.log j)=W.log j;rw[if_neg (Nat.lt_irrefl j)]
theorem tellK_ps(W:Wd)(j:Nat):(tellK W j).ps j=W.ps j:=by show(if j<j then {W.ps j with evs:=[]} else W.ps j)=W.ps j;rw[if_neg (Nat.lt_irrefl j)]
theorem tellK_log1(W:Wd)(j:Nat):(tellK W (j+1)).log j=W.log j++(W.ps j).evs:=by show(if j<j+1 then W.log j++(W.ps j).evs else W.log j)=_;rw[if_pos (Nat.lt_succ_self j)]
theorem tellK_ps1(W:Wd)(j:Nat):(tellK W (j+1)).ps j={W.ps j with evs:=[]}:=by show(if j<j+1 then {W.ps j with evs:=[]} else W.ps j)=_;rw[if_pos (Nat.lt_succ_self j)]
theorem tellK_log_ne(W:Wd){i j:Nat}(h:i≠j):(tellK W (j+1)).log i=(tellK W j).log i:=by
 show(if i<j+1 then W.log i++(W.ps i).evs else W.log i)=(if i<j then W.log i++(W.ps i).evs else W.log i)
 by_cases e:i<j
 ·rw[if_pos e,if_pos (by omega)]
 ·rw[if_neg e,if_neg (by omega)]
theorem tellK_ps_ne(W:Wd){i j:Nat}(h:i≠j):(tellK W (j+1)).ps i=(tellK W j).ps i:=by
 show(if i<j+1 then {W.ps i with evs:=[]} else W.ps i)=(if i<j then {W.ps i with evs:=[]} else W.ps i)
 by_cases e:i<j
 ·rw[if_pos e,if_pos (by omega)]
 ·rw[if_neg e,if_neg (by omega)]
theorem set_range(n j:Nat)(f g:Nat→Value)(v:Value)(hv:g j=v)(hne:∀ i,i<n→i≠j→g i=f i):((List.range n).map f).set j v=(List.range n).map g:=by
 apply List.ext_getElem
 ·simp
 ·intro i h1 h2
  rw[List.getElem_set];simp only[List.getElem_map,List.getElem_range];split
  ·rename_i e
   subst e;exact hv.symm
  ·rename_i e
   exact(hne i (by simpa using h2) (fun h=>e h.symm)).symm
theorem MtIn.tell{m:Mb}{hs2:Nat→Option Addr×Nat}{j gE:Nat}(h:MtIn w T b cf tp ops ah {m with hs:=hs2} (tellK W j) B)(hk:CfOk cf)(hl:∀ i,i<cf.n→((tellK W j).ps i).ls.length≤8)(hj:j<cf.n)(hEA:m.EA=some ⟨gE,0,none⟩){E:Option Addr}{Ed:Nat}
  (hT:Turn (fun k=>∃ i,tlF (m.ts j) j i k) w T w' T') (hE:Row w' T' (4+j) 197 1 E ((W.log j).length+(W.ps j).evs.length) Ed ((W.log j).map evC++(W.ps j).evs.map evC)) (hP:PlayerAt ah w' T' (m.ts j) (m.bs j) cf j tp ops {W.ps j with evs:=[]} B) :
  Turn (0 < ·) w T (w'.setCell ⟨gE,j,none⟩ (.slice E ((W.log j).length+(W.ps j).evs.length) Ed)) T'∧MtIn (w'.setCell ⟨gE,j,none⟩ (.slice E ((W.log j).length+(W.ps j).evs.length) Ed)) T' b cf tp ops ah {m with hs:=updF hs2 j (E,Ed)} (tellK W (j+1)) B:=by
 have h14:=h.ts0 j hj;have hn8:=hk.n8;have hno:∀ k,¬ In (m.ts j) 40 k→k≠4+j→¬ ∃ i,tlF (m.ts j) j i k:=fun k h1 h2 ⟨i,h3⟩=>tlF_not h1 h2 h3;have h14':14≤m.ts j:=h14;have hev:=h.evs.turn hT (hno 3 (by unfold In;omega) (by omega));obtain⟨hT2,hev2⟩:=hev.put hT.unborn (i:=j) hEA (.slice E ((W.log j).length+(W.ps j).evs.length) Ed);have hTp:Turn (0 < ·) w T w' T':=hT.mono fun k hk=>by
  obtain⟨i,e⟩:=hk;rcases e with e|e
  ·have:=e.2;unfold In at this;omega
  ·have:=e.2;omega
 refine⟨hTp.trans (hT2.mono fun k e=>by omega),(h.hd.turn hT (hno _ (by unfold In;omega) (by omega))).turn hT2 (by omega),(h.row.turn hT (hno _ (by unfold In;omega) (by omega))).turn hT2 (by omega),?_,fun i hi=>?_,(h.net.turn hT (hno _ (by unfold In;omega) (by omega)) (hno _ (by unfold In;omega) (by omega)) (hno _ (by unfold In;omega) (by omega))).turn hT2 (by omega) (by omega) (by omega),h.ts0,h.tsd,fun i hi=>?_⟩
 ·refine hev2.to (set_range _ _ _ _ _ ?_ fun i _ hne=>?_)
  ·show Value.slice (updF hs2 j (E,Ed) j).1 ((tellK W (j+1)).log j).length (updF hs2 j (E,Ed) j).2=_
   rw[updF_same,tellK_log1,List.length_append]
  ·show Value.slice (updF hs2 j (E,Ed) i).1 ((tellK W (j+1)).log i).length (updF hs2 j (E,Ed) i).2=_
   rw[updF_other _ _ hne,tellK_log_ne W hne]
 ·show Row _ T' (4+i) 197 1 (updF hs2 j (E,Ed) i).1 ((tellK W (j+1)).log i).length (updF hs2 j (E,Ed) i).2 (((tellK W (j+1)).log i).map evC)
  by_cases e:i=j
  ·subst e
   rw[updF_same,tellK_log1,List.length_append,List.map_append];exact hE.turn hT2 (by omega)
  ·rw[updF_other _ _ e,tellK_log_ne W e]
   exact((h.ev i hi).turn hT (hno _ (by unfold In;omega) (by omega))).turn hT2 (by omega)
 ·show PlayerAt ah _ T' (m.ts i) (m.bs i) cf i tp ops ((tellK W (j+1)).ps i) B
  have hi14:14≤m.ts i:=h.ts0 i hi;by_cases e:i=j
  ·subst e
   rw[tellK_ps1];refine hP.turn hk.workers ?_ hT2 (by omega) (fun q hq e=>by unfold In at hq;omega);have:=hl i hi;rw[tellK_ps]at this;exact this
  ·rw[tellK_ps_ne W e]
   exact((h.ps i hi).turn hk.workers (hl i hi) hT (hno _ (by unfold In;omega) (by omega)) (fun q hq=>hno q (h.apart hi hj e hq) (by have hq':In (m.ts i) 40 q:=hq;unfold In at hq';omega))).turn hk.workers (hl i hi) hT2 (by omega) (fun q hq e=>by have hq':In (m.ts i) 40 q:=hq;unfold In at hq';omega)
theorem exec_tell{W:World}{o:Oper}{a:Act}(s x:Operand)(ho:o.op = .call {callee:=.builtin .append,args:=#[s,x],argTypes:=#[152,152]}){i0:TypeInfo}(hi:prog.info? 197=some i0)(hz0:i0.zero=some (.agg #[.nilIface]))(hz1:i0.size=1)(hz2:i0.bytes=16)
  {t q j:Nat} {c:Cr} {L:List (Nat×Nat)} {C:Option Addr} {cc:Nat} (h14:14≤t) (hj:j<8) (hw:cf.workers≤4) (hl:c.ls.length≤8) (hs:a.eval s = .slice C L.length cc) {xv:Value} (hx:a.eval x=xv) (hp:w0.heap.size≤W.heap.size∧tlP ah T t q cf tp ops c B j xv W) (hu:Unborn w0 T) (hRow:Row w0 T (4+j) 197 1 C L.length cc (L.map evC)) (hJ:yJ (tlF t j) T w0 14 W) (hL:L.length≤1000000000) (hc:c.evs.length≤1000000) :
  ∃ u w',(execOp a.eval o).run prog W = .ok (.value u) w'∧yR (tlF t j) (tlC T) T W w'∧yRs (tlF t j) (tlC T) T 14 W w'∧yP w0 T (tlQ ah w0 T t q cf tp ops c B j (L.length+c.evs.length) (L.map evC++c.evs.map evC)) u w':=by
 obtain⟨hsz,EA,ec,hv13,⟨tt,htt,hRw⟩,hP'⟩:=hp;have hTJ:=oR.turn hJ hu;have hRowW:=hRow.turn hTJ (fun⟨i,h1,h2⟩=>tlF_14 h14 hj h1 h2);obtain⟨v,w',hrun,hgr,E,Ed,hv,ho',hw'⟩:=exec_append_to (P:=prog) W s x 152 ho 0 197 i0 (.agg #[.nilIface]) 1 16 underlying152 hi hz0 hz1 hz2 rfl (by decide) C L.length cc (L.map evC) hs hRowW.1 EA c.evs.length ec (c.evs.map evC) (hx.trans hv13) hRw.rd (fun u hu=>by obtain⟨e,_,rfl⟩:=List.mem_map.1 hu;exact evC_one e) (by unfold maxLen;omega) (by omega) (Nat.zero_le _);obtain⟨hTa,hRa⟩:=hRowW.append hTJ.unborn ho' hgr (Went.of hw');obtain⟨y1,y2⟩:=y_grown (F:=tlF t j) (C:=tlC T) (K:=14) hgr (fun g hg=>hRow.2 g hg) (.inr ⟨rfl,rfl⟩) (fun p hp=>by rcases hp with hp|hp<;>omega)
 exact⟨v,w',hrun,y1,y2,_,fun k hk=>hTa.tag k (Nat.lt_of_lt_of_le hk hsz),hTa.unborn,E,Ed,hv,hRa,hP'.turn hw hl hTa (by omega) (fun q hq e=>by unfold In at hq;omega)⟩
end
section
variable {w w':World} {T T':Tg} {cf:Cf} {tp:List UInt8}
theorem player_new(w:World)(T:Tg)(hu:Unborn w T)(cf:Cf)(me:Nat)(hok:CfOk cf)(hme:me<cf.n)(t:Nat)(ht:0<t)(hT0:∀ k,k<w.heap.size→¬ In t 40 (T k))(tp:List UInt8)(l:List OpT){A:Option Addr}{n d:Nat}(hRo:Ro w A n d l)(htp:tp.length≤1099511627776)(hfl:faultL tp l = -1)(hll:l.length≤64)(ah:Bool) :
  Calls prog 66 #[confV cf me,pAgg tp A n d,.slice none 0 0,.bool ah] w (Gives (fun _=>False) w T fun v w' T'=>∃ b,v = .tuple #[pv ah b,.int .i64 0]∧PlayerAt ah w' T' t b cf me tp l (Cr.new cf.n cf.delay) 10):=by
 have HP:=hqd fun W (e:Ext w W)=>plain_new W T (hu.ext e) cf me hok hme t ht (fun k hk hin=>by
  by_cases h:k<w.heap.size
  ·exact hT0 k h (in24 hin)
  ·rw[hu k (by omega)]at hin;unfold In at hin;omega) tp l (hRo.ext e) htp hfl hll
 have HM:=hqd fun W (e:Ext w W)=>mul_new W T (hu.ext e) cf me hok hme t ht (fun k hk hin=>by
  by_cases h:k<w.heap.size
  ·exact hT0 k h hin
  ·rw[hu k (by omega)]at hin;unfold In at hin;omega) tp l (hRo.ext e) htp hfl hll
 unfold confV pAgg at *;have x0:=(Ext.alloc w (.cells (confCells cf me).toArray 26)).trans (Ext.alloc _ (.cells #[.string (bs tp),.slice A n d] 65));have hb:=(Has.new w (fun _=>0) (confCells cf me) 26 rfl).2;have hp:=(Has.new (w.alloc (.cells (confCells cf me).toArray 26)) (fun _=>0) [.string (bs tp),.slice A n d] 65 (b:=w.heap.size+1) (by simp)).2;have hb:Has _ T 0 w.heap.size _:=(show Has _ T 0 w.heap.size _ from⟨hu _ (Nat.le_refl _),hb⟩).ext (Ext.alloc _ (.cells #[.string (bs tp),.slice A n d] 65));have hp:Has _ T 0 (w.heap.size+1) _:=⟨hu _ (by omega),hp⟩;unfold confCells at *;go_enter func66,ntmps66;go_upto_region 1 with fail
 generalize hW:World.alloc (World.alloc w _) _=W0 at *;obtain⟨gc,hgc⟩:∃ gc,gc=w.heap.size:=⟨_,rfl⟩;obtain⟨gp,hgp⟩:∃ gp,gp=w.heap.size+1:=⟨_,rfl⟩;rw[← hgp]at hp ⊢;rw[← hgc]at hb ⊢;clear hW hgc hgp;have hl10:[Value.int .i64 (cf.n:Nat),.int .i64 (me:Nat),.int .i64 (cf.id:Nat),.int .i64 (cf.delay:Nat),.int .i64 (cf.window:Nat),.int .i64 (cf.guess:Nat),.int .i64 (cf.order:Nat),.int .i64 (cf.branches:Nat),.int .i64 (cf.workers:Nat),.int .i64 (cf.room:Nat)].length=10:=rfl;have hbA:=hb.all;have p0:=hp.cell (i:=0) rfl;have p1:=hp.cell (i:=1) rfl;have HT0:=hqd (Turn.of_ext (fun _=>False) hu x0);clear hb hp;cases ah with
 | true =>
  go_wp2_with (first|(with_reducible refine wpList_load_st rfl 26 (.tmp 4) rfl rfl underlying26 size_conf hl10 hbA ?_))
  refine(HM.out W0 x0).mono ?_;rintro e w1 ⟨v,rfl,T1,hT1,b1,rfl,hM1⟩;have HM1:=hqd hM1;have HT1:=hqd (HT0.out.trans hT1);unfold ptrV at *;clear hM1 hT1;go_wp2_with fail;go_ret2
  exact⟨_,rfl,T1,HT1.out,b1,rfl,HM1.out⟩
 | false =>
  go_wp2_with (first|(with_reducible refine wpList_load_st rfl 26 (.tmp 4) rfl rfl underlying26 size_conf hl10 hbA ?_))
  refine(HP.out W0 x0).mono ?_;rintro e w1 ⟨v,rfl,T1,hT1,b1,cb,qb,ps,rfl,hM1⟩;have HM1:=hqd hM1;have HT1:=hqd (HT0.out.trans hT1);unfold ptrV at *;clear hM1 hT1;go_wp2_with fail;go_ret2
  exact⟨_,rfl,T1,HT1.out,b1,rfl,cb,qb,ps,HM1.out⟩
end
end Go.Proofs.YtffcefoadaogbaaGreat
