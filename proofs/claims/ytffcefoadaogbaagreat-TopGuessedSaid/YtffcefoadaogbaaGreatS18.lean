/- A part of the proof: texts put together and cut down by a program of mine (wip/gen/mini.py). -/
import Derived.Test.YtffcefoadaogbaaGreatS17
namespace Go.Proofs.YtffcefoadaogbaaGreat
open Go.RowKit
open Go.Proofs.Tryz
set_option linter.unusedVariables false
set_option maxRecDepth 100000
set_option maxHeartbeats 16000000
theorem info_mplay:(prog.info? 40).map (fun i=>(i.zero,i.size,i.bytes))=some (some .nilIface,1,16):=by kernel_rfl
theorem info_evrow:(prog.info? 152).map (fun i=>(i.zero,i.size,i.bytes))=some (some (.slice none 0 0),1,24):=by kernel_rfl
def Wd.new(n delay:Nat):Wd:=⟨fun _=>Cr.new n delay,[],fun _=>[]⟩
def mnRel(w:World)(T:Tg)(mb nb gc gp:Nat)(cf:Cf)(tp:List UInt8)(l:List OpT)(P0:List Value)(ah:Bool)(iv:Value)(wr:World):Prop :=
 ∃(k:Nat) (T':Tg) (A:Option Addr) (lc:Nat) (bs ts:Nat→Nat) (top me':Nat),iv = .int .i64 (k:Nat)∧k≤cf.n∧Turn (fun _=>False) w T wr T'∧Has wr T' 1 mb [.slice A k lc,ptrV nb,.slice none 0 0]∧Row wr T' 2 40 1 A k lc ((List.range k).map fun i=>pv ah (bs i))∧NetAt wr T' 12 nb cf.id []∧Has wr T' 3 gc (confCells cf me')∧Has wr T' 0 gp P0 ∧
  (14≤top∧(∀ i,i<k→14≤ts i∧ts i+40≤top)∧∀ i j,i<j→j<k→ts i+40≤ts j)∧(∀ i,i<k→PlayerAt ah wr T' (ts i) (bs i) cf i tp l (Cr.new cf.n cf.delay) 10)∧∀ i,i<k→∀ q,q<w.heap.size→T q<ts i
section
variable {w w':World} {T T':Tg}
theorem mt_new(w:World)(T:Tg)(hu:Unborn w T)(hT0:∀ k,k<w.heap.size→T k=0∨14≤T k)(cf:Cf)(hok:CfOk cf)(tp:List UInt8)(l:List OpT){A:Option Addr}{n d:Nat}(hRo:Ro w A n d l)(htp:tp.length≤1099511627776)(hfl:faultL tp l = -1)(hll:l.length≤64)(ah:Bool) :
  Calls prog 41 #[confV cf 0,pAgg tp A n d,.slice none 0 0,.bool ah] w (Gives (fun _=>False) w T fun v w' T'=>∃ b m,v = .tuple #[ptrV b,.int .i64 0]∧MtIn w' T' b cf tp l ah m (Wd.new cf.n cf.delay) 10∧∀ i,i<cf.n→∀ k,k<w.heap.size→T k<m.ts i):=by
 obtain⟨i,hi,hz0,hz1,hz2⟩:=info_parts info_evrow;have hmk:∀ W:World,(Instr.makeSlice 101 (.int .i64 (cf.n:Nat)) (.int .i64 (cf.n:Nat))).run prog W = .ok (.slice (some ⟨W.heap.size,0,none⟩) cf.n cf.n) (W.alloc (.cells (List.replicate cf.n (Value.slice none 0 0)).toArray 152)):=by
  intro W;have hn8:=hok.n8;have h:=run_make (P:=prog) W 101 152 i _ underlying101 hi hz0 .i64 .i64 (cf.n:Nat) (cf.n:Nat) (by omega) (Int.le_refl _) (by rw[hz2];omega) (by omega);rw[hz1,Nat.mul_one]at h;rw[← made_one];exact h
 clear hi hz0 hz1 hz2;obtain⟨i0,hi,hz0,hz1,hz2⟩:=info_parts info_mplay;have hn2:=hok.n2;have hn8:=hok.n8;have hmx:max (cf.n:Int) 1=(cf.n:Int):=by omega
 have hmn:min (cf.n:Int) 8=(cf.n:Int):=by omega
 have Hpl:=hqd fun W T1 (e:Ext w W) (h1:Unborn W T1) me (hme:me<cf.n) t (ht:0<t) (hT:∀ k,k<W.heap.size→¬ In t 40 (T1 k))=>player_new W T1 h1 cf me hok hme t ht hT tp l (hRo.ext e) htp hfl hll ah;have Hnet:=hqd fun W T1 (h1:Unborn W T1)=>net_new W T1 h1 12 cf.id;unfold confV pAgg at *;obtain⟨hTc,hHc⟩:=Has.fresh hu (confCells cf 0) 26 3;have xp:=Ext.alloc (w.alloc (.cells (confCells cf 0).toArray 26)) (.cells #[.string (bs tp),.slice A n d] 65);have hHp:=(Has.new (w.alloc (.cells (confCells cf 0).toArray 26)) (give T (one w.heap.size) 3) [.string (bs tp),.slice A n d] 65 (b:=w.heap.size+1) (by simp));rw[hTc.unborn (w.heap.size+1) (by simp)]at hHp;have hHc:=hHc.ext xp;have x0:=(Ext.alloc w (.cells (confCells cf 0).toArray 26)).trans xp;have hTp:=hTc.ext xp;go_enter func41,ntmps41;go_upto_region 1 with fail
 generalize hW:World.alloc (World.alloc w _) _=W0;have hW':(w.alloc (.cells (confCells cf 0).toArray 26)).alloc (.cells #[.string (bs tp),.slice A n d] 65)=W0:=by rw[← hW];rfl
 rw[hW']at hHp hHc x0 hTp;clear hW hW' xp hTc;obtain⟨gc,hgc⟩:∃ gc,gc=w.heap.size:=⟨_,rfl⟩;obtain⟨gp,hgp⟩:∃ gp,gp=w.heap.size+1:=⟨_,rfl⟩;rw[← hgp]at hHp ⊢;rw[← hgc]at hHp hHc hTp ⊢;have Hgc:=hqd (show w.heap.size≤gc by omega);have Hgp:=hqd (show gc≠gp by omega);generalize give T (one gc) 3=T1 at *;clear hgc hgp;have HC0:=hqd hHc;have HP0:=hqd hHp;have HT0:=hqd hTp;have HX0:=hqd x0;clear hHc hHp hTp x0;go_wp2_with fail;refine(Hnet.out W0 T1 HT0.out.unborn).mono ?_;rintro e w1 ⟨v,rfl,T2,hT2,nb,rfl,hN⟩;have x1:Ext W0 w1:=⟨hT2.os,hT2.tape,hT2.output,hT2.size,fun k hk=>hT2.block k hk (fun h=>h)⟩;have HX1:=hqd (HX0.out.trans x1);have HN1:=hqd hN;have HC1:=hqd (HC0.out.turn hT2 (fun h=>h));have HP1:=hqd (HP0.out.turn hT2 (fun h=>h));have HT1:=hqd (HT0.out.trans hT2);clear hT2 x1 hN HC0 HP0 HT0 HX0;unfold ptrV at *;go_upto_region 2 with fail
 obtain⟨hT3,hH3⟩:=Has.fresh HT1.out.unborn [.slice none 0 0,ptrV nb,.slice none 0 0] 103 1;have x3:=Ext.alloc w1 (.cells #[.slice none 0 0,ptrV nb,.slice none 0 0] 103);have HX3:=hqd (HX1.out.trans x3);unfold ptrV at *;generalize hW3:World.alloc w1 _=w3 at *;have Hmb:=hqd (show w.heap.size≤w1.heap.size from HT1.out.size);generalize w1.heap.size=mb at *;have HN3:=hqd (HN1.out.turn hT3 (fun h=>h) (fun h=>h) (fun h=>h));have hC3:=HC1.out.turn hT3 (fun h=>h);have hP3:=HP1.out.turn hT3 (fun h=>h);have HT3:=hqd (HT1.out.trans hT3);generalize give T2 (one mb) 1=T3 at *;have k0:=hC3.cell (i:=0) rfl;have HC3:=hqd hC3;have HP3:=hqd hP3;have HH3:=hqd hH3;clear hW3 hT3 hC3 hP3 hH3 x3 HX1 HN1 HC1 HP1 HT1;go_upto_region 3 with fail
 go_loopw [21] (fun iv wr=>mnRel w T mb nb gc gp cf tp l [.string (bs tp),.slice A n d] ah iv wr) (fun iv _=>cf.n-(intOf iv).toNat)
 case atStart=>exact⟨0,T3,none,0,fun _=>0,fun _=>0,14,0,rfl,Nat.zero_le _,HT3.out,HH3.out,Row.nil_ _ _ _ _ _,HN3.out,HC3.out,HP3.out,⟨Nat.le_refl _,fun i h=>absurd h (Nat.not_lt_zero _),fun i j _ h=>absurd h (Nat.not_lt_zero _)⟩,fun i h=>absurd h (Nat.not_lt_zero _),fun i h=>absurd h (Nat.not_lt_zero _)⟩
 case round =>
  obtain⟨k,T4,PA,lc,bs4,ts4,top,me4,rfl,hk,hT,hH,hR,hN,hC,hP,⟨ht14,hts,htd⟩,hps,hab⟩:=hrel;have Hab:=hqd hab;clear hab;have hu4:=hT.unborn;by_cases hkn:k<cf.n
  ·have hd1:decide (k<cf.n)=true:=decide_eq_true hkn
   have hd1':decide ((k:Int)<(cf.n:Int))=true:=decide_eq_true (by omega);have k1:=hC.cell (i:=1) rfl;have f1:=hC.free 1;obtain⟨hTs,hCs⟩:=hC.put (S:=(· = 3)) hu4 1 (.int .i64 (k:Nat)) rfl;have HCs:=hqd (show Has _ T4 3 gc (confCells cf k) from hCs);have hCx:=HCs.out;unfold confCells at hCx;have hl10:[Value.int .i64 (cf.n:Nat),.int .i64 (k:Nat),.int .i64 (cf.id:Nat),.int .i64 (cf.delay:Nat),.int .i64 (cf.window:Nat),.int .i64 (cf.guess:Nat),.int .i64 (cf.order:Nat),.int .i64 (cf.branches:Nat),.int .i64 (cf.workers:Nat),.int .i64 (cf.room:Nat)].length=10:=rfl;have hl8:∀ i,i<cf.n→(Cr.new cf.n cf.delay).ls.length≤8:=fun i _=>by simp only[Cr.new,List.length_replicate];exact hn8
   have HTw:=hqd (hT.set ⟨gc,1,none⟩ (.int .i64 (k:Nat)) (.inr Hgc.out));have HH5:=hqd (hH.turn hTs (by omega));have HR5:=hqd (hR.turn hTs (by omega));have HN5:=hqd (hN.turn hTs (by omega) (by omega) (by omega));have hP5:=hP.turn hTs (by omega);have HPS5:=hqd (show ∀ i,i<k→PlayerAt ah _ T4 (ts4 i) (bs4 i) cf i tp l (Cr.new cf.n cf.delay) 10 from fun i hi=>(hps i hi).turn hok.workers (hl8 i (by omega)) hTs (by omega) (fun q hq e=>by have:=(hts i hi).1;unfold In at hq;omega));have Hts:=hqd hts;have Htd:=hqd htd;have Hht:=hqd ht14;clear hT hH hR hN hC hP hps hTs hCs hu4 hts htd ht14;go_upto_region 6 with fail
   generalize hW5:World.setCell wr _ _=w5 at *;clear hW5 k1 f1;have hbA:=hCx.all;have p0:=hP5.cell (i:=0) rfl;have p1:=hP5.cell (i:=1) rfl;obtain⟨M,hM⟩:=tg_bound HTw.out.unborn;have HM:=hqd hM;have HMT:=hqd (show ∀ q,q<w.heap.size→T q≤M from fun q hq=>by rw[← HTw.out.tag q hq];exact hM q);have hxw:Ext w w5:=⟨HTw.out.os,HTw.out.tape,HTw.out.output,HTw.out.size,fun q hq=>HTw.out.block q hq (fun h=>h)⟩;have Hcall:=hqd (Hpl.out w5 T4 hxw HTw.out.unborn k hkn (top+M+1) (by omega) (fun q _ h=>by have:=HM.out q;unfold In at h;omega));have HP5:=hqd hP5;have HC5:=hqd hCx;clear hM hxw hP5 hCx;go_wp2_with (first|(with_reducible refine wpList_load_st rfl 26 (.tmp 4) rfl rfl underlying26 size_conf hl10 hbA ?_))
   refine Hcall.out.mono ?_;rintro e w6 ⟨v,rfl,T6,hT6,pb,rfl,hPl⟩;have HPl:=hqd hPl;have hH6:=HH5.out.turn hT6 (fun h=>h);have hR6:=HR5.out.turn hT6 (fun h=>h);have HN6:=hqd (HN5.out.turn hT6 (fun h=>h) (fun h=>h) (fun h=>h));have HC6:=hqd (show Has w6 T6 3 gc (confCells cf k) from HC5.out.turn hT6 (fun h=>h));have HP6:=hqd (HP5.out.turn hT6 (fun h=>h));have HPS6:=hqd (show ∀ i,i<k→PlayerAt ah w6 T6 (ts4 i) (bs4 i) cf i tp l (Cr.new cf.n cf.delay) 10 from fun i hi=>(HPS5.out i hi).turn hok.workers (hl8 i (by omega)) hT6 (fun h=>h) (fun _ _ h=>h));have HT6:=hqd (HTw.out.trans hT6);have hne:=hH6.ne_row hR6 (by omega);have c0:=hH6.cell (i:=0) rfl;have hpo:∀ ty:TypeId,(Value.iface ty (.pointer (some ⟨pb,0,none⟩))).oneCell'=true:=fun _=>rfl;rw[pv_eq];obtain⟨ty,hu9⟩:∃ ty,ty=pty ah:=⟨_,rfl⟩;rw[← hu9];have Hu9:=hqd (show pv ah pb = .iface ty (.pointer (some ⟨pb,0,none⟩)) by rw[pv_eq,← hu9]);have hRo6:=hR6.1;have HH6:=hqd hH6;have HR6:=hqd hR6;clear hT6 hPl hH6 hR6 hu9 p0 p1 hbA HTw HH5 HR5 HN5 HPS5 HC5 HP5 Hcall;unfold ptrV at *;have q1:k+1≤maxLen:=by unfold maxLen;omega
   have q2:(k+1)*16≤140737488355328:=by omega
   have q3:∀ x∈[Value.iface ty (.pointer (some ⟨pb,0,none⟩))],x.oneCell'=true:=by simpa using hpo ty
   go_wp2_with (at_builtin;refine wpList_append_new _ rfl _ _ 99 rfl 0 40 i0 (.nilIface) 1 16 underlying99 hi hz0 hz1 hz2 rfl (by decide) PA k lc _ rfl hRo6 1 [Value.iface ty (.pointer (some ⟨pb,0,none⟩))] rfl rfl q3 q1 q2 (Nat.zero_le _) ?_;intro E Ed wy hoE hgE hwE;have hHy:=HH6.out.grown hgE hne;have c0:=hHy.cell (i:=0) rfl;have f0:=hHy.free 0)
   clear hHy c0 f0;go_roundw
   case rel =>
    have hR6:=HR6.out;obtain⟨hTa,hRa⟩:=hR6.append HT6.out.unborn hoE hgE hwE;have hHa:=HH6.out.turn hTa (by omega);obtain⟨hTb,hHb⟩:=hHa.put (S:=(· = 1)) hTa.unborn 0 (.slice E (k+1) Ed) rfl;have hT9:=((HT6.out.fresh hTa (fun q hq e=>by have:=hT0 q hq;omega)).fresh hTb (fun q hq e=>by have:=hT0 q hq;omega));have hNb:∀ q,In (top+M+1) 40 q→q≠2∧q≠1:=fun q hq=>by have:=Hht.out;unfold In at hq;omega
    have hPl6:=HPl.out;refine⟨k+1,_,E,Ed,updF bs4 k pb,updF ts4 k (top+M+1),top+M+41,k,by go_num,by omega,hT9,hHb,?_,(HN6.out.turn hTa (by omega) (by omega) (by omega)).turn hTb (by omega) (by omega) (by omega),(HC6.out.turn hTa (by omega)).turn hTb (by omega),(HP6.out.turn hTa (by omega)).turn hTb (by omega),⟨by have:=Hht.out;omega,fun i hi=>?_,fun i j hij hj=>?_⟩,fun i hi=>?_,fun i hi q hq=>?_⟩
    ·refine(hRa.turn hTb (by omega)).to ?_
     rw[List.range_succ,List.map_append,List.map_cons,List.map_nil,updF_same,Hu9.out];congr 1
     apply List.map_congr_left;intro i hi;rw[updF_other _ _ (by have:=List.mem_range.1 hi;omega)]
    ·by_cases e:i=k
     ·subst e
      rw[updF_same];have:=Hht.out;omega
     ·rw[updF_other _ _ e]
      have:=Hts.out i (by omega);omega
    ·have hik:i≠k:=by omega
     rw[updF_other _ _ hik];by_cases e:j=k
     ·subst e
      rw[updF_same];have:=Hts.out i (by omega);omega
     ·rw[updF_other _ _ e]
      exact Htd.out i j hij (by omega)
    ·by_cases e:i=k
     ·subst e
      rw[updF_same,updF_same];exact(hPl6.turn hok.workers (hl8 i hkn) hTa (by omega) (fun q hq=>(hNb q hq).1)).turn hok.workers (hl8 i hkn) hTb (by omega) (fun q hq=>(hNb q hq).2)
     ·rw[updF_other _ _ e,updF_other _ _ e]
      have hb14:=(Hts.out i (by omega)).1;exact((HPS6.out i (by omega)).turn hok.workers (hl8 i (by omega)) hTa (by omega) (fun q hq e=>by unfold In at hq;omega)).turn hok.workers (hl8 i (by omega)) hTb (by omega) (fun q hq e=>by unfold In at hq;omega)
    ·by_cases e:i=k
     ·subst e
      rw[updF_same];have:=HMT.out q hq;omega
     ·rw[updF_other _ _ e]
      exact Hab.out i (by omega) q hq
   case measure=>simp[intOf];omega
  ·obtain rfl:k=cf.n:=by omega
   have c0:=hH.cell (i:=0) rfl;have c2:=hH.cell (i:=2) rfl;have f2:=hH.free 2;have hmz:(List.replicate cf.n (Value.slice none 0 0)).toArray=Array.replicate cf.n (Value.slice none 0 0):=by simp
   obtain⟨hTa,hRa⟩:=Row.fresh hu4 (Own.made wr wr.heap.size 152 1 (List.replicate cf.n (Value.slice none 0 0)) cf.n (Nat.le_refl _) (by unfold maxLen;omega) (by simp)) (Ext.alloc _ _) 3;rw[hmz]at hTa hRa;have hHa:=hH.turn hTa (fun h=>h);have c2:=hHa.cell (i:=2) rfl;have f2:=hHa.free 2;obtain⟨hTb,hHb⟩:=hHa.put (S:=(· = 1)) hTa.unborn 2 (.slice (some ⟨wr.heap.size,0,none⟩) cf.n cf.n) rfl;have HT4:=hqd (((hT.trans hTa)).fresh hTb (fun q hq e=>by have:=hT0 q hq;omega));have HTb:=hqd hTb;have HHb:=hqd hHb;have HRb:=hqd (hRa.turn hTb (by omega));have HR4:=hqd ((hR.turn hTa (fun h=>h)).turn hTb (by omega));have HN4:=hqd ((hN.turn hTa (fun h=>h) (fun h=>h) (fun h=>h)).turn hTb (by omega) (by omega) (by omega));have hl8:(Cr.new cf.n cf.delay).ls.length≤8:=by simp only[Cr.new,List.length_replicate];exact hn8
   have HPS4:=hqd (show ∀ i,i<cf.n→PlayerAt ah _ _ (ts4 i) (bs4 i) cf i tp l (Cr.new cf.n cf.delay) 10 from fun i hi=>((hps i hi).turn hok.workers hl8 hTa (fun h=>h) (fun _ _ h=>h)).turn hok.workers hl8 hTb (by omega) (fun q hq e=>by have:=(hts i hi).1;unfold In at hq;omega));have Hts:=hqd hts;have Htd:=hqd htd;clear hT hH hR hN hC hP hps hts htd hTa hRa hHa hTb hHb hmz;go_wp2_with fail;go_ret2
   refine⟨_,rfl,_,HT4.out,mb,⟨nb,PA,lc,some ⟨wr.heap.size,0,none⟩,cf.n,bs4,ts4,fun _=>(none,0)⟩,rfl,⟨HHb.out,HR4.out,?_,fun i hi=>Row.nil_ _ _ _ _ _,HN4.out,fun i hi=>(Hts.out i hi).1,fun i j hij hj=>Htd.out i j hij hj,fun i hi=>HPS4.out i hi⟩,Hab.out⟩;refine HRb.out.to ?_;show List.replicate cf.n (Value.slice none 0 0)=(List.range cf.n).map fun i=>Value.slice none 0 0
   rw[List.map_const'];simp
end
def Lns(w:World)(A:Option Addr)(n d:Nat):Prop:=∃ g o,A=some ⟨g,o,none⟩∧∀ i,i<n→∃ a c',w.cell? ⟨g,o+i,none⟩=some (.slice a d c')
theorem Lns.ext{w w':World}{A:Option Addr}{n d:Nat}(h:Lns w A n d)(e:Ext w w'):Lns w' A n d:=by
 obtain⟨g,o,h1,h2⟩:=h;exact⟨g,o,h1,fun i hi=>by obtain⟨a,c',h⟩:=h2 i hi;exact⟨a,c',e.cell h⟩⟩
theorem rfront_same(w:World){A:Option Addr}{n d c:Nat}(h:Lns w A n d)(h1:1≤n)(hn:n≤8)(hc:n≤c)(hcm:c≤maxLen):Calls prog 37 #[.slice A n c] w fun e w'=>e = .returned (.int .i64 (d:Nat))∧w'=w:=by
 obtain⟨g,o,rfl,h2⟩:=h;obtain⟨a0,c0,hc0⟩:=h2 0 (by omega);rw[Nat.add_zero]at hc0;have hmm:min (d:Int) (d:Int)=(d:Int):=by omega
 have e0:decide (n≤0)=false:=decide_eq_false (by omega);have e0':decide (0<n)=true:=decide_eq_true (by omega);go_enter func37,ntmps37;go_wp2_with fail;go_loopw [4,3] (fun iv fv wr=>∃ k:Nat,iv = .int .i64 (k:Nat)∧fv = .int .i64 (d:Nat)∧1≤k∧k≤n∧wr=w) (fun iv _ _=>n-(intOf iv).toNat)
 case atStart=>exact⟨1,rfl,rfl,Nat.le_refl _,h1,rfl⟩
 case round =>
  obtain⟨k,rfl,rfl,hk1,hk,hw⟩:=hrel;subst hw;by_cases hkn:k<n
  ·have hd1:decide (k<n)=true:=decide_eq_true hkn
   have hd1':decide ((k:Int)<(n:Int))=true:=decide_eq_true (by omega);obtain⟨a1,c1,hc1⟩:=h2 k hkn;go_wp2_with fail;go_roundw
   case rel=>exact⟨k+1,by go_num,by first|rfl|trivial,by omega,by omega,by first|rfl|trivial⟩
   case measure=>simp[intOf];omega
  ·obtain rfl:k=n:=by omega
   go_wp2_with fail;go_ret;exact⟨rfl,rfl⟩
def RCore(w:World)(b n d:Nat):Prop:=∃(cs:List Value) (LA:Option Addr) (lc:Nat) (rest:List Value),cs.length=10∧n≤lc∧lc≤maxLen∧Lns w LA n d∧rest[4]?=some (.slice none 0 0)∧Has w (fun _=>0) 0 b (cs++.slice LA n lc::.int .i64 0::rest)
theorem info_rline:(prog.info? 122).map (fun i=>(i.zero,i.size,i.bytes))=some (some (.agg #[.slice none 0 0]),1,24):=by kernel_rfl
theorem info_rword:(prog.info? 304).map (fun i=>(i.zero,i.size,i.bytes))=some (some (.agg #[.int .i64 0,.int .u32 0]),2,16):=by kernel_rfl
theorem info_rbool:(prog.info? 4).map (fun i=>(i.zero,i.size,i.bytes))=some (some (.bool false),1,1):=by kernel_rfl
theorem info_rint:(prog.info? 3).map (fun i=>(i.zero,i.size,i.bytes))=some (some (.int .i64 0),1,8):=by kernel_rfl
theorem mk_any{s e:TypeId}{z:Value}{size bytes:Nat}{i:TypeInfo}(hs:prog.underlying s=some (.slice e))(hi:prog.info? e=some i)(h0:i.zero=some z)(h1:i.size=size)(h2:i.bytes=bytes)(h24:bytes≤24){n:Nat}(hn:n≤8) :
  ∃ cs:Array Value,cs.size=n*size∧∀ W:World,(Instr.makeSlice s (.int .i64 (n:Nat)) (.int .i64 (n:Nat))).run prog W = .ok (.slice (some ⟨W.heap.size,0,none⟩) n n) (W.alloc (.cells cs e)):=by
 refine⟨madeCells z.cells (n*size),size_madeCells _ _,fun W=>?_⟩;have hm:bytes*n≤24*8:=Nat.mul_le_mul h24 hn;have h:=run_make (P:=prog) W s e i _ hs hi h0 .i64 .i64 (n:Nat) (n:Nat) (by omega) (Int.le_refl _) (by rw[h2,← Int.natCast_mul];omega) (by omega);rw[h1]at h;exact h
theorem ext_set{w w1:World}(h:Ext w w1){a:Addr}(hb:w.heap.size≤a.block)(v:Value):Ext w (w1.setCell a v) :=
 ⟨h.os,h.tape,h.output,by simpa [World.setCell] using h.size,fun k hk=>(Below.heap_setCell w1 a v k (by omega)).trans (h.block k hk)⟩
def rnRel(w:World)(base gc cb hb:Nat)(cf:Cf)(me:Nat)(rest:List Value)(iv:Value)(wr:World):Prop :=
 ∃(k:Nat) (LA:Option Addr) (lc:Nat) (xs vs:List Value),iv = .int .i64 (k:Nat)∧k≤cf.n∧Ext w wr∧base≤wr.heap.size∧Has wr (fun _=>0) 0 gc (confCells cf me)∧Has wr (fun _=>0) 0 cb (confCells cf me++.slice LA k lc::.int .i64 0::rest)∧Own wr 0 122 1 LA k lc xs∧(∀ g,blk LA=some g→base≤g)∧(∀ i,i<k→∃ a,xs[i]?=some (.slice a cf.delay cf.delay))∧vs.length=cf.n∧Has wr (fun _=>0) 0 hb vs
theorem rcore_new(w:World)(cf:Cf)(me:Nat)(hok:CfOk cf):Calls prog 67 #[confV cf me] w fun e w'=>∃ b,e = .returned (ptrV b)∧RCore w' b cf.n cf.delay∧Ext w w':=by
 have hn2:=hok.n2;have hn8:=hok.n8;have hd8:=hok.delay;obtain⟨i1,hi1,hz10,hz11,hz12⟩:=info_parts info_rint;obtain⟨ci,hci,hmi⟩:=mk_any (s:=22) underlying22 hi1 hz10 hz11 hz12 (by decide) hn8;obtain⟨i2,hi2,hz20,hz21,hz22⟩:=info_parts info_rword;obtain⟨cw,hcw,hmw⟩:=mk_any (s:=78) underlying78 hi2 hz20 hz21 hz22 (by decide) hn8;obtain⟨i3,hi3,hz30,hz31,hz32⟩:=info_parts info_rbool;obtain⟨cb3,hcb,hmb⟩:=mk_any (s:=73) underlying73 hi3 hz30 hz31 hz32 (by decide) hn8;obtain⟨i4,hi4,hz40,hz41,hz42⟩:=info_parts info_u8;obtain⟨cu,hcu,hmu⟩:=mk_any (s:=30) underlying30 hi4 hz40 hz41 hz42 (by decide) hd8;clear hi1 hz10 hz11 hz12 hi2 hz20 hz21 hz22 hi3 hz30 hz31 hz32 hi4 hz40 hz41 hz42;obtain⟨i0,hi,hz0,hz1,hz2⟩:=info_parts info_rline;unfold confV;have x0:=Ext.alloc w (.cells (confCells cf me).toArray 26);have hb:=(Has.new w (fun _=>0) (confCells cf me) 26 rfl);unfold confCells at *;go_enter func67,ntmps67;go_upto_region 1 with fail
 generalize hW:World.alloc w _=W0 at *;obtain⟨gc,hgc⟩:∃ gc,gc=w.heap.size:=⟨_,rfl⟩;rw[← hgc]at hb ⊢;have Hgc:=hqd hgc;clear hW hgc;have hl10:[Value.int .i64 (cf.n:Nat),.int .i64 (me:Nat),.int .i64 (cf.id:Nat),.int .i64 (cf.delay:Nat),.int .i64 (cf.window:Nat),.int .i64 (cf.guess:Nat),.int .i64 (cf.order:Nat),.int .i64 (cf.branches:Nat),.int .i64 (cf.workers:Nat),.int .i64 (cf.room:Nat)].length=10:=rfl;have k0:=hb.cell (i:=0) rfl;have k1:=hb.cell (i:=1) rfl;have k2:=hb.cell (i:=2) rfl;have k3:=hb.cell (i:=3) rfl;have k4:=hb.cell (i:=4) rfl;have k5:=hb.cell (i:=5) rfl;have k6:=hb.cell (i:=6) rfl;have k7:=hb.cell (i:=7) rfl;have k8:=hb.cell (i:=8) rfl;have k9:=hb.cell (i:=9) rfl;go_wp2_with fail;apply wrN 13;simp only[tk];repeat apply lxA (fun _ h _=>aj (h.cell k0) (aj (h.cell k1) (aj (h.cell k2) (aj (h.cell k3) (aj (h.cell k4) (aj (h.cell k5) (aj (h.cell k6) (aj (h.cell k7) (aj (h.cell k8) (h.cell k9))))))))))
 apply lex_new (p:=fun u W=>∃ g,u = .slice (some ⟨g,0,none⟩) cf.n cf.n) (fun _ _ _ h _=>h)
 ·rfl
 ·intro W hR hΦ
  refine⟨.slice (some ⟨W.heap.size,0,none⟩) cf.n cf.n,W.alloc (.cells ci 3),?_,Ext.alloc _ _,W.heap.size,rfl⟩;go_simp;first|done|rfl
 intro v1;simp only[pu];repeat apply lxA (fun _ h _=>h.cell k0)
 apply lex_new (p:=fun u W=>∃ g,u = .slice (some ⟨g,0,none⟩) cf.n cf.n∧W0.heap.size≤g∧Has W (fun _=>0) 0 g ci.toList) (fun _ _ _ ⟨g,h1,h2,h3⟩ he=>⟨g,h1,h2,h3.ext he⟩)
 ·rfl
 ·intro W hR hΦ
  refine⟨.slice (some ⟨W.heap.size,0,none⟩) cf.n cf.n,W.alloc (.cells ci 3),?_,Ext.alloc _ _,W.heap.size,rfl,hR.size,rfl,_,(heap_alloc_new W _)⟩;go_simp;first|done|rfl
 intro v2;simp only[pu];repeat apply lxA (fun _ h _=>h.cell k0)
 apply lex_new (p:=fun u W=>∃ g,u = .slice (some ⟨g,0,none⟩) cf.n cf.n) (fun _ _ _ h _=>h)
 ·rfl
 ·intro W hR hΦ
  refine⟨.slice (some ⟨W.heap.size,0,none⟩) cf.n cf.n,W.alloc (.cells cw 304),?_,Ext.alloc _ _,W.heap.size,rfl⟩;go_simp;first|done|rfl
 intro v3;simp only[pu];repeat apply lxA (fun _ h _=>h.cell k0)
 apply lex_new (p:=fun u W=>∃ g,u = .slice (some ⟨g,0,none⟩) cf.n cf.n) (fun _ _ _ h _=>h)
 ·rfl
 ·intro W hR hΦ
  refine⟨.slice (some ⟨W.heap.size,0,none⟩) cf.n cf.n,W.alloc (.cells cb3 4),?_,Ext.alloc _ _,W.heap.size,rfl⟩;go_simp;first|done|rfl
 intro v4;simp only[pu];repeat apply lxA (fun _ h _=>h.cell k0)
 refine lex_nil ?_;intro Wx hWx hΦ;obtain⟨g4,rfl⟩:=hΦ.1 rfl;obtain⟨g3,rfl⟩:=hΦ.2.1 rfl;obtain⟨g2,rfl,hg2,hH2⟩:=hΦ.2.2.1 rfl;obtain⟨g1,rfl⟩:=hΦ.2.2.2.1 rfl;clear hΦ;simp only[dk];have hb1:=hb.ext hWx;have hgW:=hb.lt;have hg2l:=hH2.lt;have hgl:=hb1.lt;have hsx:=hWx.size;go_upto_region 3 with fail
 obtain⟨rest,hrest⟩:∃ rest:List Value,rest=[.slice (some ⟨g1,0,none⟩) cf.n cf.n,.slice (some ⟨g2,0,none⟩) cf.n cf.n,.slice (some ⟨g3,0,none⟩) cf.n cf.n,.slice (some ⟨g4,0,none⟩) cf.n cf.n,.slice none 0 0,.slice none 0 0,.bool false]:=⟨_,rfl⟩;have hcb:=Has.new Wx (fun _=>0) (confCells cf me++.slice none 0 0::.int .i64 0::rest) 82 rfl;have xb:=Ext.alloc Wx (.cells (confCells cf me++.slice none 0 0::.int .i64 0::rest).toArray 82);generalize hW7:World.alloc Wx _=w7;have hW7':Wx.alloc (.cells (confCells cf me++.slice none 0 0::.int .i64 0::rest).toArray 82)=w7:=by rw[← hW7,hrest];rfl
 rw[hW7']at hcb xb;have hszx:w7.heap.size=Wx.heap.size+1:=by rw[← hW7'];simp
 have Hszx:=hqd hszx;obtain⟨cb,hcbe⟩:∃ cb,cb=Wx.heap.size:=⟨_,rfl⟩;rw[← hcbe]at hcb ⊢;have Hcb:=hqd (show cb<w7.heap.size by omega);have Hg2:=hqd (show g2<w7.heap.size∧g2≠cb∧g2≠gc by have:=Hgc.out;omega);have Hgcl:=hqd (show gc<w7.heap.size∧gc≠cb by omega);have Hrest:=hqd hrest;have Hcw:=hqd (show w.heap.size≤cb∧w.heap.size≤g2 from⟨by have:=x0.size;omega,Nat.le_trans x0.size hg2⟩);have hc7:=hb1.ext xb;have hH7:=hH2.ext xb;have hE7:=(x0.trans hWx).trans xb;clear hW7 hW7' hszx hcbe hrest hg2l hgl hsx hgW;go_loopw [4] (fun iv wr=>rnRel w w7.heap.size gc cb g2 cf me rest iv wr) (fun iv _=>cf.n-(intOf iv).toNat)
 case atStart=>exact⟨0,none,0,[],ci.toList,rfl,Nat.zero_le _,hE7,Nat.le_refl _,hc7,hcb,Own.nil_ _ _ _ _,(fun g h=>by cases h),(fun i h=>by omega),by simpa using hci,hH7⟩
 case round =>
  obtain⟨k,LA,lc,xs,vs,rfl,hk,hE,hbs,hC,hB,hO,hge,hxs,hvs,hV⟩:=hrel;by_cases hkn:k<cf.n
  ·have hd1:decide (k<cf.n)=true:=decide_eq_true hkn
   have hd1':decide ((k:Int)<(cf.n:Int))=true:=decide_eq_true (by omega);have k0:=hC.cell (i:=0) rfl;have k3:=hC.cell (i:=3) rfl;have c10:=hB.cell (i:=10) rfl;have hne:blk LA≠some cb:=fun h=>by have:=hge cb h;have:=Hcb.out;omega
   have hnk:blk LA≠some gc:=fun h=>by have:=hge gc h;have:=Hgcl.out;omega
   have hnv:blk LA≠some g2:=fun h=>by have:=hge g2 h;have:=Hg2.out;omega
   have hRw:Row wr (fun _=>0) 0 122 1 LA k lc xs:=⟨hO,fun _ _=>rfl⟩;have hPs:Stab 0 (fun v _ _=>∃ a,v = .agg #[.slice a cf.delay cf.delay]):=fun _ _ _ _ _ h _=>h;have hone:∀(v:Value) (w:World) (T:Tg),(fun v _ _=>∃ a,v = .agg #[.slice a cf.delay cf.delay]) v w T→v.cells.toList.length=1∧∀ y∈v.cells.toList,y.oneCell'=true:=by
    rintro v w T ⟨a,rfl⟩;exact⟨rfl,by simp[Value.cells,Value.oneCell']⟩
   have Hxl:=hqd (show xs.length=k by have:=hO.1;omega);have HB:=hqd hB;have HC:=hqd hC;have HV:=hqd hV;have HE:=hqd hE;have Hxs:=hqd hxs;have Hge:=hqd hge;have Hvs:=hqd hvs;clear hB hC hV hE hxs hge hvs;go_wp2_with fail;generalize hw0:wr=w0 at *;generalize hT0:(fun _=>0:Tg)=T0 at *;have hRowOwn:=hRw.1;have hRowC:=hRw.cond;have hu0:Unborn w0 T0:=by rw[← hT0];exact fun _ _=>rfl
   apply wrH 11 (gR LA) (gRs 10 LA) (gJs 10 122 1 LA k lc xs) (gJs.start hRowOwn);simp only[tk];repeat apply lxG (fun _ h _ _=>aj (h.cell c10 hne) (h.cell k3 hnk))
   apply lexG_new (p:=fun u _=>∃ a,u = .slice a cf.delay cf.delay) (by decide) (by decide) (fun _ _ _ _ _ h _=>h)
   ·rfl
   ·intro W hR hJ hΦ
    refine⟨.slice (some ⟨W.heap.size,0,none⟩) cf.delay cf.delay,W.alloc (.cells cu 5),?_,(Ext.alloc _ _).grownBy _,.inr (Ext.alloc _ _),_,rfl⟩;go_simp;first|done|rfl
   intro v7;simp only[pu];apply lexG_new (p:=FrP T0 w0.heap.size (fun v _ _=>∃ a,v = .agg #[.slice a cf.delay cf.delay])) (by decide) (by decide) (FrP.stab hPs hRowC _)
   ·rfl
   ·intro W hR hJ hΦ
    obtain⟨a,h7⟩:=hΦ.1 rfl;refine⟨.agg #[.slice a cf.delay cf.delay],W,?_,gR.refl _ _,gRs.refl _ _ _ _,T0,fun _ _=>rfl,fun k hk=>hu0 k (Nat.le_trans hR.size hk),a,rfl⟩;simp only[h7];go_simp;first|done|rfl
   intro v8;simp only[pu];apply lexG_new (p:=BuiltP T0 w0.heap.size (fun v _ _=>∃ a,v = .agg #[.slice a cf.delay cf.delay]) 122) (by decide) (by decide) (BuiltP.stab hPs hRowC _)
   ·rfl
   ·intro W hR hJ hΦ
    have hF:=hΦ.1 rfl;have hB:=BuiltP.made (e:=122) hPs hR.size hF;obtain⟨T9,hk9,hu9,hp9⟩:=hF;obtain⟨a,rfl⟩:=hp9;refine⟨_,_,?_,(Ext.alloc _ _).grownBy _,.inr (Ext.alloc _ _),hB⟩;go_simp;first|done|rfl
   intro v2;simp only[pu];apply lexG_new (p:=AppP T0 w0.heap.size (fun v _ _=>∃ a,v = .agg #[.slice a cf.delay cf.delay]) 0 LA 122 1 (k+1) xs) (by decide) (by decide) (fun j hj v w w9 h hR=>AppP.stab j hj v w w9 h hPs hR)
   ·rfl
   ·intro W hR hJ hΦ
    exact exec_append_call W _ _ 77 rfl 122 i0 (.agg #[.slice none 0 0]) 1 24 underlying77 hi hz0 hz1 hz2 rfl (by decide) LA k lc xs rfl (hJ rfl) v2 rfl (hΦ.1 rfl) hone (by unfold maxLen;omega) (by omega) hRowC hPs hR.size
   intro v3;simp only[pu];refine lexG_nil ?_;intro W hR hap hΦ;obtain⟨u1,T1,E,Ed,rfl,hT1,hP1,hRow1,hWent⟩:=(hΦ.1 rfl).fin hR hRowC;clear hΦ hap;simp only[dk];obtain⟨a1,rfl⟩:=hP1;have hB1:=HB.out.grown hR hne;have c10:=hB1.cell (i:=10) rfl;have f10:=hB1.free 10;have hC1:=HC.out.grown hR hnk;have hV1:=HV.out.grown hR hnv;have hO1:=hRow1.1;have hB2:=hB1.set 10 (.slice E (k+1) Ed);have hC2:=hC1.set_other (a:=⟨cb,10,none⟩) (by exact fun e=>Hgcl.out.2 e.symm) (.slice E (k+1) Ed);have hV2:=hV1.set_other (a:=⟨cb,10,none⟩) (by exact fun e=>Hg2.out.2.1 e.symm) (.slice E (k+1) Ed);have hE2:∀ g,blk E=some g→w7.heap.size≤g:=fun g hg=>by
    rcases hWent with h|h
    ·exact Hge.out g (h▸hg)
    ·exact Nat.le_trans hbs (h g hg)
   have hO2:Own (W.setCell ⟨cb,10,none⟩ (.slice E (k+1) Ed)) 0 122 1 E (k+1) Ed _:=hRow1.1.of_blocks (fun q hq=>Below.heap_setCell W _ _ q (fun e=>by have:=hE2 q hq;have:=Hcb.out;have e:q=cb:=e;omega));subst hT0;have hEW:Ext w W:=Ext.own (B:=LA) HE.out hR (fun q hq=>Nat.le_trans hE7.size (Hge.out q hq));have hEa:=hqd (ext_set hEW (a:=⟨cb,10,none⟩) Hcw.out.1 (.slice E (k+1) Ed));have hsW:=hR.size;have Hsz:=hqd (show w7.heap.size≤(W.setCell ⟨cb,10,none⟩ (.slice E (k+1) Ed)).heap.size by simp only[World.setCell,Array.size_modify]<;>omega)
   clear hEW hsW;go_upto_region 6 with fail
   generalize hWa:World.setCell W _ _=wa at *;have k3:=hC2.cell (i:=3) rfl;have c13:wa.cell? ⟨cb,13,none⟩=some (.slice (some ⟨g2,0,none⟩) cf.n cf.n):=hB2.cell (by rw[Hrest.out];rfl);have hvk:k<vs.length:=by rw[Hvs.out];exact hkn
   have HB2:=hqd hB2;have HC2:=hqd hC2;have HV2:=hqd hV2;have HO2:=hqd hO2;have HE2:=hqd hE2;clear hWa hR hT1 hRow1 hB1 hC1 hV1 hB2 hC2 hV2 hO2 hE2 hWent k0 c10 f10;apply wrN 8;simp only[tk];repeat apply lxA (fun _ h _=>aj (h.cell c13) (h.cell k3))
   refine lex_nil ?_;intro Wx hWx hΦ;simp only[dk];have hV3:=HV2.out.ext hWx;have dd:=hV3.cell (List.getElem?_eq_getElem hvk);have ff:=hV3.free k;have Hx:=hqd hWx;clear hV3 hWx;go_wp2_with fail;go_roundw
   case rel =>
    have hg:=Hg2.out;have hcb:=Hcb.out;refine⟨k+1,E,Ed,_,vs.set k (.int .i64 (cf.delay:Nat)),by go_num,by omega,ext_set (hEa.out.trans Hx.out) (a:=⟨g2,k,none⟩) Hcw.out.2 _,?_,(HC2.out.ext Hx.out).set_other (a:=⟨g2,k,none⟩) (by exact hg.2.2) _,((HB2.out.ext Hx.out).set_other (a:=⟨g2,k,none⟩) (by exact hg.2.1) _).is (by rfl),(HO2.out.ext Hx.out).of_blocks (fun q hq=>Below.heap_setCell _ _ _ q (fun e=>by have:=HE2.out q hq;have e:q=g2:=e;omega)),HE2.out,fun i hi=>?_,by rw[List.length_set];exact Hvs.out,(HV2.out.ext Hx.out).set k _⟩
    ·have:=Hsz.out
     have:=Hx.out.size;simp only[World.setCell,Array.size_modify]<;>omega
    ·by_cases e:i<k
     ·obtain⟨a,ha⟩:=Hxs.out i e
      exact⟨a,by rw[List.getElem?_append_left (List.getElem?_eq_some_iff.1 ha).1];exact ha⟩
     ·have e:i=xs.length:=by have:=Hxl.out;omega
      subst e;exact⟨a1,by rw[List.getElem?_append_right (Nat.le_refl _),Nat.sub_self];rfl⟩
   case measure=>simp[intOf];omega
  ·obtain rfl:k=cf.n:=by omega
   have k0:=hC.cell (i:=0) rfl;have hrd:=hO.rd;obtain⟨bq,oq,hLA,hcs⟩:=hrd.2.2.2 (by omega);have HL:=hqd (show Lns wr LA cf.n cf.delay from⟨bq,oq,hLA,fun i hi=>by obtain⟨a,ha⟩:=hxs i hi;exact⟨a,_,hcs i _ ha⟩⟩);have HB:=hqd hB;have HE:=hqd hE;clear hO hB hC hE hxs hV hcs hLA hge;have Hrd:=hqd hrd;clear hrd;go_wp2_with fail;go_ret;exact⟨cb,rfl,⟨confCells cf me,LA,lc,rest,rfl,Hrd.out.2.1,Hrd.out.2.2.1,HL.out,by rw[Hrest.out];rfl,HB.out.is (by simp)⟩,HE.out⟩
theorem RCore.ext{w w':World}{b n d:Nat}(h:RCore w b n d)(e:Ext w w'):RCore w' b n d:=by
 obtain⟨cs,LA,lc,rest,h1,h2,h3,h4,h5,h6⟩:=h;exact⟨cs,LA,lc,rest,h1,h2,h3,h4.ext e,h5,h6.ext e⟩
theorem RCore.cells{w:World}{b n d:Nat}(h:RCore w b n d):∃ LA lc,n≤lc∧lc≤maxLen∧Lns w LA n d∧w.cell? ⟨b,10,none⟩=some (.slice LA n lc)∧w.cell? ⟨b,16,none⟩=some (.slice none 0 0):=by
 obtain⟨cs,LA,lc,rest,h1,h2,h3,h4,h5,h6⟩:=h;refine⟨LA,lc,h2,h3,h4,h6.cell ?_,h6.cell ?_⟩
 ·rw[List.getElem?_append_right (by omega),h1];rfl
 ·rw[List.getElem?_append_right (by omega),h1];exact h5
theorem rcore_front(w:World){b n d:Nat}(h:RCore w b n d)(h1:1≤n)(hn:n≤8):Calls prog 19 #[ptrV b] w fun e w'=>e = .returned (.int .i64 (d:Nat))∧w'=w:=by
 obtain⟨LA,lc,h2,h3,h4,c10,_⟩:=h.cells;have HF:=hqd (rfront_same w h4 h1 hn h2 h3);clear h h4;unfold ptrV at *;go_enter func19,ntmps19;go_wp2_with fail;refine HF.out.mono ?_;rintro e w1 ⟨rfl,hw⟩;have hw:=hw.symm;subst hw;go_wp2_with fail;go_ret;exact⟨rfl,rfl⟩
theorem plays_none(w:World){b cb n:Nat}(h:RCore w cb n 0)(h1:1≤n)(hn:n≤8)(hp:w.cell? ⟨b,0,none⟩=some (ptrV cb)):Calls prog 68 #[ptrV b] w fun e w'=>e = .returned (.tuple #[])∧Ext w w':=by
 have HF:=hqd fun W (e:Ext w W)=>rcore_front W (h.ext e) h1 hn;obtain⟨LA,lc,h2,h3,h4,c10,c16⟩:=h.cells;clear h h4;unfold ptrV at *;go_enter func68,ntmps68;go_wp2_with fail;go_loopw [] (fun wr=>Ext w wr) (fun _=>0)
 case atStart=>exact Ext.refl _
 case round =>
  have d0:=hrel.cell hp;have d16:=hrel.cell c16;have Hr:=hqd hrel;clear hrel;go_wp2_with fail;apply wrA trivial;repeat apply lxA (fun _ h _=>aj (h.cell d0) (h.cell d16))
  apply lxC (fun W hR=>HF.out W (Hr.out.trans hR));repeat apply lxA (fun _ h _=>aj (h.cell d0) (h.cell d16))
  refine lex_nil ?_;intro Wx hWx hΦ;clear hΦ;have hE:=hqd (Hr.out.trans hWx);clear hWx;go_wp2_with fail;go_end0
  exact⟨rfl,hE.out⟩
theorem cell0_alloc(w:World)(v:Value)(cs:List Value)(ty:TypeId):(w.alloc (.cells (v::cs).toArray ty)).cell? ⟨w.heap.size,0,none⟩=some v:=by
 rw[cell_of_row _ _ _ _ _ _ (heap_alloc_new w _)];rfl
theorem rplayer_new(w:World)(cf:Cf)(me:Nat)(hok:CfOk cf)(hd:cf.delay=0)(tp:List UInt8)(A:Option Addr)(n d:Nat):Calls prog 42 #[confV cf me,pAgg tp A n d,.slice none 0 0] w fun e w'=>∃ b,e = .returned (ptrV b)∧Ext w w':=by
 have HN:=hqd fun W=>rcore_new W cf me hok;rw[hd]at HN;clear hd;have hn2:=hok.n2;have hn8:=hok.n8;have hl10:(confCells cf me).length=10:=rfl;unfold confV pAgg at *;have x0:=(Ext.alloc w (.cells (confCells cf me).toArray 26)).trans (Ext.alloc _ (.cells #[.string (bs tp),.slice A n d] 65));have hb:=(Has.new w (fun _=>0) (confCells cf me) 26 rfl).ext (Ext.alloc _ (.cells #[.string (bs tp),.slice A n d] 65));have hp:=(Has.new (w.alloc (.cells (confCells cf me).toArray 26)) (fun _=>0) [.string (bs tp),.slice A n d] 65 (b:=w.heap.size+1) (by simp));unfold confCells at *;go_enter func42,ntmps42;go_upto_region 1 with fail
 generalize hW:World.alloc (World.alloc w _) _=W0 at *;have k0:=hb.cell (i:=0) rfl;have k1:=hb.cell (i:=1) rfl;have k2:=hb.cell (i:=2) rfl;have k3:=hb.cell (i:=3) rfl;have k4:=hb.cell (i:=4) rfl;have k5:=hb.cell (i:=5) rfl;have k6:=hb.cell (i:=6) rfl;have k7:=hb.cell (i:=7) rfl;have k8:=hb.cell (i:=8) rfl;have k9:=hb.cell (i:=9) rfl;have p0:=hp.cell (i:=0) rfl;have p1:=hp.cell (i:=1) rfl;generalize w.heap.size+1=gp at *;generalize w.heap.size=gc at *;clear hW hb hp;apply wrN 9;simp only[tk];repeat apply lxA (fun _ h _=>aj (h.cell k0) (aj (h.cell k1) (aj (h.cell k2) (aj (h.cell k3) (aj (h.cell k4) (aj (h.cell k5) (aj (h.cell k6) (aj (h.cell k7) (aj (h.cell k8) (h.cell k9))))))))))
 apply lex_call (p:=fun u W=>∃ cb,u=ptrV cb∧RCore W cb cf.n 0) (fun _ _ _ ⟨cb,h1,h2⟩ he=>⟨cb,h1,h2.ext he⟩)
 ·rfl
 ·intro W
  go_simp;exact⟨rfl,rfl⟩
 ·intro W hR hΦ
  refine(HN.out W).mono ?_;rintro e w' ⟨cb,rfl,h1,h2⟩;exact⟨_,rfl,h2,cb,rfl,h1⟩
 intro v1;simp only[pu];repeat apply lxA (fun _ h _=>aj (h.cell k5) (aj (h.cell k6) (aj (h.cell p0) (h.cell p1))))
 refine lex_nil ?_;intro Wx hWx hΦ;obtain⟨cb,rfl,hRC⟩:=hΦ.1 rfl;clear hΦ;simp only[dk];have x1:=x0.trans hWx;unfold ptrV at *;clear x0 k0 k1 k2 k3 k4 k5 k6 k7 k8 k9 p0 p1 hWx;go_upto_region 2 with fail
 generalize hWy:World.alloc Wx _=Wy;have d0:Wy.cell? ⟨Wx.heap.size,0,none⟩=some (.pointer (some ⟨cb,0,none⟩)):=by rw[← hWy];exact cell0_alloc Wx _ _ _
 have xy:Ext Wx Wy:=by rw[← hWy];exact Ext.alloc _ _
 generalize Wx.heap.size=pb at *;have HP:=hqd (plays_none Wy (hRC.ext xy) (by omega) hn8 d0);have Hx:=hqd (x1.trans xy);unfold ptrV at *;clear hWy d0 xy x1 hRC;go_wp2_with fail;refine HP.out.mono ?_;rintro e w2 ⟨rfl,e2⟩;go_wp2_with fail;go_ret;exact⟨pb,rfl,Hx.out.trans e2⟩
theorem info_rpl:(prog.info? 60).map (fun i=>(i.zero,i.size,i.bytes))=some (some (.pointer none),1,8):=by kernel_rfl
theorem info_rraw:(prog.info? 80).map (fun i=>(i.zero,i.size,i.bytes))=some (some (.slice none 0 0),1,24):=by kernel_rfl
theorem MtIn.turn{S:Nat→Prop}{ah:Bool}{w w':World}{T T':Tg}{b:Nat}{cf:Cf}{tp:List UInt8}{ops:List OpT}{m:Mb}{W:Wd}{B:Nat}(h:MtIn w T b cf tp ops ah m W B)(hok:CfOk cf)(hl:∀ i,i<cf.n→(W.ps i).ls.length≤8)(hT:Turn S w T w' T')(hs:∀ k,k<14→¬ S k)(hp:∀ i,i<cf.n→∀ k,In (m.ts i) 40 k→¬ S k):MtIn w' T' b cf tp ops ah m W B:=by
 have hn8:=hok.n8;exact⟨h.hd.turn hT (hs _ (by omega)),h.row.turn hT (hs _ (by omega)),h.evs.turn hT (hs _ (by omega)),fun i hi=>(h.ev i hi).turn hT (hs _ (by omega)),h.net.turn hT (hs _ (by omega)) (hs _ (by omega)) (hs _ (by omega)),h.ts0,h.tsd,fun i hi=>(h.ps i hi).turn hok.workers (hl i hi) hT (hs _ (by omega)) (hp i hi)⟩
def wnRel(w:World)(T:Tg)(b gc:Nat)(cf:Cf)(C0:Option Addr→Nat→Nat→List Value)(iv:Value)(wr:World):Prop :=
 ∃(k:Nat) (T':Tg) (PA:Option Addr) (pc:Nat) (xs:List Value) (me':Nat),iv = .int .i64 (k:Nat)∧k≤cf.n∧Turn (fun j=>j=14∨j=15∨j=16) w T wr T'∧Has wr T' 14 b (C0 PA k pc)∧Row wr T' 15 60 1 PA k pc xs∧Has wr T' 16 gc (confCells cf me')
theorem w27_new(w:World)(cf:Cf)(hok:CfOk cf)(hd:cf.delay=0)(tp:List UInt8)(l:List OpT){A:Option Addr}{n d:Nat}(hRo:Ro w A n d l)(htp:tp.length≤1099511627776)(hfl:faultL tp l = -1)(hll:l.length≤64)(ah:Bool) :
  Calls prog 27 #[confV cf 0,pAgg tp A n d,.slice none 0 0,.bool ah] w fun e w'=>∃ b,e = .returned (ptrV b)∧∃ T' mb cs m,Turn (fun _=>False) w (fun _=>0) w' T'∧MtIn w' T' mb cf tp l ah m (Wd.new cf.n cf.delay) 10∧(∀ i,i<cf.n→16<m.ts i)∧Has w' T' 14 b (ptrV mb::cs):=by
 obtain⟨i,hi,hz0,hz1,hz2⟩:=info_parts info_rraw;obtain⟨cz,hcz,hmk⟩:=mk_any (s:=44) underlying44 hi hz0 hz1 hz2 (by decide) hok.n8;clear hi hz0 hz1 hz2;obtain⟨i0,hi,hz0,hz1,hz2⟩:=info_parts info_rpl;have hn2:=hok.n2;have hn8:=hok.n8;have Hpl:=hqd fun W me=>rplayer_new W cf me hok hd tp A n d;have Hmt:=hqd fun W T1 (e:Ext w W) (h1:Unborn W T1) (hT:∀ k,k<W.heap.size→T1 k=0∨14≤T1 k)=>mt_new W T1 h1 hT cf hok tp l (hRo.ext e) htp hfl hll ah;have Hl8:=hqd (show ∀ i,i<cf.n→((Wd.new cf.n cf.delay).ps i).ls.length≤8 from fun i _=>by simp only[Wd.new,Cr.new,List.length_replicate];exact hn8);clear hd;unfold confV pAgg at *;have hu:Unborn w (fun _=>0):=fun _ _=>rfl;obtain⟨hTc,hHc⟩:=Has.fresh hu (confCells cf 0) 26 16;have xp:=Ext.alloc (w.alloc (.cells (confCells cf 0).toArray 26)) (.cells #[.string (bs tp),.slice A n d] 65);have hHp:=(Has.new (w.alloc (.cells (confCells cf 0).toArray 26)) (give (fun _=>0) (one w.heap.size) 16) [.string (bs tp),.slice A n d] 65 (b:=w.heap.size+1) (by simp));rw[hTc.unborn (w.heap.size+1) (by simp)]at hHp;have hHc:=hHc.ext xp;have x0:=(Ext.alloc w (.cells (confCells cf 0).toArray 26)).trans xp;have hTp:=hTc.ext xp;have hs0:((w.alloc (.cells (confCells cf 0).toArray 26)).alloc (.cells #[.string (bs tp),.slice A n d] 65)).heap.size=w.heap.size+2:=by simp
 go_enter func27,ntmps27;go_upto_region 1 with fail
 generalize hW:World.alloc (World.alloc w _) _=W0;have hW':(w.alloc (.cells (confCells cf 0).toArray 26)).alloc (.cells #[.string (bs tp),.slice A n d] 65)=W0:=by rw[← hW];rfl
 rw[hW']at hHp hHc x0 hTp hs0;clear hW hW' xp hTc;obtain⟨gc,hgc⟩:∃ gc,gc=w.heap.size:=⟨_,rfl⟩;obtain⟨gp,hgp⟩:∃ gp,gp=w.heap.size+1:=⟨_,rfl⟩;rw[← hgp]at hHp ⊢;rw[← hgc]at hHp hHc hTp ⊢;have Hgc:=hqd (show w.heap.size≤gc by omega);have Hgp:=hqd (show gc≠gp by omega);have hT16:∀ q,give (fun _=>0) (one gc) 16 q=0∨14≤give (fun _=>0) (one gc) 16 q:=fun q=>by
  by_cases e:q=gc
  ·right
   rw[e,give_in (by simp[one])];omega
  ·left
   rw[give_out (by simp[one,e])]
 have HT16:=hqd hT16;clear hT16;generalize give (fun _=>0) (one gc) 16=T1 at *;clear hgc hgp hs0;have f1:=hHc.free 1;have k1:=hHc.cell (i:=1) rfl;obtain⟨hTs,hCs⟩:=hHc.put (S:=(· = 16)) hTp.unborn 1 (.int .i64 ((0:Nat):Int)) rfl;have hCs':Has _ T1 16 gc (confCells cf 0):=hCs;have HTa:=hqd (hTp.set ⟨gc,1,none⟩ (.int .i64 ((0:Nat):Int)) (.inr Hgc.out));have HP1:=hqd (hHp.turn hTs (by omega));have HC1:=hqd hCs';have hz:((0:Nat):Int)=0:=rfl;clear hTs hCs hCs' hHp hHc hTp x0;go_upto_region 2 with fail
 generalize hW1:World.setCell W0 _ _=w1;have hW1':W0.setCell ⟨gc,1,none⟩ (.int .i64 ((0:Nat):Int))=w1:=by rw[← hW1];rfl
 rw[hW1']at HTa HP1 HC1;clear hW1 hW1' f1 k1;have hCx:=HC1.out;unfold confCells at hCx;have hbA:=hCx.all;have hl10:[Value.int .i64 (cf.n:Nat),.int .i64 ((0:Nat):Int),.int .i64 (cf.id:Nat),.int .i64 (cf.delay:Nat),.int .i64 (cf.window:Nat),.int .i64 (cf.guess:Nat),.int .i64 (cf.order:Nat),.int .i64 (cf.branches:Nat),.int .i64 (cf.workers:Nat),.int .i64 (cf.room:Nat)].length=10:=rfl;have p0:=HP1.out.cell (i:=0) rfl;have p1:=HP1.out.cell (i:=1) rfl;have hx1:Ext w w1:=⟨HTa.out.os,HTa.out.tape,HTa.out.output,HTa.out.size,fun q hq=>HTa.out.block q hq (fun h=>h)⟩;have Hcall:=hqd (Hmt.out w1 T1 hx1 HTa.out.unborn (fun q _=>HT16.out q));clear hx1 hCx;go_wp2_with (first|(with_reducible refine wpList_load_st rfl 26 (.tmp 4) rfl rfl underlying26 size_conf hl10 hbA ?_))
 refine Hcall.out.mono ?_;rintro e w2 ⟨v,rfl,T2,hT2,mb,m,rfl,hM2,hts2⟩;have HM2:=hqd hM2;have HC2:=hqd (show Has w2 T2 16 gc (confCells cf 0) from HC1.out.turn hT2 (fun h=>h));have hP2:=HP1.out.turn hT2 (fun h=>h);have HT2:=hqd (HTa.out.trans hT2);have Hts:=hqd (show ∀ i,i<cf.n→16<m.ts i from fun i hi=>by
  have:=hts2 i hi gc HC1.out.lt;rw[HC1.out.1]at this;exact this)
 have k0:w2.cell? ⟨gc,0,none⟩=some (.int .i64 (cf.n:Nat)):=HC2.out.cell (i:=0) rfl;have HP2:=hqd hP2;unfold ptrV at *;clear hM2 hT2 hP2 p0 p1 hbA hts2 HC1 HP1 HTa Hcall hl10;go_upto_region 6 with fail
 have xa:=Ext.alloc w2 (.cells cz 80);obtain⟨hTb,hHb⟩:=Has.fresh (HT2.out.unborn.ext xa) [.pointer (some ⟨mb,0,none⟩),.slice none 0 0,.slice none 0 0,.slice (some ⟨w2.heap.size,0,none⟩) cf.n cf.n] 46 14;have hsz:(w2.alloc (.cells cz 80)).heap.size=w2.heap.size+1:=by simp
 rw[hsz]at hTb hHb;have hM3:=(HM2.out.ext xa).turn hok Hl8.out hTb (fun _ _ h=>h) (fun _ _ _ _ h=>h);have hC3:=(HC2.out.ext xa).turn hTb (fun h=>h);have hP3:=(HP2.out.ext xa).turn hTb (fun h=>h);have hT3:=(HT2.out.ext xa).trans hTb;have Hb:=hqd (show w.heap.size≤w2.heap.size+1 from Nat.le_trans HT2.out.size (Nat.le_succ _));generalize hW3:World.alloc (World.alloc w2 _) _=w3 at *;generalize give T2 (one (w2.heap.size+1)) 14=T3 at *;generalize w2.heap.size+1=gb at *;generalize (Value.slice (some ⟨w2.heap.size,0,none⟩) cf.n cf.n)=evv at *;have HM3:=hqd hM3;have HT3:=hqd hT3;have HC3:=hqd hC3;have HP3:=hqd hP3;have HH3:=hqd hHb;clear hW3 hTb hHb hsz hM3 hC3 hP3 hT3 xa HM2 HC2 HP2 HT2 k0;go_upto_region 7 with fail
 go_loopw [12] (fun iv wr=>wnRel w3 T3 gb gc cf (fun PA n c=>[.pointer (some ⟨mb,0,none⟩),.slice PA n c,.slice none 0 0,evv]) iv wr) (fun iv _=>cf.n-(intOf iv).toNat)
 case atStart=>exact⟨0,T3,none,0,[],0,rfl,Nat.zero_le _,Turn.refl _ HT3.out.unborn,HH3.out,Row.nil_ _ _ _ _ _,HC3.out⟩
 case round =>
  obtain⟨k,T0,PA,pc,xs,me4,rfl,hk,hT,hH,hRw,hC⟩:=hrel;have hu0:=hT.unborn;by_cases hkn:k<cf.n
  ·have hd1:decide (k<cf.n)=true:=decide_eq_true hkn
   have hd1':decide ((k:Int)<(cf.n:Int))=true:=decide_eq_true (by omega);have k0:wr.cell? ⟨gc,0,none⟩=some (.int .i64 (cf.n:Nat)):=hC.cell (i:=0) rfl;have k1:=hC.cell (i:=1) rfl;have f1:=hC.free 1;obtain⟨hTs,hCs⟩:=hC.put (S:=(· = 16)) hu0 1 (.int .i64 (k:Nat)) rfl;have HC5:=hqd (show Has _ T0 16 gc (confCells cf k) from hCs);have HH5:=hqd (hH.turn hTs (by omega));have HR5:=hqd (hRw.turn hTs (by omega));have HT5:=hqd (hT.trans (hTs.mono fun j h=>.inr (.inr h)));have HP5:=hqd ((HP3.out.turn hT (by omega)).turn hTs (by omega));clear hTs hCs hC hH hRw hT hu0;go_upto_region 10 with fail
   generalize hW5:World.setCell wr _ _=w0 at *;clear hW5;have hu0:=HT5.out.unborn;have hH:=HH5.out;have hRw:=HR5.out;have hC:=HC5.out;have hP:=HP5.out;have hne:=hH.ne_row hRw (by omega);have hnc:=hC.ne_row hRw (by omega);have hnp:=hP.ne_row hRw (by omega);have c1:w0.cell? ⟨gb,1,none⟩=some (.slice PA k pc):=hH.cell (i:=1) rfl;have k0:w0.cell? ⟨gc,0,none⟩=some (.int .i64 (cf.n:Nat)):=hC.cell (i:=0) rfl;have k1:w0.cell? ⟨gc,1,none⟩=some (.int .i64 (k:Nat)):=hC.cell (i:=1) rfl;have k2:w0.cell? ⟨gc,2,none⟩=some (.int .i64 (cf.id:Nat)):=hC.cell (i:=2) rfl;have k3:w0.cell? ⟨gc,3,none⟩=some (.int .i64 (cf.delay:Nat)):=hC.cell (i:=3) rfl;have k4:w0.cell? ⟨gc,4,none⟩=some (.int .i64 (cf.window:Nat)):=hC.cell (i:=4) rfl;have k5:w0.cell? ⟨gc,5,none⟩=some (.int .i64 (cf.guess:Nat)):=hC.cell (i:=5) rfl;have k6:w0.cell? ⟨gc,6,none⟩=some (.int .i64 (cf.order:Nat)):=hC.cell (i:=6) rfl;have k7:w0.cell? ⟨gc,7,none⟩=some (.int .i64 (cf.branches:Nat)):=hC.cell (i:=7) rfl;have k8:w0.cell? ⟨gc,8,none⟩=some (.int .i64 (cf.workers:Nat)):=hC.cell (i:=8) rfl;have k9:w0.cell? ⟨gc,9,none⟩=some (.int .i64 (cf.room:Nat)):=hC.cell (i:=9) rfl;have p0:=hP.cell (i:=0) rfl;have p1:=hP.cell (i:=1) rfl;have hPs:Stab 15 (fun v w T=>∃ q,v = .pointer (some ⟨q,0,none⟩)):=fun _ _ _ _ _ h _=>h;have hone:∀(v:Value) (w:World) (T:Tg),(∃ q,v = .pointer (some ⟨q,0,none⟩))→v.cells.toList.length=1∧∀ y∈v.cells.toList,y.oneCell'=true:=by
    rintro v w T ⟨q,rfl⟩;exact⟨rfl,by simp[Value.cells,Value.oneCell']⟩
   have HC:∀ W,gR PA w0 W→Calls prog 42 #[.agg #[.int .i64 (cf.n:Nat),.int .i64 (k:Nat),.int .i64 (cf.id:Nat),.int .i64 (cf.delay:Nat),.int .i64 (cf.window:Nat),.int .i64 (cf.guess:Nat),.int .i64 (cf.order:Nat),.int .i64 (cf.branches:Nat),.int .i64 (cf.workers:Nat),.int .i64 (cf.room:Nat)],.agg #[.string (bs tp),.slice A n d],.slice none 0 0] W (Gives (fun _=>False) W T0 fun v w T=>∃ q,v = .pointer (some ⟨q,0,none⟩)):=fun W hR=>by
    refine(Hpl.out W k).mono ?_;rintro e w' ⟨q,rfl,ee⟩;exact⟨_,rfl,T0,Turn.of_ext _ (fun j hj=>hu0 j (Nat.le_trans hR.size hj)) ee,q,rfl⟩
   clear hH hC hP HR5;have hRowOwn:=(hRw).1;have hRowC:=(hRw).cond;apply wrH 13 (gR PA) (gRs 10 PA) (gJs 10 60 1 PA k pc xs) (gJs.start hRowOwn);simp only[tk];repeat apply lxG (fun _ h _ _=>aj (h.cell c1 hne) (aj (h.cell k0 hnc) (aj (h.cell k1 hnc) (aj (h.cell k2 hnc) (aj (h.cell k3 hnc) (aj (h.cell k4 hnc) (aj (h.cell k5 hnc) (aj (h.cell k6 hnc) (aj (h.cell k7 hnc) (aj (h.cell k8 hnc) (aj (h.cell k9 hnc) (aj (h.cell p0 hnp) (h.cell p1 hnp)))))))))))))
   apply lexG_call (p:=FrP T0 w0.heap.size (fun v w T=>∃ q,v = .pointer (some ⟨q,0,none⟩))) (by decide) (by decide) (FrP.stab hPs hRowC _)
   ·rfl
   ·intro W
    go_simp;exact⟨rfl,rfl⟩
   ·intro W hR hJ hΦ
    exact FrP.call (fun k hk=>hu0 k (Nat.le_trans hR.size hk)) hR.size (HC W hR)
   intro v1;simp only[pu];try ((repeat (apply lexG_ex (by decide) (by decide) (gR.refl _) (gRs.refl _ _);(· rfl);(· intro W hR hJ hΦ;go_simp;first|done|with_reducible rfl);simp only[pu])))
   apply lexG_new (p:=BuiltP T0 w0.heap.size (fun v w T=>∃ q,v = .pointer (some ⟨q,0,none⟩)) 60) (by decide) (by decide) (BuiltP.stab hPs hRowC _)
   ·rfl
   ·intro W hR hJ hΦ
    have hF:=hΦ.1 rfl;have hB:=BuiltP.made (e:=60) hPs hR.size hF;obtain⟨T9,hk9,hu9,hp9⟩:=hF;obtain⟨q,rfl⟩:=hp9;refine⟨_,_,?_,(Ext.alloc _ _).grownBy _,.inr (Ext.alloc _ _),hB⟩;go_simp;first|done|rfl
   intro v2;simp only[pu];apply lexG_new (p:=AppP T0 w0.heap.size (fun v w T=>∃ q,v = .pointer (some ⟨q,0,none⟩)) (15) PA 60 1 (k+1) xs) (by decide) (by decide) (fun j hj v w w9 h hR=>AppP.stab j hj v w w9 h hPs hR)
   ·rfl
   ·intro W hR hJ hΦ
    exact exec_append_call W _ _ 42 rfl 60 i0 (.pointer none) 1 8 underlying42 hi hz0 hz1 hz2 rfl (by decide) PA k pc (xs) rfl (hJ rfl) v2 rfl (hΦ.1 rfl) hone (by unfold maxLen;omega) (by omega) hRowC hPs hR.size
   intro v3;simp only[pu];repeat apply lxG (fun _ h _ _=>aj (h.cell c1 hne) (aj (h.cell k0 hnc) (aj (h.cell k1 hnc) (aj (h.cell k2 hnc) (aj (h.cell k3 hnc) (aj (h.cell k4 hnc) (aj (h.cell k5 hnc) (aj (h.cell k6 hnc) (aj (h.cell k7 hnc) (aj (h.cell k8 hnc) (aj (h.cell k9 hnc) (aj (h.cell p0 hnp) (h.cell p1 hnp)))))))))))))
   refine lexG_nil ?_;intro W hR hap hΦ;obtain⟨u1,T1,E,Ed,rfl,hT1,hP1,hRow1,hWent⟩:=(hΦ.1 rfl).fin hR hRowC;clear hΦ hap;simp only[dk];obtain⟨q,rfl⟩:=hP1;have hH1:=HH5.out.turn hT1 (by omega);have c1:=hH1.cell (i:=1) rfl;have f1:=hH1.free 1;obtain⟨hTs,hHs⟩:=hH1.put (S:=(· = 14)) hT1.unborn 1 (.slice E (k+1) Ed) rfl;have HHs:=hqd hHs;have HTs:=hqd ((HT5.out.trans (hT1.mono (fun k h=>.inr (.inl h)))).trans (hTs.mono (fun k h=>.inl h)));have HRs:=hqd (hRow1.turn hTs (by omega));have HCs:=hqd ((HC5.out.turn hT1 (by omega)).turn hTs (by omega));clear hH1 hTs hHs hT1 hRow1 hWent hR hRw hu0 hne hnc hnp k0 k1 k2 k3 k4 k5 k6 k7 k8 k9 p0 p1 hone hPs HC;go_wp2_with fail;go_roundw
   case rel=>exact⟨k+1,T1,E,Ed,_,k,by go_num,by omega,HTs.out,HHs.out,HRs.out,HCs.out⟩
   case measure=>simp[intOf];omega
  ·obtain rfl:k=cf.n:=by omega
   have k0:wr.cell? ⟨gc,0,none⟩=some (.int .i64 (cf.n:Nat)):=hC.cell (i:=0) rfl;have hn16:∀ q,q<14→¬ (q=14∨q=15∨q=16):=fun q h=>by omega
   have HM9:=hqd (HM3.out.turn hok Hl8.out hT hn16 (fun i hi q hq e=>by have:=Hts.out i hi;unfold In at hq;omega));have HT9:=hqd (HT3.out.fresh hT (fun q hq e=>by rcases e with e|e|e<;>cases e))
   have HH9:=hqd hH;clear hH hRw hC;go_wp2_with fail;go_ret;exact⟨gb,rfl,T0,HT9.out,mb,_,m,HM9.out,Hts.out,HH9.out⟩
end Go.Proofs.YtffcefoadaogbaaGreat
