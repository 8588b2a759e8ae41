/- A part of the proof: texts put together and cut down by a program of mine (wip/gen/mini.py). -/
import Derived.Test.YtffcefoadaogbaaGreatS10
import Derived.Deep.DeepCutAuto
import Derived.Deep.CutBlock
import Derived.Laws.IdiomCopy
namespace Go.Proofs.YtffcefoadaogbaaGreat
open Go.RowKit
open Go.Proofs.Tryz
set_option linter.unusedVariables false
set_option maxRecDepth 100000
set_option maxHeartbeats 16000000
def mlenOf:Option Value→Nat
 | some (.slice _ n _)=>n
 | _=>0
section
variable {w w':World} {T T':Tg} {t b:Nat} {cf:Cf} {me cb qb:Nat} {tp:List UInt8} {l:List OpT} {ps:Nat→Nat} {c:Cr} {m:Nat}
theorem PlainAt.mlen(h:PlainAt w T t b cf me tp l cb qb ps c m):mlenOf (w.cell? ⟨cb,12,none⟩)=m:=by
 obtain⟨PA,MA,EA,pc,mc,ec,hC,_⟩:=h.core.cells;rw[hC.c12,mlenOf,marksP_len]
theorem plain_mark(h:PlainAt w T t b cf me tp l cb qb ps c m)(hk:CrOk cf me c [])(hu:Unborn w T)(ht:0<t)(htp:tp.length≤1099511627776)(hm:m≤c.front)(hQ:WordsOk tp l cf c):Calls prog 147 #[ptrV b] w (Does (In t 24) w T (.tuple #[]) fun w' T'=>PlainAt w' T' t b cf me tp l cb qb ps c c.front):=by
 have hn8:=hk.ok.n8;have h2:=hk.ok.n2;have hlen:=hk.len;have hfr:=hk.front_le;have HK:=hqd hk;have Hh:=hqd h;have HQ:=hqd hQ;unfold ptrV;clear h hk hQ;go_enter func147,ntmps147;go_wp2_with fail;go_loopw [] (fun wr=>∃(k:Nat) (T1:Tg),k≤c.front∧Turn (In t 24) w T wr T1∧PlainAt wr T1 t b cf me tp l cb qb ps c k) (fun wr=>c.front-mlenOf (wr.cell? ⟨cb,12,none⟩))
 case atStart=>exact⟨m,T,hm,Turn.refl _ hu,Hh.out⟩
 case round =>
  obtain⟨k,T1,hkf,hT,hP⟩:=hrel;have Hml:=hqd hP.mlen;have Hmk:=hqd fun W (e:Ext wr W)=>core_marks (hP.core.ext e);have Hqu:=hqd fun W (e:Ext wr W)=>core_queue (hP.core.ext e);have Hfr:=hqd fun W (e:Ext wr W)=>queue_front (hP.core.que.ext e) (by rw[hlen];exact hn8) (by rw[hlen];omega) HK.out.short;have Hjo:=hqd fun W (e:Ext wr W) (h:k<frontL c.ls)=>queue_joint (hP.core.que.ext e) (by rw[hlen];exact hn8) (by rw[hlen];omega) HK.out.short h;rw[show frontL c.ls=c.front from rfl]at Hfr Hjo;simp only[marksP_len]at Hmk;have HP:=hqd hP;have HT:=hqd hT;have Hlen:=hqd hlen;clear hlen;obtain⟨A,n,d,hH,hR⟩:=hP.blk;have b0:=hH.cell (i:=0) rfl;have hHl:(plainL cb tp A n d cf (gameAt tp l c.ls k)).length=38:=by simp[plainL,(gameAt_ok tp l c.ls k).1]
  unfold ptrV at *;by_cases hlt:k<c.front
  ·have hd1:decide (k<c.front)=true:=decide_eq_true hlt
   have hd1':decide ((k:Int)<(c.front:Int))=true:=decide_eq_true (by omega);have HH:=hqd hH;have HR:=hqd hR;clear hH hR hP hT;go_wp2_with fail;apply wrA trivial;repeat apply lxA (fun _ h _=>h.cell b0)
   apply lxC (fun W hR=>Hmk.out W hR);repeat apply lxA (fun _ h _=>h.cell b0)
   apply lxC (fun W hR=>Hqu.out W hR);apply lxC (fun W hR=>Hfr.out W hR);repeat apply lxA (fun _ h _=>h.cell b0)
   refine lex_nil ?_;intro Wx hWx hΦ;clear hΦ;have b0:=hWx.cell b0;go_wp2_with fail;refine(Hmk.out Wx hWx).mono ?_;rintro e w2 ⟨rfl,hw2⟩;subst hw2;go_wp2_with fail;refine(Hqu.out _ hWx).mono ?_;rintro e w3 ⟨rfl,hw3⟩;subst hw3;go_wp2_with fail;refine(Hjo.out _ hWx hlt).mono ?_;rintro e w4 ⟨B,bd,rfl,ho4,e4⟩;have x4:=hWx.trans e4;have hG:=gameAt_ok tp l c.ls k;have hG1:=gameAt_ok tp l c.ls (k+1);have hs1:=gameAt_succ tp l c.ls k;have hsm:smP tp l c.ls (k+1)=crcL (gameL (gameAt tp l c.ls (k+1))):=rfl;have hmk1:=marksP_succ tp l c.ls k;have hHw:=HH.out.ext x4;have hRo:Ro w4 A n d l:=(HR.out.ext x4).rd;have hRb:Rb w4 B (List.length c.ls) bd (jointL c.ls k):=Rb.of ho4.rd rfl;have Hst:=hqd fun W (e:Ext w4 W)=>step_any W tp A n d l (k:Nat) B (List.length c.ls) bd (jointL c.ls k) (gameAt tp l c.ls k) htp (hRo.ext e) (hRb.ext e) hG;have Hsum:=hqd fun W=>state_sum W (gameAt tp l c.ls (k+1)) hG1;rw[← hsm]at Hsum;rw[← hs1]at Hst;have Hs1:=hqd hs1;have Hsm:=hqd hsm;have Hmk1:=hqd hmk1;have hl1:((gameAt tp l c.ls k).map (Value.int .i32)).length=32:=by rw[List.length_map,hG.1]
   have hl2:((gameAt tp l c.ls (k+1)).map (Value.int .i32)).length=32:=by rw[List.length_map,hG1.1]
   have hone2:∀ u∈(gameAt tp l c.ls (k+1)).map (Value.int .i32),u.oneCell'=true:=by
    intro u hu;obtain⟨x,_,rfl⟩:=List.mem_map.1 hu;rfl
   clear hs1 hsm hmk1 hRo hRb;unfold pAgg gcs at *;unfold plainL at hHw HH hHl;generalize hg1:(gameAt tp l c.ls k).map (Value.int .i32)=g1 at *;generalize hg2:(gameAt tp l c.ls (k+1)).map (Value.int .i32)=g2 at *;have Hg1:=hqd hg1;have Hg2:=hqd hg2;clear hg1 hg2 hG hG1;have b0:=hHw.cell (i:=0) rfl;have b1:=hHw.cell (i:=1) rfl;have b2:=hHw.cell (i:=2) rfl;have bg:∀ i v,g1[i]?=some v→w4.cell? ⟨b,6+i,none⟩=some v:=fun i v hv=>hHw.cell (by
    rw[List.getElem?_append_right (by simp),show 6+i-_=i from by simp];exact hv)
   have HW:=hqd hHw;have HHl:=hqd hHl;clear hHw hHl;go_wp2_with fail;apply wrN 14;simp only[tk];repeat apply lxA (fun _ h _=>aj (h.cell b0) (aj (h.cell b1) (h.cell b2)))
   apply lex_ex (u:=.agg g1.toArray) Ext.refl
   ·rfl
   ·intro W hR hΦ
    exact exec_load_ara 205 (.tmp 39) rfl rfl underlying205 size_state hl1 (fun i v h=>hR.cell (bg i v h))
   simp only[pu];repeat apply lxA (fun _ h _=>h.cell b0)
   apply lxC (fun W hR=>Hst.out W hR);repeat apply lxA (fun _ h _=>h.cell b0)
   refine lex_nil ?_;intro Wx hWx hΦ;clear hΦ;simp only[dk];have hHx:=HW.out.ext hWx;have hHlo:=HHl.out;obtain⟨hT5,hH5⟩:=Has.setl g2 6 _ _ hHx ((HT.out.unborn.ext x4).ext hWx) (by rw[hl2,hHlo];decide)
   have hc5:∀ j,j<32→(Wx.cell? ⟨b,6+j,none⟩).isSome=true∧Wx.frozen? ⟨b,6+j,none⟩=false:=fun j hj=>hHx.spare (by rw[hHlo];omega);have HT5:=hqd hT5;have HH5:=hqd hH5;clear hT5 hH5 hHx hHlo b0 b1 b2 bg;have hsc:=run_storeCells_cells (P:=prog) b 6 g2 0 Wx (fun j hj=>by simpa using (hc5 j (by omega)).1) (fun j hj=>by simpa using (hc5 j (by omega)).2) hone2;rw[Nat.add_zero]at hsc;have hsz2:g2.toArray.size=32:=by simp[hl2]
   clear hc5;go_upto_region 4 with fail
   generalize hW5:World.setCells Wx b 6 g2=W5 at *;have hH5:=HH5.out.is (show _=[Value.pointer (some ⟨cb,0,none⟩),.string (bs tp),.slice A n d,.int .i64 (cf.guess:Nat),.int .i64 (cf.order:Nat),.slice none 0 0]++g2 from by
    rw[List.drop_of_length_le (by rw[HHl.out,hl2];decide),List.append_nil]
    rfl)
   have b0:=hH5.cell (i:=0) rfl;have bg:∀ i v,g2[i]?=some v→W5.cell? ⟨b,6+i,none⟩=some v:=fun i v hv=>hH5.cell (by
    rw[List.getElem?_append_right (by simp),show 6+i-_=i from by simp];exact hv)
   have HH6:=hqd hH5;have HT6:=hqd (((HT.out.ext x4).ext hWx).trans (HT5.out.mono fun k hk=>(by subst hk;unfold In;omega:In t 24 k)));have hC6:=((HP.out.core.ext x4).ext hWx).turn HT5.out (fun k hk=>by unfold In at hk;omega);have hRow6:=((HR.out.ext x4).ext hWx).turn HT5.out (by omega);have hkk:=HK.out.marksP tp l (m:=k) (by omega);have hq6:=HQ.out.quiet tp l (m:=k+1) (by omega);rw[Hmk1.out]at hq6;have Hmark:=hqd fun W (e:Ext W5 W)=>core_mark (hC6.ext e) hkk (HT6.out.unborn.ext e) (smP tp l c.ls (k+1)) (smP_lt _ _ _ _) (by rw[marksP_len];omega) hq6;have HRow6:=hqd hRow6;unfold ptrV at *;clear hW5 hsc HH5 HT5 hH5 hC6 hRow6 hkk hq6 hsz2;apply wrN 9;simp only[tk];repeat apply lxA (fun _ h _=>h.cell b0)
   apply lex_ex (u:=.agg g2.toArray) Ext.refl
   ·rfl
   ·intro W hR hΦ
    exact exec_load_ara 205 (.tmp 52) rfl rfl underlying205 size_state hl2 (fun i v h=>hR.cell (bg i v h))
   simp only[pu];apply lxC (fun W hR=>Hsum.out W);refine lex_nil ?_;intro Wx hWx hΦ;clear hΦ;simp only[dk];go_wp2_with fail;refine(Hmark.out Wx hWx).mono ?_;rintro e w7 ⟨rfl,T7,hT7,hC7⟩;rw[← Hmk1.out]at hC7;have hP7:PlainAt w7 T7 t b cf me tp l cb qb ps c (k+1):=by
    refine⟨⟨A,n,d,?_,(HRow6.out.ext hWx).turn hT7 (by unfold In;omega)⟩,hC7⟩;refine((HH6.out.ext hWx).turn hT7 (by unfold In;omega)).is ?_;unfold plainL;rw[Hg2.out]
   have HP7:=hqd hP7;have HT7:=hqd ((HT6.out.ext hWx).trans (hT7.mono fun k hk=>hk.sub (by omega) (by omega)));clear hT7 hC7 hP7;go_wp2_with fail;go_roundw
   case rel=>exact⟨k+1,T7,by omega,HT7.out,HP7.out⟩
   case measure=>rw[HP7.out.mlen,Hml.out];omega
  ·obtain rfl:k=c.front:=by omega
   have hd1:decide (c.front<c.front)=false:=decide_eq_false (by omega);clear hH hR hP hT;go_wp2_with fail;apply wrA trivial;repeat apply lxA (fun _ h _=>h.cell b0)
   apply lxC (fun W hR=>Hmk.out W hR);repeat apply lxA (fun _ h _=>h.cell b0)
   apply lxC (fun W hR=>Hqu.out W hR);apply lxC (fun W hR=>Hfr.out W hR);repeat apply lxA (fun _ h _=>h.cell b0)
   refine lex_nil ?_;intro Wx hWx hΦ;clear hΦ;go_wp2_with fail;go_end0
   exact⟨rfl,T1,HT.out.ext hWx,HP.out.ext hWx⟩
end
def Grows(a b:Lines):Prop:=a.length=b.length∧∀ p,p<a.length→a.getD p [] <+: b.getD p []
theorem Grows.refl(a:Lines):Grows a a:=⟨rfl,fun p _=>List.prefix_refl _⟩
theorem Grows.joint{a b:Lines}(h:Grows a b){k:Nat}(hk:k<frontL a):jointL b k=jointL a k:=by
 refine joint_eq h.1.symm rfl fun p hp=>?_;have hl:=frontL_le a (a.getD p []) (by
  rw[List.getD_eq_getElem?_getD,List.getElem?_eq_getElem hp];exact List.getElem_mem hp)
 exact(pref_get (h.2 p hp) (by omega)).symm
theorem Grows.front{a b:Lines}(h:Grows a b)(h0:0<a.length):frontL a≤frontL b:=by
 refine le_frontL (by intro e;have h1:=h.1;rw[e]at h1;simp at h1;rw[h1]at h0;exact absurd h0 (by decide)) fun x hx=>?_;obtain⟨p,hp,rfl⟩:=List.getElem_of_mem hx;have hp':p<a.length:=by rw[h.1];exact hp
 have h1:=frontL_le a (a.getD p []) (by
  rw[List.getD_eq_getElem?_getD,List.getElem?_eq_getElem hp'];exact List.getElem_mem hp')
 have h2:=pref_len (h.2 p hp');have h3:b.getD p []=b[p]:=by rw[List.getD_eq_getElem?_getD,List.getElem?_eq_getElem hp];rfl
 rw[h3]at h2;omega
theorem gameAt_congr(tp:List UInt8)(l:List OpT){a b:Lines}{f:Nat}(h:∀ k,k<f→jointL a k=jointL b k):gameAt tp l a f=gameAt tp l b f:=by
 unfold gameAt;rw[show(List.range f).map (jointL a)=(List.range f).map (jointL b) from List.map_congr_left fun k hk=>h k (List.mem_range.1 hk)]
theorem marksP_congr(tp:List UInt8)(l:List OpT){a b:Lines}{f:Nat}(h:∀ k,k<f→jointL a k=jointL b k):marksP tp l a f=marksP tp l b f:=by
 unfold marksP;refine List.map_congr_left fun k hk=>smP_sums tp l a b (k+1) fun j hj=>h j (by have:=List.mem_range.1 hk;omega)
section
variable {w w':World} {T T':Tg} {t b:Nat} {cf:Cf} {me cb qb:Nat} {tp:List UInt8} {l:List OpT} {ps:Nat→Nat} {c c':Cr} {m:Nat}
theorem PlainAt.coreGrow(h:PlainAt w T t b cf me tp l cb qb ps c c.front)(hT:Turn (In (t+2) 22) w T w' T')(hc:CoreAt w' T' (t+2) cb cf me qb ps c' (marksP tp l c.ls c.front))(hg:Grows c.ls c'.ls):PlainAt w' T' t b cf me tp l cb qb ps c' c.front :=
 h.coreTurn hT hc (gameAt_congr tp l fun k hk=>hg.joint hk) (marksP_congr tp l fun k hk=>hg.joint hk)
theorem press_grows(me window:Nat)(c:Cr)(x:UInt8)(hm:me<c.ls.length):Grows c.ls (c.press me window x).ls:=by
 unfold Cr.press;split
 ·refine⟨by simp,fun p hp=>?_⟩
  show c.ls.getD p [] <+: (c.ls.set me (c.mine me++[x])).getD p []
  rw[List.getD_eq_getElem?_getD,List.getD_eq_getElem?_getD,List.getElem?_set];by_cases e:me=p
  ·subst e
   rw[if_pos rfl,if_pos hm];unfold Cr.mine;rw[List.getD_eq_getElem?_getD];exact List.prefix_append _ _
  ·rw[if_neg e]
   exact List.prefix_refl _
 ·exact Grows.refl _
theorem plain_core(h:PlainAt w T t b cf me tp l cb qb ps c m):Calls prog 69 #[ptrV b] w fun e w'=>e = .returned (ptrV cb)∧w'=w:=by
 obtain⟨⟨A,n,d,h1,h2⟩,h3⟩:=h;have b0:=h1.cell (i:=0) rfl;clear h1 h2 h3;unfold ptrV at *;go_enter func69,ntmps69;go_wp2_with fail;go_ret;exact⟨rfl,rfl⟩
theorem plain_closed(h:PlainAt w T t b cf me tp l cb qb ps c m):Calls prog 45 #[ptrV b] w fun e w'=>e = .returned (.bool c.closed)∧w'=w:=by
 have H1:=hqd (plain_core h);have H2:=hqd (core_closed h.core);unfold ptrV at *;clear h;go_enter func45,ntmps45;go_wp2_with fail;refine H1.out.mono ?_;rintro e w1 ⟨rfl,hw⟩;subst hw;go_wp2_with fail;refine H2.out.mono ?_;rintro e w1 ⟨rfl,hw⟩;subst hw;go_wp2_with fail;go_ret;exact⟨rfl,rfl⟩
theorem plain_press(h:PlainAt w T t b cf me tp l cb qb ps c c.front)(x:UInt8)(hk:CrOk cf me c [])(hk':CrOk cf me (c.press me cf.window x) [])(hu:Unborn w T)(ht:0<t)(htp:tp.length≤1099511627776)(hQ:WordsOk tp l cf (c.press me cf.window x)):Calls prog 272 #[ptrV b,.int .u8 (x.toNat:Nat)] w (Does (In t 24) w T (.int .i64 (c.pressE me cf.window:Nat)) fun w' T'=>PlainAt w' T' t b cf me tp l cb qb ps (c.press me cf.window x) (c.press me cf.window x).front):=by
 have hml:me<c.ls.length:=by rw[hk.len];exact hk.me
 have hgr:=press_grows me cf.window c x hml;have hfr:=hk.front_le;have H1:=hqd (plain_core h);have H2:=hqd (core_press h.core (hk.marksP tp l hfr) hu x);have H3:=hqd fun w' T' (hP:PlainAt w' T' t b cf me tp l cb qb ps (c.press me cf.window x) c.front) (hu':Unborn w' T')=>plain_mark hP hk' hu' ht htp (hgr.front (by omega)) hQ;have HG:=hqd fun w' T' (hT:Turn (In (t+2) 22) w T w' T') (hc:CoreAt w' T' (t+2) cb cf me qb ps (c.press me cf.window x) (marksP tp l c.ls c.front))=>h.coreGrow hT hc hgr;have HE:=hqd (show c.pressE me cf.window≠0→c.press me cf.window x=c from fun h=>by unfold Cr.press;rw[if_neg h]);unfold ptrV at *;clear h hk hk' hQ hgr;generalize hcp:c.press me cf.window x=cp at *;generalize c.pressE me cf.window=er at *;clear hcp;go_enter func272,ntmps272;go_wp2_with fail;refine H1.out.mono ?_;rintro e w1 ⟨rfl,hw⟩;subst hw;go_wp2_with fail;refine H2.out.mono ?_;rintro e w2 ⟨rfl,T2,hT2,hC2⟩;have hP2:=HG.out _ _ hT2 hC2;have HP2:=hqd hP2;have HT2:=hqd hT2;clear hT2 hC2 hP2;by_cases he:er=0
 ·have e1:(er==0)=true:=by simp[he]
  subst he;go_wp2_with fail;refine(H3.out _ _ HP2.out HT2.out.unborn).mono ?_;rintro e w3 ⟨rfl,T3,hT3,hP3⟩;have HT3:=hqd hT3;have HP3:=hqd hP3;clear hT3 hP3;go_wp2_with fail;go_ret;exact⟨rfl,T3,(HT2.out.mono fun k hk=>hk.sub (by omega) (by omega)).trans HT3.out,HP3.out⟩
 ·have e1:(er==0)=false:=by simp[he]
  have e1':((er:Int)==0)=false:=by rw[beq_eq_false_iff_ne];omega
  have HE2:=hqd (HE.out he);clear he HE;go_wp2_with fail;go_ret;have hce:=HE2.out;subst hce;exact⟨rfl,T2,HT2.out.mono fun k hk=>hk.sub (by omega) (by omega),HP2.out⟩
end
theorem recv_grows(me:Nat)(c:Cr)(p:Pk):Grows c.ls (c.recv me p).ls:=by
 unfold Cr.recv;split
 ·exact Grows.refl _
 ·split
  ·exact Grows.refl _
  ·refine⟨by simp,fun q hq=>?_⟩
   show c.ls.getD q [] <+: (c.ls.set p.src (putLn (c.ls.getD p.src []) p.first p.press)).getD q []
   rw[List.getD_eq_getElem?_getD (l:=List.set _ _ _),List.getElem?_set];by_cases e:p.src=q
   ·rw[if_pos e]
    rw[if_pos (by rw[e];exact hq)];rw[e];exact putLn_le _ _
   ·rw[if_neg e,← List.getD_eq_getElem?_getD]
    exact List.prefix_refl _
theorem tick_ls(me:Nat)(c:Cr):(c.tick me).ls=c.ls:=by
 unfold Cr.tick;split
 ·rfl
 ·split<;>rfl
theorem tick_front(me:Nat)(c:Cr):(c.tick me).front=c.front:=by unfold Cr.front;rw[tick_ls]
theorem marksP_last(tp:List UInt8)(l:List OpT)(ls:Lines)(m:Nat):(marksP tp l ls m).getLastD 0=if m=0 then 0 else smP tp l ls m:=by
 cases m with
 | zero=>rfl
 | succ m=>rw[marksP_succ,if_neg (by omega),List.getLastD_concat]
theorem inputM_eq(tp:List UInt8)(l:List OpT)(c:Cr)(me:Nat):inputM c me (marksP tp l c.ls c.front)=c.input (smP tp l) me:=by
 funext i
 unfold inputM Cr.input;rw[marksP_len,marksP_last]
theorem ticksM_eq(tp:List UInt8)(l:List OpT)(c:Cr)(me:Nat):ticksM c me (marksP tp l c.ls c.front)=c.ticks (smP tp l) me:=by
 unfold ticksM Cr.ticks;rw[inputM_eq];cases c.late me<;>rfl
section
variable {w w':World} {T T':Tg} {t b:Nat} {cf:Cf} {me cb qb:Nat} {tp:List UInt8} {l:List OpT} {ps:Nat→Nat} {c c':Cr} {m:Nat}
theorem plain_recv(h:PlainAt w T t b cf me tp l cb qb ps c c.front)(p:Pk)(hk:CrOk cf me c [])(hk':CrOk cf me (c.recv me p) [])(hu:Unborn w T)(ht:0<t)(htp:tp.length≤1099511627776){A:Option Addr}{n d:Nat}(hp:okPk p)(hdst:p.dst=me)(hsrc:p.src<cf.n)(hb:Rb w A n d (encPk cf.id p))
  (hf:p.quit=false→p.first≤(c.ls.getD p.src []).length∧p.first+p.press.length≤1000) (hQ:WordsOk tp l cf (c.recv me p)) :
  Calls prog 274 #[ptrV b,.slice A n d] w (Does (In t 24) w T (.int .i64 (if c.closed then 6 else 0)) fun w' T'=>PlainAt w' T' t b cf me tp l cb qb ps (c.recv me p) (c.recv me p).front):=by
 have hfr:=hk.front_le;have hgr:=recv_grows me c p;have hml:me<c.ls.length:=by rw[hk.len];exact hk.me
 have hfg:c.front≤(c.recv me p).front:=hgr.front (by omega);have hqq:Quiet cf (c.recv me p) (marksP tp l c.ls c.front):=by
  rw[marksP_congr (f:=c.front) tp l fun k hk=>(hgr.joint hk).symm];exact hQ.quiet tp l hfg
 have H1:=hqd (plain_core h);have H2:=hqd (core_recv h.core (hk.marksP tp l hfr) hu (by omega) p hp hdst hsrc hb hf (fun _ _=>hqq));have H3:=hqd fun w' T' (hP:PlainAt w' T' t b cf me tp l cb qb ps (c.recv me p) c.front) (hu':Unborn w' T')=>plain_mark hP hk' hu' ht htp hfg hQ;have HG:=hqd fun w' T' (hT:Turn (In (t+2) 22) w T w' T') (hc:CoreAt w' T' (t+2) cb cf me qb ps (c.recv me p) (marksP tp l c.ls c.front))=>h.coreGrow hT hc hgr;have HE:=hqd (show c.closed=true→c.recv me p=c from fun h=>by unfold Cr.recv;rw[if_pos h]);unfold ptrV at *;clear h hk hk' hQ hgr hqq hfg hf hb hp hdst hsrc;generalize hcp:c.recv me p=cp at *;clear hcp;rcases hcl:c.closed with _|_
 ·rw[hcl]at H2
  simp only[Bool.false_eq_true,if_false]at H2 ⊢;clear hcl;go_enter func274,ntmps274;go_wp2_with fail;refine H1.out.mono ?_;rintro e w1 ⟨rfl,hw⟩;subst hw;go_wp2_with fail;refine H2.out.mono ?_;rintro e w2 ⟨rfl,T2,hT2,hC2⟩;have hP2:=HG.out _ _ hT2 hC2;have HP2:=hqd hP2;have HT2:=hqd hT2;clear hT2 hC2 hP2;go_wp2_with fail;refine(H3.out _ _ HP2.out HT2.out.unborn).mono ?_;rintro e w3 ⟨rfl,T3,hT3,hP3⟩;have HT3:=hqd hT3;have HP3:=hqd hP3;clear hT3 hP3;go_wp2_with fail;go_ret;exact⟨rfl,T3,(HT2.out.mono fun k hk=>hk.sub (by omega) (by omega)).trans HT3.out,HP3.out⟩
 ·rw[hcl]at H2
  have hce:=hqd (HE.out hcl);simp only[if_true]at H2 ⊢;clear hcl HE;go_enter func274,ntmps274;go_wp2_with fail;refine H1.out.mono ?_;rintro e w1 ⟨rfl,hw⟩;subst hw;go_wp2_with fail;refine H2.out.mono ?_;rintro e w2 ⟨rfl,T2,hT2,hC2⟩;have hP2:=HG.out _ _ hT2 hC2;have HP2:=hqd hP2;have HT2:=hqd hT2;clear hT2 hC2 hP2;go_wp2_with fail;go_ret;have hce:=hce.out;subst hce;exact⟨rfl,T2,HT2.out.mono fun k hk=>hk.sub (by omega) (by omega),HP2.out⟩
theorem plain_tick(h:PlainAt w T t b cf me tp l cb qb ps c c.front)(hk:CrOk cf me c [])(hu:Unborn w T)(hnow:c.now<1000000):Calls prog 275 #[ptrV b] w (Gives (In t 24) w T fun v w' T'=>∃ B n d,v = .slice B n d∧MlsT w' T' w.heap.size cf.id B n d (c.ticks (smP tp l) me)∧PlainAt w' T' t b cf me tp l cb qb ps (c.tick me) (c.tick me).front):=by
 have hfr:=hk.front_le;have H1:=hqd (plain_core h);have H2:=hqd (core_tick h.core (hk.marksP tp l hfr) hu hnow);have HG:=hqd fun w' T' (hT:Turn (In (t+2) 22) w T w' T') (hc:CoreAt w' T' (t+2) cb cf me qb ps (c.tick me) (marksP tp l c.ls c.front))=>h.coreGrow hT hc (by rw[tick_ls];exact Grows.refl _);rw[ticksM_eq]at H2;rw[tick_front];unfold ptrV at *;clear h hk;go_enter func275,ntmps275;go_wp2_with fail;refine H1.out.mono ?_;rintro e w1 ⟨rfl,hw⟩;subst hw;go_wp2_with fail;refine H2.out.mono ?_;rintro e w2 ⟨v,rfl,T2,hT2,B,n,d,rfl,hM,hC2⟩;have HP2:=hqd (HG.out _ _ hT2 hC2);have HT2:=hqd hT2;have HM:=hqd hM;clear hT2 hC2 hM;go_wp2_with fail;go_ret;exact⟨_,rfl,T2,HT2.out.mono fun k hk=>hk.sub (by omega) (by omega),B,n,d,rfl,HM.out,HP2.out⟩
theorem core_told{qb:Nat}{ps:Nat→Nat}{mk:List Nat}(h:CoreAt w T t b cf me qb ps c mk)(hu:Unborn w T):Calls prog 286 #[ptrV b] w (Gives (In t 22) w T fun v w' T'=>∃ EA ec,v = .slice EA c.evs.length ec∧(∃ tt,In t 22 tt∧Row w' T tt 197 1 EA c.evs.length ec (c.evs.map evC))∧T'=T∧w'.heap.size=w.heap.size∧CoreAt w' T' t b cf me qb ps {c with evs:=[]} mk):=by
 obtain⟨PA,pc,MA,mc,EA,ec,h1,h2,h3,h4⟩:=h.blk;have c13:=(coreC h1).c13;have f13:=h1.free 13;obtain⟨hT2,hH2⟩:=h1.put (S:=(· = t)) hu 13 (.slice none 0 0) rfl;have hcore:CoreAt (w.setCell ⟨b,13,none⟩ (.slice none 0 0)) T t b cf me qb ps {c with evs:=[]} mk:=by
  refine⟨⟨PA,pc,MA,mc,none,0,?_,?_,?_,?_⟩,?_⟩
  ·exact hH2.is rfl
  ·exact h2.turn hT2 (by omega)
  ·exact h3.turn hT2 (by omega)
  ·exact Row.nil_ _ _ _ _ _
  ·exact h.que.turn hT2 (fun k _=>by omega)
 have hrd:=h4.turn hT2 (by omega);have Hc:=hqd hcore;have Hr:=hqd hrd;have HT:=hqd hT2;unfold ptrV;clear h h1 h2 h3 h4 hH2 hcore hrd hT2;go_enter func286,ntmps286;go_wp2_with fail;go_ret;refine⟨_,rfl,T,HT.out.mono (fun k hk=>?_),EA,ec,rfl,⟨t+3,by unfold In;omega,Hr.out⟩,rfl,by simp[World.setCell],Hc.out⟩;subst hk;unfold In;omega
theorem plain_events(h:PlainAt w T t b cf me tp l cb qb ps c c.front)(hu:Unborn w T):Calls prog 271 #[ptrV b] w (Gives (In t 24) w T fun v w' T'=>∃ EA ec,v = .slice EA c.evs.length ec∧(∃ tt,In t 24 tt∧Row w' T tt 197 1 EA c.evs.length ec (c.evs.map evC))∧T'=T∧w'.heap.size=w.heap.size∧PlainAt w' T' t b cf me tp l cb qb ps {c with evs:=[]} c.front):=by
 have H1:=hqd (plain_core h);have H2:=hqd (core_told h.core hu);have HG:=hqd fun w' T' (hT:Turn (In (t+2) 22) w T w' T') (hc:CoreAt w' T' (t+2) cb cf me qb ps {c with evs:=[]} (marksP tp l c.ls c.front))=>h.coreGrow hT hc (Grows.refl _);unfold ptrV at *;clear h;go_enter func271,ntmps271;go_wp2_with fail;refine H1.out.mono ?_;rintro e w1 ⟨rfl,hw⟩;subst hw;go_wp2_with fail;refine H2.out.mono ?_;rintro e w2 ⟨v,rfl,T2,hT2,EA,ec,rfl,⟨tt,htt,hM⟩,hte,hsz,hC2⟩;have HP2:=hqd (HG.out _ _ hT2 hC2);have HT2:=hqd hT2;have HM:=hqd hM;clear hT2 hC2 hM;go_wp2_with fail;go_ret;exact⟨_,rfl,T2,HT2.out.mono fun k hk=>hk.sub (by omega) (by omega),EA,ec,rfl,⟨tt,by unfold In at *;omega,HM.out⟩,hte,hsz,HP2.out⟩
end
def wgtTo(o:Nat)(past:List UInt8)(j v:Nat):Nat:=((List.range j).filter fun i=>decide ((past.drop i).take o=past.drop (past.length-o))&&decide ((past.getD (i+o) 0).toNat=v)).length
def wgtL(kind o:Nat)(past:List UInt8)(v:Nat):Nat:=if kind=2∧o≤past.length then wgtTo o past (past.length-o) v else 0
theorem wgtTo_succ(o:Nat)(past:List UInt8)(j v:Nat):wgtTo o past (j+1) v=wgtTo o past j v+if (past.drop j).take o=past.drop (past.length-o)∧(past.getD (j+o) 0).toNat=v then 1 else 0:=by
 unfold wgtTo;rw[List.range_succ,List.filter_append,List.length_append];congr 1
 by_cases h:(past.drop j).take o=past.drop (past.length-o)∧(past.getD (j+o) 0).toNat=v
 ·rw[if_pos h,List.filter_cons_of_pos (by simp only[Bool.and_eq_true,decide_eq_true_eq];exact h)];rfl
 ·rw[if_neg h,List.filter_cons_of_neg (by simp only[Bool.and_eq_true,decide_eq_true_eq];exact h)];rfl
theorem wgtTo_le(o:Nat)(past:List UInt8)(j v:Nat):wgtTo o past j v≤j:=by
 unfold wgtTo;exact Nat.le_trans (List.length_filter_le _ _) (by simp)
theorem wgtL_le(kind o:Nat)(past:List UInt8)(v:Nat):wgtL kind o past v≤past.length:=by
 unfold wgtL;split
 ·exact Nat.le_trans (wgtTo_le _ _ _ _) (by omega)
 ·omega
def lastL(past:List UInt8):UInt8:=past.getLastD 0
def bestTo(w:Nat→Nat)(last:Nat):Nat→Nat
 | 0=>last
 | v+1=>if w (bestTo w last v)<w v then v else bestTo w last v
theorem bestTo_spec(w:Nat→Nat)(last:Nat):∀ v,(∀ u,u<v→w u≤w (bestTo w last v))∧w last≤w (bestTo w last v)∧(bestTo w last v≠last→bestTo w last v<v∧w last<w (bestTo w last v)∧∀ u,u<v→w u=w (bestTo w last v)→bestTo w last v≤u)
 | 0=>⟨fun u h=>absurd h (by omega),Nat.le_refl _,fun h=>absurd rfl h⟩
 | v+1=>by
  obtain⟨h1,h2,h3⟩:=bestTo_spec w last v;rw[bestTo];split
  ·rename_i h
   refine⟨fun u hu=>?_,by omega,fun _=>⟨by omega,by omega,fun u hu e=>?_⟩⟩
   ·by_cases e:u=v
    ·subst e;exact Nat.le_refl _
    ·have:=h1 u (by omega);omega
   ·by_cases e':u=v
    ·omega
    ·have:=h1 u (by omega);omega
  ·rename_i h
   refine⟨fun u hu=>?_,h2,fun hne=>?_⟩
   ·by_cases e:u=v
    ·subst e;omega
    ·exact h1 u (by omega)
   ·obtain⟨h4,h5,h6⟩:=h3 hne
    refine⟨by omega,h5,fun u hu e=>?_⟩;by_cases e':u=v
    ·omega
    ·exact h6 u (by omega) e
theorem bestTo_lt(w:Nat→Nat){last:Nat}(h:last<256){v:Nat}(hv:v≤256):bestTo w last v<256:=by
 by_cases e:bestTo w last v=last
 ·omega
 ·have:=((bestTo_spec w last v).2.2 e).1;omega
def firstN(kind o:Nat)(past:List UInt8):Nat:=bestTo (wgtL kind o past) (lastL past).toNat 256
theorem firstN_lt(kind o:Nat)(past:List UInt8):firstN kind o past<256:=bestTo_lt _ (UInt8.toNat_lt _) (Nat.le_refl _)
def firstL(kind o:Nat)(past:List UInt8):UInt8:=UInt8.ofNat (firstN kind o past)
theorem firstL_toNat(kind o:Nat)(past:List UInt8):(firstL kind o past).toNat=firstN kind o past:=by
 have:=firstN_lt kind o past;simp[firstL,UInt8.toNat_ofNat'];omega
def moreL(kind o:Nat)(past:List UInt8):Nat→List UInt8
 | 0=>past
 | n+1=>moreL kind o past n++[firstL kind o (moreL kind o past n)]
theorem moreL_len(kind o:Nat)(past:List UInt8):∀ n,(moreL kind o past n).length=past.length+n
 | 0=>rfl
 | n+1=>by rw[moreL,List.length_append,moreL_len kind o past n];simp;omega
theorem moreL_pref(kind o:Nat)(past:List UInt8):∀ n,past <+: moreL kind o past n
 | 0=>List.prefix_refl _
 | n+1=>(moreL_pref kind o past n).trans (List.prefix_append _ _)
def chainL(kind o:Nat)(past:List UInt8)(n:Nat):List UInt8:=(moreL kind o past n).drop past.length
theorem chainL_len(kind o:Nat)(past:List UInt8)(n:Nat):(chainL kind o past n).length=n:=by simp[chainL,moreL_len]
theorem past_chain(kind o:Nat)(past:List UInt8)(n:Nat):past++chainL kind o past n=moreL kind o past n:=by
 obtain⟨r,hr⟩:=moreL_pref kind o past n;rw[chainL,← hr];simp
def fullL(kind o:Nat)(ls:Lines)(tq:Nat):Lines:=ls.map fun l=>moreL kind o l (tq-l.length)
def aheadL(kind o:Nat)(ls:Lines)(tq:Nat):List (List UInt8):=(List.range (tq-frontL ls)).map fun j=>jointL (fullL kind o ls tq) (frontL ls+j)
theorem jointL_len(ls:Lines)(f:Nat):(jointL ls f).length=ls.length:=by simp[jointL]
theorem aheadL_len(kind o:Nat)(ls:Lines)(tq:Nat):(aheadL kind o ls tq).length=tq-frontL ls:=by simp[aheadL]
def byV(kind o:Nat):Value:=.agg #[.int .i64 (kind:Nat),.int .i64 (o:Nat),.slice none 0 0]
def okBy(kind o:Nat):Prop:=(kind=1∧o=0)∨(kind=2∧o≤3)
def BoolP(w:World)(b:Bool)(e:Ending)(w':World):Prop:=e = .returned (.bool b)∧Ext w w'
theorem pmay_yes(w:World){kind o:Nat}(h:okBy kind o):Calls prog 146 #[byV kind o] w (BoolP w true):=by
 unfold byV;rcases h with ⟨rfl,rfl⟩|⟨rfl,ho⟩
 ·go_enter func146,ntmps146
  go_wp2_with fail;go_ret;exact⟨rfl,Ext.alloc _ _⟩
 ·have hd:decide ((o:Int)≤3)=true:=decide_eq_true (by omega)
  have hd':decide (o≤3)=true:=decide_eq_true ho;go_enter func146,ntmps146;go_wp2_with fail;go_ret;exact⟨rfl,Ext.alloc _ _⟩
theorem info_w256:(prog.info? 331).map (fun i=>(i.zero,i.size,i.bytes))=some (some (.agg (List.replicate 256 (Value.int .i64 0)).toArray),256,2048):=by kernel_rfl
theorem size_w256:(prog.info? 331).map (·.size)=some 256:=by kernel_rfl
def w256(f:Nat→Nat):List Value:=(List.range 256).map fun v=>.int .i64 (f v:Nat)
theorem w256_len(f:Nat→Nat):(w256 f).length=256:=by simp[w256]
theorem w256_get(f:Nat→Nat){v:Nat}(h:v<256):(w256 f)[v]?=some (.int .i64 (f v:Nat)):=by simp[w256,h]
theorem w256_one(f:Nat→Nat):∀ u∈w256 f,u.oneCell'=true:=by
 intro u hu;obtain⟨v,_,rfl⟩:=List.mem_map.1 hu;rfl
theorem w256_zero:List.replicate 256 (Value.int .i64 0)=w256 fun _=>0:=by
 apply List.ext_getElem
 ·simp[w256]
 ·intro i h1 h2
  rw[List.getElem_replicate];simp only[w256,List.getElem_map];rfl
theorem w256_congr{f g:Nat→Nat}(h:∀ v,v<256→f v=g v):w256 f=w256 g:=by
 apply List.map_congr_left;intro v hv;rw[h v (List.mem_range.1 hv)]
theorem w256_set(f g:Nat→Nat){x:Nat}(hx:x<256)(h:∀ v,v<256→v≠x→g v=f v):(w256 f).set x (.int .i64 (g x:Nat))=w256 g:=by
 apply List.ext_getElem
 ·simp[w256]
 ·intro i h1 h2
  have hi:i<256:=by simpa [w256] using h2
  rw[List.getElem_set];by_cases e:x=i
  ·subst e;simp[w256]
  ·simp[e,w256,h i hi (fun h=>e h.symm)]
def wtsRel(w:World)(g2 g4 g5 o:Nat)(past:List UInt8)(iv:Value)(wr:World):Prop:=∃ j i:Nat,iv = .int .i64 (i:Nat)∧i=j+o∧i≤past.length∧ArB wr g4 331 (w256 fun _=>0)∧ArB wr g5 331 (w256 (wgtTo o past j))∧wr.cell? ⟨g2,1,none⟩=some (.int .i64 (o:Nat))∧Ext w wr
theorem weights_any(w:World){kind o:Nat}(h:okBy kind o)(A:Option Addr)(n c:Nat)(past:List UInt8)(hb:Rb w A n c past)(hl:past.length≤2000) :
  Calls prog 314 #[byV kind o,.slice A n c] w fun e w'=>e = .returned (.agg (w256 (wgtL kind o past)).toArray)∧Ext w w':=by
 obtain⟨i0,hi,hz0,hz1,hz2⟩:=info_parts info_w256;have hn:=hb.len;subst hn;have hmx:=hb.max;unfold maxLen at hmx;unfold byV;rw[w256_zero]at hz0;obtain⟨F,hF⟩:∃ F,wgtL kind o past=F:=⟨_,rfl⟩;rw[hF];have HF:=hqd hF;clear hF;go_enter func314,ntmps314;go_upto_region 1 with (with_reducible refine wpList_alloc_ar rfl 331 rfl hi hz0 ?_;intro W1 a1 e1 s1)
 go_upto_region 2 with (with_reducible refine wpList_alloc_ar rfl 331 rfl hi hz0 ?_;intro W2 a2 e2 s2)
 generalize hV:w.alloc _=V at *;have eV:Ext w V:=by subst hV;exact Ext.alloc _ _
 have k0:V.cell? ⟨w.heap.size,0,none⟩=some (.int .i64 (kind:Nat)):=by subst hV;go_simp
 have k1:V.cell? ⟨w.heap.size,1,none⟩=some (.int .i64 (o:Nat)):=by subst hV;go_simp
 have hVs:w.heap.size<V.heap.size:=by subst hV;simp
 clear hV;replace k0:=e2.cell (e1.cell k0);replace k1:=e2.cell (e1.cell k1);replace a1:=a1.ext e2;have x2:=(eV.trans e1).trans e2;have hw4:w.heap.size<V.heap.size:=hVs;have hw5:V.heap.size<W1.heap.size:=by omega
 clear e1 e2 eV s1;clear s2 hVs;generalize hg5:W1.heap.size=g5 at a2 hw5 ⊢;generalize hg4:V.heap.size=g4 at a1 hw4 hw5 ⊢;generalize hg2:w.heap.size=g2 at k0 k1 hw4 ⊢;have HG2:=hqd hg2;clear hg2 hg4 hg5;rcases h with ⟨rfl,rfl⟩|⟨rfl,ho⟩
 ·have hz:wgtL 1 0 past=fun _=>0:=by funext v;simp[wgtL]
  have hFz:F=fun _=>0:=by rw[← HF.out];exact hz
  clear hz;go_wp2_with (first|(with_reducible refine wpList_load_ar rfl 331 (.tmp 5) rfl rfl underlying331 size_w256 a2 (w256_len _) ?_)|(with_reducible refine wpList_store_ar rfl 331 (.tmp 4) (.tmp 18) rfl rfl rfl a1 (w256_len _) (w256_len _) size_w256 (w256_one _) ?_;intro W3 a3 g3 s3));exact bodyPost_ret (v:=.agg (w256 fun _=>0).toArray) (result_ar rfl _ rfl a3 (w256_len _) underlying331 size_w256) rfl ⟨by rw[hFz],Ext.own (B:=some ⟨g4,0,none⟩) x2 g3 (fun k hk=>by cases hk;have:=HG2.out;show w.heap.size≤g4;omega)⟩
 by_cases hlo:past.length<o
 ·have hz:wgtL 2 o past=fun _=>0:=by funext v;simp only[wgtL];rw[if_neg (by omega)]
  have hd:decide ((past.length:Int)<(o:Int))=true:=decide_eq_true (by omega);have hd':decide (past.length<o)=true:=decide_eq_true hlo;have hFz:F=fun _=>0:=by rw[← HF.out];exact hz
  clear hz;go_wp2_with (first|(with_reducible refine wpList_load_ar rfl 331 (.tmp 5) rfl rfl underlying331 size_w256 a2 (w256_len _) ?_)|(with_reducible refine wpList_store_ar rfl 331 (.tmp 4) (.tmp 18) rfl rfl rfl a1 (w256_len _) (w256_len _) size_w256 (w256_one _) ?_;intro W3 a3 g3 s3));exact bodyPost_ret (v:=.agg (w256 fun _=>0).toArray) (result_ar rfl _ rfl a3 (w256_len _) underlying331 size_w256) rfl ⟨by rw[hFz],Ext.own (B:=some ⟨g4,0,none⟩) x2 g3 (fun k hk=>by cases hk;have:=HG2.out;show w.heap.size≤g4;omega)⟩
 have hd:decide ((past.length:Int)<(o:Int))=false:=decide_eq_false (by omega);have hd':decide (past.length<o)=false:=decide_eq_false hlo;obtain⟨A',hA',hcut⟩:=hb.cut (k:=past.length-o) (by omega);obtain⟨m,hm⟩:∃ m,past.length-o=m:=⟨_,rfl⟩;rw[hm]at hA' hcut;have hmo:past.length-m=o:=by omega
 rw[hmo]at hcut;have hw1:IntKind.i64.wrap ((past.length:Int)-(o:Int))=(m:Nat):=by rw[IntWalk.i64_in _ (by omega)];omega
 have hml:m≤past.length:=by omega
 have hml':(m:Int)≤(past.length:Int):=by omega
 have Hcut:=hqd hcut;have Hm:=hqd hm;have Hb:=hqd hb;clear hcut hm hb;go_wp2_with fail;go_loopw [7] (fun iv wr=>wtsRel w g2 g4 g5 o past iv wr) (fun iv _=>past.length-(intOf iv).toNat)
 case atStart=>exact⟨0,o,rfl,by omega,by omega,a1,a2,k1,x2⟩
 case round =>
  obtain⟨j,i,rfl,hij,hin,r4,r5,q1,xr⟩:=hrel;by_cases hil:i<past.length
  ·clear k1 k0 a1 a2
   have hd1:decide (i<past.length)=true:=decide_eq_true hil;have hbr:=Hb.out.ext xr;obtain⟨gp,op,rfl,hci⟩:=hbr.at_ hil;have hcut2:=Rb.from2 (hbr.take (k:=i) (by omega)) (k:=j) (by omega) (by omega);have hio:i-j=o:=by omega
   rw[hio]at hcut2;have hw2:IntKind.i64.wrap ((i:Int)-(o:Int))=(j:Nat):=by rw[IntWalk.i64_in _ (by omega)];omega
   have hji:j≤i:=by omega
   have hil2:i≤past.length:=by omega
   have heq:=bytes_eq wr _ _ _ _ _ _ _ _ hcut2 (Hcut.out.ext xr);have hdt:(past.take i).drop j=(past.drop j).take o:=by rw[List.drop_take,hio]
   rw[hdt]at heq;have Heq:=hqd heq;have Hij:=hqd hij;have hpd:past.getD (j+o) 0=past[i]:=by rw[← hij,List.getD_eq_getElem?_getD,List.getElem?_eq_getElem hil];rfl
   have hst:∀ v,wgtTo o past (j+1) v=wgtTo o past j v+if (past.drop j).take o=past.drop m∧past[i].toNat=v then 1 else 0:=by
    intro v;rw[wgtTo_succ,Hm.out,hpd]
   have Hst:=hqd hst;have hx:=UInt8.toNat_lt past[i];generalize past[i].toNat=x at *;have r5x:=r5.cell (w256_get _ hx);have f5x:=r5.free x;have hle:=wgtTo_le o past j x;have R5:=hqd r5;have R4:=hqd r4;clear hij hcut2 heq hdt hpd hst r5 r4 hA';go_wp2_with fail;refine Heq.out.mono ?_;rintro e w9 ⟨rfl,rfl⟩;by_cases hq:(past.drop j).take o=past.drop m
   ·have hbq:((past.drop j).take o==past.drop m)=true:=by rw[beq_iff_eq];exact hq
    rw[hbq];have hwn:wgtTo o past (j+1) x=wgtTo o past j x+1:=by rw[Hst.out,if_pos ⟨hq,rfl⟩]
    have hset:=w256_set (wgtTo o past j) (wgtTo o past (j+1)) hx (fun v _ hv=>by rw[Hst.out,if_neg (fun h=>hv h.2.symm)];rfl);rw[hwn]at hset;have Hset:=hqd hset;clear hset hq hbq hwn;generalize wgtTo o past j x=y at *;go_wp2_with fail;go_roundw
    case rel =>
     refine⟨j+1,i+1,by go_num,by have:=Hij.out;omega,by omega,?_,?_,?_,?_⟩
     ·exact R4.out.of_block (Below.heap_setCell _ _ _ _ (by show g4≠g5;omega))
     ·have h9:=R5.out.set x (.int .i64 ((y+1:Nat):Int))
      rw[Hset.out]at h9;exact h9
     ·rw[World.cell?_setCell_other _ _ _ _ (by intro e;injection e with e1;omega)];exact q1
     ·exact Ext.own (B:=some ⟨g5,0,none⟩) xr (setc_grown _ _ _) (fun k hk=>by cases hk;have:=HG2.out;show w.heap.size≤g5;omega)
    case measure=>simp[intOf];omega
   ·have hbq:((past.drop j).take o==past.drop m)=false:=by rw[beq_eq_false_iff_ne];exact hq
    rw[hbq];have hwn:w256 (wgtTo o past (j+1))=w256 (wgtTo o past j):=w256_congr fun v _=>by rw[Hst.out,if_neg (fun h=>hq h.1)];rfl
    have Hwn:=hqd hwn;clear hq hbq hwn;go_wp2_with fail;go_roundw
    case rel=>exact⟨j+1,i+1,by go_num,by have:=Hij.out;omega,by omega,R4.out,by rw[Hwn.out];exact R5.out,q1,xr⟩
    case measure=>simp[intOf];omega
  ·obtain rfl:j=m:=by omega
   have hd1:decide (i<past.length)=false:=decide_eq_false hil;have hFz:F=wgtTo o past j:=by
    rw[← HF.out];funext v
    unfold wgtL;rw[if_pos ⟨rfl,by omega⟩,Hm.out]
   go_wp2_with (first|(with_reducible refine wpList_load_ar rfl 331 (.tmp 5) rfl rfl underlying331 size_w256 r5 (w256_len _) ?_)|(with_reducible refine wpList_store_ar rfl 331 (.tmp 4) (.tmp 51) rfl rfl rfl r4 (w256_len _) (w256_len _) size_w256 (w256_one _) ?_;intro W3 a3 g3 s3))
   exact bodyPost_ret (v:=.agg (w256 (wgtTo o past j)).toArray) (result_ar rfl _ rfl a3 (w256_len _) underlying331 size_w256) rfl ⟨by rw[hFz],Ext.own (B:=some ⟨g4,0,none⟩) xr g3 (fun k hk=>by cases hk;have:=HG2.out;show w.heap.size≤g4;omega)⟩
theorem last_any(w:World)(A:Option Addr)(n c:Nat)(past:List UInt8)(hb:Rb w A n c past):Calls prog 316 #[.slice A n c] w fun e w'=>e = .returned (.int .u8 ((lastL past).toNat:Nat))∧w'=w:=by
 have hn:=hb.len;subst hn;have hmx:=hb.max;unfold maxLen at hmx;rcases Nat.eq_zero_or_pos past.length with h0|h0
 ·have hp:past=[]:=List.eq_nil_of_length_eq_zero h0
  subst hp;have hl:(lastL []).toNat=0:=rfl;rw[hl];clear hb hmx h0 hl;go_enter func316,ntmps316;go_wp2_with fail;go_ret;exact⟨rfl,rfl⟩
 ·obtain⟨g,o,rfl,hc⟩:=hb.at_ (k:=past.length-1) (by omega)
  have hl:lastL past=past[past.length-1]:=by
   unfold lastL;rw[List.getLastD_eq_getLast?,List.getLast?_eq_getElem?,List.getElem?_eq_getElem (by omega)];rfl
  rw[hl];generalize past[past.length-1].toNat=x at *;have hz:(past.length==0)=false:=by rw[beq_eq_false_iff_ne];omega
  have hz':((past.length:Int)==0)=false:=by rw[beq_eq_false_iff_ne];omega
  obtain⟨m,hm⟩:∃ m,past.length-1=m:=⟨_,rfl⟩;rw[hm]at hc;have hw:IntKind.i64.wrap ((past.length:Int)-1)=(m:Nat):=by rw[IntWalk.i64_in _ (by omega)];omega
  have hm2:m<past.length:=by omega
  clear hb hm hl;go_enter func316,ntmps316;go_wp2_with fail;go_ret;exact⟨rfl,rfl⟩
theorem index_256(W:World)(f:Nat→Nat){k:Nat}(hk:k<256):(Instr.index 331 (.agg (w256 f).toArray) (.int .i64 (k:Nat))).run prog W = .ok (.int .i64 (f k:Nat)) W:=by
 have hs:(sizeOf 3).run prog W = .ok 1 W:=by kernel_rfl
 unfold Instr.index;have hc':=w256_get f hk;simp[asIntOf,Sem.run_bind,run_underlying underlying331,hs,part,hc',hk]
theorem first_any(w:World){kind o:Nat}(h:okBy kind o)(A:Option Addr)(n c:Nat)(past:List UInt8)(hb:Rb w A n c past)(hl:past.length≤2000) :
  Calls prog 315 #[byV kind o,.slice A n c] w fun e w'=>e = .returned (.int .u8 ((firstL kind o past).toNat:Nat))∧Ext w w':=by
 obtain⟨i0,hi,hz0,hz1,hz2⟩:=info_parts info_w256;rw[w256_zero]at hz0;rw[firstL_toNat];have hk:((kind:Int)==3)=false:=by rw[beq_eq_false_iff_ne];rcases h with ⟨rfl,_⟩|⟨rfl,_⟩<;>decide
 have hk':(kind==3)=false:=by rw[beq_eq_false_iff_ne];rcases h with ⟨rfl,_⟩|⟨rfl,_⟩<;>decide
 have Hw:=hqd fun W (e:Ext w W)=>weights_any W h A n c past (hb.ext e) hl;have Hlast:=hqd fun W (e:Ext w W)=>last_any W A n c past (hb.ext e);have hlt:=UInt8.toNat_lt (lastL past);obtain⟨F,hF⟩:∃ F,firstN kind o past=F:=⟨_,rfl⟩;rw[hF];have hF':bestTo (wgtL kind o past) (lastL past).toNat 256=F:=hF;have HF:=hqd hF';have Hle:=hqd fun v=>Nat.le_trans (wgtL_le kind o past v) hl;clear hF hF';unfold byV at *;generalize wgtL kind o past=f at *;generalize (lastL past).toNat=last at *;clear h hb hl;go_enter func315,ntmps315;go_wp2_with fail;generalize hV:w.alloc _=V at *;have eV:Ext w V:=by subst hV;exact Ext.alloc _ _
 clear hV;refine(Hw.out V eV).mono ?_;rintro e w1 ⟨rfl,e1⟩;go_wp2_with (first|(with_reducible refine wpList_alloc_ar rfl 331 rfl hi hz0 ?_;intro W1 a1 e2 s1)|(with_reducible refine wpList_store_ar rfl 331 (.tmp 5) (.tmp 24) rfl rfl rfl a1 (w256_len _) (w256_len _) size_w256 (w256_one _) ?_;intro W3 a3 g3 s3));have e3:Ext w1 W3:=Ext.own (B:=some ⟨w1.heap.size,0,none⟩) e2 g3 (fun k hk=>by cases hk;exact Nat.le_refl _);have eW:=(eV.trans e1).trans e3;clear e1 e2 e3 eV g3 s1 s3 a1;generalize w1.heap.size=g5 at *;refine(Hlast.out W3 eW).mono ?_;rintro e w4 ⟨rfl,rfl⟩;go_wp2_with (first|(with_reducible refine wpList_load_ar rfl 331 (.tmp 5) rfl rfl underlying331 size_w256 a3 (w256_len _) ?_))
 go_loop [6,28] (fun bv iv=>∃ v:Nat,iv = .int .i64 (v:Nat)∧v≤256∧bv = .int .u8 (bestTo f last v:Nat)) (fun _ iv=>256-(intOf iv).toNat)
 case atStart=>exact⟨0,rfl,Nat.zero_le _,rfl⟩
 case round =>
  obtain⟨v,rfl,hv,rfl⟩:=hrel;by_cases hv2:v<256
  ·have hd1:decide (v<256)=true:=decide_eq_true hv2
   have hd1':decide ((v:Int)<256)=true:=decide_eq_true (by omega);have hbl:=bestTo_lt f hlt hv;have hat:=index_256 w4 f hv2;have ca:=a3.cell (w256_get f hbl);have hnx:bestTo f last (v+1)=if f (bestTo f last v)<f v then v else bestTo f last v:=rfl
   have hcw:IntKind.u8.wrap (v:Int)=(v:Int):=by simp[IntKind.wrap,IntKind.bits,IntKind.signed];omega
   by_cases hlt2:f (bestTo f last v)<f v
   ·rw[if_pos hlt2]at hnx
    have Hnx:=hqd hnx;have hd2:decide ((f (bestTo f last v):Int)<(f v:Int))=true:=decide_eq_true (by omega);have hd2':decide (f (bestTo f last v)<f v)=true:=decide_eq_true hlt2;clear hnx;generalize bestTo f last v=b at *;generalize f b=fb at *;generalize f v=fv at *;go_wp2_with fail;go_round
    case rel=>exact⟨v+1,by go_num,by omega,by rw[Hnx.out]⟩
    case measure=>simp[intOf];omega
   ·rw[if_neg hlt2]at hnx
    have Hnx:=hqd hnx;have hd2:decide ((f (bestTo f last v):Int)<(f v:Int))=false:=decide_eq_false (by omega);have hd2':decide (f (bestTo f last v)<f v)=false:=decide_eq_false hlt2;clear hnx;generalize bestTo f last v=b at *;generalize f b=fb at *;generalize f v=fv at *;go_wp2_with fail;go_round
    case rel=>exact⟨v+1,by go_num,by omega,by rw[Hnx.out]⟩
    case measure=>simp[intOf];omega
  ·obtain rfl:v=256:=by omega
   rw[HF.out];go_wp2_with fail;go_ret;exact⟨rfl,eW⟩
theorem sclone_any(w:World)(A:Option Addr)(n c:Nat)(l:List UInt8)(hb:Rb w A n c l)(hs:l.length≤1000000) :
  Calls prog 319 #[.slice A n c] w (Made w 5 1 (bcs l)):=by
 obtain⟨i0,hi,hz0,hz1,hz2⟩:=info_parts info_u8;have hn:=hb.len;have hmx:=hb.max;cases A with
 | none =>
  have hl:l=[]:=by
   rcases Nat.eq_zero_or_pos n with h0|h0
   ·exact List.eq_nil_of_length_eq_zero (by omega)
   ·obtain⟨b,o,e,_⟩:=hb.2.2.2 (by omega)
    cases e
  subst hl;subst hn;clear hb hmx;have hnil:=sl_nil_yes 0 c w;go_enter func319,ntmps319;go_wp2_with fail;go_ret;exact⟨none,0,0,rfl,Own.nil_ _ _ _ _,Ext.refl _⟩
 | some a =>
  subst hn;have Hb:=hqd hb;clear hb;have hnil:=sl_nil_no a l.length c w;go_enter func319,ntmps319;go_wp2_with (at_builtin;refine wpList_append_to _ rfl _ _ 30 rfl w.heap.size 5 i0 (.int .u8 0) 1 1 underlying30 hi hz0 hz1 hz2 rfl (by decide) (some ⟨w.heap.size,0,none⟩) 0 0 [] rfl (Own.made w w.heap.size 5 1 [] 0 (Nat.le_refl _) (by decide) rfl) (some a) l.length c _ rfl (Rd.ext Hb.out (Ext.alloc _ _)) (bcs_one l) (by unfold maxLen;omega) (by omega) (by simp) ?_;intro E Ed wy hoE hgE hwE);go_ret;rw[Nat.zero_add]at hoE;exact⟨E,_,Ed,rfl,hoE,Below.trans (Ext.alloc _ _) (below_of_grown hgE (by simp) (by intro k hk;cases hk;exact Nat.le_refl _))⟩
theorem chain_any(w:World){kind o:Nat}(h:okBy kind o)(A:Option Addr)(n c:Nat)(past:List UInt8)(hb:Rb w A n c past)(hl:past.length≤1000)(m:Nat)(hm:past.length+m≤1000) :
  Calls prog 301 #[byV kind o,.slice A n c,.int .i64 (m:Nat)] w fun e w'=>∃ B d,e = .returned (.slice B m d)∧Rb w' B m d (chainL kind o past m)∧(∀ g,blk B=some g→w.heap.size≤g)∧Ext w w':=by
 obtain⟨i0,hi,hz0,hz1,hz2⟩:=info_parts info_u8;have hn:=hb.len;subst hn;have hmx:=hb.max;unfold maxLen at hmx;have Hmay:=hqd fun W=>pmay_yes W h;have Hf:=hqd fun W A n c l hb hl=>first_any W h A n c l hb hl;have Hb:=hqd fun W (e:Ext w W)=>sclone_any W A past.length c past (hb.ext e) (by omega);unfold byV at *;clear h hb;go_enter func301,ntmps301;go_wp2_with fail;generalize hV:w.alloc _=V at *;have eV:Ext w V:=by subst hV;exact Ext.alloc _ _
 have b0:V.cell? ⟨w.heap.size,0,none⟩=some (.int .i64 (kind:Nat)):=by subst hV;go_simp
 have b1:V.cell? ⟨w.heap.size,1,none⟩=some (.int .i64 (o:Nat)):=by subst hV;go_simp
 have b2:V.cell? ⟨w.heap.size,2,none⟩=some (.slice none 0 0):=by subst hV;go_simp
 have hgV:w.heap.size<V.heap.size:=by subst hV;simp
 clear hV;refine(Hmay.out V).mono ?_;rintro e w1 ⟨rfl,e1⟩;replace b0:=e1.cell b0;replace b1:=e1.cell b1;replace b2:=e1.cell b2;replace eV:=eV.trans e1;replace hgV:=Nat.lt_of_lt_of_le hgV e1.size;clear e1;go_wp2_with fail;refine(Hb.out w1 eV).mono ?_;rintro e w2 ⟨B,k,d,rfl,ho,e1⟩;have hk:k=past.length:=by have:=ho.len;rw[bcs_length]at this;omega
 subst hk;replace b0:=e1.cell b0;replace b1:=e1.cell b1;replace b2:=e1.cell b2;have hbw:w.heap.size<w1.heap.size:=hgV;have hs12:=e1.size;replace eV:=eV.trans e1;clear e1;go_wp2_with fail;go_loopw [7,16] (fun v iv wr=>∃(k:Nat) (B:Option Addr) (d:Nat),iv = .int .i64 (k:Nat)∧k≤m∧v = .slice B (past.length+k) d∧Own wr w1.heap.size 5 1 B (past.length+k) d (bcs (moreL kind o past k))∧Ext w wr∧(wr.cell? ⟨w.heap.size,0,none⟩=some (.int .i64 (kind:Nat))∧wr.cell? ⟨w.heap.size,1,none⟩=some (.int .i64 (o:Nat))∧wr.cell? ⟨w.heap.size,2,none⟩=some (.slice none 0 0))∧w1.heap.size≤wr.heap.size) (fun _ iv _=>m-(intOf iv).toNat)
 case atStart=>exact⟨0,B,d,rfl,Nat.zero_le _,rfl,ho,eV,⟨b0,b1,b2⟩,hs12⟩
 case round =>
  obtain⟨k,B,d,rfl,hk,rfl,ho,er,⟨b0,b1,b2⟩,hs1⟩:=hrel;by_cases hkm:k<m
  ·have hd1:decide (k<m)=true:=decide_eq_true hkm
   have hrb:Rb wr B (past.length+k) d (moreL kind o past k):=ho.rd;have hf:=Hf.out wr _ _ _ _ hrb (by rw[moreL_len];omega);have hsn:moreL kind o past (k+1)=moreL kind o past k++[firstL kind o (moreL kind o past k)]:=rfl;have Hsn:=hqd hsn;have HF:=hqd hf;clear hf hsn hrb;generalize hx:firstL kind o (moreL kind o past k)=x at *;go_wp2_with fail;refine HF.out.mono ?_;rintro e w3 ⟨rfl,e3⟩;have ho3:=ho.ext e3;go_wp2_with (at_builtin;refine wpList_append_new _ rfl _ _ 30 rfl w1.heap.size 5 i0 (.int .u8 0) 1 1 underlying30 hi hz0 hz1 hz2 rfl (by decide) B (past.length+k) d _ rfl ho3 1 _ rfl rfl (by simp[Value.oneCell']) (by unfold maxLen;omega) (by omega) (Nat.le_trans hs1 e3.size) ?_;intro E Ed wy hoE hgE hwE);go_roundw
   case rel =>
    have hne:blk B≠some w.heap.size:=fun h=>by have:=ho.blk_ge _ h;omega
    refine⟨k+1,E,Ed,by go_num,by omega,rfl,?_,Ext.own (er.trans e3) hgE (fun q hq=>by have:=ho.blk_ge q hq;omega),⟨?_,?_,?_⟩,by have:=hgE.size;have:=e3.size;omega⟩
    ·rw[Hsn.out,bcs_append];exact hoE
    ·exact hgE.cell (e3.cell b0) (by simpa using hne.symm)
    ·exact hgE.cell (e3.cell b1) (by simpa using hne.symm)
    ·exact hgE.cell (e3.cell b2) (by simpa using hne.symm)
   case measure=>simp[intOf];omega
  ·obtain rfl:k=m:=by omega
   have hd1:decide (k<k)=false:=decide_eq_false (by omega);have hmo:=ho.rd;have hmm:Rb wr B (past.length+k) d (moreL kind o past k):=hmo;have hmx2:=hmm.max;unfold maxLen at hmx2;obtain⟨B',hB',hcut⟩:=hmm.cut (k:=past.length) (by omega);have hln:past.length+k-past.length=k:=by omega
   rw[hln]at hcut;have hbl:∀ g,blk B'=some g→w.heap.size≤g:=by
    intro g hg;rw[← hB']at hg;have:blk B=some g:=by
     split at hg
     ·exact hg
     ·cases B with
      | none=>cases hg
      | some a=>rw[← hg];simp only[blk,Option.map_some,Addr.add];split<;>rfl
    have:=ho.blk_ge _ this;omega
   have Hcut:=hqd hcut;have Hbl:=hqd hbl;clear hcut hbl hmm hmo ho;go_wp2_with fail;go_ret;exact⟨B',_,rfl,Hcut.out,Hbl.out,er⟩
theorem gline_any(w:World){kind o:Nat}(h:okBy kind o)(A:Option Addr)(n c:Nat)(past:List UInt8)(hb:Rb w A n c past)(tt:Nat)(ht:tt≤1000)(hl:past.length≤1000) :
  Calls prog 284 #[.slice A n c,byV kind o,.int .i64 0,.int .i64 (tt:Nat)] w fun e w'=>∃ B m d,e = .returned (.slice B m d)∧Rb w' B m d (moreL kind o past (tt-past.length))∧(B=A∨∀ g,blk B=some g→w.heap.size≤g)∧Ext w w':=by
 obtain⟨i0,hi,hz0,hz1,hz2⟩:=info_parts info_u8;have hn:=hb.len;subst hn;have hmx:=hb.max;unfold maxLen at hmx;by_cases hlt:tt≤past.length
 ·have hd:decide (tt≤past.length)=true:=decide_eq_true hlt
  have hd':decide ((tt:Int)≤(past.length:Int))=true:=decide_eq_true (by omega);have hz:tt-past.length=0:=by omega
  rw[hz];have Hb:=hqd hb;unfold byV;clear hb hz;go_enter func284,ntmps284;go_wp2_with fail;go_ret;exact⟨A,_,c,rfl,Hb.out.ext (Ext.alloc _ _),.inl rfl,Ext.alloc _ _⟩
 ·have hd:decide (tt≤past.length)=false:=decide_eq_false hlt
  have hd':decide ((tt:Int)≤(past.length:Int))=false:=decide_eq_false (by omega);obtain⟨m,hm⟩:∃ m,tt-past.length=m:=⟨_,rfl⟩;rw[hm];have hw:IntKind.i64.wrap ((tt:Int)-(past.length:Int))=(m:Nat):=by rw[IntWalk.i64_in _ (by omega)];omega
  have Hc:=hqd fun W (e:Ext w W)=>chain_any W h A past.length c past (hb.ext e) hl m (by omega);have Hb:=hqd hb;have hpc:=past_chain kind o past m;have Hpc:=hqd hpc;have hm0:0<m:=by omega
  have hmb:m≤1000:=by omega
  unfold byV at *;clear hb hm hpc h;go_enter func284,ntmps284;go_wp2_with fail;generalize hV:w.alloc _=V at *;have eV:Ext w V:=by subst hV;exact Ext.alloc _ _
  have b0:V.cell? ⟨w.heap.size,0,none⟩=some (.int .i64 (kind:Nat)):=by subst hV;go_simp
  have b1:V.cell? ⟨w.heap.size,1,none⟩=some (.int .i64 (o:Nat)):=by subst hV;go_simp
  have b2:V.cell? ⟨w.heap.size,2,none⟩=some (.slice none 0 0):=by subst hV;go_simp
  clear hV;apply wrN 13;simp only[tk];repeat apply lxA (fun _ h _=>aj (h.cell b0) (aj (h.cell b1) (h.cell b2)))
  apply lex_call (p:=fun u W=>∃ B d,u = .slice B m d∧Rb W B m d (chainL kind o past m)∧∀ g,blk B=some g→w.heap.size≤g) (fun _ _ _ ⟨B,d,hv,h1,h2⟩ he=>⟨B,d,hv,h1.ext he,h2⟩)
  ·rfl
  ·intro W
   go_simp;exact⟨rfl,rfl⟩
  ·intro W hR hΦ
   refine(Hc.out W (eV.trans hR)).mono ?_;rintro e w' ⟨B,d,rfl,h1,h2,h3⟩;exact⟨_,rfl,h3,B,d,rfl,h1,fun g hg=>Nat.le_trans (Nat.le_trans eV.size hR.size) (h2 g hg)⟩
  intro v1;simp only[pu];refine lex_nil ?_;intro Wx hWx hΦ;obtain⟨B,d,rfl,hB,hBg⟩:=hΦ.1 rfl;clear hΦ;simp only[dk];have hbx:=(Hb.out.ext (eV.trans hWx));go_wp2_with (at_builtin;refine wpList_append_full _ rfl _ _ 30 rfl 5 i0 (.int .u8 0) 1 1 underlying30 hi hz0 hz1 hz2 rfl (by decide) A past.length _ rfl (Rd.cap hbx) B m d _ rfl hB hm0 (bcs_one _) (by unfold maxLen;omega) (by omega) ?_;intro E Ed wy hoE hxE);go_ret;refine⟨E,_,Ed,rfl,?_,.inr fun g hg=>?_,(eV.trans hWx).trans hxE⟩
  ·rw[← Hpc.out];exact Rb.of hoE.rd (by rw[bcs_append])
  ·have:=hoE.blk_ge g hg;have:=(eV.trans hWx).size;omega
theorem get_snoc{α:Type}(l:List α)(x:α){j:Nat}(h:j<(l++[x]).length)(e:j=l.length):(l++[x])[j]=x:=by subst e;simp
def LineP(w:World)(kind o:Nat)(past:List UInt8)(r tt:Nat)(A:Option Addr)(e:Ending)(w':World):Prop :=
 ∃ B m d l,e = .returned (.slice B m d)∧Rb w' B m d l∧tt≤l.length∧l.length≤1001∧(r=0→l=moreL kind o past (tt-past.length))∧(B=A∨∀ g,blk B=some g→w.heap.size≤g)∧past <+: l∧Ext w w'
theorem gline_zero(w:World){kind o:Nat}(h:okBy kind o)(A:Option Addr)(n c:Nat)(past:List UInt8)(hb:Rb w A n c past)(tt:Nat)(ht:tt≤1000)(hl:past.length≤1000) :
  Calls prog 284 #[.slice A n c,byV kind o,.int .i64 0,.int .i64 (tt:Nat)] w (LineP w kind o past 0 tt A):=by
 refine(gline_any w h A n c past hb tt ht hl).mono ?_;rintro e w' ⟨B,m,d,rfl,h1,h2,h3⟩;exact⟨B,m,d,_,rfl,h1,by rw[moreL_len];omega,by rw[moreL_len];omega,fun _=>rfl,h2,moreL_pref _ _ _ _,h3⟩
def aheadOf(full:Lines)(front tt:Nat):List (List UInt8):=(List.range (tt-front)).map fun j=>jointL full (front+j)
def okF(kind o:Nat)(ls:Lines)(r tt:Nat)(full:Lines):Prop:=∀ j (h:j<full.length) (h':j<ls.length),tt≤full[j].length∧ls[j] <+: full[j]∧(r=0→full[j]=moreL kind o ls[j] (tt-ls[j].length))
def okFull(kind o:Nat)(ls:Lines)(r tt:Nat)(full:Lines):Prop:=full.length=ls.length∧okF kind o ls r tt full
theorem okFull.zero{kind o:Nat}{ls:Lines}{tt:Nat}{full:Lines}(h:okFull kind o ls 0 tt full):aheadOf full (frontL ls) tt=aheadL kind o ls tt:=by
 have:full=fullL kind o ls tt:=by
  apply List.ext_getElem
  ·simp[fullL,h.1]
  ·intro j h1 h2
   have:=(h.2 j h1 (by rw[← h.1];exact h1)).2.2 rfl;rw[this];simp[fullL]
 rw[this];rfl
def boxBy(w:World)(b kind o:Nat):Prop:=w.cell? ⟨b,0,none⟩=some (.int .i64 (kind:Nat))∧w.cell? ⟨b,1,none⟩=some (.int .i64 (o:Nat))∧w.cell? ⟨b,2,none⟩=some (.slice none 0 0)
theorem boxBy.ext{w w':World}{b kind o:Nat}(h:boxBy w b kind o)(e:Ext w w'):boxBy w' b kind o:=⟨e.cell h.1,e.cell h.2.1,e.cell h.2.2⟩
theorem boxBy.grown{w w':World}{b kind o:Nat}(h:boxBy w b kind o){row:Option Nat}(hg:w.grownBy w' row)(hne:row≠some b):boxBy w' b kind o:=⟨hg.cell h.1 hne.symm,hg.cell h.2.1 hne.symm,hg.cell h.2.2 hne.symm⟩
def ah1(w V:World)(b kind o r tt:Nat)(ls:Lines)(rv lv iv:Value)(wr:World):Prop :=
 ∃(k rr:Nat) (B:Option Addr) (d:Nat) (full:Lines),iv = .int .i64 (k:Nat)∧k≤ls.length∧rv = .int .i64 (rr:Nat)∧(rr=r∨rr=0)∧lv = .slice B k d∧Rws wr V.heap.size B k d full∧okF kind o ls r tt full∧boxBy wr b kind o∧Ext w wr∧V.heap.size≤wr.heap.size
section
variable {w:World} {T:Tg} {t b:Nat} {ps:Nat→Nat} {ls:Lines}
theorem ahead_rws(h:QueueAt w T t b ps ls)(h8:ls.length≤8)(h0:0<ls.length)(hl:∀ l∈ls,l.length≤1000){kind o:Nat}(hby:okBy kind o)(r tt:Nat)(hr:r≤100)(ht:tt≤1000)
  (HL:∀ W (rr:Nat),rr=r∨rr=0→∀ A n c past,Rb W A n c past→past.length≤1000→Calls prog 284 #[.slice A n c,byV kind o,.int .i64 (rr:Nat),.int .i64 (tt:Nat)] W (LineP W kind o past rr tt A)) :
  Calls prog 267 #[ptrV b,byV kind o,.int .i64 (r:Nat),.int .i64 (tt:Nat)] w fun e w'=>∃ B m d full,e = .returned (.slice B m d)∧okFull kind o ls r tt full∧(∃ base,w.heap.size≤base∧Rws w' base B m d (aheadOf full (frontL ls) tt))∧Ext w w':=by
 obtain⟨i0,hi,hz0,hz1,hz2⟩:=info_parts info_bytes;obtain⟨j0,hj,hj0,hj1,hj2⟩:=info_parts info_u8;have Hmay:=hqd fun W=>pmay_yes W hby;have Hfront:=hqd fun W (e:Ext w W)=>queue_front (h.ext e) h8 h0 hl;have Hn:=hqd fun W (e:Ext w W)=>queue_n (h.ext e);have Hline:=hqd fun W (e:Ext w W) p (hp:p<ls.length)=>queue_line (h.ext e) h8 hp;have Hall:=hqd fun W (e:Ext w W) p (hp:p<ls.length)=>line_all ((h.line p hp).ext e) (hl _ (List.getElem_mem hp));have HLL:=hqd HL;have Hl:=hqd hl;have hd1:decide (1000<tt)=false:=decide_eq_false (by omega);have hd1':decide ((1000:Int)<(tt:Int))=false:=decide_eq_false (by omega);unfold ptrV byV at *;clear h HL hl hby;go_enter func267,ntmps267;go_wp2_with fail;generalize hV:w.alloc _=V at *;have eV:Ext w V:=by subst hV;exact Ext.alloc _ _
 have hbb:boxBy V w.heap.size kind o:=by subst hV;refine⟨?_,?_,?_⟩<;>go_simp
 have hVs:w.heap.size<V.heap.size:=by subst hV;simp
 clear hV;obtain⟨b0,b1,b2⟩:=id hbb;refine(Hmay.out V).mono ?_;rintro e w1 ⟨rfl,e1⟩;replace hbb:=hbb.ext e1;replace hVs:=Nat.lt_of_lt_of_le hVs e1.size;replace eV:=eV.trans e1;clear e1 b0 b1 b2;go_wp2_with fail;refine(Hfront.out w1 eV).mono ?_;rintro e w2 ⟨rfl,rfl⟩;go_wp2_with fail;refine(Hn.out _ eV).mono ?_;rintro e w2 ⟨rfl,rfl⟩;go_wp2_with fail;go_loopw [2,10,38] (fun rv lv iv wr=>ah1 w w2 w.heap.size kind o r tt ls rv lv iv wr) (fun _ _ iv _=>ls.length-(intOf iv).toNat)
 case atStart=>exact⟨0,r,none,0,[],rfl,Nat.zero_le _,rfl,.inl rfl,rfl,Rws.nil_ (Nat.le_refl _),fun j hj=>absurd hj (by simp),hbb,eV,Nat.le_refl _⟩
 case round =>
  obtain⟨k,rr,B,d,full,rfl,hk,rfl,hrr,rfl,hR,hF,hbx,hE,hS⟩:=hrel;by_cases hkl:k<ls.length
  ·have hdk:decide (k<ls.length)=true:=decide_eq_true hkl
   have hfl:full.length=k:=hR.len.symm;have HF:=hqd hF;have Hrr:=hqd hrr;obtain⟨hbs0,hs,ho,hsl,hel⟩:=id hR;have Hsl:=hqd hsl;have Hel:=hqd hel;have Hfl:=hqd hfl;obtain⟨b0,b1,b2⟩:=id hbx;have hlk:=Hl.out _ (List.getElem_mem hkl);have hrr2:rr≤100:=by rcases hrr with h|h<;>omega
   clear hF hrr hsl hel hR hfl;go_wp2_with fail;refine(Hline.out wr hE k hkl).mono ?_;rintro e w3 ⟨rfl,rfl⟩;go_wp2_with fail;refine(Hall.out _ hE k hkl).mono ?_;rintro e w4 ⟨B1,m1,d1,rfl,hA1,e4⟩;have hm1:m1=ls[k].length:=by have:=hA1.len;rw[bcs_length]at this;omega
   subst hm1;have HA1:=hqd hA1;clear hA1;have hcase:∃ kk rr',(kk=rr∨kk=0)∧(rr'=rr∨rr'=0)∧(((ls[k].length==frontL ls)=true∧((ls[k].length:Int)==(frontL ls:Int))=true∧kk=rr∧rr'=0)∨((ls[k].length==frontL ls)=false∧((ls[k].length:Int)==(frontL ls:Int))=false∧kk=0∧rr'=rr)):=by
    by_cases hq:ls[k].length=frontL ls
    ·exact⟨rr,0,.inl rfl,.inr rfl,.inl ⟨by rw[beq_iff_eq];exact hq,by rw[beq_iff_eq];omega,rfl,rfl⟩⟩
    ·exact⟨0,rr,.inr rfl,.inl rfl,.inr ⟨by rw[beq_eq_false_iff_ne];exact hq,by rw[beq_eq_false_iff_ne];omega,rfl,rfl⟩⟩
   obtain⟨kk,rr',hkk,hrr',hcase⟩:=hcase;have hx4:Ext w w4:=hE.trans e4;have hgl:=HLL.out w4 kk (by have:=Hrr.out;rcases hkk with h|h<;>rcases this with h'|h'<;>omega) B1 _ d1 _ (show Rb w4 B1 ls[k].length d1 ls[k] from HA1.out.rd) hlk
   have HGL:=hqd hgl;have hb0:=e4.cell b0;have hb1:=e4.cell b1;have hb2:=e4.cell b2;have Hkk:=hqd hkk;have Hrr':=hqd hrr';clear hgl b0 b1 b2 hkk hrr';generalize hlx:ls[k].length=lx at *;rcases hcase with ⟨hc1,hc2,rfl,rfl⟩|⟨hc1,hc2,rfl,rfl⟩
   all_goals
    go_wp2_with fail;refine HGL.out.mono ?_;rintro e w5 ⟨B2,m2,d2,l2,rfl,hr2,hl2a,hl2b,hl2c,hB2,hp2,e5⟩;have hown5:=ho.ext (e4.trans e5);have hkx:k+1≤1000000:=by omega
    go_wp2_with (at_builtin;refine wpList_append_new _ rfl _ _ 85 rfl w2.heap.size 30 i0 (.slice none 0 0) 1 24 underlying85 hi hz0 hz1 hz2 rfl (by decide) B k d _ rfl hown5 1 _ rfl rfl (by simp[Value.oneCell']) (by unfold maxLen;omega) (by omega) (by have:=e4.size;have:=e5.size;omega) ?_;intro E Ed wy hoE hgE hwE)
    go_roundw
    case rel =>
     have hnb:blk B≠some w.heap.size:=fun h=>by have:=ho.blk_ge _ h;omega
     refine⟨k+1,_,E,Ed,full++[l2],by go_num,by omega,rfl,by first|exact .inr rfl|exact Hrr.out,rfl,Rws.app hbs0 ho Hsl.out Hel.out (e4.trans e5) hr2 ?_ hoE hgE hwE,?_,?_,?_,?_⟩
     ·intro _ g hg
      rcases hB2 with h|h
      ·rw[h]at hg;exact HA1.out.blk_ge g hg
      ·have:=h g hg;have:=e4.size;omega
     ·intro j hj hj'
      by_cases e:j<full.length
      ·rw[List.getElem_append_left e];exact HF.out j e hj'
      ·have h9:j<full.length+1:=by rw[← List.length_singleton (a:=l2),← List.length_append];exact hj
       have hje:j=full.length:=by omega
       have hjk:j=k:=hje.trans Hfl.out;rw[get_snoc full l2 hj hje];subst hjk;exact⟨hl2a,hp2,fun h0=>hl2c (by first|trivial|exact Hrr.out.elim (fun h=>h.trans h0) id)⟩
     ·exact((hbx.ext e4).ext e5).grown hgE hnb
     ·exact Ext.own (hx4.trans e5) hgE (fun g hg=>by have:=ho.blk_ge g hg;omega)
     ·have:=hgE.size;have:=e4.size;have:=e5.size;omega
    case measure=>simp[intOf];omega
  ·obtain rfl:k=ls.length:=by omega
   have hdk:decide (ls.length<ls.length)=false:=decide_eq_false (by omega);have hFull:okFull kind o ls r tt full:=⟨hR.len.symm,hF⟩;have HFull:=hqd hFull;have hRp:=hR.rp;have HRp:=hqd hRp;have HE:=hqd hE;obtain⟨fr,hfr⟩:∃ fr,frontL ls=fr:=⟨_,rfl⟩;have Hfr:=hqd hfr;have hfr8:fr≤1000:=by rw[← hfr];exact Nat.le_trans (frontL_le ls _ (List.getElem_mem h0)) (Hl.out _ (List.getElem_mem h0))
   rw[hfr];clear hF hFull hRp hR hE hfr hbx;go_wp2_with fail;go_loopw [14,15] (fun ov fv wq=>∃(f q:Nat) (C:Option Addr) (cd:Nat),fv = .int .i64 (f:Nat)∧f=fr+q∧q≤tt-fr∧ov = .slice C q cd∧Rws wq wr.heap.size C q cd ((List.range q).map fun j=>jointL full (fr+j))∧Ext wr wq) (fun _ fv _=>tt-(intOf fv).toNat)
   case atStart=>exact⟨fr,0,none,0,rfl,rfl,Nat.zero_le _,rfl,Rws.nil_ (Nat.le_refl _),Ext.refl _⟩
   case round =>
    obtain⟨f,q,C,cd,rfl,hfq,hq,rfl,hO,hEq⟩:=hrel;by_cases hft:f<tt
    ·have hdf:decide (f<tt)=true:=decide_eq_true hft
     have hdf':decide ((f:Int)<(tt:Int))=true:=decide_eq_true (by omega);have HEq:=hqd hEq;have HRq:=hqd (HRp.out.ext hEq);have hfl8:full.length=ls.length:=HFull.out.1;have Hfq:=hqd hfq;obtain⟨hbs0,hs,ho,hsl,hel⟩:=id hO;have Ho:=hqd ho;have Hsl:=hqd hsl;have Hel:=hqd hel;have hsz0:=hEq.size;clear hEq hO ho hsl hel hfq;go_wp2_with fail;go_loopw [16,67] (fun jv iv wx=>∃(k:Nat) (D:Option Addr) (dd:Nat),iv = .int .i64 (k:Nat)∧k≤ls.length∧jv = .slice D k dd∧Own wx wr.heap.size 5 1 D k dd (bcs ((jointL full f).take k))∧Ext wr wx) (fun _ iv _=>ls.length-(intOf iv).toNat)
     case atStart=>exact⟨0,none,0,rfl,Nat.zero_le _,rfl,Own.nil_ _ _ _ _,Ext.refl _⟩
     case round =>
      obtain⟨k,D,dd,rfl,hk,rfl,hD,hx⟩:=hrel;by_cases hkl:k<ls.length
      ·have hdk2:decide (k<ls.length)=true:=decide_eq_true hkl
       have hkf:k<full.length:=by omega
       obtain⟨pb,po,Ai,ni,ci,rfl,hc0,hr0⟩:=(HRq.out.ext hx).at_ hkf;have hfk:f<full[k].length:=Nat.lt_of_lt_of_le hft (HFull.out.2 k hkf hkl).1;have hni:=hr0.len;subst hni;have hmxi:=hr0.max;unfold maxLen at hmxi;obtain⟨gi,oi,rfl,hci⟩:=hr0.at_ hfk;have hsn:(jointL full f).take k++[full[k][f]]=(jointL full f).take (k+1):=by
        unfold jointL;rw[List.take_add_one,List.getElem?_map,List.getElem?_eq_getElem hkf];simp[List.getD_eq_getElem?_getD,hfk]
       have Hsn:=hqd hsn;have hxs:=hx.size;clear hsn hr0;obtain⟨y,hy⟩:∃ y,full[k][f]=y:=⟨_,rfl⟩;rw[hy]at hci Hsn;clear hy;generalize full[k].length=lk at *;go_wp2_with (at_builtin;refine wpList_append_new _ rfl _ _ 30 rfl _ 5 j0 (.int .u8 0) 1 1 underlying30 hj hj0 hj1 hj2 rfl (by decide) D k dd _ rfl hD 1 _ rfl rfl (by simp[Value.oneCell']) (by unfold maxLen;omega) (by omega) hxs ?_;intro E Ed wy hoE hgE hwE);go_roundw
       case rel=>exact⟨k+1,E,Ed,by go_num,by omega,rfl,by rw[← Hsn.out,bcs_append];exact hoE,Ext.own hx hgE hD.blk_ge⟩
       case measure=>simp[intOf];omega
      ·obtain rfl:k=ls.length:=by omega
       have hdk2:decide (ls.length<ls.length)=false:=decide_eq_false (by omega);rw[List.take_of_length_le (by rw[jointL_len];omega)]at hD;have hr2:Rb _ D ls.length dd (jointL full f):=hD.rd;have hown6:=Ho.out.ext hx;have hxs:=hx.size;have hq1:q≤1000:=by omega
       go_wp2_with (at_builtin;refine wpList_append_new _ rfl _ _ 85 rfl _ 30 i0 (.slice none 0 0) 1 24 underlying85 hi hz0 hz1 hz2 rfl (by decide) C q cd _ rfl hown6 1 _ rfl rfl (by simp[Value.oneCell']) (by unfold maxLen;omega) (by omega) (by omega) ?_;intro E Ed wy hoE hgE hwE)
       go_roundw
       case rel =>
        refine⟨f+1,q+1,E,Ed,by go_num,by have:=Hfq.out;omega,by have:=Hfq.out;omega,rfl,?_,Ext.own (HEq.out.trans hx) hgE (fun g hg=>Ho.out.blk_ge g hg)⟩;have happ:=Rws.app (l:=jointL full f) hbs0 Ho.out Hsl.out Hel.out hx hr2 (fun _ g hg=>hD.blk_ge g hg) hoE hgE hwE;rw[List.range_succ,List.map_append,List.map_cons,List.map_nil,← Hfq.out];exact happ
       case measure=>simp[intOf];omega
    ·have hdf:decide (f<tt)=false:=decide_eq_false hft
     have hff:q=tt-fr:=by omega
     have Hff:=hqd hff;clear hff hfq;go_wp2_with fail;go_ret;exact⟨C,_,cd,full,rfl,HFull.out,by rw[Hfr.out];unfold aheadOf;rw[← Hff.out];exact⟨_,HE.out.size,hO⟩,HE.out.trans hEq⟩
theorem ahead_of(h:QueueAt w T t b ps ls)(h8:ls.length≤8)(h0:0<ls.length)(hl:∀ l∈ls,l.length≤1000){kind o:Nat}(hby:okBy kind o)(r tt:Nat)(hr:r≤100)(ht:tt≤1000)
  (HL:∀ W (rr:Nat),rr=r∨rr=0→∀ A n c past,Rb W A n c past→past.length≤1000→Calls prog 284 #[.slice A n c,byV kind o,.int .i64 (rr:Nat),.int .i64 (tt:Nat)] W (LineP W kind o past rr tt A)) :
  Calls prog 267 #[ptrV b,byV kind o,.int .i64 (r:Nat),.int .i64 (tt:Nat)] w fun e w'=>∃ B m d full,e = .returned (.slice B m d)∧okFull kind o ls r tt full∧Rp w' B m d (aheadOf full (frontL ls) tt)∧Ext w w':=(ahead_rws h h8 h0 hl hby r tt hr ht HL).mono fun _ _ ⟨B,m,d,full,h1,h2,⟨_,_,h3⟩,h4⟩=>⟨B,m,d,full,h1,h2,h3.rp,h4⟩
end
def Shown(w:World)(g:List Int)(f:Nat)(e:Ending)(w':World):Prop:=∃ B d,e = .returned (.tuple #[.slice B 128 d,.int .i64 (f:Nat)])∧Rb w' B 128 d (gameL g)∧Ext w w'
def dispG(tp:List UInt8)(l:List OpT)(kind o me:Nat)(c:Cr):List Int:=foldN tp l (c.front:Nat) (gameAt tp l c.ls c.front) (aheadL kind o c.ls (c.head me))
section
variable {w w':World} {T T':Tg} {t b:Nat} {cf:Cf} {me cb qb:Nat} {tp:List UInt8} {l:List OpT} {ps:Nat→Nat} {c c':Cr} {m:Nat}
theorem plain_confirmed(h:PlainAt w T t b cf me tp l cb qb ps c m)(hk:CrOk cf me c []):Calls prog 263 #[ptrV b] w (Shown w (gameAt tp l c.ls m) c.front):=by
 have hG:=gameAt_ok tp l c.ls m;have hlen:=hk.len;have hn8:=hk.ok.n8;have h2:=hk.ok.n2;have Hqu:=hqd fun W (e:Ext w W)=>core_queue (h.core.ext e);have Hfr:=hqd fun W (e:Ext w W)=>queue_front (h.core.que.ext e) (by rw[hlen];exact hn8) (by rw[hlen];omega) hk.short;rw[show frontL c.ls=c.front from rfl]at Hfr;have Henc:=hqd fun W=>sencode_any W (gameAt tp l c.ls m) hG;have hl1:((gameAt tp l c.ls m).map (Value.int .i32)).length=32:=by rw[List.length_map,hG.1]
 obtain⟨⟨A,n,d,h1,h3⟩,h4⟩:=h;unfold plainL at h1;unfold gcs at *;generalize (gameAt tp l c.ls m).map (Value.int .i32)=g1 at *;have b0:=h1.cell (i:=0) rfl;have bg:∀ i v,g1[i]?=some v→w.cell? ⟨b,6+i,none⟩=some v:=fun i v hv=>h1.cell (by
  rw[List.getElem?_append_right (by simp),show 6+i-_=i from by simp];exact hv)
 unfold ptrV at *;generalize gameAt tp l c.ls m=G at *;clear h1 h3 h4 hk hG hlen;go_enter func263,ntmps263;go_wp2_with fail;apply wrN 11;simp only[tk];repeat apply lxA (fun _ h _=>h.cell b0)
 apply lex_ex (u:=.agg g1.toArray) Ext.refl
 ·rfl
 ·intro W hR hΦ
  exact exec_load_ara 205 (.tmp 8) rfl rfl underlying205 size_state hl1 (fun i v h=>hR.cell (bg i v h))
 simp only[pu];apply lex_call (p:=fun u W=>∃ B d,u = .slice B 128 d∧Rb W B 128 d (gameL G)) (fun _ _ _ ⟨B,bd,hv,h1⟩ he=>⟨B,bd,hv,h1.ext he⟩)
 ·rfl
 ·intro W
  go_simp;exact⟨rfl,rfl⟩
 ·intro W hR hΦ
  refine(Henc.out W).mono ?_;rintro e w' ⟨B,bd,rfl,ho,he⟩;exact⟨_,rfl,he,B,bd,rfl,ho⟩
 intro v1;simp only[pu];repeat apply lxA (fun _ h _=>h.cell b0)
 apply lxC (fun W hR=>Hqu.out W hR);apply lxC (fun W hR=>Hfr.out W hR);refine lex_nil ?_;intro Wx hWx hΦ;obtain⟨B,bd,rfl,hB⟩:=hΦ.1 rfl;clear hΦ;simp only[dk];go_wp2_with fail;go_ret2
 exact⟨B,bd,rfl,hB,hWx⟩
theorem plain_display(h:PlainAt w T t b cf me tp l cb qb ps c c.front)(hk:CrOk cf me c [])(htp:tp.length≤1099511627776):Calls prog 266 #[ptrV b] w (if c.head me≤c.front then Shown w (gameAt tp l c.ls c.front) c.front else Shown w (dispG tp l cf.guess cf.order me c) (c.head me)):=by
 have hG:=gameAt_ok tp l c.ls c.front;have hlen:=hk.len;have hn8:=hk.ok.n8;have h2:=hk.ok.n2;have hfr:=hk.front_le;have hml:me<c.ls.length:=by rw[hk.len];exact hk.me
 have hhd:c.head me≤1000:=by
  have:(c.head me)=c.ls[me].length:=by simp[Cr.head,Cr.mine,List.getD_eq_getElem?_getD,hml]
  rw[this];exact hk.short _ (List.getElem_mem hml)
 have hby:okBy cf.guess cf.order:=hk.ok.by_;have Hco:=hqd (plain_core h);have Hcon:=hqd fun W (e:Ext w W)=>plain_confirmed (h.ext e) hk;have Hqu:=hqd fun W (e:Ext w W)=>core_queue (h.core.ext e);have Hhd:=hqd fun W (e:Ext w W)=>core_head (h.core.ext e) (hk.marksP tp l hfr);have Hfr:=hqd fun W (e:Ext w W)=>queue_front (h.core.que.ext e) (by rw[hlen];exact hn8) (by rw[hlen];omega) hk.short;rw[show frontL c.ls=c.front from rfl]at Hfr;have Hah:=hqd fun W (e:Ext w W)=>ahead_of (h.core.que.ext e) (by rw[hlen];exact hn8) (by rw[hlen];omega) hk.short hby 0 (c.head me) (by decide) hhd (fun W rr hrr A n c past hb hl=>by
  obtain rfl:rr=0:=by omega
  exact gline_zero W hby A n c past hb _ hhd hl)
 obtain⟨⟨A,n,d,h1,h3⟩,h4⟩:=h;have b0:=h1.cell (i:=0) rfl;unfold ptrV byV at *;by_cases hle:c.head me≤c.front
 ·rw[if_pos hle]
  have e1:decide (c.head me≤c.front)=true:=decide_eq_true hle;have e1':decide ((c.head me:Int)≤(c.front:Int))=true:=decide_eq_true (by omega);clear h1 h3 h4 hk hG hlen Hah hle;generalize c.head me=hd at *;generalize hff:c.front=fr at *;go_enter func266,ntmps266;go_wp2_with fail;refine Hco.out.mono ?_;rintro e w1 ⟨rfl,hw⟩;subst hw;go_wp2_with fail;refine(Hqu.out _ (Ext.refl _)).mono ?_;rintro e w1 ⟨rfl,hw⟩;subst hw;go_wp2_with fail;refine(Hfr.out _ (Ext.refl _)).mono ?_;rintro e w1 ⟨rfl,hw⟩;subst hw;go_wp2_with fail;refine(Hhd.out _ (Ext.refl _)).mono ?_;rintro e w2 ⟨rfl,e2⟩;go_wp2_with fail;refine(Hcon.out _ e2).mono ?_;rintro e w3 ⟨B,bd,rfl,hB,e3⟩;go_wp2_with fail;go_ret2
  exact⟨B,bd,rfl,hB,e2.trans e3⟩
 ·rw[if_neg hle]
  have e1:decide (c.head me≤c.front)=false:=decide_eq_false hle;have e1':decide ((c.head me:Int)≤(c.front:Int))=false:=decide_eq_false (by omega);have hG2:okG (dispG tp l cf.guess cf.order me c):=foldN_ok tp l _ _ hG;have hal:(aheadL cf.guess cf.order c.ls (c.head me)).length≤1000:=by rw[aheadL_len];omega
  have hRo:Ro w A n d l:=h3.rd;have Hfrom:=hqd fun W (e:Ext w W) PA pn pc (hp:Rp W PA pn pc (aheadL cf.guess cf.order c.ls (c.head me)))=>from_any W tp A n d l (c.front:Nat) PA pn pc (aheadL cf.guess cf.order c.ls (c.head me)) (gameAt tp l c.ls c.front) htp (hRo.ext e) hp hG (by omega) (by omega) hal;rw[show foldN tp l (c.front:Nat) (gameAt tp l c.ls c.front) (aheadL cf.guess cf.order c.ls (c.head me))=dispG tp l cf.guess cf.order me c from rfl]at Hfrom;have Henc:=hqd fun W=>sencode_any W (dispG tp l cf.guess cf.order me c) hG2;have Hah2:Hid (∀ W,Ext w W→Calls prog 267 #[.pointer (some ⟨qb,0,none⟩),.agg #[.int .i64 (cf.guess:Nat),.int .i64 (cf.order:Nat),.slice none 0 0],.int .i64 0,.int .i64 (c.head me:Nat)] W fun e w'=>∃ B m d,e = .returned (.slice B m d)∧Rp w' B m d (aheadL cf.guess cf.order c.ls (c.head me))∧Ext W w'):=hqd fun W e=>by
   refine(Hah.out W e).mono ?_;rintro e w' ⟨B,m,d,full,h1,h2,h3,h4⟩;rw[h2.zero]at h3;exact⟨B,m,d,h1,h3,h4⟩
  have hl1:((gameAt tp l c.ls c.front).map (Value.int .i32)).length=32:=by rw[List.length_map,hG.1]
  clear Hah Hcon h4 hk hG hG2 hlen hle hal hRo h3;unfold plainL at h1;unfold gcs pAgg at *;generalize dispG tp l cf.guess cf.order me c=G2 at *;generalize aheadL cf.guess cf.order c.ls (c.head me)=al at *;generalize (gameAt tp l c.ls c.front).map (Value.int .i32)=g1 at *;generalize hg2:G2.map (Value.int .i32)=g2 at *;have Hg2:=hqd hg2;clear hg2;generalize c.head me=hd at *;generalize hff:c.front=fr at *;clear hff;have b1:=h1.cell (i:=1) rfl;have b2:=h1.cell (i:=2) rfl;have b3:=h1.cell (i:=3) rfl;have b4:=h1.cell (i:=4) rfl;have b5:=h1.cell (i:=5) rfl;have bg:∀ i v,g1[i]?=some v→w.cell? ⟨b,6+i,none⟩=some v:=fun i v hv=>h1.cell (by
   rw[List.getElem?_append_right (by simp),show 6+i-_=i from by simp];exact hv)
  clear h1;go_enter func266,ntmps266;go_wp2_with fail;refine Hco.out.mono ?_;rintro e w1 ⟨rfl,hw⟩;subst hw;go_wp2_with fail;refine(Hqu.out _ (Ext.refl _)).mono ?_;rintro e w1 ⟨rfl,hw⟩;subst hw;go_wp2_with fail;refine(Hfr.out _ (Ext.refl _)).mono ?_;rintro e w1 ⟨rfl,hw⟩;subst hw;go_wp2_with fail;refine(Hhd.out _ (Ext.refl _)).mono ?_;rintro e w2 ⟨rfl,e2⟩;replace b0:=e2.cell b0;replace b1:=e2.cell b1;replace b2:=e2.cell b2;replace b3:=e2.cell b3;replace b4:=e2.cell b4;replace b5:=e2.cell b5;replace bg:∀ i v,g1[i]?=some v→w2.cell? ⟨b,6+i,none⟩=some v:=fun i v hv=>e2.cell (bg i v hv);go_wp2_with fail;apply wrN 31;simp only[tk];repeat apply lxA (fun _ h _=>aj (h.cell b0) (aj (h.cell b1) (h.cell b2)))
  apply lex_ex (u:=.agg g1.toArray) Ext.refl
  ·rfl
  ·intro W hR hΦ
   exact exec_load_ara 205 (.tmp 30) rfl rfl underlying205 size_state hl1 (fun i v h=>hR.cell (bg i v h))
  simp only[pu];repeat apply lxA (fun _ h _=>aj (h.cell b0) (aj (h.cell b1) (h.cell b2)))
  apply lxC (fun W hR=>Hqu.out W (e2.trans hR));repeat apply lxA (fun _ h _=>aj (h.cell b0) (aj (h.cell b3) (aj (h.cell b4) (h.cell b5))))
  apply lxC (fun W hR=>Hhd.out W (e2.trans hR));apply lex_call (p:=fun u W=>∃ B m d,u = .slice B m d∧Rp W B m d al) (fun _ _ _ ⟨B,m,bd,hv,h1⟩ he=>⟨B,m,bd,hv,h1.ext he⟩)
  ·rfl
  ·intro W
   go_simp;exact⟨rfl,rfl⟩
  ·intro W hR hΦ
   refine(Hah2.out W (e2.trans hR)).mono ?_;rintro e w' ⟨B,m,bd,rfl,ho,he⟩;exact⟨_,rfl,he,B,m,bd,rfl,ho⟩
  intro v1;simp only[pu];apply lex_callx (u:=.agg g2.toArray)
  ·rfl
  ·intro W
   go_simp;exact⟨rfl,rfl⟩
  ·intro W hR hΦ
   obtain⟨B,m,bd,rfl,hRp⟩:=hΦ.1 rfl;refine(Hfrom.out W (e2.trans hR) B m bd hRp).mono ?_;rintro e w' ⟨rfl,he⟩;exact⟨rfl,he⟩
  simp only[pu];apply lex_call (p:=fun u W=>∃ B d,u = .slice B 128 d∧Rb W B 128 d (gameL G2)) (fun _ _ _ ⟨B,bd,hv,h1⟩ he=>⟨B,bd,hv,h1.ext he⟩)
  ·rfl
  ·intro W
   go_simp;exact⟨rfl,rfl⟩
  ·intro W hR hΦ
   refine(Henc.out W).mono ?_;rintro e w' ⟨B,bd,rfl,ho,he⟩;exact⟨_,rfl,he,B,bd,rfl,ho⟩
  intro v2;simp only[pu];repeat apply lxA (fun _ h _=>h.cell b0)
  apply lxC (fun W hR=>Hhd.out W (e2.trans hR));refine lex_nil ?_;intro Wx hWx hΦ;obtain⟨B,bd,rfl,hB⟩:=hΦ.1 rfl;clear hΦ;simp only[dk];go_wp2_with fail;go_ret2
  exact⟨B,bd,rfl,hB,e2.trans hWx⟩
end
theorem clone_none(w:World):Calls prog 144 #[.slice none 0 0] w fun e w'=>e = .returned (.slice none 0 0)∧w'=w:=by
 have hnil:=sl_nil_yes 0 0 w;go_enter func144,ntmps144;go_wp2_with fail;go_ret;exact⟨rfl,rfl⟩
theorem Turn.fresh{w w2 w3:World}{T T2 T3:Tg}{S:Nat→Prop}(h:Turn (fun _=>False) w T w2 T2)(h2:Turn S w2 T2 w3 T3)(hf:∀ k,k<w.heap.size→¬ S (T k)):Turn (fun _=>False) w T w3 T3 :=
 ⟨h2.os.trans h.os,h2.tape.trans h.tape,h2.output.trans h.output,Nat.le_trans h.size h2.size,fun k hk _=>(h2.block k (Nat.lt_of_lt_of_le hk h.size) (by rw[h.tag k hk];exact hf k hk)).trans (h.block k hk (fun h=>h)),fun k hk=>(h2.tag k (Nat.lt_of_lt_of_le hk h.size)).trans (h.tag k hk),h2.unborn⟩
section
variable {w w':World} {T T':Tg} {t b:Nat} {cf:Cf} {me cb qb:Nat} {tp:List UInt8} {l:List OpT} {ps:Nat→Nat} {c c':Cr} {m:Nat}
theorem CrOk.new{cf:Cf}{me:Nat}(hok:CfOk cf)(hme:me<cf.n):CrOk cf me (Cr.new cf.n cf.delay) []:=by
 have hd:=hok.delay;refine⟨hok,hme,by simp[Cr.new],?_,by simp[Cr.new],by simp[Cr.new],?_,?_,?_,by simp,by simp⟩
 ·intro l hl
  obtain⟨_,rfl⟩:=List.mem_replicate.1 hl;rw[List.length_replicate];omega
 ·intro i;show cf.delay≤1000;omega
 ·intro i;exact Nat.le_refl _
 ·intro i;exact⟨Nat.zero_le _,show 0<4294967296 by decide⟩
theorem info_op9:(prog.info? 127).map (fun i=>(i.zero,i.size,i.bytes))=some (some (.agg #[.int .i64 0,.int .i64 0,.int .i64 0,.int .i64 0]),4,32):=by kernel_rfl
theorem size_conf:(prog.info? 26).map (·.size)=some 10:=by kernel_rfl
theorem size_by:(prog.info? 204).map (·.size)=some 3:=by kernel_rfl
theorem plain_by(h:PlainAt w T t b cf me tp l cb qb ps c m):Calls prog 268 #[ptrV b] w fun e w'=>e = .returned (byV cf.guess cf.order)∧Ext w w':=by
 obtain⟨⟨A,n,d,h1,h3⟩,h4⟩:=h;have b3:=h1.cell (i:=3) rfl;have b4:=h1.cell (i:=4) rfl;have b5:=h1.cell (i:=5) rfl;have hlt:=h1.lt;clear h1 h3 h4;unfold ptrV byV at *;go_enter func268,ntmps268;go_wp2_with fail;exact bodyPost_ret (v:=.agg #[.int .i64 (cf.guess:Nat),.int .i64 (cf.order:Nat),.slice none 0 0]) (by simp[results,Tryz.results268,go_sem]) rfl ⟨rfl,Ext.alloc _ _⟩
theorem zero_state:(prog.info? 205).map (·.zero)=some (some (.agg (List.replicate 32 (Value.int .i32 0)).toArray)):=by kernel_rfl
theorem plain_game_has{A:Option Addr}{n d:Nat}(h1:Has w T t b (plainL cb tp A n d cf (gameAt tp l c.ls m))):Calls prog 143 #[ptrV b] w fun e w'=>e = .returned (.agg (gcs (gameAt tp l c.ls m)))∧Ext w w':=by
 obtain⟨i,hi,hz⟩:∃ i,prog.info? 205=some i∧i.zero=some (.agg (List.replicate 32 (Value.int .i32 0)).toArray):=by
  have h9:=zero_state;cases hq:prog.info? 205 with
  | none=>rw[hq]at h9;cases h9
  | some i=>rw[hq]at h9;exact⟨i,rfl,by simpa using h9⟩
 have hG:=gameAt_ok tp l c.ls m;have hl1:((gameAt tp l c.ls m).map (Value.int .i32)).length=32:=by rw[List.length_map,hG.1]
 have hone:∀ u∈(gameAt tp l c.ls m).map (Value.int .i32),u.oneCell'=true:=by
  intro u hu;obtain⟨x,_,rfl⟩:=List.mem_map.1 hu;rfl
 unfold plainL at h1;unfold gcs at *;generalize (gameAt tp l c.ls m).map (Value.int .i32)=g1 at *;have bg:∀ i v,g1[i]?=some v→w.cell? ⟨b,6+i,none⟩=some v:=fun i v hv=>h1.cell (by
  rw[List.getElem?_append_right (by simp),show 6+i-_=i from by simp];exact hv)
 have hzl:(List.replicate 32 (Value.int .i32 0)).length=32:=by simp
 have hlt:=h1.lt;unfold ptrV at *;clear h1 hG;generalize List.replicate 32 (Value.int .i32 0)=zs at *;go_enter func143,ntmps143;go_wp2_with (first|(with_reducible refine wpList_alloc_ar rfl 205 rfl hi hz ?_;intro W2 hA x2 s2;have bg2:∀ i v,g1[i]?=some v→W2.cell? ⟨b,6+i,none⟩=some v:=fun i v hv=>x2.cell (bg i v hv))|(with_reducible refine wpList_load_ara rfl 205 (.tmp 5) rfl rfl underlying205 size_state hl1 bg2 ?_)|(with_reducible refine wpList_store_ar rfl 205 (.tmp 2) (.tmp 6) rfl rfl rfl hA hl1 hzl size_state hone ?_;intro Z bZ gZ sZ));have eZ:=Ext.own (B:=some ⟨w.heap.size,0,none⟩) x2 gZ (fun k hk=>by have h9:w.heap.size=k:=Option.some.inj hk;omega);exact bodyPost_ret (result_ar rfl _ rfl bZ hl1 underlying205 size_state) rfl ⟨rfl,eZ⟩
theorem plain_new(w:World)(T:Tg)(hu:Unborn w T)(cf:Cf)(me:Nat)(hok:CfOk cf)(hme:me<cf.n)(t:Nat)(ht:0<t)(hT0:∀ k,k<w.heap.size→¬ In t 24 (T k))(tp:List UInt8)(l:List OpT){A:Option Addr}{n d:Nat}(hRo:Ro w A n d l)(htp:tp.length≤1099511627776)(hfl:faultL tp l = -1)(hll:l.length≤64) :
  Calls prog 98 #[confV cf me,pAgg tp A n d,.slice none 0 0] w (Gives (fun _=>False) w T fun v w' T'=>∃ b cb qb ps,v = .tuple #[ptrV b,.int .i64 0]∧PlainAt w' T' t b cf me tp l cb qb ps (Cr.new cf.n cf.delay) (Cr.new cf.n cf.delay).front):=by
 have Hclone:=hqd fun W=>clone_none W;have Hcore:=hqd fun W T1 (h1:Unborn W T1)=>core_new W T1 h1 cf me hok hme (t+2) (by omega);have Hcheck:=hqd fun W (e:Ext w W)=>may_is W tp A n d l htp (hRo.ext e) (b:=true) (by rw[hfl];rfl);have Hop:=hqd (opcs_one l);have Hmay:=hqd fun W=>pmay_yes W (kind:=cf.guess) (o:=cf.order) hok.by_;unfold confV pAgg byV at *;go_enter func98,ntmps98;go_upto_region 1 with fail
 have x0:=(Ext.alloc w (.cells (confCells cf me).toArray 26)).trans (Ext.alloc _ (.cells #[.string (bs tp),.slice A n d] 65));have hb:=(Has.new w (fun _=>0) (confCells cf me) 26 rfl).2;have hp:=(Has.new (w.alloc (.cells (confCells cf me).toArray 26)) (fun _=>0) [.string (bs tp),.slice A n d] 65 (b:=w.heap.size+1) (by simp)).2;have hb:Has _ T 0 w.heap.size _:=(show Has _ T 0 w.heap.size _ from⟨hu _ (Nat.le_refl _),hb⟩).ext (Ext.alloc _ (.cells #[.string (bs tp),.slice A n d] 65));have hp:Has _ T 0 (w.heap.size+1) _:=⟨hu _ (by omega),hp⟩;unfold confCells at *;generalize hW:World.alloc (World.alloc w _) _=W0 at *;have hcp:w.heap.size≠w.heap.size+1:=by omega
 have Hgc:=hqd (show w.heap.size≤w.heap.size from Nat.le_refl _);obtain⟨gc,hgc⟩:∃ gc,gc=w.heap.size:=⟨_,rfl⟩;obtain⟨gp,hgp⟩:∃ gp,gp=w.heap.size+1:=⟨_,rfl⟩;rw[← hgp]at hp ⊢;rw[← hgc]at hb ⊢;have Hgp:=hqd (show w.heap.size≤gp by omega);have Hgc:=hqd (show w.heap.size≤gc by omega);have Hne:=hqd (show gc≠gp by omega);clear hW hcp hgc hgp;have hltc:=hb.lt;have hltp:=hp.lt;have k5:=hb.cell (i:=5) rfl;have k6:=hb.cell (i:=6) rfl;have HB:=hqd hb;have HP:=hqd hp;clear hb hp;go_wp2_with fail;apply wrN 8;simp only[tk];repeat apply lxA (fun _ h _=>aj (h.cell k5) (h.cell k6))
 apply lxC (fun W hR=>Hclone.out W);repeat apply lxA (fun _ h _=>aj (h.cell k5) (h.cell k6))
 apply lex_new (p:=fun u W=>∃ g,u = .pointer (some ⟨g,0,none⟩)∧W0.heap.size≤g∧Has W T 0 g [.int .i64 0,.int .i64 0,.slice none 0 0]) (fun _ _ _ ⟨g,hv,hg,h⟩ he=>⟨g,hv,hg,h.ext he⟩)
 ·rfl
 ·intro W hR hΦ
  refine⟨.pointer (some ⟨W.heap.size,0,none⟩),W.alloc (.cells #[.int .i64 0,.int .i64 0,.slice none 0 0] 204),?_,Ext.alloc _ _,W.heap.size,rfl,hR.size,hu _ (Nat.le_trans x0.size hR.size),(Has.new W (fun _=>0) [.int .i64 0,.int .i64 0,.slice none 0 0] 204 rfl).2⟩;go_simp;first|done|rfl
 intro v1;simp only[pu];refine lex_nil ?_;intro Wx hWx hΦ;obtain⟨g,rfl,hg0,hg⟩:=hΦ.1 rfl;clear hΦ;simp only[dk];have hl3:[Value.int .i64 (cf.guess:Nat),.int .i64 (cf.order:Nat),.slice none 0 0].length=3:=rfl;have hv3:[Value.int .i64 0,.int .i64 0,.slice none 0 0].length=3:=rfl;have h13:∀ u∈[Value.int .i64 (cf.guess:Nat),.int .i64 (cf.order:Nat),.slice none 0 0],u.oneCell'=true:=by simp[Value.oneCell']
 have hgg:g≠gc∧g≠gp:=by omega
 have hl10:[Value.int .i64 (cf.n:Nat),.int .i64 (me:Nat),.int .i64 (cf.id:Nat),.int .i64 (cf.delay:Nat),.int .i64 (cf.window:Nat),.int .i64 (cf.guess:Nat),.int .i64 (cf.order:Nat),.int .i64 (cf.branches:Nat),.int .i64 (cf.workers:Nat),.int .i64 (cf.room:Nat)].length=10:=rfl;go_wp2_with (first|(with_reducible refine wpList_store_st rfl 204 (.tmp 8) (.tmp 18) rfl rfl (us:=[.int .i64 (cf.guess:Nat),.int .i64 (cf.order:Nat),.slice none 0 0]) rfl hg hl3 hv3 size_by h13 ?_;intro Z bZ gZ sZ;have hbZ:=(HB.out.ext hWx).grown gZ (by simpa using hgg.1);have hpZ:=(HP.out.ext hWx).grown gZ (by simpa using hgg.2))|(with_reducible refine wpList_load_st rfl 26 (.tmp 3) rfl rfl underlying26 size_conf hl10 hbZ.all ?_));have eZ:=Ext.own (B:=some ⟨g,0,none⟩) (x0.trans hWx) gZ (fun k hk=>by have h9:g=k:=Option.some.inj hk;have:=x0.size;omega);have huZ:=hu.ext eZ;refine(Hcore.out Z T huZ).mono ?_;rintro e w2 ⟨v,rfl,T2,hT2,cb,qb,ps,rfl,hC2⟩;have hb2:=(hbZ.turn hT2 (fun h=>h));have hp2:=(hpZ.turn hT2 (fun h=>h));have hg2:=(bZ.turn hT2 (fun h=>h));have HT2:=hqd ((Turn.of_ext (fun _=>False) hu eZ).trans hT2);have HC2:=hqd hC2;have x2:Ext Z w2:=⟨hT2.os,hT2.tape,hT2.output,hT2.size,fun k hk=>hT2.block k hk (fun h=>h)⟩;have HX2:=hqd (eZ.trans x2);have p0:=hp2.cell (i:=0) rfl;have p1:=hp2.cell (i:=1) rfl;have y0:=hg2.cell (i:=0) rfl;have y1:=hg2.cell (i:=1) rfl;have y2:=hg2.cell (i:=2) rfl;have HPP:=hqd hp2;have HGG:=hqd hg2;unfold ptrV at *;clear bZ gZ sZ hbZ hpZ hb2 hp2 hg2 hT2 hC2 x2 eZ k5 k6 hg hl3 hv3 h13 hl10 huZ HB HP;go_wp2_with fail;refine(Hcheck.out w2 HX2.out).mono ?_;rintro e w3 ⟨rfl,e3⟩;replace y0:=e3.cell y0;replace y1:=e3.cell y1;replace y2:=e3.cell y2;replace p0:=e3.cell p0;replace p1:=e3.cell p1;go_wp2_with fail;refine(Hmay.out w3).mono ?_;rintro e w4 ⟨rfl,e4⟩;have e24:=e3.trans e4;have hp4:=HPP.out.ext e24;have hRo4:Ro w4 A n d l:=hRo.ext (HX2.out.trans e24);have hnl:=hRo.len;have Hnl:=hqd hnl;have hn64:n≤64:=by omega
 clear hnl;have hop1:∀ u∈opcs l,u.oneCell'=true:=Hop.out;replace y0:=e4.cell y0;replace y1:=e4.cell y1;replace y2:=e4.cell y2;replace p0:=e4.cell p0;replace p1:=e4.cell p1;obtain⟨i0,hi,hz0,hz1,hz2⟩:=info_parts info_op9;go_upto_region 6 with (at_builtin;refine wpList_append_nil _ rfl _ _ 63 rfl w4.heap.size 127 i0 (.agg #[.int .i64 0,.int .i64 0,.int .i64 0,.int .i64 0]) 4 32 underlying63 hi hz0 hz1 hz2 rfl (by decide) rfl A n d _ rfl hRo4 hop1 (by unfold maxLen;omega) (by omega) (Nat.le_refl _) ?_;intro B2 bd2 w5 ho5 e5;have hp5:=hp4.ext e5;have q1:=hp5.cell (i:=1) rfl;have qf:=hp5.free 1)
 have hu2:=HT2.out.unborn;have hu4:=hu2.ext e24;obtain⟨hTr,hRow⟩:=Row.fresh hu4 ho5 e5 (t+1);have hgp5:give T2 (Proofs.YtffcefoadaogbaaGreat.went none B2) (t+1) gp=0:=by rw[hTr.tag gp hp4.lt];exact hp4.1
 have hTs:Turn (· = 0) w5 (give T2 (Proofs.YtffcefoadaogbaaGreat.went none B2) (t+1)) (w5.setCell ⟨gp,1,none⟩ (.slice B2 n bd2)) (give T2 (Proofs.YtffcefoadaogbaaGreat.went none B2) (t+1)):=Turn.of_set hTr.unborn _ _ hgp5;have hC5:=((HC2.out.ext e24).turn hTr (fun _ _ h=>h)).turn hTs (fun k hk=>by unfold In at hk;omega);have hR5:=hRow.turn hTs (by omega);have hp6:=(hp5.of hgp5).set 1 (.slice B2 n bd2);have hTw:=(((HT2.out.ext e24).trans hTr).set ⟨gp,1,none⟩ (.slice B2 n bd2) (.inr Hgp.out));have hy6:=(((HGG.out.ext e24).ext e5).set_other (a:=⟨gp,1,none⟩) (by exact fun e=>hgg.2 e.symm) (.slice B2 n bd2));generalize give T2 (Proofs.YtffcefoadaogbaaGreat.went none B2) (t+1)=T5 at *;generalize hW6:World.setCell w5 _ _=w6 at *;have p0:=hp6.cell (i:=0) rfl;have p1:=hp6.cell (i:=1) rfl;have y0:=hy6.cell (i:=0) rfl;have y1:=hy6.cell (i:=1) rfl;have y2:=hy6.cell (i:=2) rfl;clear hW6 hTs hRow hTr hp5 q1 qf hp4;have HC5:=hqd hC5;have HR5:=hqd hR5;have HTw:=hqd hTw;clear hC5 hR5 hTw hp6 hy6;go_upto_region 7 with fail
 obtain⟨hT7,hH7⟩:=Has.fresh HTw.out.unborn (plainL cb tp B2 n bd2 cf zeroG) 207 t;generalize hW7:World.alloc w6 _=w7;have hW7':w6.alloc (.cells (plainL cb tp B2 n bd2 cf zeroG).toArray 207)=w7:=by rw[← hW7];rfl
 rw[hW7']at hT7 hH7;clear hW7 hW7';generalize w6.heap.size=gb at *;have hC7:=HC5.out.turn hT7 (fun _ _ h=>h);have hR7:=HR5.out.turn hT7 (fun h=>h);have HT7:=hqd (HTw.out.trans hT7);generalize give T5 (one gb) t=T7 at *;have hP7:PlainAt w7 T7 t gb cf me tp l cb qb ps (Cr.new cf.n cf.delay) 0:=⟨⟨B2,n,bd2,hH7,hR7⟩,hC7⟩;have Hmark:=hqd (plain_mark hP7 (CrOk.new hok hme) HT7.out.unborn ht htp (Nat.zero_le _) (fun i _ h=>absurd h (by simp[Cr.new])));unfold ptrV at *;clear hP7 hC7 hR7 hT7 hH7;go_wp2_with fail;refine Hmark.out.mono ?_;rintro e w8 ⟨rfl,T8,hT8,hP8⟩;have HT8:=hqd hT8;have HP8:=hqd hP8;clear hT8 hP8;go_wp2_with fail;go_ret2
 exact⟨_,rfl,T8,HT7.out.fresh HT8.out hT0,gb,cb,qb,ps,rfl,HP8.out⟩
end
theorem size_eight:(prog.info? 265).map (·.size)=some 8:=by kernel_rfl
theorem zero_eight:(prog.info? 265).map (·.zero)=some (some (.agg (List.replicate 8 (Value.int .i32 0)).toArray)):=by kernel_rfl
def pageL(g:List Int)(k:Nat):List Int:=(g.drop (k*8)).take 8
theorem pageL_len{g:List Int}(h:g.length=32){k:Nat}(hk:k<4):(pageL g k).length=8:=by
 unfold pageL;rw[List.length_take,List.length_drop];omega
theorem pageL_get{g:List Int}{k j:Nat}(hj:j<8):(pageL g k)[j]?=g[k*8+j]?:=by
 unfold pageL;rw[List.getElem?_take,if_pos hj,List.getElem?_drop]
theorem wpList_copy_run{P:Program}(w:World){ops:Array Oper}{rest:List Oper}{o:Oper}{a:Act}{Q:Exit→Act→World→Prop}(hgd:o.guard=none)(d s:Operand)(t t':TypeId)
  (ho:o.op = .call {callee:=.builtin .copy,args:=#[d,s],argTypes:=#[t,t']}) (v u:Value) (hd:a.eval d=v) (hs:a.eval s=u) {v':Value} {w':World}
  (hr:∀ ty,(Builtin.copy_ #[t,t'] ty #[v,u]).run P w = .ok v' w') (h:wpList P ops Q rest (a.put o.dst v') w'):wpList P ops Q (o::rest) a w:=by
 refine wpList_plain hgd fun K hK=>?_;unfold Oper.wp execOp;simp only[ho,resolve,invoke,builtin,Sem.run_bind,Sem.run_pure,Result.andThen_ok,List.map_toArray,List.map_cons,List.map_nil,hd,hs,hr];exact hK _ _ h
theorem page_slice(gs:Nat){k:Nat}(hk:k<4)(W:World):(Instr.sliceAt 205 (.pointer (some ⟨gs,0,none⟩)) (some (.int .i64 ((k:Int)*8))) none none).run prog W = .ok (.slice (some ⟨gs,k*8,none⟩) (32-k*8) (32-k*8)) W:=by
 have h0:∀ W,(Instr.sliceAt 205 (.pointer (some ⟨gs,0,none⟩)) (some (.int .i64 0)) none none).run prog W = .ok (.slice (some ⟨gs,0,none⟩) 32 32) W:=fun _=>by kernel_rfl
 have h1:∀ W,(Instr.sliceAt 205 (.pointer (some ⟨gs,0,none⟩)) (some (.int .i64 8)) none none).run prog W = .ok (.slice (some ⟨gs,8,none⟩) 24 24) W:=fun _=>by kernel_rfl
 have h2:∀ W,(Instr.sliceAt 205 (.pointer (some ⟨gs,0,none⟩)) (some (.int .i64 16)) none none).run prog W = .ok (.slice (some ⟨gs,16,none⟩) 16 16) W:=fun _=>by kernel_rfl
 have h3:∀ W,(Instr.sliceAt 205 (.pointer (some ⟨gs,0,none⟩)) (some (.int .i64 24)) none none).run prog W = .ok (.slice (some ⟨gs,24,none⟩) 8 8) W:=fun _=>by kernel_rfl
 rcases(show k=0∨k=1∨k=2∨k=3 by omega) with rfl|rfl|rfl|rfl
 ·exact h0 W
 ·exact h1 W
 ·exact h2 W
 ·exact h3 W
section
variable {w w':World}
theorem state_page(w:World)(g:List Int)(hg:g.length=32)(k:Nat)(hk:k<4):Calls prog 164 #[.agg (gcs g),.int .i64 (k:Nat)] w fun e w'=>e = .returned (.agg ((pageL g k).map (Value.int .i32)).toArray)∧Ext w w':=by
 obtain⟨i,hi,hz⟩:∃ i,prog.info? 265=some i∧i.zero=some (.agg (List.replicate 8 (Value.int .i32 0)).toArray):=by
  have h9:=zero_eight;cases hq:prog.info? 265 with
  | none=>rw[hq]at h9;cases h9
  | some i=>rw[hq]at h9;exact⟨i,rfl,by simpa using h9⟩
 have hzl:(List.replicate 8 (Value.int .i32 0)).length=8:=by simp
 generalize hzs:List.replicate 8 (Value.int .i32 0)=zs at *;have hb0:=(Has.new w (fun _=>0) (g.map (Value.int .i32)) 205 rfl);have x0:=Ext.alloc w (.cells (g.map (Value.int .i32)).toArray 205);have hgl:(g.map (Value.int .i32)).length=32:=by rw[List.length_map,hg]
 unfold gcs at *;have hone:∀ u∈(pageL g k).map (Value.int .i32),u.oneCell'=true:=by
  intro u hu;obtain⟨x,_,rfl⟩:=List.mem_map.1 hu;rfl
 have hpl:((pageL g k).map (Value.int .i32)).length=8:=by rw[List.length_map,pageL_len hg hk]
 have hget:∀ j v,((pageL g k).map (Value.int .i32))[j]?=some v→(g.map (Value.int .i32))[k*8+j]?=some v:=by
  intro j v hv;have hj:j<8:=by rw[← hpl];exact(List.getElem?_eq_some_iff.1 hv).1
  rw[List.getElem?_map,pageL_get hj]at hv;rw[List.getElem?_map];exact hv
 generalize (pageL g k).map (Value.int .i32)=pl at *;generalize g.map (Value.int .i32)=gv at *;have hk1:decide ((k:Int)<4)=true:=decide_eq_true (by omega);go_enter func164,ntmps164;go_upto_region 1 with (first|(with_reducible refine wpList_alloc_ar rfl 265 rfl hi hz ?_;intro W1 hA1 x1 s1))
 have hb1:=hb0.ext x1;have xx1:=x0.trans x1;have hg4:w.heap.size<(w.alloc (.cells gv.toArray 205)).heap.size:=by simp
 obtain⟨g4,hg4e⟩:∃ g4,g4=(w.alloc (.cells gv.toArray 205)).heap.size:=⟨_,rfl⟩;rw[← hg4e]at hA1 hg4 s1 ⊢;clear hb0 x0 x1 hg4e;go_upto_region 3 with (first|(with_reducible refine wpList_alloc_ar rfl 265 rfl hi hz ?_;intro W2 hA2 x2 s2))
 have hb2:=hb1.ext x2;have hA1:=hA1.ext x2;have xx2:=xx1.trans x2;obtain⟨g5,hg5e⟩:∃ g5,g5=g4+1:=⟨_,rfl⟩;rw[s1,← hg5e]at hA2;rw[← hg5e];have hg5:g4<g5:=by omega
 clear hb1 xx1 x2 hg5e s1;obtain⟨gs,hgse⟩:∃ gs,gs=w.heap.size:=⟨_,rfl⟩;rw[← hgse]at hb2 hg4 ⊢;have Hgs:=hqd (show w.heap.size≤gs by omega);clear hgse;have hm:IntKind.i64.wrap ((k:Int)*8)=(k:Int)*8:=IntWalk.i64_in _ (by omega);have hcd:(0≤(k:Int)*8∧(k:Int)*8≤32)=True:=eq_true ⟨by omega,by omega⟩;apply wrN 4;simp only[tk];repeat apply lxA (fun _ _ _=>trivial)
 have hsl:=page_slice gs hk;repeat apply lxA (fun _ _ _=>trivial)
 refine lex_nil ?_;intro Wx hWx hΦ;clear hΦ;simp only[dk];have hb3:=hb2.ext hWx;have hA4:=hA1.ext hWx;have hA5:=hA2.ext hWx;have xx3:=xx2.trans hWx;have hcp:∀ ty,(Builtin.copy_ #[144,144] ty #[.slice (some ⟨g5,0,none⟩) 8 8,.slice (some ⟨gs,k*8,none⟩) (32-k*8) (32-k*8)]).run prog Wx = .ok (goInt pl.length) (Wx.setCells g5 0 pl):=fun ty=>run_copy_cells Wx _ _ ty 21 g5 0 8 8 ⟨gs,k*8,none⟩ (32-k*8) (32-k*8) pl underlying144 (by kernel_rfl) (by rw[hpl];show 8=min (32-k*8) 8;omega)
  (fun j v hv=>by rw[Addr.add_lit];exact hb3.cell (hget j v hv)) (fun j hj=>by rw[Nat.zero_add,hA5.cell (v:=zs[j]'(by omega)) (List.getElem?_eq_getElem (by omega))];rfl) (fun j hj=>hA5.free _) hone
 have hlt5:g5<Wx.heap.size:=(Array.getElem?_eq_some_iff.1 hA5).1;obtain⟨hT5,hH5⟩:=Has.setl (T:=fun k=>if k=g5 then 1 else 0) (t:=1) pl 0 zs Wx ⟨if_pos rfl,_,hA5⟩ (fun k hk=>if_neg (by omega)) (by omega);have hA6:ArB (Wx.setCells g5 0 pl) g4 265 zs:=(hT5.block g4 (Array.getElem?_eq_some_iff.1 hA4).1 (by rw[if_neg (by omega)];decide)).trans hA4
 have xx4:Ext w (Wx.setCells g5 0 pl):=by
  have:=Hgs.out;exact⟨hT5.os.trans xx3.os,hT5.tape.trans xx3.tape,hT5.output.trans xx3.output,Nat.le_trans xx3.size hT5.size,fun k hk=>(hT5.block k (Nat.lt_of_lt_of_le hk xx3.size) (by rw[if_neg (by omega)];decide)).trans (xx3.block k hk)⟩
 have hv5:∀ i v,pl[i]?=some v→(Wx.setCells g5 0 pl).cell? ⟨g5,0+i,none⟩=some v:=fun i v hv=>by
  rw[Nat.zero_add];refine hH5.cell ?_;rw[List.take_zero,List.nil_append,List.getElem?_append_left (List.getElem?_eq_some_iff.1 hv).1];exact hv
 have Hgs4:=hqd (show w.heap.size≤g4 by have:=Hgs.out;omega);generalize hW4:Wx.setCells g5 0 pl=W4 at *;clear hH5 hT5 hW4;refine wpList_copy_run Wx rfl (.tmp 12) (.tmp 15) 144 144 rfl _ _ rfl rfl hcp ?_;go_wp2_with (first|(with_reducible refine wpList_load_ara rfl 265 (.tmp 5) rfl rfl underlying265 size_eight hpl hv5 ?_)|(with_reducible refine wpList_store_ar rfl 265 (.tmp 4) (.tmp 17) rfl rfl rfl hA6 hpl hzl size_eight hone ?_;intro Z bZ gZ sZ));have eZ:=Ext.own (B:=some ⟨g4,0,none⟩) xx4 gZ (fun k hk=>by have h9:g4=k:=Option.some.inj hk;have:=Hgs4.out;omega);exact bodyPost_ret (result_ar rfl _ rfl bZ hpl underlying265 size_eight) rfl ⟨rfl,eZ⟩
end
theorem index_page(W:World){g:List Int}(hg:g.length=8){k:Nat}(hk:k<8):(Instr.index 265 (.agg (g.map (Value.int .i32)).toArray) (.int .i64 (k:Nat))).run prog W = .ok (.int .i32 (g.getD k 0)) W:=by
 obtain⟨a0,a1,a2,a3,a4,a5,a6,a7,rfl⟩:∃ a0 a1 a2 a3 a4 a5 a6 a7,g=[a0,a1,a2,a3,a4,a5,a6,a7]:=by
  match g,hg with
  | [a0,a1,a2,a3,a4,a5,a6,a7],_=>exact⟨_,_,_,_,_,_,_,_,rfl⟩
 have h:∀ j:Nat,j<8→∀ v,[a0,a1,a2,a3,a4,a5,a6,a7][j]?=some v→(Instr.index 265 (.agg #[.int .i32 a0,.int .i32 a1,.int .i32 a2,.int .i32 a3,.int .i32 a4,.int .i32 a5,.int .i32 a6,.int .i32 a7]) (.int .i64 (j:Nat))).run prog W = .ok (.int .i32 v) W:=by
  intro j hj v hv;match j,hv with
  | 0,hv=>cases hv;exact(fun W:World=>(by kernel_rfl:(Instr.index 265 (.agg #[.int .i32 a0,.int .i32 a1,.int .i32 a2,.int .i32 a3,.int .i32 a4,.int .i32 a5,.int .i32 a6,.int .i32 a7]) (.int .i64 0)).run prog W = .ok (.int .i32 a0) W)) W
  | 1,hv=>cases hv;exact(fun W:World=>(by kernel_rfl:(Instr.index 265 (.agg #[.int .i32 a0,.int .i32 a1,.int .i32 a2,.int .i32 a3,.int .i32 a4,.int .i32 a5,.int .i32 a6,.int .i32 a7]) (.int .i64 1)).run prog W = .ok (.int .i32 a1) W)) W
  | 2,hv=>cases hv;exact(fun W:World=>(by kernel_rfl:(Instr.index 265 (.agg #[.int .i32 a0,.int .i32 a1,.int .i32 a2,.int .i32 a3,.int .i32 a4,.int .i32 a5,.int .i32 a6,.int .i32 a7]) (.int .i64 2)).run prog W = .ok (.int .i32 a2) W)) W
  | 3,hv=>cases hv;exact(fun W:World=>(by kernel_rfl:(Instr.index 265 (.agg #[.int .i32 a0,.int .i32 a1,.int .i32 a2,.int .i32 a3,.int .i32 a4,.int .i32 a5,.int .i32 a6,.int .i32 a7]) (.int .i64 3)).run prog W = .ok (.int .i32 a3) W)) W
  | 4,hv=>cases hv;exact(fun W:World=>(by kernel_rfl:(Instr.index 265 (.agg #[.int .i32 a0,.int .i32 a1,.int .i32 a2,.int .i32 a3,.int .i32 a4,.int .i32 a5,.int .i32 a6,.int .i32 a7]) (.int .i64 4)).run prog W = .ok (.int .i32 a4) W)) W
  | 5,hv=>cases hv;exact(fun W:World=>(by kernel_rfl:(Instr.index 265 (.agg #[.int .i32 a0,.int .i32 a1,.int .i32 a2,.int .i32 a3,.int .i32 a4,.int .i32 a5,.int .i32 a6,.int .i32 a7]) (.int .i64 5)).run prog W = .ok (.int .i32 a5) W)) W
  | 6,hv=>cases hv;exact(fun W:World=>(by kernel_rfl:(Instr.index 265 (.agg #[.int .i32 a0,.int .i32 a1,.int .i32 a2,.int .i32 a3,.int .i32 a4,.int .i32 a5,.int .i32 a6,.int .i32 a7]) (.int .i64 6)).run prog W = .ok (.int .i32 a6) W)) W
  | 7,hv=>cases hv;exact(fun W:World=>(by kernel_rfl:(Instr.index 265 (.agg #[.int .i32 a0,.int .i32 a1,.int .i32 a2,.int .i32 a3,.int .i32 a4,.int .i32 a5,.int .i32 a6,.int .i32 a7]) (.int .i64 7)).run prog W = .ok (.int .i32 a7) W)) W
 refine h k hk _ ?_;rw[List.getD_eq_getElem?_getD,List.getElem?_eq_getElem (by simpa using hk)];rfl
def mkC(L:List Nat):List Value:=L.map (fun k:Nat=>Value.int .i64 ((k:Int)+1))++List.replicate (4-L.length) (Value.int .i64 0)++[.int .i64 0]
theorem mkC_set{L:List Nat}(h:L.length<4)(k:Nat):(mkC L).set L.length (.int .i64 ((k:Int)+1))=mkC (L++[k]):=by
 match L,h with
 | [],_=>rfl
 | [a],_=>rfl
 | [a,b],_=>rfl
 | [a,b,c],_=>rfl
theorem mkC_cell{L:List Nat}(h:L.length<4):(mkC L)[L.length]?=some (.int .i64 0):=by
 match L,h with
 | [],_=>rfl
 | [a],_=>rfl
 | [a,b],_=>rfl
 | [a,b,c],_=>rfl
theorem mkC_at{L:List Nat}{k:Nat}(h:L.length<4):(mkC (L++[k]))[L.length]?=some (.int .i64 ((k:Int)+1)):=by
 match L,h with
 | [],_=>rfl
 | [a],_=>rfl
 | [a,b],_=>rfl
 | [a,b,c],_=>rfl
theorem held_out{n:Nat}{rf:Nat→Int}{A R:List Nat}{k:Nat}(h:Held n rf (A++R))(hk:k∈A)(h1:rf k≤1):k∉R:=fun hr=>by
 have:=h.2 k (h.1 k (List.mem_append_left _ hk));rw[List.count_append]at this;have h2:=List.count_pos_iff.2 hk;have h3:=List.count_pos_iff.2 hr;omega
theorem game_off{vs:Nat→Nat→Int}{q:Pic}(h4:q.pg.length=4){k:Nat}(hk:k∉q.pg)(u:Nat→Int):gameOf (updP vs k u) q=gameOf vs q:=gameOf_congr fun i hi=>by
 unfold cellOf;rw[updP_other];rintro e;apply hk;rw[← e,List.getD_eq_getElem?_getD,List.getElem?_eq_getElem (by omega)];exact List.getElem_mem _
structure Mk(w:World)(T:Tg)(t b rb g mb n:Nat)(rf:Nat→Int)(vs:Nat→Nat→Int)(ps:List Pic)(last gp gs:Nat)(G:List Int)(L:List Nat)(rf':Nat→Int)(vs':Nat→Nat→Int)(wr:World):Prop where
 st:StoreIn wr T t b rb g mb n rf' vs' ps last
 held:Held n rf' (L++refsOf ps)
 us:used n rf'=used n rf+L.length
 old:∀ q∈ps,gameOf vs' q=gameOf vs q
 pg:∀ s j,s<L.length→j<8→vs' (L.getD s 0) j=G.getD (s*8+j) 0
 pic:Has wr T 0 gp (mkC L)
 gm:Has wr T 0 gs (G.map (Value.int .i32))
 tn:Turn (In t 5) w T wr T
structure MkI(w:World)(T:Tg)(t b rb g mb n:Nat)(rf:Nat→Int)(vs:Nat→Nat→Int)(ps:List Pic)(last gp gs:Nat)(G:List Int)(L:List Nat)(k j:Nat)(rf':Nat→Int)(vs':Nat→Nat→Int)(wr:World):Prop where
 st:StoreIn wr T t b rb g mb n rf' vs' ps last
 held:Held n rf' (L++[k]++refsOf ps)
 one:rf' k=1
 us:used n rf'=used n rf+(L.length+1)
 old:∀ q∈ps,gameOf vs' q=gameOf vs q
 pg:∀ s j,s<L.length→j<8→vs' (L.getD s 0) j=G.getD (s*8+j) 0
 cur:∀ i,i<j→vs' k i=G.getD (L.length*8+i) 0
 pic:Has wr T 0 gp (mkC (L++[k]))
 gm:Has wr T 0 gs (G.map (Value.int .i32))
 tn:Turn (In t 5) w T wr T
section
variable {w wr w3:World} {T:Tg} {t b rb g mb n last gp gs k j:Nat} {rf rf':Nat→Int} {vs vs':Nat→Nat→Int} {ps:List Pic} {G:List Int} {L:List Nat}
theorem MkI.ext(h:MkI w T t b rb g mb n rf vs ps last gp gs G L k j rf' vs' wr)(e:Ext wr w3):MkI w T t b rb g mb n rf vs ps last gp gs G L k j rf' vs' w3 :=
 ⟨h.st.ext e,h.held,h.one,h.us,h.old,h.pg,h.cur,h.pic.ext e,h.gm.ext e,h.tn.ext e⟩
theorem getD_mem{L:List Nat}{s:Nat}(h:s<L.length):L.getD s 0∈L:=by
 rw[List.getD_eq_getElem?_getD,List.getElem?_eq_getElem h];exact List.getElem_mem _
theorem Mk.take(h:Mk w T t b rb g mb n rf vs ps last gp gs G L rf' vs' wr)(h4:∀ p∈ps,p.pg.length=4)(ht:0<t)(hL:L.length<4)(hgp:w.heap.size≤gp)(hne:gp≠gs)(hk:k<n)(h0:rf' k=0)
  (hr:Room w3 rb g n (updP rf' k 1) (updP vs' k fun _=>0)) (hg:wr.grownBy w3 (some g)):MkI w T t b rb g mb n rf vs ps last gp gs G L k 0 (updP rf' k 1) (updP vs' k fun _=>0) (w3.setCell ⟨gp,L.length,none⟩ (.int .i64 ((k:Int)+1))):=by
 have hk':k∉L++refsOf ps:=fun hm=>by have:=h.held.mem hm;omega
 have hS:=h.st.left ht hr hg;have hT:=h.tn.trans (h.st.turned h.tn.unborn hg);have hng:some g≠some gp:=fun e=>by have h1:=h.pic.1;have h2:=h.st.tg;rw[← Option.some.inj e]at h1;omega
 have hngs:some g≠some gs:=fun e=>by have h1:=h.gm.1;have h2:=h.st.tg;rw[← Option.some.inj e]at h1;omega
 have hP:=(h.pic.grown hg hng).set L.length (.int .i64 ((k:Int)+1));rw[mkC_set hL]at hP;have hT2:Turn (· = 0) w3 T (w3.setCell ⟨gp,L.length,none⟩ (.int .i64 ((k:Int)+1))) T:=Turn.of_set hT.unborn _ _ h.pic.1;refine⟨hS.turn hT2 fun k hk e=>by subst e;unfold In at hk;omega,?_,updP_same _ _ _,?_,fun q hq=>?_,fun s j hs hj=>?_,fun i hi=>by omega,hP,(h.gm.grown hg hngs).set_other (a:=⟨gp,L.length,none⟩) (by exact hne) _,hT.set _ _ (.inr hgp)⟩
 ·refine(h.held.take hk h0).perm ?_
  rw[List.append_assoc];exact List.perm_middle.symm
 ·have:=used_upd rf' k 1 n hk
  rw[h0,if_neg (by decide),if_pos (by decide)]at this;have:=h.us;omega
 ·rw[game_off (h4 q hq) (fun hm=>hk' (List.mem_append_right _ (List.mem_flatMap.2 ⟨q,hq,hm⟩)))]
  exact h.old q hq
 ·rw[updP_other _ _ (fun e=>hk' (List.mem_append_left _ (by rw[← e];exact getD_mem hs)))]
  exact h.pg s j hs hj
theorem MkI.step(h:MkI w T t b rb g mb n rf vs ps last gp gs G L k j rf' vs' wr)(h4:∀ p∈ps,p.pg.length=4)(ht:0<t)
  (hr:Room w3 rb g n rf' (updP vs' k (updP (vs' k) j (G.getD (L.length*8+j) 0)))) (hg:wr.grownBy w3 (some g)):MkI w T t b rb g mb n rf vs ps last gp gs G L k (j+1) rf' (updP vs' k (updP (vs' k) j (G.getD (L.length*8+j) 0))) w3:=by
 have hkr:k∉refsOf ps:=held_out h.held (List.mem_append_right _ (List.mem_singleton.2 rfl)) (by rw[h.one];exact Int.le_refl _);have hkL:k∉L:=held_out (A:=[k]) (R:=L) (n:=n) (rf:=fun x=>((([k]++L).count x:Nat):Int)) ⟨fun x hx=>h.held.1 x (List.mem_append_left _ (by simpa [or_comm] using hx)),fun _ _=>rfl⟩ (List.mem_singleton.2 rfl) (by
  have h1:=h.held.2 k (h.held.1 k (List.mem_append_left _ (List.mem_append_right _ (List.mem_singleton.2 rfl))));have h2:=h.one;simp only[List.count_append]at h1 ⊢;omega)
 have hng:some g≠some gp:=fun e=>by have h1:=h.pic.1;have h2:=h.st.tg;rw[← Option.some.inj e]at h1;omega
 have hngs:some g≠some gs:=fun e=>by have h1:=h.gm.1;have h2:=h.st.tg;rw[← Option.some.inj e]at h1;omega
 refine⟨h.st.left ht hr hg,h.held,h.one,h.us,fun q hq=>?_,fun s i hs hi=>?_,fun i hi=>?_,h.pic.grown hg hng,h.gm.grown hg hngs,h.tn.trans (h.st.turned h.tn.unborn hg)⟩
 ·rw[game_off (h4 q hq) (fun hm=>hkr (List.mem_flatMap.2 ⟨q,hq,hm⟩))]
  exact h.old q hq
 ·rw[updP_other _ _ (fun e=>hkL (by rw[← e];exact getD_mem hs))]
  exact h.pg s i hs hi
 ·rw[updP_same]
  by_cases e:i=j
  ·subst e;rw[updP_same]
  ·rw[updP_other _ _ e];exact h.cur i (by omega)
theorem MkI.done(h:MkI w T t b rb g mb n rf vs ps last gp gs G L k 8 rf' vs' wr):Mk w T t b rb g mb n rf vs ps last gp gs G (L++[k]) rf' vs' wr:=by
 refine⟨h.st,h.held,by rw[List.length_append];exact h.us,h.old,fun s j hs hj=>?_,h.pic,h.gm,h.tn⟩;rw[List.length_append,List.length_singleton]at hs;by_cases e:s=L.length
 ·subst e
  rw[show(L++[k]).getD L.length 0=k by simp[List.getD_eq_getElem?_getD]];exact h.cur j hj
 ·rw[show(L++[k]).getD s 0=L.getD s 0 by rw[List.getD_eq_getElem?_getD,List.getD_eq_getElem?_getD,List.getElem?_append_left (by omega)]]
  exact h.pg s j (by omega) hj
theorem Mk.game(h:Mk w T t b rb g mb n rf vs ps last gp gs G L rf' vs' wr)(hL:L.length=4)(hG:G.length=32)(x nb:Nat):gameOf vs' ⟨x,nb,L⟩=G:=by
 apply List.ext_getElem?;intro i;by_cases hi:i<32
 ·rw[gameOf_get _ _ hi]
  unfold cellOf;dsimp only
  rw[h.pg (i / 8) (i % 8) (by omega) (by omega),show i / 8*8+i % 8=i by omega,List.getD_eq_getElem?_getD,List.getElem?_eq_getElem (by omega)];rfl
 ·rw[List.getElem?_eq_none (by rw[gameOf_len];omega),List.getElem?_eq_none (by omega)]
end
end Go.Proofs.YtffcefoadaogbaaGreat
