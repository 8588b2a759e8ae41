/- A part of the proof: texts put together and cut down by a program of mine (wip/gen/mini.py). -/
import Derived.Test.YtffcefoadaogbaaGreatS3
import Derived.Test.YtffcefoadaogbaaGreatS9
import Derived.Lib.SliceRun
namespace Go.Proofs.YtffcefoadaogbaaGreat
open Go.RowKit
open Go.Proofs.Tryz
set_option linter.unusedVariables false
set_option maxRecDepth 100000
set_option maxHeartbeats 16000000
theorem flatMap_set{α:Type}(f f':Nat→List α)(k:Nat)(hf:∀ i,(f i).length=k):∀(n i j:Nat) (v:α),i<n→j<k→(∀ m,m≠i→f' m=f m)→f' i=(f i).set j v→((List.range n).flatMap f).set (i*k+j) v=(List.range n).flatMap f'
 | 0,i,j,v,h,_,_,_=>absurd h (by omega)
 | n+1,i,j,v,h,hj,h1,h2=>by
  rw[List.range_succ,List.flatMap_append,List.flatMap_append];have hlen:((List.range n).flatMap f).length=n*k:=flat_len f k hf n;by_cases hi:i<n
  ·have h9:(i+1)*k≤n*k:=Nat.mul_le_mul_right _ hi
   rw[Nat.add_mul,Nat.one_mul]at h9;rw[List.set_append_left _ _ (by rw[hlen];omega),flatMap_set f f' k hf n i j v hi hj h1 h2];simp[h1 n (by omega)]
  ·obtain rfl:i=n:=by omega
   rw[List.set_append_right _ _ (by rw[hlen];omega),hlen];have h3:(List.range i).flatMap f'=(List.range i).flatMap f:=by
    rw[List.flatMap_def,List.flatMap_def];congr 1
    apply List.map_congr_left;intro m hm;exact h1 m (by have:=List.mem_range.1 hm;omega)
   rw[h3];simp[h2]
section
variable {w w':World} {T T':Tg} {t b:Nat} {cf:Cf} {me qb:Nat} {ps:Nat→Nat} {c c':Cr} {mk:List Nat}
theorem CoreAt.putPeer(h:CoreAt w T t b cf me qb ps c mk)(hu:Unborn w T){g m pc i j:Nat}(hc:w.cell? ⟨b,11,none⟩=some (.slice (some ⟨g,0,none⟩) m pc))(hi:i<cf.n)(hj:j<5)(v:Value)
  (h1:c'.ls=c.ls) (h2:c'.evs=c.evs) (h3:c'.now=c.now) (h4:c'.closed=c.closed) (hne:∀ k,k≠i→peerC c' k=peerC c k) (he:peerC c' i=(peerC c i).set j v) :
  Turn (· = t+1) w T (w.setCell ⟨g,i*5+j,none⟩ v) T∧CoreAt (w.setCell ⟨g,i*5+j,none⟩ v) T t b cf me qb ps c' mk∧(w.setCell ⟨g,i*5+j,none⟩ v).cell? ⟨b,11,none⟩=some (.slice (some ⟨g,0,none⟩) m pc):=by
 obtain⟨⟨PA,pc',MA,mc,EA,ec,b1,b2,b3,b4⟩,b5⟩:=h;have c11:=(coreC b1).c11;rw[hc]at c11;injection c11 with c11
 injection c11 with hA hm hp
 subst hA;subst hm;subst hp;obtain⟨hT,hR⟩:=b2.put hu (i:=i*5+j) rfl v;rw[flatMap_set (peerC c) (peerC c') 5 (fun _=>rfl) cf.n i j v hi hj hne he]at hR;have hH:=b1.turn hT (by omega);refine⟨hT,⟨⟨_,_,MA,mc,EA,ec,?_,hR,b3.turn hT (by omega),?_⟩,?_⟩,(coreC hH).c11⟩
 ·rw[h2,h3,h4];exact hH
 ·rw[h2];exact b4.turn hT (by omega)
 ·rw[h1];exact b5.turn hT fun k _=>by omega
theorem CoreAt.peer(h:CoreAt w T t b cf me qb ps c mk){g m pc i:Nat}(hc:w.cell? ⟨b,11,none⟩=some (.slice (some ⟨g,0,none⟩) m pc))(hi:i<cf.n) :
  w.cell? ⟨g,i*5,none⟩=some (.int .i64 (c.has i:Nat))∧w.cell? ⟨g,i*5+2,none⟩=some (.int .i64 ((c.words i).1:Nat))∧w.cell? ⟨g,i*5+1,none⟩=some (.int .i64 (c.heard i:Nat))∧w.cell? ⟨g,i*5+3,none⟩=some (.int .u32 ((c.words i).2:Nat))∧(∀ o,w.frozen? ⟨g,i*5+o,none⟩=false):=by
 obtain⟨⟨PA,pc',MA,mc,EA,ec,b1,b2,b3,b4⟩,b5⟩:=h;have c11:=(coreC b1).c11;rw[hc]at c11;injection c11 with c11
 injection c11 with hA hm hp
 obtain⟨g9,e9,q0,q1,q2,q3,q4,fz⟩:=peer_cells b2 hi;rw[← hA]at e9;cases e9
 exact⟨q0,q2,q1,q3,fz⟩
theorem CoreAt.c11{S:Nat→Prop}(h:CoreAt w T t b cf me qb ps c mk)(hT:Turn S w T w' T')(hs:¬ S t){v:Value}(hc:w.cell? ⟨b,11,none⟩=some v):w'.cell? ⟨b,11,none⟩=some v:=by
 obtain⟨⟨PA,pc',MA,mc,EA,ec,b1,b2,b3,b4⟩,b5⟩:=h;have c11:=(coreC b1).c11;rw[hc]at c11;rw[c11];exact(coreC (b1.turn hT hs)).c11
theorem putLn_len'(l:List UInt8)(first:Nat)(bs:List UInt8)(hl:l.length≤1000):(putLn l first bs).length≤1000:=by
 unfold putLn;split
 ·rw[List.length_append,List.length_take];omega
 ·exact hl
theorem CrOk.recv(h:CrOk cf me c mk){p:Pk}(hp:okPk p)(hcl:c.closed=false)(hq:p.quit=false):CrOk cf me (c.recv me p) mk:=by
 obtain⟨_,_,_,h4⟩:=hp;rw[if_neg (by rw[hq];decide)]at h4
 have hr:c.recv me p={c with ls:=c.ls.set p.src (putLn (c.ls.getD p.src []) p.first p.press),heard:=updF c.heard p.src c.now,has:=if c.has p.src<p.ack∧p.ack≤((c.ls.set p.src (putLn (c.ls.getD p.src []) p.first p.press)).getD me []).length then updF c.has p.src p.ack else c.has,words:=if 0<p.frame∧(c.words p.src).1≤p.frame then updF c.words p.src (p.frame,p.sum) else c.words}:=by
  unfold Cr.recv;rw[if_neg (by rw[hcl];decide),if_neg (by rw[hq];decide)]
 rw[hr];refine⟨h.ok,h.me,by show(List.set _ _ _).length=_;rw[List.length_set];exact h.len,?_,h.now,h.evs,?_,?_,?_,h.marks,h.sums⟩
 ·intro l hl
  rcases List.mem_or_eq_of_mem_set hl with hl|rfl
  ·exact h.short _ hl
  ·refine putLn_len' _ _ _ ?_
   rw[List.getD_eq_getElem?_getD];rcases hx:c.ls[p.src]? with _|x
   ·exact Nat.zero_le _
   ·exact h.short _ (List.mem_of_getElem? hx)
 ·intro i
  show(if _ then updF c.has p.src p.ack else c.has) i≤1000
  split
  ·unfold updF;split
   ·exact h4.2.1
   ·exact h.has i
  ·exact h.has i
 ·intro i
  show updF c.heard p.src c.now i≤c.now
  unfold updF;split
  ·exact Nat.le_refl _
  ·exact h.heard i
 ·intro i
  show((if _ then updF c.words p.src (p.frame,p.sum) else c.words) i).1≤1000∧((if _ then updF c.words p.src (p.frame,p.sum) else c.words) i).2<4294967296
  split
  ·unfold updF;split
   ·exact⟨h4.2.2.1,h4.2.2.2.2⟩
   ·exact h.words i
  ·exact h.words i
theorem putLn_eq{l bs:List UInt8}{first:Nat}(hf:first≤l.length)(h1:first+bs.length≤1000):putLn l first bs=l++bs.drop (l.length-first):=by
 unfold putLn;rw[if_pos hf,List.take_of_length_le];rw[List.length_drop];omega
theorem core_recv(h:CoreAt w T t b cf me qb ps c mk)(hk:CrOk cf me c mk)(hu:Unborn w T)(ht:0<t)(p:Pk){A:Option Addr}{n d:Nat}(hp:okPk p)(hdst:p.dst=me)(hsrc:p.src<cf.n)(hb:Rb w A n d (encPk cf.id p))
  (hf:p.quit=false→p.first≤(c.ls.getD p.src []).length∧p.first+p.press.length≤1000) (hQ:c.closed=false→p.quit=false→Quiet cf (c.recv me p) mk) :
  Calls prog 289 #[ptrV b,.slice A n d] w (Does (In t 22) w T (.int .i64 (if c.closed then 6 else 0)) fun w' T'=>CoreAt w' T' t b cf me qb ps (c.recv me p) mk):=by
 have H1:=hqd (core_closed h);by_cases hcl:c.closed=true
 ·rw[hcl]at H1
  have hr:c.recv me p=c:=by unfold Cr.recv;rw[if_pos hcl]
  rw[hr,if_pos hcl];have Hh:=hqd h;unfold ptrV at *;clear h hk hb hp hf hQ hr;go_enter func289,ntmps289;go_wp2_with fail;refine H1.out.mono ?_;rintro e w1 ⟨rfl,rfl⟩;go_wp2_with fail;go_ret;exact⟨rfl,T,Turn.refl _ hu,Hh.out⟩
 have hcf:c.closed=false:=by simpa using hcl
 rw[hcf]at H1;rw[if_neg hcl];have hn8:=hk.ok.n8;have hid:okId (cf.id:Nat):=by have:=hk.ok.id;unfold okId;omega
 have hme:=hk.me;have hdec:=dec_any w (cf.id:Nat) p A n d hp hid hb;unfold pkAgg ptrV at *;rw[hdst]at hdec;have Hdec:=hqd hdec;clear hdec hdst;have Hh:=hqd h;have HK:=hqd hk;have HP:=hqd hp;have Hf:=hqd hf;have HQ:=hqd (hQ hcf);clear h hk hp hf hQ hb;go_enter func289,ntmps289;go_wp2_with fail;refine H1.out.mono ?_;rintro e w1 ⟨rfl,rfl⟩;go_wp2_with fail;refine Hdec.out.mono ?_;rintro e w2 ⟨A',d',rfl,hpr,hpn,e2⟩;have bP:=(Has.new w2 (fun _=>0) [.int .i64 (kindP p),.int .i64 (p.src:Nat),.int .i64 (me:Nat),.int .i64 (cf.id:Nat),.int .i64 (p.first:Nat),.slice A' p.press.length d',.int .i64 (p.ack:Nat),.int .i64 (p.frame:Nat),.int .u32 (p.sum:Nat)] 34 rfl).2;go_wp2_with fail;generalize hW:World.alloc w2 _=W1 at *;have x1:Ext w1 W1:=by subst hW;exact e2.trans (Ext.alloc _ _)
 have x2:Ext w2 W1:=by subst hW;exact Ext.alloc _ _
 clear hW;generalize hg:w2.heap.size=g at *;have hg1:w1.heap.size≤g:=by rw[← hg];exact e2.size
 have bP:Has W1 T 0 g _:=⟨hu g hg1,bP⟩;have hSb:Sb W1 T A' p.press.length d' p.press:=⟨hpr.ext x2,fun _ k hk=>by
  obtain⟨a,ha,rfl⟩:=Option.map_eq_some_iff.1 hk;exact hu _ (hpn a ha)⟩
 have hT1:Turn (In t 22) w1 T W1 T:=Turn.of_ext _ hu x1;have hC1:=Hh.out.ext x1;clear Hh hpr hpn x2 hg hg1 H1 Hdec hu;obtain⟨PA,MA,EA,pc,mc,ec,hC,_,_,hpc,hpm,hheard⟩:=hC1.cells;have c0:=hC.c0;have c1:=hC.c1;have c2:=hC.c2;have c11:=hC.c11;have c14:=hC.c14;obtain⟨gp,rfl,_⟩:=hheard p.src hsrc;clear hC hheard;unfold maxLen at hpm;have k1:=bP.cell (i:=1) rfl;have k2:=bP.cell (i:=2) rfl;have k3:=bP.cell (i:=3) rfl;have hd1:decide ((cf.n:Int)≤(p.src:Int))=false:=decide_eq_false (by omega);have hd1':decide (cf.n≤p.src)=false:=decide_eq_false (by omega);have HB:=hqd bP;have HS:=hqd hSb;have HC:=hqd hC1;have HT:=hqd hT1;clear bP hSb hC1 hT1;apply wrA trivial;repeat first|apply lxA (fun _ h _=>aj (h.cell k1) (aj (h.cell k2) (aj (h.cell k3) (aj (h.cell c0) (aj (h.cell c1) (h.cell c2))))))|apply lxK trivial
 refine lex_nil ?_;intro Wx hWx hΦ;clear hΦ;go_wp2_with fail;have k1:=hWx.cell k1;have c11:=hWx.cell c11;have xa:=hWx;clear hWx k2 k3 c0 c1 c2 hd1 hd1' bP;apply wrA trivial;repeat apply lxA (fun _ h _=>aj (h.cell c11) (h.cell k1))
 refine lex_nil ?_;intro Wx hWx hΦ;clear hΦ;have xw:=xa.trans hWx;have c11:=hWx.cell c11;have c14:=xw.cell c14;clear hWx xa k1;rename_i Wa;have hC2:=HC.out.ext xw;have HB2:=hqd (HB.out.ext xw);have HS2:=hqd (HS.out.ext xw);have HT2:=hqd (HT.out.ext xw);have hu2:=HT2.out.unborn;obtain⟨_,_,q1,_,fz⟩:=hC2.peer c11 hsrc;have f1:=fz 1;obtain⟨hT3,hC3,d11⟩:=hC2.putPeer hu2 c11 (c':={c with heard:=updF c.heard p.src c.now}) (i:=p.src) (j:=1) hsrc (by decide) (.int .i64 (c.now:Nat)) rfl rfl rfl rfl
  (fun k hk=>by simp only[peerC,updF_other _ _ hk]) (by simp only[peerC,updF_same];rfl)
 have HT3:=hqd (HT2.out.trans (hT3.mono fun k hk=>(by subst hk;unfold In;omega:In t 22 k)));have hB3:=HB2.out.turn hT3 (by omega);have HS3:=hqd (HS2.out.turn hT3 (by omega));have HC3:=hqd hC3;clear fz HC HB HS HT hC2 HT2 HB2 HS2 Wa hT3 hC3;go_upto_region 8 with fail
 generalize hW3:World.setCell Wx _ _=W3 at *;clear hW3 xw c11 c14 hu2 q1 f1 k1;have hu3:=HT3.out.unborn;by_cases hq:p.quit=true
 ·have hkp:kindP p=2:=by unfold kindP;rw[if_pos hq]
  rw[hkp]at hB3;have k0:=hB3.cell (i:=0) rfl;have k1:=hB3.cell (i:=1) rfl;have hk3:CrOk cf me {c with heard:=updF c.heard p.src c.now} mk:=⟨HK.out.ok,HK.out.me,HK.out.len,HK.out.short,HK.out.now,HK.out.evs,HK.out.has,fun i=>by
   show updF c.heard p.src c.now i≤c.now
   unfold updF;split
   ·exact Nat.le_refl _
   ·exact HK.out.heard i,HK.out.words,HK.out.marks,HK.out.sums⟩
  have Hno:=hqd (core_note HC3.out hk3 hu3 1 p.src ⟨.inl rfl,by omega⟩);have hr:c.recv me p={c with heard:=updF c.heard p.src c.now,evs:=c.evs++[(1,p.src)],closed:=true}:=by
   unfold Cr.recv;rw[if_neg hcl,if_pos hq]
  unfold ptrV at *;have Hr:=hqd hr;clear hk3 hB3 hr HS3;go_wp2_with fail;refine Hno.out.mono ?_;rintro e w7 ⟨rfl,T7,hT7,hA7⟩;obtain⟨PA7,MA7,EA7,pc7,mc7,ec7,hC7,_,f7,_,_,_⟩:=hA7.cells;have c7:=hC7.c15;obtain⟨hT8,hA8⟩:=hA7.setClosed hT7.unborn;have HA8:=hqd hA8;clear hC7 hA7 hA8;go_wp2_with fail;go_ret;rw[Hr.out];exact⟨rfl,T7,(HT3.out.trans hT7).trans (hT8.mono fun k hk=>(by subst hk;unfold In;omega:In t 22 k)),HA8.out⟩
 have hqf:p.quit=false:=by simpa using hq
 have hkp:kindP p=1:=by unfold kindP;rw[if_neg hq]
 rw[hkp]at hB3;have HB3:=hqd hB3;have k0:=hB3.cell (i:=0) rfl;have k1:=hB3.cell (i:=1) rfl;have k4:=hB3.cell (i:=4) rfl;have k5:=hB3.cell (i:=5) rfl;clear hB3;have hil:p.src<c.ls.length:=by rw[HK.out.len];exact hsrc
 have hld:c.ls.getD p.src []=c.ls[p.src]:=by simp[List.getD_eq_getElem?_getD,hil]
 obtain⟨hf1,hf2⟩:=Hf.out hqf;rw[hld]at hf1;have hll:=hqd (putLn_eq hf1 hf2);obtain⟨PA3,MA3,EA3,pc3,mc3,ec3,hC3,_,_,_,_,_⟩:=HC3.out.cells;have c10:=hC3.c10;have HL:=hqd fun W (e:Ext W3 W)=>queue_line (HC3.out.que.ext e) (by show c.ls.length≤8;rw[HK.out.len];exact hn8) (p:=p.src) hil;have Hput:=hqd fun W (e:Ext W3 W)=>line_put ((HC3.out.que.line p.src hil).ext e) (hu3.ext e) (by omega) (HS3.out.ext e) hf1 hf2 (HK.out.short _ (List.getElem_mem hil));unfold ptrV at *;clear hC3 Hf hf1 hf2 HS3;go_wp2_with fail;apply wrN 11;simp only[tk];repeat apply lxA (fun _ h _=>aj (h.cell c10) (h.cell k1))
 apply lxC (fun W hR=>HL.out W hR);repeat apply lxA (fun _ h _=>aj (h.cell k4) (h.cell k5))
 refine lex_nil ?_;intro Wx hWx hΦ;clear hΦ k0 k1 k4 k5 c10;simp only[dk];go_wp2_with fail;refine(Hput.out Wx hWx).mono ?_;rintro e w4 ⟨⟨k9,rfl⟩,T4,hT4,hL4⟩;rw[← hll.out]at hL4;have hC4:=(HC3.out.ext hWx).line (p:=p.src) hil hT4 hL4;have d11:=(HC3.out.ext hWx).c11 hT4 (by unfold In;omega) (hWx.cell d11);have HB4:=hqd ((HB3.out.ext hWx).turn hT4 (by unfold In;omega));have HT4:=hqd ((HT3.out.ext hWx).trans (hT4.mono fun k hk=>(hk.sub (by omega) (by omega):In t 22 k)));have hrecv:c.recv me p={c with ls:=c.ls.set p.src (putLn c.ls[p.src] p.first p.press),heard:=updF c.heard p.src c.now,has:=if c.has p.src<p.ack∧p.ack≤((c.ls.set p.src (putLn c.ls[p.src] p.first p.press)).getD me []).length then updF c.has p.src p.ack else c.has,words:=if 0<p.frame∧(c.words p.src).1≤p.frame then updF c.words p.src (p.frame,p.sum) else c.words}:=by
  unfold Cr.recv;rw[if_neg hcl,if_neg hq,hld]
 have hk4:CrOk cf me {c with ls:=c.ls.set p.src (putLn c.ls[p.src] p.first p.press),heard:=updF c.heard p.src c.now} mk:=by
  obtain⟨o1,o2,o3,o4⟩:=HP.out;rw[if_neg hq]at o4;have h9:=HK.out.recv (p:={p with ack:=0,frame:=0}) ⟨o1,o2,o3,by rw[if_neg hq];exact⟨o4.1,Nat.zero_le _,Nat.zero_le _,o4.2.2.2⟩⟩ hcf hqf;unfold Cr.recv at h9;rw[if_neg hcl,if_neg hq]at h9;simp only[Nat.not_lt_zero,false_and,if_false,hld]at h9;exact h9
 have hkf:=HK.out.recv HP.out hcf hqf;have hqf':=HQ.out hqf;rw[hrecv]at hkf hqf';have Hkf:=hqd hkf;have Hqf:=hqd hqf';have Hrecv:=hqd hrecv;have Hu4:=hqd HT4.out.unborn;have hwds:=HK.out.words p.src;have hfr:p.frame≤1000∧p.sum<4294967296∧p.ack≤1000:=by
  obtain⟨o1,o2,o3,o4⟩:=HP.out;rw[if_neg hq]at o4;exact⟨o4.2.2.1,o4.2.2.2.2,o4.2.1⟩
 clear hkf hqf' hrecv HQ HP Hput HL HC3 HB3 HT3 hL4 hT4 hld hll;generalize c.ls.set p.src (putLn c.ls[p.src] p.first p.press)=Lr at *;have Hhead:=hqd fun W (e:Ext w4 W)=>core_head (hC4.ext e) hk4;have hhd:({c with ls:=Lr,heard:=updF c.heard p.src c.now}:Cr).head me=(Lr.getD me []).length:=rfl;rw[hhd]at Hhead;have HC4:=hqd hC4;have k6:=HB4.out.cell (i:=6) rfl;obtain⟨q0,_,_,_,_⟩:=hC4.peer d11 hsrc;have hhl:(Lr.getD me []).length≤1000:=by
  rw[List.getD_eq_getElem?_getD];rcases hx:Lr[me]? with _|x
  ·exact Nat.zero_le _
  ·exact hk4.short _ (List.mem_of_getElem? hx)
 have q0:w4.cell? ⟨gp,p.src*5,none⟩=some (.int .i64 (c.has p.src:Nat)):=q0;have hhas:c.has p.src≤1000:=HK.out.has _;unfold ptrV at *;generalize hhv:c.has p.src=hv at *;generalize (Lr.getD me []).length=hl at *;have Hhv:=hqd hhv;clear hC4 hk4 hhd hhv;rcases(show(hv<p.ack∧p.ack≤hl)∨(hv<p.ack∧hl<p.ack)∨p.ack≤hv by omega) with ⟨h1,h2⟩|⟨h1,h2⟩|h1
 case' inl =>
  have e1:decide (hv<p.ack)=true:=decide_eq_true h1;have e1':decide ((hv:Int)<(p.ack:Int))=true:=decide_eq_true (by omega);have e2:decide (p.ack≤hl)=true:=decide_eq_true h2;have e2':decide ((p.ack:Int)≤(hl:Int))=true:=decide_eq_true (by omega);rw[if_pos ⟨h1,h2⟩]at Hkf Hqf Hrecv;go_wp2_with fail;apply wrA trivial;repeat apply lxA (fun _ h _=>aj (h.cell k6) (h.cell q0))
  apply lxC (fun W hR=>Hhead.out W hR);repeat apply lxA (fun _ h _=>aj (h.cell k6) (h.cell q0))
  refine lex_nil ?_;intro Wx hWx hΦ;clear hΦ;have hC5:=HC4.out.ext hWx;have d11x:=hWx.cell d11;have q0x:=hWx.cell q0;have k6x:=hWx.cell k6;have f0:Wx.frozen? ⟨gp,p.src*5,none⟩=false:=(hC5.peer d11x hsrc).2.2.2.2 0;obtain⟨hT5,hC5,d11⟩:=hC5.putPeer (Hu4.out.ext hWx) d11x (c':={c with ls:=Lr,heard:=updF c.heard p.src c.now,has:=updF c.has p.src p.ack}) (i:=p.src) (j:=0) hsrc (by decide) (.int .i64 (p.ack:Nat)) rfl rfl rfl rfl
   (fun k hk=>by simp only[peerC,updF_other _ _ hk]) (by simp only[peerC,updF_same];rfl)
  have HB5:=hqd ((HB4.out.ext hWx).turn hT5 (by omega));have HT5:=hqd ((HT4.out.ext hWx).trans (hT5.mono fun k hk=>(by subst hk;unfold In;omega:In t 22 k)));simp only[Nat.add_zero]at hC5 d11 HB5 HT5;have HC5:=hqd hC5;clear hT5 hC5 HB4 HC4 HT4 k6 q0 Hu4;go_upto_region 15 with fail
  generalize hW5:World.setCell Wx _ _=W5 at *;clear hW5 hWx d11x q0x k6x f0;generalize updF c.has p.src p.ack=hasF at *
 case' inr.inl =>
  have e1:decide (hv<p.ack)=true:=decide_eq_true h1;have e1':decide ((hv:Int)<(p.ack:Int))=true:=decide_eq_true (by omega);have e2:decide (p.ack≤hl)=false:=decide_eq_false (by omega);have e2':decide ((p.ack:Int)≤(hl:Int))=false:=decide_eq_false (by omega);rw[if_neg (by omega)]at Hkf Hqf Hrecv;go_wp2_with fail;apply wrA trivial;repeat apply lxA (fun _ h _=>aj (h.cell k6) (h.cell q0))
  apply lxC (fun W hR=>Hhead.out W hR);repeat apply lxA (fun _ h _=>aj (h.cell k6) (h.cell q0))
  refine lex_nil ?_;intro Wx hWx hΦ;clear hΦ;have HC5:=hqd (HC4.out.ext hWx);have d11:=hWx.cell d11;have HB5:=hqd (HB4.out.ext hWx);have HT5:=hqd (HT4.out.ext hWx);clear HB4 HC4 HT4 k6 q0 Hu4;go_upto_region 15 with fail
  obtain⟨W5,hW5⟩:∃ W5,W5=Wx:=⟨_,rfl⟩;subst hW5;clear hWx;generalize c.has=hasF at *
 case' inr.inr =>
  have e1:decide (hv<p.ack)=false:=decide_eq_false (by omega);have e1':decide ((hv:Int)<(p.ack:Int))=false:=decide_eq_false (by omega);rw[if_neg (by omega)]at Hkf Hqf Hrecv;go_wp2_with fail;apply wrA trivial;repeat first|apply lxA (fun _ h _=>aj (h.cell k6) (h.cell q0))|apply lxK trivial
  refine lex_nil ?_;intro Wx hWx hΦ;clear hΦ;have HC5:=hqd (HC4.out.ext hWx);have d11:=hWx.cell d11;have HB5:=hqd (HB4.out.ext hWx);have HT5:=hqd (HT4.out.ext hWx);clear HB4 HC4 HT4 k6 q0 Hu4;go_upto_region 15 with fail
  obtain⟨W5,hW5⟩:∃ W5,W5=Wx:=⟨_,rfl⟩;subst hW5;clear hWx;generalize c.has=hasF at *
 all_goals
  have hC5:=HC5.out;have hu5:=HT5.out.unborn;obtain⟨_,q2,_,q3,fz5⟩:=hC5.peer d11 hsrc;have q2:W5.cell? ⟨gp,p.src*5+2,none⟩=some (.int .i64 ((c.words p.src).1:Nat)):=q2;have q3:W5.cell? ⟨gp,p.src*5+3,none⟩=some (.int .u32 ((c.words p.src).2:Nat)):=q3;have k7:=HB5.out.cell (i:=7) rfl;have k8:=HB5.out.cell (i:=8) rfl;have Hfz:=hqd fz5;obtain⟨hwd1,_⟩:=hwds;have Hwds:=hqd (show(c.words p.src).1=(c.words p.src).1 from rfl);generalize hwf:(c.words p.src).1=wf at q2 hwd1 Hkf Hqf Hrecv;have Hwf:=hqd hwf;clear hC5 hwf HB5 fz5 e1 e1';rcases(show(0<p.frame∧wf≤p.frame)∨(0<p.frame∧p.frame<wf)∨p.frame=0 by omega) with ⟨g1,g2⟩|⟨g1,g2⟩|g1
  ·have e1:decide (0<p.frame)=true:=decide_eq_true g1
   have e1':decide ((0:Int)<(p.frame:Int))=true:=decide_eq_true (by omega);have e2:decide (wf≤p.frame)=true:=decide_eq_true g2;have e2':decide ((wf:Int)≤(p.frame:Int))=true:=decide_eq_true (by omega);rw[if_pos ⟨g1,g2⟩]at Hkf Hqf Hrecv;apply wrA trivial;repeat apply lxA (fun _ h _=>aj (h.cell k7) (h.cell q2))
   refine lex_nil ?_;intro Wx hWx hΦ;clear hΦ;have hC6:=HC5.out.ext hWx;have k7:=hWx.cell k7;have k8:=hWx.cell k8;have q2:=hWx.cell q2;have q3:=hWx.cell q3;have d11:=hWx.cell d11;have fz6:=(hC6.peer d11 hsrc).2.2.2.2;have f2:=fz6 2;have f3:=fz6 3;obtain⟨hT6,hC6,d12⟩:=hC6.putPeer (hu5.ext hWx) d11 (c':={c with ls:=Lr,heard:=updF c.heard p.src c.now,has:=hasF,words:=updF c.words p.src (p.frame,(c.words p.src).2)}) (i:=p.src) (j:=2) hsrc (by decide) (.int .i64 (p.frame:Nat)) rfl rfl rfl rfl
    (fun k hk=>by simp only[peerC,updF_other _ _ hk]) (by simp only[peerC,updF_same];rfl)
   have f3:=(hC6.peer d12 hsrc).2.2.2.2 3;obtain⟨hT7,hC7,_⟩:=hC6.putPeer hT6.unborn d12 (c':={c with ls:=Lr,heard:=updF c.heard p.src c.now,has:=hasF,words:=updF c.words p.src (p.frame,p.sum)}) (i:=p.src) (j:=3) hsrc (by decide) (.int .u32 (p.sum:Nat)) rfl rfl rfl rfl
    (fun k hk=>by simp only[peerC,updF_other _ _ hk]) (by simp only[peerC,updF_same];rfl)
   have HT7:=hqd (((HT5.out.ext hWx).trans (hT6.mono fun k hk=>(by subst hk;unfold In;omega:In t 22 k))).trans (hT7.mono fun k hk=>(by subst hk;unfold In;omega:In t 22 k)));have HC7:=hqd hC7;clear hT6 hT7 hC6 hC7 fz6 HC5;go_upto_region 16 with fail
   go_region
   generalize hW7:World.drew _=W7 at *;have x7:=Ext.drew ((Wx.setCell ⟨gp,p.src*5+2,none⟩ (.int .i64 (p.frame:Nat))).setCell ⟨gp,p.src*5+3,none⟩ (.int .u32 (p.sum:Nat)));rw[hW7]at x7;have HC8:=hqd (HC7.out.ext x7);have HT8:=hqd (HT7.out.ext x7);clear x7 hW7 HC7 HT7 f2 f3 q2 q3 k7 k8 d11 d12;have Hho:=hqd (core_hold HC8.out Hkf.out Hqf.out);unfold ptrV at *;go_wp2_with fail;refine Hho.out.mono ?_;rintro e w8 ⟨rfl,e8⟩;go_wp2_with fail;go_ret;rw[Hrecv.out];exact⟨rfl,T4,HT8.out.ext e8,HC8.out.ext e8⟩
  ·have e1:decide (0<p.frame)=true:=decide_eq_true g1
   have e1':decide ((0:Int)<(p.frame:Int))=true:=decide_eq_true (by omega);have e2:decide (wf≤p.frame)=false:=decide_eq_false (by omega);have e2':decide ((wf:Int)≤(p.frame:Int))=false:=decide_eq_false (by omega);rw[if_neg (by omega)]at Hkf Hqf Hrecv;apply wrA trivial;repeat apply lxA (fun _ h _=>aj (h.cell k7) (h.cell q2))
   refine lex_nil ?_;intro Wx hWx hΦ;clear hΦ;have HC8:=hqd (HC5.out.ext hWx);have HT8:=hqd (HT5.out.ext hWx);clear q2 q3 k7 k8;have Hho:=hqd (core_hold HC8.out Hkf.out Hqf.out);unfold ptrV at *;go_wp2_with fail;refine Hho.out.mono ?_;rintro e w8 ⟨rfl,e8⟩;go_wp2_with fail;go_ret;rw[Hrecv.out];exact⟨rfl,T4,HT8.out.ext e8,HC8.out.ext e8⟩
  ·have e1:decide (0<p.frame)=false:=decide_eq_false (by omega)
   have e1':decide ((0:Int)<(p.frame:Int))=false:=decide_eq_false (by omega);rw[if_neg (by omega)]at Hkf Hqf Hrecv;clear g1;apply wrA trivial;repeat first|apply lxA (fun _ h _=>aj (h.cell k7) (h.cell q2))|apply lxK trivial
   refine lex_nil ?_;intro Wx hWx hΦ;clear hΦ;have HC8:=hqd (HC5.out.ext hWx);have HT8:=hqd (HT5.out.ext hWx);clear q2 q3 k7 k8;have Hho:=hqd (core_hold HC8.out Hkf.out Hqf.out);unfold ptrV at *;go_wp2_with fail;refine Hho.out.mono ?_;rintro e w8 ⟨rfl,e8⟩;go_wp2_with fail;go_ret;rw[Hrecv.out];exact⟨rfl,T4,HT8.out.ext e8,HC8.out.ext e8⟩
end
theorem core_in(w:World)(n a m:Int)(h1:a≤n)(h2:n≤m):Calls prog 189 #[.int .i64 n,.int .i64 a,.int .i64 m] w fun e w'=>e = .returned (.bool true)∧w'=w:=by
 have e1:decide (a≤n)=true:=decide_eq_true h1;have e2:decide (n≤m)=true:=decide_eq_true h2;go_enter func189,ntmps189;go_wp2_with fail;go_ret;exact⟨rfl,rfl⟩
theorem core_may(w:World)(cf:Cf)(me:Nat)(hok:CfOk cf)(hme:me<cf.n):Calls prog 166 #[confV cf me] w fun e w'=>e = .returned (.bool true)∧Ext w w':=by
 have H1:=hqd fun W=>core_in W (cf.n:Nat) 2 8 (by have:=hok.n2;omega) (by have:=hok.n8;omega);have H2:=hqd fun W=>core_in W (me:Nat) 0 ((cf.n:Int)-1) (by omega) (by omega);have H3:=hqd fun W=>core_in W (cf.delay:Nat) 0 8 (by omega) (by have:=hok.delay;omega);have H4:=hqd fun W=>core_in W (cf.window:Nat) 1 16 (by have:=hok.win1;omega) (by have:=hok.win;omega);have H5:=hqd fun W=>core_in W (cf.guess:Nat) 1 3 (by rcases hok.by_ with h|h<;>omega) (by rcases hok.by_ with h|h<;>omega)
 have H6:=hqd fun W=>core_in W (cf.order:Nat) 0 3 (by omega) (by rcases hok.by_ with h|h<;>omega)
 have H7:=hqd fun W=>core_in W (cf.branches:Nat) 0 8 (by omega) (by have:=hok.branches;omega);have H8:=hqd fun W=>core_in W (cf.workers:Nat) 0 4 (by omega) (by have:=hok.workers;omega);have H9:=hqd fun W=>core_in W (cf.room:Nat) 3 50 (by have:=hok.room3;omega) (by have:=hok.room;omega);have hw:IntKind.i64.wrap ((cf.n:Int)-1)=(cf.n:Int)-1:=IntWalk.i64_in _ (by have:=hok.n2;have:=hok.n8;omega);have e1:decide ((0:Int)≤(cf.id:Int))=true:=decide_eq_true (by omega);have e2:decide ((cf.id:Int)≤1099511627776)=true:=decide_eq_true (by have:=hok.id;omega);have e2':decide (cf.id≤1099511627776)=true:=decide_eq_true hok.id;have hby:=hok.by_;clear hok hme;unfold confV;generalize cf.n=n at *;generalize cf.id=id at *;generalize cf.delay=de at *;generalize cf.window=wi at *;generalize cf.guess=gu at *;generalize cf.order=od at *;generalize cf.branches=br at *;generalize cf.workers=wo at *;generalize cf.room=ro at *;rcases(show(gu=1∧od=0)∨(gu=2∧od=0)∨(gu=2∧0<od) by omega) with ⟨rfl,rfl⟩|⟨rfl,rfl⟩|⟨rfl,ho⟩
 case' inr.inr =>
  have hz:(od==0)=false:=by rw[beq_eq_false_iff_ne];omega
  have hz':((od:Int)==0)=false:=by rw[beq_eq_false_iff_ne];omega
  clear ho
 all_goals
  clear hby;go_enter func166,ntmps166;go_wp2_with fail;refine(H1.out _).mono ?_;rintro e w1 ⟨rfl,rfl⟩;go_wp2_with fail;refine(H2.out _).mono ?_;rintro e w1 ⟨rfl,rfl⟩;go_wp2_with fail;refine(H3.out _).mono ?_;rintro e w1 ⟨rfl,rfl⟩;go_wp2_with fail;refine(H4.out _).mono ?_;rintro e w1 ⟨rfl,rfl⟩;go_wp2_with fail;refine(H5.out _).mono ?_;rintro e w1 ⟨rfl,rfl⟩;go_wp2_with fail;refine(H6.out _).mono ?_;rintro e w1 ⟨rfl,rfl⟩;go_wp2_with fail;refine(H7.out _).mono ?_;rintro e w1 ⟨rfl,rfl⟩;go_wp2_with fail;refine(H8.out _).mono ?_;rintro e w1 ⟨rfl,rfl⟩;go_wp2_with fail;refine(H9.out _).mono ?_;rintro e w1 ⟨rfl,rfl⟩;go_wp2_with fail;go_ret;exact⟨rfl,Ext.alloc _ _⟩
theorem info_peer:(prog.info? 297).map (fun i=>(i.zero,i.size,i.bytes))=some (some (.agg #[.int .i64 0,.int .i64 0,.int .i64 0,.int .u32 0,.bool false]),5,32):=by kernel_rfl
def coreL(cf:Cf)(me qb k:Nat)(A:Option Addr)(c:Nat):List Value:=[.int .i64 (cf.n:Nat),.int .i64 (me:Nat),.int .i64 (cf.id:Nat),.int .i64 (cf.delay:Nat),.int .i64 (cf.window:Nat),.int .i64 (cf.guess:Nat),.int .i64 (cf.order:Nat),.int .i64 (cf.branches:Nat),.int .i64 (cf.workers:Nat),.int .i64 (cf.room:Nat),.pointer (some ⟨qb,0,none⟩),.slice A k c,.slice none 0 0,.slice none 0 0,.int .i64 0,.bool false]
def cnRel(w:World)(T:Tg)(t g gc:Nat)(cf:Cf)(me qb:Nat)(ps:Nat→Nat)(iv:Value)(wr:World):Prop:=∃(k:Nat) (T1:Tg) (A:Option Addr) (c:Nat),iv = .int .i64 (k:Nat)∧k≤cf.n∧Has wr T1 t g (coreL cf me qb k A c)∧Row wr T1 (t+1) 297 5 A k c ((List.range k).flatMap (peerC (Cr.new cf.n cf.delay)))∧QueueAt wr T1 (t+4) qb ps (List.replicate cf.n (List.replicate cf.delay 0))∧Has wr T1 0 gc (confCells cf me)∧Turn (fun _=>False) w T wr T1∧w.heap.size≤g∧∀ k,blk A=some k→w.heap.size≤k
theorem core_new(w:World)(T:Tg)(hu:Unborn w T)(cf:Cf)(me:Nat)(hok:CfOk cf)(hme:me<cf.n)(t:Nat)(ht:0<t):Calls prog 145 #[confV cf me] w (Gives (fun _=>False) w T fun v w' T'=>∃ b qb ps,v = .tuple #[ptrV b,.int .i64 0]∧CoreAt w' T' t b cf me qb ps (Cr.new cf.n cf.delay) []):=by
 obtain⟨i0,hi,hz0,hz1,hz2⟩:=info_parts info_peer;have Hmay:=hqd fun W=>core_may W cf me hok hme;have Hq:=hqd fun W T1 (h1:Unborn W T1)=>queue_new W T1 h1 cf.n cf.delay hok.n2 hok.n8 hok.delay (t+4) (by omega);have hn8:=hok.n8;unfold confV at *;go_enter func145,ntmps145;go_upto_region 1 with fail
 have hb:=(Has.new w (fun _=>0) (confCells cf me) 26 rfl).2;have hx:=Ext.alloc w (.cells (confCells cf me).toArray 26);unfold confCells at hb hx;generalize hW:World.alloc w _=W0 at *;obtain⟨gc,hgc⟩:∃ gc,gc=w.heap.size:=⟨_,rfl⟩;rw[← hgc]at hb;rw[← hgc];have hb:Has W0 T 0 gc _:=⟨hu gc (by omega),hb⟩;have Hgc:=hqd (show w.heap.size≤gc by omega);clear hW hgc;have hlt:=hb.lt;have k0:=hb.cell (i:=0) rfl;have k1:=hb.cell (i:=1) rfl;have k2:=hb.cell (i:=2) rfl;have k3:=hb.cell (i:=3) rfl;have k4:=hb.cell (i:=4) rfl;have k5:=hb.cell (i:=5) rfl;have k6:=hb.cell (i:=6) rfl;have k7:=hb.cell (i:=7) rfl;have k8:=hb.cell (i:=8) rfl;have k9:=hb.cell (i:=9) rfl;have HB:=hqd hb;clear hb;go_wp2_with fail;refine(Hmay.out W0).mono ?_;rintro e w2 ⟨rfl,e2⟩;have hu2:=(hu.ext hx).ext e2;have hx2:=hx.trans e2;have HB2:=hqd (HB.out.ext e2);replace k0:=e2.cell k0;replace k1:=e2.cell k1;replace k2:=e2.cell k2;replace k3:=e2.cell k3;replace k4:=e2.cell k4;replace k5:=e2.cell k5;replace k6:=e2.cell k6;replace k7:=e2.cell k7;replace k8:=e2.cell k8;replace k9:=e2.cell k9;clear Hmay HB hx e2;go_wp2_with fail;apply wrN 6;simp only[tk];repeat apply lxA (fun _ h _=>aj (h.cell k0) (aj (h.cell k1) (aj (h.cell k2) (aj (h.cell k3) (aj (h.cell k4) (aj (h.cell k5) (aj (h.cell k6) (aj (h.cell k7) (aj (h.cell k8) (h.cell k9))))))))))
 apply lex_call (p:=fun u W=>∃ T' qb ps,u=ptrV qb∧Turn (fun _=>False) w2 T W T'∧QueueAt W T' (t+4) qb ps (List.replicate cf.n (List.replicate cf.delay 0))) (fun _ _ _ ⟨T',qb,ps,h1,h2,h3⟩ he=>⟨T',qb,ps,h1,h2.ext he,h3.ext he⟩)
 ·rfl
 ·intro W
  go_simp;exact⟨rfl,rfl⟩
 ·intro W hR hΦ
  refine(Hq.out W T (hu2.ext hR)).mono ?_;rintro e w' ⟨v,rfl,T',hT',qb,ps,rfl,hq⟩;exact⟨_,rfl,⟨hT'.os,hT'.tape,hT'.output,hT'.size,fun k hk=>hT'.block k hk (fun h=>h)⟩,T',qb,ps,rfl,(Turn.of_ext _ hu2 hR).trans hT',hq⟩
 intro v1;simp only[pu];refine lex_nil ?_;intro Wx hWx hΦ;obtain⟨T1,qb,ps,rfl,hT1,hq1⟩:=hΦ.1 rfl;clear hΦ;simp only[dk];have HB3:=hqd ((HB2.out.ext hWx).of ((hT1.tag gc (by have:=HB2.out.lt;omega)).trans HB2.out.1));have HT1:=hqd ((Turn.of_ext (fun _=>False) hu hx2).trans hT1);have HQ1:=hqd hq1;unfold ptrV at *;clear hT1 hq1 k1 k2 k4 k5 k6 k7 k8 k9 HB2;have k0:=hWx.cell k0;go_upto_region 4 with fail
 obtain⟨hT9,hH9⟩:=Has.fresh HT1.out.unborn (coreL cf me qb 0 none 0) 211 t;unfold coreL at hT9 hH9;generalize hWy:World.alloc Wx _=Wy at *;have hB4:=HB3.out.turn hT9 (fun h=>h);have hg:=HT1.out.size;have HT9:=hqd (HT1.out.trans hT9);have HQ9:=hqd (HQ1.out.turn hT9 (fun _ _ h=>h));have HH9:=hqd hH9;have HB4:=hqd hB4;have k0:=hB4.cell (i:=0) rfl;clear hWy hT9 hH9 HQ1 HT1 HB3 hB4;generalize Wx.heap.size=g at *;generalize give T1 (one g) t=T9 at *;go_upto_region 5 with fail
 go_loopw [18] (fun iv wr=>cnRel w T t g gc cf me qb ps iv wr) (fun iv _=>cf.n-(intOf iv).toNat)
 case atStart=>exact⟨0,T9,none,0,rfl,Nat.zero_le _,HH9.out,Row.nil_ _ _ _ _ _,HQ9.out,HB4.out,HT9.out,hg,fun k hk=>by cases hk⟩
 case round =>
  obtain⟨k,T0,A,c,rfl,hk,hH,hRw,hq,hB,hT,hwg,hwA⟩:=hrel;have hu0:=hT.unborn;by_cases hkn:k<cf.n
  ·have hd1:decide (k<cf.n)=true:=decide_eq_true hkn
   have hd1':decide ((k:Int)<(cf.n:Int))=true:=decide_eq_true (by omega);have c11:=hH.cell (i:=11) rfl;have b3:=hB.cell (i:=3) rfl;have hne:=hH.ne_row hRw (by omega);have hnb:=hB.ne_row hRw (by omega);have HH:=hqd hH;have HQ:=hqd hq;have HT:=hqd hT;have HB:=hqd hB;clear hH hq hT hB;go_wp2_with fail;generalize hw0:wr=w0 at *;have hRowOwn:=(hRw).1;have hRowC:=(hRw).cond;have hPs:Stab (t+1) (fun v _ _=>v=(.agg #[.int .i64 (cf.delay:Nat),.int .i64 0,.int .i64 0,.int .u32 0,.bool false])):=fun _ _ _ _ _ h _=>h;have hone:∀(v:Value) (w:World) (T:Tg),v=(.agg #[.int .i64 (cf.delay:Nat),.int .i64 0,.int .i64 0,.int .u32 0,.bool false])→v.cells.toList.length=5∧∀ y∈v.cells.toList,y.oneCell'=true:=by
    rintro v w T rfl;exact⟨rfl,by simp[Value.cells,Value.oneCell']⟩
   apply wrH 12 (gR A) (gRs 9 A) (gJs 9 297 5 A k c ((List.range k).flatMap (peerC (Cr.new cf.n cf.delay)))) (gJs.start hRowOwn);simp only[tk];repeat apply lxG (fun _ h _ _=>aj (h.cell c11 hne) (h.cell b3 hnb))
   apply lexG_new (p:=BuiltP T0 w0.heap.size (fun v _ _=>v=(.agg #[.int .i64 (cf.delay:Nat),.int .i64 0,.int .i64 0,.int .u32 0,.bool false])) 297) (by decide) (by decide) (BuiltP.stab hPs hRowC _)
   ·rfl
   ·intro W hR hJ hΦ
    have hB:=BuiltP.made (e:=297) hPs hR.size (show FrP T0 w0.heap.size (fun v _ _=>v=(.agg #[.int .i64 (cf.delay:Nat),.int .i64 0,.int .i64 0,.int .u32 0,.bool false])) (.agg #[.int .i64 (cf.delay:Nat),.int .i64 0,.int .i64 0,.int .u32 0,.bool false]) W from⟨T0,fun _ _=>rfl,fun k hk=>hu0 k (Nat.le_trans hR.size hk),rfl⟩);have dd0:=hR.cell c11 hne;have dd1:=hR.cell b3 hnb;refine⟨_,_,?_,(Ext.alloc _ _).grownBy _,.inr (Ext.alloc _ _),hB⟩;go_simp;first|done|rfl
   intro v2;simp only[pu];apply lexG_new (p:=AppP T0 w0.heap.size (fun v _ _=>v=(.agg #[.int .i64 (cf.delay:Nat),.int .i64 0,.int .i64 0,.int .u32 0,.bool false])) (t+1) A 297 5 (k+1) ((List.range k).flatMap (peerC (Cr.new cf.n cf.delay)))) (by decide) (by decide) (fun j hj v w w9 h hR=>AppP.stab j hj v w w9 h hPs hR)
   ·rfl
   ·intro W hR hJ hΦ
    exact exec_append_call W _ _ 209 rfl 297 i0 (.agg #[.int .i64 0,.int .i64 0,.int .i64 0,.int .u32 0,.bool false]) 5 32 underlying209 hi hz0 hz1 hz2 rfl (by decide) A k c (((List.range k).flatMap (peerC (Cr.new cf.n cf.delay)))) rfl (hJ rfl) v2 rfl (hΦ.1 rfl) hone (by unfold maxLen;omega) (by omega) hRowC hPs hR.size
   intro v3;simp only[pu];repeat apply lxG (fun _ h _ _=>aj (h.cell c11 hne) (h.cell b3 hnb))
   refine lexG_nil ?_;intro W hR hap hΦ;obtain⟨u1,T1,E,Ed,rfl,hT1,hP1,hRow1,hWent⟩:=(hΦ.1 rfl).fin hR hRowC;clear hΦ hap;simp only[dk];have hH1:=HH.out.turn hT1 (by omega);have c11:=hH1.cell (i:=11) rfl;have f11:=hH1.free 11;obtain⟨hT2,hH2⟩:=hH1.put (S:=(· = t)) hT1.unborn 11 (.slice E (k+1) Ed) rfl;have HT1:=hqd hT1;have HT2:=hqd hT2;have HH2:=hqd hH2;have HR1:=hqd hRow1;clear hH1 hT1 hT2 hH2 hRow1;go_wp2_with fail;go_roundw
   case rel =>
    have q1:=Turn.after HT.out HT1.out hR (fun g hg=>.inr (hwA g hg));refine⟨k+1,T1,E,Ed,by go_num,by omega,HH2.out.is rfl,(HR1.out.turn HT2.out (by omega)).to ?_,(HQ.out.turn HT1.out (by omega)).turn HT2.out (by omega),(HB.out.turn HT1.out (by omega)).turn HT2.out (by omega),q1.set _ _ (.inr hwg),hwg,fun k' hk'=>?_⟩
    ·rw[List.range_succ,List.flatMap_append,hP1]
     rfl
    ·rcases hWent with h|h
     ·exact hwA k' (h▸hk')
     ·have:=h k' hk';have:=HT.out.size;omega
   case measure=>simp[intOf];omega
  ·obtain rfl:k=cf.n:=by omega
   have hd1:decide (cf.n<cf.n)=false:=decide_eq_false (by omega);go_wp2_with fail;go_ret2
   exact⟨_,rfl,T0,hT,g,qb,ps,rfl,⟨⟨A,c,none,0,none,0,hH.is rfl,hRw,Row.nil_ _ _ _ _ _,Row.nil_ _ _ _ _ _⟩,hq⟩⟩
section
variable {w w':World} {T T':Tg} {t:Nat} {e:TypeId} {size:Nat} {A:Option Addr} {n c:Nat} {xs:List Value}
theorem set_mid(xs:List Value)(v:Value){k:Nat}(hk:k<xs.length):xs.set k v=xs.take k++v::xs.drop (k+1):=by
 rw[List.set_eq_take_append_cons_drop,if_pos hk]
theorem Row.setl{g:Nat}(hA:A=some ⟨g,0,none⟩):∀(vs:List Value) (k:Nat) (xs:List Value) (w:World),Row w T t e size A n c xs→Unborn w T→k+vs.length≤xs.length→Turn (· = t) w T (w.setCells g k vs) T∧Row (w.setCells g k vs) T t e size A n c (xs.take k++vs++xs.drop (k+vs.length))
 | [],k,xs,w,h,hu,hk=>by
  refine⟨Turn.refl _ hu,?_⟩;rw[List.append_nil,List.length_nil,Nat.add_zero,List.take_append_drop];exact h
 | v::r,k,xs,w,h,hu,hk=>by
  have hk':k+(r.length+1)≤xs.length:=by simpa using hk
  obtain⟨hT,hR⟩:=h.put hu (i:=k) hA v;obtain⟨hT2,hR2⟩:=Row.setl hA r (k+1) (xs.set k v) _ hR hT.unborn (by rw[List.length_set];omega);refine⟨hT.trans hT2,hR2.to ?_⟩;have hkl:(xs.take k).length=k:=by rw[List.length_take];omega
  have h1:(xs.set k v).take (k+1)=xs.take k++[v]:=by
   rw[set_mid xs v (by omega),List.take_append,hkl,List.take_of_length_le (by omega),show k+1-k=1 by omega];rfl
  have h2:(xs.set k v).drop (k+1+r.length)=xs.drop (k+(v::r).length):=by
   rw[List.drop_set_of_lt (by omega),List.length_cons];congr 1
   omega
  rw[h1,h2];simp
theorem Row.spare(h:Row w T t e size A n c xs){g i:Nat}(hA:A=some ⟨g,0,none⟩)(hi:i<xs.length):(w.cell? ⟨g,i,none⟩).isSome=true∧w.frozen? ⟨g,i,none⟩=false:=by
 obtain⟨g9,e9,h1,h2,_⟩:=h.at_ (List.getElem?_eq_getElem hi);rw[hA]at e9;cases e9
 exact⟨by rw[h1];rfl,h2⟩
theorem run_clear_row{P:Program}(w:World)(ty e:TypeId)(z:Value)(size:Nat)(ht:P.underlying ty=some (.slice e))(hv:∀ w,(zeroValue e).run P w = .ok z w)(hz:z.cells.size=size)(hsz:0<size)(h1:∀ u∈z.cells,u.oneCell'=true)(b o n c:Nat)(hn:0<n)
  (hc:∀ j,j<n*size→(w.cell? ⟨b,o+j,none⟩).isSome=true) (hf:∀ j,j<n*size→w.frozen? ⟨b,o+j,none⟩=false) :
  ∃ zs:List Value,zs.length=n*size∧∀ tl,(Builtin.clear_ #[ty] tl #[.slice (some ⟨b,o,none⟩) n c]).run P w = .ok (.tuple #[]) (w.setCells b o zs):=by
 have hzl:(Builtin.zeroCells z.cells n).toList.length=n*size:=by
  simp[Builtin.zeroCells,hz]
 have hst:=run_storeCells_cells (P:=P) b o (Builtin.zeroCells z.cells n).toList 0 w (by rw[hzl];simpa using hc) (by rw[hzl];simpa using hf) (by
  intro v hv';simp only[Builtin.zeroCells,Array.toList_map,List.mem_map]at hv';obtain⟨i,_,rfl⟩:=hv';apply h1;rw[getElem!_pos]
  ·exact Array.getElem_mem _
  ·exact Nat.mod_lt _ (by rw[hz];exact hsz))
 simp only[Nat.add_zero]at hst;obtain⟨m,rfl⟩:∃ m,n=m+1:=⟨n-1,by omega⟩;exact⟨_,hzl,fun tl=>by simp[Builtin.clear_,run_underlying ht,hv,hst]⟩
theorem wpList_append_room{P:Program}{ops:Array Oper}{rest:List Oper}{o:Oper}{a:Act}{Q:Exit→Act→World→Prop}(hgd:o.guard=none)(s x:Operand)(t:TypeId)
  (ho:o.op = .call {callee:=.builtin .append,args:=#[s,x],argTypes:=#[t,t]}) (e:TypeId) (i:TypeInfo) (size:Nat) (ht:P.underlying t=some (.slice e)) (hi:P.info? e=some i) (hsz:i.size=size)
  (b off n cap:Nat) (hs:a.eval s = .slice (some ⟨b,off,none⟩) n cap) (A:Addr) (m c:Nat) (news:List Value) (hx:a.eval x = .slice (some A) m c) (hl:news.length=m*size) (hnews:∀ j u,news[j]?=some u→w.cell? (A.add j)=some u) (h1:∀ u∈news,u.oneCell'=true)
  (hroom:n+m≤cap) (hspare:∀ j,j<news.length→(w.cell? ⟨b,off+n*size+j,none⟩).isSome=true∧w.frozen? ⟨b,off+n*size+j,none⟩=false)
  (h:wpList P ops Q rest (a.put o.dst (.slice (some ⟨b,off,none⟩) (n+m) cap)) (w.setCells b (off+n*size) news)):wpList P ops Q (o::rest) a w:=by
 subst hsz;have hrun:=run_append_room_cells (P:=P) (w:=w) t o.type e i ht hi b off n cap A m c news hl hnews h1 hroom (fun j hj=>(hspare j hj).1) (fun j hj=>(hspare j hj).2);refine wpList_plain hgd fun K hK=>?_;unfold Oper.wp;simp[execOp,ho,resolve,invoke,builtin,hs,hx,hrun,Result.andThen]
 exact hK _ _ h
theorem wpList_clear{P:Program}{ops:Array Oper}{rest:List Oper}{o:Oper}{a:Act}{Q:Exit→Act→World→Prop}(hgd:o.guard=none)(x:Operand)(t:TypeId)
  (ho:o.op = .call {callee:=.builtin .clear,args:=#[x],argTypes:=#[t]}) (v:Value) (hx:a.eval x=v) (W:World) (hrun:∀ ty,(Builtin.clear_ #[t] ty #[v]).run P w = .ok (.tuple #[]) W)
  (h:wpList P ops Q rest (a.put o.dst (.tuple #[])) W):wpList P ops Q (o::rest) a w:=by
 refine wpList_plain hgd fun K hK=>?_;unfold Oper.wp;simp[execOp,ho,resolve,invoke,builtin,hx,hrun,Result.andThen]
 exact hK _ _ h
theorem mail_delete(h:Row w T t 176 3 A n c xs)(hu:Unborn w T){i:Nat}(hi:i<n)(hn:n≤300)(h1:∀ u∈xs,u.oneCell'=true):Calls prog 155 #[.slice A n c,.int .i64 (i:Nat),.int .i64 ((i+1:Nat):Int)] w fun e w'=>e = .returned (.slice A (n-1) c)∧Turn (· = t) w T w' T∧Row w' T t 176 3 A (n-1) c (xs.take (i*3)++xs.drop (i*3+3)):=by
 obtain⟨i0,hi0,hz0,hz1,hz2⟩:=info_parts info_mail;have hxl:=h.len;obtain⟨g,rfl,_,_,_⟩:=h.at_ (i:=0) (v:=xs[0]'(by omega)) (List.getElem?_eq_getElem (by omega));have hnc:=h.rd.2.1;have hcm:=h.rd.2.2.1;unfold maxLen at hcm;have e1:decide (i≤i+1)=true:=decide_eq_true (by omega);have hie:(i==i+1)=false:=by rw[beq_eq_false_iff_ne];omega
 have hie':((i:Int)==(i:Int)+1)=false:=by rw[beq_eq_false_iff_ne];omega
 have e2:decide (i≤c)=true:=decide_eq_true (by omega);have e3:decide (i+1≤n)=true:=decide_eq_true (by omega);have hic:i≤c:=by omega
 have hjn:i+1≤n:=by omega
 have hcd:(0≤(i:Int)+1∧(i:Int)+1≤(n:Int))=True:=eq_true ⟨by omega,by omega⟩;obtain⟨A9,hA9,hsrc⟩:∃ A9:Addr,(if c=i+1 then (some ⟨g,0,none⟩:Option Addr) else some ⟨g,(i+1)*3,none⟩)=some A9∧∀ W,Ext w W→∀ j u,(xs.drop (i*3+3))[j]?=some u→W.cell? (A9.add j)=some u:=by
  have key:∀ W,Ext w W→∀ j u,(xs.drop (i*3+3))[j]?=some u→W.cell? ⟨g,(i+1)*3+j,none⟩=some u:=by
   intro W hW j u hu9;obtain⟨b9,o9,e9,hc9⟩:=h.rd.2.2.2 (by omega);cases e9
   rw[List.getElem?_drop]at hu9;have:=hW.cell (hc9 _ u hu9);rw[show 0+(i*3+3+j)=(i+1)*3+j by omega]at this;exact this
  by_cases h9:c=i+1
  ·refine⟨⟨g,0,none⟩,by rw[if_pos h9],fun W hW j u hu9=>?_⟩
   have:=(List.getElem?_eq_some_iff.1 hu9).1;rw[List.length_drop]at this;omega
  ·refine⟨⟨g,(i+1)*3,none⟩,by rw[if_neg h9],fun W hW j u hu9=>?_⟩
   rw[Addr.add_lit];exact key W hW j u hu9
 have H:=hqd h;have Hone:=hqd h1;clear h1;have Hsrc:=hqd hsrc;clear h hsrc;go_enter func155,ntmps155;go_wp2_with fail;apply wrN 6;simp only[tk];repeat apply lxA (fun _ _ _=>trivial)
 refine lex_nil ?_;intro Wx hWx hΦ;clear hΦ;simp only[dk];have hWr:=H.out.ext hWx;have hone:∀ u∈xs,u.oneCell'=true:=Hone.out;have hsp:∀ j,j<(xs.drop (i*3+3)).length→(Wx.cell? ⟨g,0+i*3+j,none⟩).isSome=true∧Wx.frozen? ⟨g,0+i*3+j,none⟩=false:=by
  intro j hj;rw[List.length_drop]at hj;rw[Nat.zero_add];exact hWr.spare rfl (by omega)
 have hsr:=Hsrc.out Wx hWx;have hux:Unborn Wx T:=hu.ext hWx;obtain⟨hT1,hR1⟩:=Row.setl rfl (xs.drop (i*3+3)) (i*3) xs Wx hWr hux (by rw[List.length_drop];omega);obtain⟨W1,hW1⟩:∃ W1,W1=Wx.setCells g (0+i*3) (xs.drop (i*3+3)):=⟨_,rfl⟩;rw[Nat.zero_add]at hW1;rw[← hW1]at hT1 hR1;obtain⟨zs,hzl,hcl⟩:=run_clear_row (P:=prog) W1 190 176 (.agg #[.int .i64 0,.int .i64 0,.slice none 0 0]) 3 underlying190 (fun w=>by simp[zeroValue,typeInfo,hi0,hz0]) rfl (by decide) (by simp[Value.cells,Value.oneCell']) g ((i+(n-(i+1)))*3) (n-(i+(n-(i+1)))) (c-(i+(n-(i+1)))) (by omega)
  (fun j hj=>(hR1.spare rfl (by simp only[List.length_append,List.length_take,List.length_drop];omega)).1) (fun j hj=>(hR1.spare rfl (by simp only[List.length_append,List.length_take,List.length_drop];omega)).2)
 obtain⟨hT2,hR2⟩:=Row.setl rfl zs ((i+(n-(i+1)))*3) _ W1 hR1 hT1.unborn (by simp only[List.length_append,List.length_take,List.length_drop];omega);have HT1:=hqd hT1;have HT2:=hqd hT2;have HR2:=hqd hR2;have HW:=hqd (show Wx.setCells g (0+i*3) (xs.drop (i*3+3))=W1 by rw[Nat.zero_add,hW1]);have Hzl:=hqd hzl;clear hT1 hT2 hR1 hR2 hW1 hzl;go_wp2_with (at_builtin;refine wpList_append_room rfl _ _ 190 rfl 176 i0 3 underlying190 hi0 hz1 g 0 i c rfl A9 (n-(i+1)) (c-(i+1)) (xs.drop (i*3+3)) rfl (by rw[List.length_drop];omega) hsr (fun u hu=>hone u (List.mem_of_mem_drop hu)) (by omega) hsp ?_;rw[HW.out]);go_ret;have hk:i+(n-(i+1))=n-1:=by omega
 refine⟨by show Ending.returned (Value.slice (some ⟨g,0,none⟩) (i+(n-(i+1))) c)=_;rw[hk],((Turn.of_ext _ hu hWx).trans HT1.out).trans HT2.out,(HR2.out.first (m:=n-1) (by omega) (fun h=>by cases h)).to ?_⟩;have hl1:(xs.take (i*3)++xs.drop (i*3+3)).length=(n-1)*3:=by
  simp only[List.length_append,List.length_take,List.length_drop];omega
 have hl2:(xs.take (i*3)++xs.drop (i*3+3)++xs.drop (i*3+(xs.drop (i*3+3)).length)).take ((n-1)*3)=xs.take (i*3)++xs.drop (i*3+3):=by
  rw[List.take_append_of_le_length (by omega),List.take_of_length_le (by omega)]
 rw[hk,hl2,List.append_assoc,List.take_append_of_le_length (by omega),List.take_of_length_le (by omega)]
end
theorem Own.keep{w w':World}{base:Nat}{e:TypeId}{size:Nat}{A:Option Addr}{n c:Nat}{xs:List Value}{g:Nat}(h:Own w base e size A n c xs)(hg:w.grownBy w' (some g))(hne:∀ k,blk A=some k→k≠g):Own w' base e size A n c xs :=
 h.kept hg (by
  rcases hb:blk A with _|k
  ·exact .inl rfl
  ·exact .inr fun e=>hne k hb (Option.some.inj e))
theorem net_own(w:World)(src dst:Nat)(A:Option Addr)(d:Nat)(l:List UInt8)(hb:Rb w A l.length d l)(hl:l.length≤1000000):Calls prog 118 #[mailV src dst A l.length d] w fun e w'=>∃ B bd,e = .returned (mailV src dst B l.length bd)∧Own w' w.heap.size 5 1 B l.length bd (bcs l)∧Ext w w':=by
 have Hcl:=hqd fun W (e:Ext w W)=>clone_any W A l.length d l (hb.ext e) hl;unfold mailV;clear hb;go_enter func118,ntmps118;go_upto_region 1 with fail
 have b1:=Has.new w (fun _=>0) [.int .i64 (src:Nat),.int .i64 (dst:Nat),.slice A l.length d] 176 rfl;have b2:=Has.new (w.alloc (.cells #[.int .i64 (src:Nat),.int .i64 (dst:Nat),.slice A l.length d] 176)) (fun _=>0) [.int .i64 0,.int .i64 0,.slice none 0 0] 176 rfl;have b1:=b1.ext (Ext.alloc _ (.cells #[.int .i64 0,.int .i64 0,.slice none 0 0] 176));have x0:=(Ext.alloc w (.cells #[.int .i64 (src:Nat),.int .i64 (dst:Nat),.slice A l.length d] 176)).trans (Ext.alloc _ (.cells #[.int .i64 0,.int .i64 0,.slice none 0 0] 176));rw[show(w.alloc (.cells #[.int .i64 (src:Nat),.int .i64 (dst:Nat),.slice A l.length d] 176)).heap.size=w.heap.size+1 by simp]at b2;have Hm:=hqd (show w.heap.size≤w.heap.size from Nat.le_refl _);have Hr:=hqd (show w.heap.size+1≤w.heap.size+1 from Nat.le_refl _);generalize hW:World.alloc (World.alloc w _) _=W0 at *;obtain⟨gm,hgm⟩:∃ gm,gm=w.heap.size:=⟨_,rfl⟩;obtain⟨gr,hgr⟩:∃ gr,gr=w.heap.size+1:=⟨_,rfl⟩;rw[← hgr]at b2;rw[← hgm]at b1;rw[← hgr,← hgm];have hne:gr≠gm:=by omega
 have Hgm:=hqd (show w.heap.size≤gm by omega);have Hgr:=hqd (show w.heap.size≤gr by omega);clear hW hgm hgr Hm Hr;have HB1:=hqd b1;have HB2:=hqd b2;have k2:=b1.cell (i:=2) rfl;have hg1:=b1.lt;have hg2:=b2.lt;clear b1 b2;go_wp2_with fail;refine(Hcl.out W0 x0).mono ?_;rintro e w1 ⟨B,m,bd,rfl,ho,e1⟩;obtain rfl:m=l.length:=by have:=ho.len;rw[bcs_length]at this;omega
 have c1:=HB1.out.ext e1;have c2:=HB2.out.ext e1;have k2:=c1.cell (i:=2) rfl;have f2:=c1.free 2;have HC1:=hqd (c1.set 2 (.slice B l.length bd));have HC2:=hqd (c2.set_other (a:=⟨gm,2,none⟩) (by exact fun e=>hne e.symm) (.slice B l.length bd));have hBg:∀ k,blk B=some k→k≠gm∧k≠gr:=fun k hk=>by have:=ho.blk_ge k hk;omega
 have HO:=hqd (ho.keep (setc_grown w1 ⟨gm,2,none⟩ (.slice B l.length bd)) (fun k hk=>(hBg k hk).1));have hx2:=Ext.setc (x0.trans e1) (p:=⟨gm,2,none⟩) Hgm.out (.slice B l.length bd);clear c1 c2 HB1 HB2 e1 ho;go_upto_region 2 with fail
 generalize hW2:World.setCell w1 _ _=W2 at *;clear hW2 k2 f2;have hl3:[Value.int .i64 (src:Nat),.int .i64 (dst:Nat),.slice B l.length bd].length=3:=rfl;have hv3:[Value.int .i64 0,.int .i64 0,.slice none 0 0].length=3:=rfl;have h13:∀ u∈[Value.int .i64 (src:Nat),.int .i64 (dst:Nat),.slice B l.length bd],u.oneCell'=true:=by simp[Value.oneCell']
 have c1:=HC1.out.is (show _=[Value.int .i64 (src:Nat),.int .i64 (dst:Nat),.slice B l.length bd] from rfl);have c2:=HC2.out;go_wp2_with (first|(with_reducible refine wpList_load_st rfl 176 (.tmp 1) rfl rfl underlying176 size_mail hl3 c1.all ?_)|(with_reducible refine wpList_store_st rfl 176 (.tmp 2) (.tmp 7) rfl rfl (us:=[.int .i64 (src:Nat),.int .i64 (dst:Nat),.slice B l.length bd]) rfl c2 hl3 hv3 size_mail h13 ?_;intro Z bZ gZ sZ));have eZ:=Ext.own (B:=some ⟨gr,0,none⟩) hx2 gZ (fun k hk=>by have h9:gr=k:=Option.some.inj hk;have:=Hgr.out;omega);have hOZ:=(HO.out.keep gZ (fun k hk=>(hBg k hk).2)).mono x0.size;exact bodyPost_ret (result_st rfl _ rfl bZ underlying176 size_mail) rfl ⟨B,bd,rfl,hOZ,eZ⟩
def NetAt(w:World)(T:Tg)(t b id:Nat)(ks:List Pk):Prop:=∃(A:Option Addr) (c:Nat) (hs:List (Option Addr×Nat)),hs.length=ks.length∧Has w T t b [.slice A ks.length c]∧Row w T (t+1) 176 3 A ks.length c (mailsC id ks hs)∧∀(i:Nat) k h,ks[i]?=some k→hs[i]?=some h→Sb w T h.1 (encPk id k).length h.2 (encPk id k)
section
variable {w w':World} {T T':Tg} {t b id:Nat} {ks:List Pk}
theorem NetAt.turn{S:Nat→Prop}(h:NetAt w T t b id ks)(hT:Turn S w T w' T')(h0:¬ S 0)(h1:¬ S t)(h2:¬ S (t+1)):NetAt w' T' t b id ks:=by
 obtain⟨A,c,hs,a1,a2,a3,a4⟩:=h;exact⟨A,c,hs,a1,a2.turn hT h1,a3.turn hT h2,fun i k h hi hk=>(a4 i k h hi hk).turn hT h0⟩
theorem NetAt.ext(h:NetAt w T t b id ks)(e:Ext w w'):NetAt w' T t b id ks:=by
 obtain⟨A,c,hs,a1,a2,a3,a4⟩:=h;exact⟨A,c,hs,a1,a2.ext e,a3.ext e,fun i k h hi hk=>(a4 i k h hi hk).ext e⟩
theorem net_new(w:World)(T:Tg)(hu:Unborn w T)(t id:Nat):Calls prog 65 #[] w (Gives (fun _=>False) w T fun v w' T'=>∃ b,v=ptrV b∧NetAt w' T' t b id []):=by
 obtain⟨hT0,hH0⟩:=Has.fresh hu [.slice none 0 0] 192 t;have HT0:=hqd hT0;have HH0:=hqd hH0;clear hT0 hH0;go_enter func65,ntmps65;go_wp2_with fail;go_ret;exact⟨_,rfl,_,HT0.out,w.heap.size,rfl,none,0,[],rfl,HH0.out,Row.nil_ _ _ _ _ _,fun i k h hi=>by simp at hi⟩
theorem net_len(h:NetAt w T t b id ks):Calls prog 63 #[ptrV b] w fun e w'=>e = .returned (.int .i64 (ks.length:Nat))∧w'=w:=by
 obtain⟨A,c,hs,a1,a2,a3,a4⟩:=h;have c0:=a2.cell (i:=0) rfl;unfold ptrV;clear a1 a2 a3 a4;go_enter func63,ntmps63;go_wp2_with fail;go_ret;exact⟨rfl,rfl⟩
theorem net_has(h:NetAt w T t b id ks)(i:Int):Calls prog 117 #[ptrV b,.int .i64 i] w fun e w'=>e = .returned (.bool (decide (0≤i∧i<(ks.length:Int))))∧w'=w:=by
 have HL:=hqd (net_len h);unfold ptrV at *;by_cases h0:0≤i
 ·by_cases h1:i<(ks.length:Int)
  ·have e1:decide (0≤i)=true:=decide_eq_true h0
   have e2:decide (i<(ks.length:Int))=true:=decide_eq_true h1;rw[decide_eq_true (show 0≤i∧i<(ks.length:Int) from⟨h0,h1⟩)];clear h;go_enter func117,ntmps117;go_wp2_with fail;refine HL.out.mono ?_;rintro e w1 ⟨rfl,rfl⟩;go_wp2_with fail;go_ret;exact⟨rfl,rfl⟩
  ·have e1:decide (0≤i)=true:=decide_eq_true h0
   have e2:decide (i<(ks.length:Int))=false:=decide_eq_false h1;rw[decide_eq_false (show ¬ (0≤i∧i<(ks.length:Int)) from fun h=>h1 h.2)];clear h;go_enter func117,ntmps117;go_wp2_with fail;refine HL.out.mono ?_;rintro e w1 ⟨rfl,rfl⟩;go_wp2_with fail;go_ret;exact⟨rfl,rfl⟩
 ·have e1:decide (0≤i)=false:=decide_eq_false h0
  rw[decide_eq_false (show ¬ (0≤i∧i<(ks.length:Int)) from fun h=>h0 h.1)];clear h;go_enter func117,ntmps117;go_wp2_with fail;go_ret;exact⟨rfl,rfl⟩
def ownP(src dst:Nat)(l:List UInt8)(v:Value)(w:World)(T:Tg):Prop:=∃ B bd,v=mailV src dst B l.length bd∧Sb w T B l.length bd l
theorem own_gives(hu:Unborn w T)(src dst:Nat)(A:Option Addr)(d:Nat)(l:List UInt8)(hb:Rb w A l.length d l)(hl:l.length≤1000000):Calls prog 118 #[mailV src dst A l.length d] w (Gives (fun _=>False) w T (ownP src dst l)):=by
 refine(net_own w src dst A d l hb hl).mono ?_;rintro e w' ⟨B,bd,rfl,ho,he⟩;exact⟨_,rfl,T,Turn.of_ext _ hu he,B,bd,rfl,Rb.of ho.rd rfl,fun _ k hk=>hu k (ho.blk_ge k hk)⟩
theorem net_send{T0:Tg}(h:NetAt w T0 t b id ks)(hu:Unborn w T0)(ht:0<t)(k:Pk)(hp:okPk k)(hks:ks.length≤300){A:Option Addr}{d:Nat}(hb:Sb w T0 A (encPk id k).length d (encPk id k)):Calls prog 154 #[ptrV b,mailV k.src k.dst A (encPk id k).length d] w (Does (In t 2) w T0 (.bool (decide (ks.length<300))) fun w' T'=>NetAt w' T' t b id (if ks.length<300 then ks++[k] else ks)):=by
 obtain⟨i0,hi,hz0,hz1,hz2⟩:=info_parts info_mail;have hel:=encPk_len id k (pk_press hp);have hNN:=hqd h;obtain⟨A0,c,hs,a1,a2,a3,a4⟩:=h;have c0:=a2.cell (i:=0) rfl;have hlt:=a2.lt;have b1:=(Has.new w (fun _=>0) [.int .i64 (k.src:Nat),.int .i64 (k.dst:Nat),.slice A (encPk id k).length d] 176 rfl).2;have x1:=Ext.alloc w (.cells #[.int .i64 (k.src:Nat),.int .i64 (k.dst:Nat),.slice A (encPk id k).length d] 176);have e1:decide (1000<(encPk id k).length)=false:=decide_eq_false (by omega);have e1':decide ((1000:Int)<((encPk id k).length:Int))=false:=decide_eq_false (by omega);have HA1:=hqd a1;have HA2:=hqd a2;have HA3:=hqd a3;have HA4:=hqd a4;have hne:=a2.ne_row a3 (by omega);have Hb:=hqd hb;unfold ptrV at *;clear a1 a2 a3 a4 hb;by_cases hfull:ks.length<300
 ·rw[decide_eq_true hfull,if_pos hfull]
  have e2:decide (300≤ks.length)=false:=decide_eq_false (by omega);have e2':decide ((300:Int)≤(ks.length:Int))=false:=decide_eq_false (by omega);generalize hEP:encPk id k=EP at *;have HEP:=hqd hEP;clear hEP;unfold mailV;go_enter func154,ntmps154;go_upto_region 1 with fail
  generalize hw0:World.alloc w _=w0 at *;obtain⟨gm,hgm⟩:∃ gm,gm=w.heap.size:=⟨_,rfl⟩;rw[← hgm]at b1;rw[← hgm];have hT9:T0 gm=0:=hu gm (by omega);have hB:Has w0 T0 0 gm [.int .i64 (k.src:Nat),.int .i64 (k.dst:Nat),.slice A EP.length d]:=⟨hT9,b1⟩;have k0:=hB.cell (i:=0) rfl;have k1:=hB.cell (i:=1) rfl;have k2:=hB.cell (i:=2) rfl;have hRw:=HA3.out.ext x1;have hnb:=hB.ne_row hRw (by omega);have d0:=x1.cell c0;have hu0:=hu.ext x1;clear hw0 hgm hB b1 hT9 c0;go_wp2_with fail;have hPs:Stab (t+1) (ownP k.src k.dst EP):=by
   rintro v w T w' T' ⟨B,bd,rfl,h⟩ hT;exact⟨B,bd,rfl,h.turn hT (by omega)⟩
  have hone:∀(v:Value) (w:World) (T:Tg),ownP k.src k.dst EP v w T→v.cells.toList.length=3∧∀ y∈v.cells.toList,y.oneCell'=true:=by
   rintro v w T ⟨B,bd,rfl,_⟩;exact⟨rfl,by simp[mailV,Value.cells,Value.oneCell']⟩
  have HC:=fun W (hR:gR A0 w0 W)=>own_gives (show Unborn W T0 from fun k hk=>hu0 k (Nat.le_trans hR.size hk)) k.src k.dst A d EP ((Hb.out.ext x1).turn (Turn.of_grown (S:=(· = t+1)) hu0 hR (fun g hg=>hRw.2 g hg)) (by omega)).rb (by omega);unfold mailV at HC;have hRowOwn:=(hRw).1;have hRowC:=(hRw).cond;apply wrH 11 (gR A0) (gRs 8 A0) (gJs 8 176 3 A0 ks.length c (mailsC id ks hs)) (gJs.start hRowOwn);simp only[tk];repeat apply lxG (fun _ h _ _=>aj (h.cell d0 hne) (aj (h.cell k0 hnb) (aj (h.cell k1 hnb) (h.cell k2 hnb))))
  apply lexG_call (p:=FrP T0 w0.heap.size (ownP k.src k.dst EP)) (by decide) (by decide) (FrP.stab hPs hRowC _)
  ·rfl
  ·intro W
   go_simp;exact⟨rfl,rfl⟩
  ·intro W hR hJ hΦ
   exact FrP.call (fun k hk=>hu0 k (Nat.le_trans hR.size hk)) hR.size (HC W hR)
  intro v1;simp only[pu];try ((repeat (apply lexG_ex (by decide) (by decide) (gR.refl _) (gRs.refl _ _);(· rfl);(· intro W hR hJ hΦ;go_simp;first|done|with_reducible rfl);simp only[pu])))
  apply lexG_new (p:=BuiltP T0 w0.heap.size (ownP k.src k.dst EP) 176) (by decide) (by decide) (BuiltP.stab hPs hRowC _)
  ·rfl
  ·intro W hR hJ hΦ
   have hF:=hΦ.1 rfl;have hB:=BuiltP.made (e:=176) hPs hR.size hF;obtain⟨T9,hk9,hu9,hp9⟩:=hF;obtain⟨B9,bd9,rfl,hsb⟩:=hp9;refine⟨_,_,?_,(Ext.alloc _ _).grownBy _,.inr (Ext.alloc _ _),hB⟩;go_simp;first|done|rfl
  intro v2;simp only[pu];apply lexG_new (p:=AppP T0 w0.heap.size (ownP k.src k.dst EP) (t+1) A0 176 3 (ks.length+1) (mailsC id ks hs)) (by decide) (by decide) (fun j hj v w w9 h hR=>AppP.stab j hj v w w9 h hPs hR)
  ·rfl
  ·intro W hR hJ hΦ
   exact exec_append_call W _ _ 190 rfl 176 i0 (.agg #[.int .i64 0,.int .i64 0,.slice none 0 0]) 3 40 underlying190 hi hz0 hz1 hz2 rfl (by decide) A0 ks.length c ((mailsC id ks hs)) rfl (hJ rfl) v2 rfl (hΦ.1 rfl) hone (by unfold maxLen;omega) (by omega) hRowC hPs hR.size
  intro v3;simp only[pu];repeat apply lxG (fun _ h _ _=>aj (h.cell d0 hne) (aj (h.cell k0 hnb) (aj (h.cell k1 hnb) (h.cell k2 hnb))))
  refine lexG_nil ?_;intro W hR hap hΦ;obtain⟨u1,T1,E,Ed,rfl,hT1,hP1,hRow1,hWent⟩:=(hΦ.1 rfl).fin hR hRowC;clear hΦ hap;simp only[dk];have hH1:=(HA2.out.ext x1).turn hT1 (by omega);have c0:=hH1.cell (i:=0) rfl;have f0:=hH1.free 0;obtain⟨hT2,hH2⟩:=hH1.put (S:=(· = t)) hT1.unborn 0 (.slice E (ks.length+1) Ed) rfl;have HT1:=hqd hT1;have HT2:=hqd hT2;have HH2:=hqd hH2;have HR1:=hqd hRow1;clear hH1 hT1 hT2 hH2 hRow1;go_wp2_with fail;go_ret;obtain⟨B,bd,rfl,hsb⟩:=hP1;refine⟨rfl,T1,((Turn.of_ext _ hu x1).trans (HT1.out.mono fun k hk=>?_)).trans (HT2.out.mono fun k hk=>?_),E,Ed,hs++[(B,bd)],by simp[HA1.out],?_,?_,?_⟩
  ·subst hk;unfold In;omega
  ·subst hk;unfold In;omega
  ·rw[List.length_append,List.length_singleton];exact HH2.out
  ·rw[List.length_append,List.length_singleton]
   refine(HR1.out.turn HT2.out (by omega)).to ?_;rw[mailsC_app id k _ ks hs HA1.out];unfold mailC;rw[HEP.out];rfl
  ·intro i k' h' hk' hh'
   by_cases hil:i<ks.length
   ·rw[List.getElem?_append_left (by rw[HA1.out];exact hil)]at hh'
    rw[List.getElem?_append_left hil]at hk';exact(((HA4.out i k' h' hk' hh').ext x1).turn HT1.out (by omega)).turn HT2.out (by omega)
   ·have hie:i=ks.length:=by
     have:=(List.getElem?_eq_some_iff.1 hk').1;rw[List.length_append,List.length_singleton]at this;omega
    subst hie;rw[List.getElem?_append_right (Nat.le_refl _)]at hk';rw[List.getElem?_append_right (by rw[HA1.out];exact Nat.le_refl _),HA1.out]at hh';simp only[Nat.sub_self,List.getElem?_cons_zero,Option.some.injEq]at hh' hk';subst hh';subst hk';rw[HEP.out];exact hsb.turn HT2.out (by omega)
 ·rw[decide_eq_false hfull,if_neg hfull]
  have e2:decide (300≤ks.length)=true:=decide_eq_true (by omega);have e2':decide ((300:Int)≤(ks.length:Int))=true:=decide_eq_true (by omega);unfold mailV;clear e1 e1';have d0:=x1.cell c0;go_enter func154,ntmps154;go_upto_region 1 with fail
  generalize hw0:World.alloc w _=w0 at *;clear hw0 b1;go_wp2_with fail;go_ret;exact⟨rfl,T0,Turn.of_ext _ hu x1,hNN.out.ext x1⟩
end
theorem mailsC_cut(id:Nat):∀(ks:List Pk) (hs:List (Option Addr×Nat)) (i:Nat),hs.length=ks.length→i<ks.length→mailsC id (ks.eraseIdx i) (hs.eraseIdx i)=(mailsC id ks hs).take (i*3)++(mailsC id ks hs).drop (i*3+3)
 | k::ks,h::hs,0,e,_=>by
  have hl:(mailC id k h).length=3:=rfl;simp[mailsC,mailC]
 | k::ks,h::hs,i+1,e,hi=>by
  have hl:(mailC id k h).length=3:=rfl;have t1:(mailC id k h).take ((i+1)*3)=mailC id k h:=List.take_of_length_le (by rw[hl];omega);have t2:(mailC id k h).drop ((i+1)*3+3)=[]:=List.drop_of_length_le (by rw[hl];omega);rw[List.eraseIdx_cons_succ,List.eraseIdx_cons_succ,mailsC,mailsC,mailsC_cut id ks hs i (by simpa using e) (by simpa using hi),List.take_append,List.drop_append,hl,t1,t2,show(i+1)*3-3=i*3 by omega,show(i+1)*3+3-3=i*3+3 by omega,List.nil_append,List.append_assoc]
section
variable {w w':World} {T T':Tg} {t b id:Nat} {ks:List Pk}
theorem mail_at{A:Option Addr}{c:Nat}{hs:List (Option Addr×Nat)}(h:Row w T t 176 3 A ks.length c (mailsC id ks hs))(hl:hs.length=ks.length){i:Nat}(hi:i<ks.length):∃ g,A=some ⟨g,0,none⟩∧∀ j v,(mailC id ks[i] (hs[i]'(by omega)))[j]?=some v→w.cell? ⟨g,i*3+j,none⟩=some v:=by
 obtain⟨g,hg,_⟩:=h.at_ ((mailsC_get id ks hs i 0 hl hi (by omega) (by decide)).trans rfl);refine⟨g,hg,fun j v hj=>?_⟩;have hj3:j<3:=by have:=(List.getElem?_eq_some_iff.1 hj).1;simpa [mailC] using this
 obtain⟨g',e,h1,_⟩:=h.at_ ((mailsC_get id ks hs i j hl hi (by omega) hj3).trans hj);rw[hg]at e;cases e
 exact h1
theorem net_look(h:NetAt w T t b id ks)(hks:∀ k∈ks,okPk k){i:Nat}(hi:i<ks.length):Calls prog 82 #[ptrV b,.int .i64 (i:Nat)] w fun e w'=>∃ B bd,e = .returned (.tuple #[mailV ks[i].src ks[i].dst B (encPk id ks[i]).length bd,.bool true])∧Own w' w.heap.size 5 1 B (encPk id ks[i]).length bd (bcs (encPk id ks[i]))∧Ext w w':=by
 have Hhas:=hqd fun W (e:Ext w W)=>net_has (h.ext e) (i:Nat);have hd:decide ((0:Int)≤(i:Int)∧(i:Int)<(ks.length:Int))=true:=decide_eq_true ⟨by omega,by omega⟩;rw[hd]at Hhas;have hlen:=encPk_len id ks[i] (pk_press (hks _ (List.getElem_mem hi)));obtain⟨A,c,hs,a1,a2,a3,a4⟩:=h;have c0:=a2.cell (i:=0) rfl;obtain⟨g,rfl,hcells⟩:=mail_at a3 a1 hi;have hsb:=a4 i ks[i] (hs[i]'(by omega)) (List.getElem?_eq_getElem hi) (List.getElem?_eq_getElem (by omega));have hnc:=a3.rd.2.1;generalize hs[i]'(by omega)=hh at *;have Hown:=hqd fun W (e:Ext w W)=>net_own W ks[i].src ks[i].dst hh.1 hh.2 (encPk id ks[i]) (hsb.rb.ext e) (by omega);have b1:=(Has.new w (fun _=>0) [.int .i64 0,.int .i64 0,.slice none 0 0] 176 rfl);have x1:=Ext.alloc w (.cells #[.int .i64 0,.int .i64 0,.slice none 0 0] 176);unfold mailC at hcells;unfold ptrV mailV at *;clear a1 a2 a3 a4 hsb hd;generalize hEP:encPk id ks[i]=EP at *;generalize ks[i]=k at *;go_enter func82,ntmps82;go_upto_region 1 with fail
 generalize hw0:World.alloc w _=w0 at *;obtain⟨gm,hgm⟩:∃ gm,gm=w.heap.size:=⟨_,rfl⟩;rw[← hgm]at b1;rw[← hgm];have Hgm:=hqd (show w.heap.size≤gm by omega);have hc1:∀ j v,[Value.int .i64 (k.src:Nat),.int .i64 (k.dst:Nat),.slice hh.1 EP.length hh.2][j]?=some v→w0.cell? ⟨g,i*3+j,none⟩=some v:=fun j v h=>x1.cell (hcells j v h);have HB:=hqd b1;have d0:=x1.cell c0;have hl3:[Value.int .i64 (k.src:Nat),.int .i64 (k.dst:Nat),.slice hh.1 EP.length hh.2].length=3:=rfl;clear hgm hw0 b1;go_wp2_with fail;refine(Hhas.out w0 x1).mono ?_;rintro e w1 ⟨rfl,hw1⟩;subst hw1;go_wp2_with (first|(with_reducible refine wpList_load_st rfl 176 (.tmp 16) rfl rfl underlying176 size_mail hl3 hc1 ?_))
 refine(Hown.out _ x1).mono ?_;rintro e w2 ⟨B,bd,rfl,ho,e2⟩;have hB2:=HB.out.ext e2;have hx2:=x1.trans e2;have hl3':[Value.int .i64 (k.src:Nat),.int .i64 (k.dst:Nat),.slice B EP.length bd].length=3:=rfl;have hv3:[Value.int .i64 0,.int .i64 0,.slice none 0 0].length=3:=rfl;have h13:∀ u∈[Value.int .i64 (k.src:Nat),.int .i64 (k.dst:Nat),.slice B EP.length bd],u.oneCell'=true:=by simp[Value.oneCell']
 have hgl:=HB.out.lt;go_wp2_with (first|(with_reducible refine wpList_store_st rfl 176 (.tmp 4) (.tmp 18) rfl rfl (us:=[.int .i64 (k.src:Nat),.int .i64 (k.dst:Nat),.slice B EP.length bd]) rfl hB2 hl3' hv3 size_mail h13 ?_;intro Z bZ gZ sZ));have eZ:=Ext.own (B:=some ⟨gm,0,none⟩) hx2 gZ (fun k hk=>by have h9:gm=k:=Option.some.inj hk;have:=Hgm.out;omega);have hOZ:=(ho.keep gZ (fun k hk=>by have:=ho.blk_ge k hk;omega)).mono x1.size;exact bodyPost_ret (result_st2 rfl _ rfl bZ underlying176 size_mail) rfl ⟨B,bd,rfl,hOZ,eZ⟩
theorem net_drop(h:NetAt w T t b id ks)(hu:Unborn w T)(ht:0<t)(hks:ks.length≤300){i:Nat}(hi:i<ks.length):Calls prog 115 #[ptrV b,.int .i64 (i:Nat)] w (Does (In t 2) w T (.bool true) fun w' T'=>NetAt w' T' t b id (ks.eraseIdx i)):=by
 have Hhas:=hqd fun W (e:Ext w W)=>net_has (h.ext e) (i:Nat);have hd:decide ((0:Int)≤(i:Int)∧(i:Int)<(ks.length:Int))=true:=decide_eq_true ⟨by omega,by omega⟩;rw[hd]at Hhas;obtain⟨A,c,hs,a1,a2,a3,a4⟩:=h;have c0:=a2.cell (i:=0) rfl;have f0:=a2.free 0;have HA1:=hqd a1;have HA2:=hqd a2;have HA4:=hqd a4;have Hdel:=hqd (mail_delete a3 hu hi hks (mailsC_one id ks hs));have hcut:=hqd (mailsC_cut id ks hs i a1 hi);have hw1:IntKind.i64.wrap ((i:Int)+1)=((i+1:Nat):Int):=by rw[IntWalk.i64_in _ (by omega)];omega
 unfold ptrV at *;clear a1 a2 a3 a4 hd;go_enter func115,ntmps115;go_wp2_with fail;refine(Hhas.out w (Ext.refl _)).mono ?_;rintro e w1 ⟨rfl,hw1⟩;subst hw1;go_wp2_with fail;refine Hdel.out.mono ?_;rintro e w2 ⟨rfl,hT2,hR2⟩;have hH2:=HA2.out.turn hT2 (by omega);have c0:=hH2.cell (i:=0) rfl;have f0:=hH2.free 0;obtain⟨hT3,hH3⟩:=hH2.put (S:=(· = t)) hT2.unborn 0 (.slice A (ks.length-1) c) rfl;have HT2:=hqd hT2;have HT3:=hqd hT3;have HH3:=hqd hH3;have HR2:=hqd hR2;clear hT2 hT3 hH2 hH3 hR2;go_wp2_with fail;go_ret;have hl:(ks.eraseIdx i).length=ks.length-1:=by rw[List.length_eraseIdx_of_lt hi]
 refine⟨rfl,T,(HT2.out.mono fun k hk=>?_).trans (HT3.out.mono fun k hk=>?_),A,c,hs.eraseIdx i,?_,?_,?_,?_⟩
 ·subst hk;unfold In;omega
 ·subst hk;unfold In;omega
 ·rw[hl,List.length_eraseIdx_of_lt (by rw[HA1.out];exact hi),HA1.out]
 ·rw[hl];exact HH3.out
 ·rw[hl,hcut.out];exact HR2.out.turn HT3.out (by omega)
 ·intro j k h hj hh
  rw[List.getElem?_eraseIdx]at hj hh;split at hj
  ·rw[if_pos (by assumption)]at hh
   exact((HA4.out _ _ _ hj hh).turn HT2.out (by omega)).turn HT3.out (by omega)
  ·rw[if_neg (by assumption)]at hh
   exact((HA4.out _ _ _ hj hh).turn HT2.out (by omega)).turn HT3.out (by omega)
end
section
variable {P:Program} {w w':World} {b:Nat} {vs:List Value} {T T':Tg} {t:Nat}
theorem ara_load{ty e:TypeId}{n o:Nat}(hu:P.underlying ty=some (.array n e))(hi:(P.info? ty).map (·.size)=some n)(hn:vs.length=n)(h:∀ i v,vs[i]?=some v→w.cell? ⟨b,o+i,none⟩=some v):(loadVar ty ⟨b,o,none⟩).run P w = .ok (.agg vs.toArray) w:=by
 have hl:(loadCells ⟨b,o,none⟩ vs.length).run P w = .ok vs.toArray w :=
  run_loadCells_list (P:=P) w ⟨b,o,none⟩ _ (fun j v hv=>by
   rw[Addr.add_lit];exact h j v hv)
 cases hq:P.info? ty with
 | none=>simp[hq]at hi
 | some i =>
  have hs:i.size=n:=by simpa [hq] using hi
  have hagg:(isAgg ty).run P w = .ok true w:=by
   unfold isAgg;rw[Sem.run_bind,run_underlying hu w];simp
  rw[hn]at hl;simp[loadVar,Sem.run_bind,hagg,sizeOf,typeInfo,hq,hs,hl]
theorem exec_load_ara{o:Oper}{a:Act}(ty:TypeId)(x:Operand)(ho:o.op = .load ty x){k:Nat}(hx:a.eval x = .pointer (some ⟨b,k,none⟩)){e:TypeId}{n:Nat}(hu:P.underlying ty=some (.array n e))(hi:(P.info? ty).map (·.size)=some n)(hn:vs.length=n)(h:∀ i v,vs[i]?=some v→w.cell? ⟨b,k+i,none⟩=some v) :
  (execOp a.eval o).run P w = .ok (.value (.agg vs.toArray)) w:=by
 unfold execOp;simp only[ho,hx,Instr.loadAt,Instr.sureAddr,Sem.run_bind,Sem.run_pure,Result.andThen_ok,ara_load hu hi hn h]
theorem wpList_load_ara{ops:Array Oper}{rest:List Oper}{o:Oper}{a:Act}{Q:Exit→Act→World→Prop}(hgd:o.guard=none)(ty:TypeId)(x:Operand)(ho:o.op = .load ty x)
  {k:Nat} (hx:a.eval x = .pointer (some ⟨b,k,none⟩)) {e:TypeId} {n:Nat} (hu:P.underlying ty=some (.array n e)) (hi:(P.info? ty).map (·.size)=some n) (hn:vs.length=n) (h:∀ i v,vs[i]?=some v→w.cell? ⟨b,k+i,none⟩=some v)
  (hk:wpList P ops Q rest (a.put o.dst (.agg vs.toArray)) w):wpList P ops Q (o::rest) a w:=by
 refine wpList_plain hgd fun K hK=>?_;unfold Oper.wp;rw[exec_load_ara ty x ho hx hu hi hn h];exact hK _ _ hk
theorem Has.setl:∀(us:List Value) (k:Nat) (vs:List Value) (w:World),Has w T t b vs→Unborn w T→k+us.length≤vs.length→Turn (· = t) w T (w.setCells b k us) T∧Has (w.setCells b k us) T t b (vs.take k++us++vs.drop (k+us.length))
 | [],k,vs,w,h,hu,hk=>by
  refine⟨Turn.refl _ hu,?_⟩;rw[List.append_nil,List.length_nil,Nat.add_zero,List.take_append_drop];exact h
 | v::r,k,vs,w,h,hu,hk=>by
  have hk':k+(r.length+1)≤vs.length:=by simpa using hk
  obtain⟨hT,hR⟩:=h.put (S:=(· = t)) hu k v rfl;obtain⟨hT2,hR2⟩:=Has.setl r (k+1) (vs.set k v) _ hR hT.unborn (by rw[List.length_set];omega);refine⟨hT.trans hT2,hR2.is ?_⟩;have hkl:(vs.take k).length=k:=by rw[List.length_take];omega
  have h1:(vs.set k v).take (k+1)=vs.take k++[v]:=by
   rw[set_mid vs v (by omega),List.take_append,hkl,List.take_of_length_le (by omega),show k+1-k=1 by omega];rfl
  have h2:(vs.set k v).drop (k+1+r.length)=vs.drop (k+(v::r).length):=by
   rw[List.drop_set_of_lt (by omega),List.length_cons];congr 1
   omega
  rw[h1,h2];simp
theorem Has.spare(h:Has w T t b vs){i:Nat}(hi:i<vs.length):(w.cell? ⟨b,i,none⟩).isSome=true∧w.frozen? ⟨b,i,none⟩=false:=by
 refine⟨?_,h.free i⟩;rw[h.cell (List.getElem?_eq_getElem hi)];rfl
theorem wpList_store_ara{ops:Array Oper}{rest:List Oper}{o:Oper}{a:Act}{Q:Exit→Act→World→Prop}(hgd:o.guard=none)(ty:TypeId)(x y:Operand)(ho:o.op = .store ty x y)
  {k:Nat} (hx:a.eval x = .pointer (some ⟨b,k,none⟩)) {us:List Value} (hy:a.eval y = .agg us.toArray) {n:Nat} (hn:us.length=n) (hi:(P.info? ty).map (·.size)=some n) (h1:∀ u∈us,u.oneCell'=true) (hc:∀ j,j<n→(w.cell? ⟨b,k+j,none⟩).isSome=true∧w.frozen? ⟨b,k+j,none⟩=false)
  (hk:wpList P ops Q rest (a.put o.dst undef) (w.setCells b k us)):wpList P ops Q (o::rest) a w:=by
 subst hn;have hst:=run_storeCells_cells (P:=P) b k us 0 w (fun j hj=>by simpa using (hc j hj).1) (fun j hj=>by simpa using (hc j hj).2) h1;rw[Nat.add_zero]at hst;have hsv:(storeVar ty ⟨b,k,none⟩ (.agg us.toArray)).run P w = .ok () (w.setCells b k us):=by
  cases hq:P.info? ty with
  | none=>simp[hq]at hi
  | some i =>
   have hs:i.size=us.length:=by simpa [hq] using hi
   simp[storeVar,sizeOf,typeInfo,hq,Value.cells,hs,hst]
 refine wpList_plain hgd fun K hK=>?_;unfold Oper.wp execOp;simp only[ho,hx,hy,Instr.storeAt,Instr.sureAddr,Sem.run_bind,Sem.run_pure,Result.andThen_ok,hsv];exact hK _ _ hk
end
theorem size_pic:(prog.info? 219).map (·.size)=some 5:=by kernel_rfl
theorem size_four:(prog.info? 217).map (·.size)=some 4:=by kernel_rfl
theorem four_of{l:List Nat}(h:l.length=4):∃ a b c d,l=[a,b,c,d]:=by
 match l,h with
 | [a,b,c,d],_=>exact⟨a,b,c,d,rfl⟩
theorem four_index(k0 k1 k2 k3:Nat){k q:Nat}(h:[k0,k1,k2,k3][k]?=some q)(W:World):(Instr.index 217 (.agg #[.int .i64 ((k0:Int)+1),.int .i64 ((k1:Int)+1),.int .i64 ((k2:Int)+1),.int .i64 ((k3:Int)+1)]) (.int .i64 (k:Nat))).run prog W = .ok (.int .i64 ((q:Int)+1)) W:=by
 have h0:∀ W,(Instr.index 217 (.agg #[.int .i64 ((k0:Int)+1),.int .i64 ((k1:Int)+1),.int .i64 ((k2:Int)+1),.int .i64 ((k3:Int)+1)]) (.int .i64 0)).run prog W = .ok (.int .i64 ((k0:Int)+1)) W:=fun _=>by kernel_rfl
 have h1:∀ W,(Instr.index 217 (.agg #[.int .i64 ((k0:Int)+1),.int .i64 ((k1:Int)+1),.int .i64 ((k2:Int)+1),.int .i64 ((k3:Int)+1)]) (.int .i64 1)).run prog W = .ok (.int .i64 ((k1:Int)+1)) W:=fun _=>by kernel_rfl
 have h2:∀ W,(Instr.index 217 (.agg #[.int .i64 ((k0:Int)+1),.int .i64 ((k1:Int)+1),.int .i64 ((k2:Int)+1),.int .i64 ((k3:Int)+1)]) (.int .i64 2)).run prog W = .ok (.int .i64 ((k2:Int)+1)) W:=fun _=>by kernel_rfl
 have h3:∀ W,(Instr.index 217 (.agg #[.int .i64 ((k0:Int)+1),.int .i64 ((k1:Int)+1),.int .i64 ((k2:Int)+1),.int .i64 ((k3:Int)+1)]) (.int .i64 3)).run prog W = .ok (.int .i64 ((k3:Int)+1)) W:=fun _=>by kernel_rfl
 match k,h with
 | 0,h=>cases h;exact h0 W
 | 1,h=>cases h;exact h1 W
 | 2,h=>cases h;exact h2 W
 | 3,h=>cases h;exact h3 W
section
variable {w w':World} {T T':Tg} {t b rb g mb n last:Nat} {rf:Nat→Int} {vs:Nat→Nat→Int} {ps:List Pic} {p:Pic}
theorem hold_of{L:List Nat}(h:Room w rb g n rf vs)(hh:Held n rf L){q:Nat}(hq:q∈L)(hL:L.length≤100000):Calls prog 103 #[ptrV rb,.int .i64 ((q:Int)+1)] w (Left w rb g n (updP rf q (rf q+1)) vs (.bool true)) :=
 hold_yes h ⟨hh.1 q hq,rfl,by have:=hh.mem hq;omega⟩ (by have:=hh.mem hq;omega) (by have:=hh.le (hh.1 q hq);omega)
theorem drop_of{L:List Nat}(h:Room w rb g n rf vs)(hh:Held n rf L){q:Nat}(hq:q∈L)(hL:L.length≤100000):Calls prog 110 #[ptrV rb,.int .i64 ((q:Int)+1)] w (Left w rb g n (updP rf q (rf q-1)) vs (.bool true)) :=
 drop_yes h ⟨hh.1 q hq,rfl,by have:=hh.mem hq;omega⟩ (by have:=hh.mem hq;omega) (by have:=hh.le (hh.1 q hq);omega)
theorem used_hold{L:List Nat}(hh:Held n rf L){q:Nat}(hq:q∈L):used n (updP rf q (rf q+1))=used n rf:=by
 have h1:=hh.mem hq;have:=used_upd rf q (rf q+1) n (hh.1 q hq);rw[if_pos (by omega),if_pos (by omega)]at this;omega
theorem used_drop{L:List Nat}(hh:Held n rf L){q:Nat}(hq:q∈L):used n (updP rf q (rf q-1))≤used n rf:=by
 have h1:=hh.mem hq;have:=used_upd rf q (rf q-1) n (hh.1 q hq);rw[if_pos (by omega)]at this;split at this<;>omega
def forkRel(w:World)(T:Tg)(t b rb g mb n:Nat)(rf:Nat→Int)(vs:Nat→Nat→Int)(ps:List Pic)(last:Nat)(p:Pic)(iv:Value)(wr:World):Prop :=
 ∃(k:Nat) (rf':Nat→Int),iv = .int .i64 (k:Nat)∧k≤4∧StoreIn wr T t b rb g mb n rf' vs ps last∧Held n rf' (p.pg.take k++refsOf ps)∧used n rf'=used n rf∧Turn (In t 5) w T wr T
theorem held_snoc{A L:List Nat}(h:Held n rf (A++L)){q:Nat}(hq:q<n):Held n (updP rf q (rf q+1)) (A++[q]++L):=(h.add hq).perm (by
 rw[List.append_assoc];exact List.perm_middle.symm)
theorem fork_step{wr w3:World}{k q:Nat}{rf':Nat→Int}(ht:0<t)(hq:p.pg[k]?=some q)(hk:k<4)(h4:p.pg.length=4)(hp:p∈ps)(hu:Unborn wr T)(h:StoreIn wr T t b rb g mb n rf' vs ps last)(hh:Held n rf' (p.pg.take k++refsOf ps))(hus:used n rf'=used n rf)(hT:Turn (In t 5) w T wr T)
  (hr:Room w3 rb g n (updP rf' q (rf' q+1)) vs) (hg:wr.grownBy w3 (some g)):forkRel w T t b rb g mb n rf vs ps last p (.int .i64 ((k+1:Nat):Int)) w3:=by
 have hm:q∈p.pg.take k++refsOf ps:=List.mem_append_right _ (mem_refs hp hq);refine⟨k+1,_,rfl,by omega,h.left ht hr hg,?_,(used_hold hh hm).trans hus,hT.trans (h.turned hu hg)⟩;rw[List.take_add_one,hq];exact held_snoc hh (hh.1 q hm)
def Forked(w:World)(T:Tg)(t b rb g mb n:Nat)(rf:Nat→Int)(vs:Nat→Nat→Int)(ps:List Pic)(last:Nat)(pg:List Nat)(v:Value)(w':World)(T':Tg):Prop :=
 v = .tuple #[.int .i64 ((last+1:Nat):Int),.bool true]∧∃ nb rf',StoreIn w' T' t b rb g mb n rf' vs (ps++[⟨last+1,nb,pg⟩]) (last+1)∧Pics n rf' (ps++[⟨last+1,nb,pg⟩]) (last+1)∧used n rf'=used n rf
theorem snap_fork(h:StoreIn w T t b rb g mb n rf vs ps last)(ho:Pics n rf ps last)(hp:p∈ps)(hu:Unborn w T)(ht:0<t)(hl:last<4611686018427387903)(hn:ps.length≤1000) :
  Calls prog 72 #[ptrV b,.int .i64 (p.id:Nat)] w (Gives (In t 5) w T (Forked w T t b rb g mb n rf vs ps last p.pg)):=by
 have HA:=hqd (snap_at h ho.ids hp (Nat.lt_of_le_of_lt (ho.low p hp) (by omega)));have h4:=ho.four p hp;obtain⟨k0,k1,k2,k3,hpg⟩:=four_of h4;have hpc:picC p=[.int .i64 ((k0:Int)+1),.int .i64 ((k1:Int)+1),.int .i64 ((k2:Int)+1),.int .i64 ((k3:Int)+1),.int .i64 1]:=by unfold picC;rw[hpg];rfl
 have hvs:∀ i v,[Value.int .i64 ((k0:Int)+1),.int .i64 ((k1:Int)+1),.int .i64 ((k2:Int)+1),.int .i64 ((k3:Int)+1)][i]?=some v→w.cell? ⟨p.bl,0+i,none⟩=some v:=fun i v hv=>by
  rw[Nat.zero_add];refine(h.pics p hp).cell ?_;rw[hpc];match i,hv with
  | 0,hv=>exact hv
  | 1,hv=>exact hv
  | 2,hv=>exact hv
  | 3,hv=>exact hv
 have hst:forkRel w T t b rb g mb n rf vs ps last p (.int .i64 ((0:Nat):Int)) w:=⟨0,rf,rfl,by decide,h,ho.held,rfl,Turn.refl _ hu⟩;have Hst:=hqd hst;have Ho:=hqd ho;have Hpg:=hqd hpg;have H4:=hqd h4;have Hpc:=hqd hpc;have hL:(refsOf ps).length≤4000:=by rw[refs_len ho.four];omega
 unfold ptrV at *;clear h ho hst hpg h4 hpc;go_enter func72,ntmps72;go_wp2_with fail;refine HA.out.mono ?_;rintro e w1 ⟨rfl,hw⟩;subst hw;go_wp2_with (first|(with_reducible refine wpList_load_ara rfl 217 (.tmp 16) rfl rfl underlying217 size_four rfl hvs ?_))
 go_loopw [18] (fun iv wr=>forkRel w1 T t b rb g mb n rf vs ps last p iv wr) (fun iv _=>4-(intOf iv).toNat)
 case atStart=>exact Hst.out
 case round =>
  obtain⟨k,rf',rfl,hk,hS,hh,hus,hT⟩:=hrel;have hLk:(p.pg.take k++refsOf ps).length≤100000:=by rw[List.length_append,List.length_take];omega
  have c0:=room_at hS;unfold ptrV at c0;by_cases hk4:k<4
  ·obtain⟨q,hq⟩:∃ q,p.pg[k]?=some q:=⟨_,List.getElem?_eq_getElem (by rw[H4.out];exact hk4)⟩
   have HH:=hqd (hold_of hS.room hh (q:=q) (List.mem_append_right _ (mem_refs hp hq)) hLk);have HF:=hqd fun w3 hr hg=>fork_step (w3:=w3) ht hq hk4 H4.out hp hT.unborn hS hh hus hT hr hg;unfold ptrV at HH;rw[Hpg.out]at hq;clear hS hh hus hT hLk;have hix:=four_index k0 k1 k2 k3 hq;have hd:decide (k<4)=true:=decide_eq_true hk4;go_wp2_with fail;refine HH.out.mono ?_;rintro e w3 ⟨rfl,hr,hg⟩;go_wp2_with fail;go_roundw
   case rel=>exact HF.out _ hr hg
   case measure=>simp[intOf];omega
  ·obtain rfl:k=4:=by omega
   have HD:=hqd (snap_add hS Ho.out.low hT.unborn ht (by omega) hn k0 k1 k2 k3 1);have hall:=(hS.pics p hp).all;rw[Hpc.out]at hall;have HT:=hqd hT;have HHh:=hqd hh;have HU:=hqd hus;unfold ptrV at HD;clear hS hh hus hT hLk;go_wp2_with (first|(with_reducible refine wpList_load_st rfl 219 (.tmp 30) rfl rfl underlying219 size_pic rfl hall ?_))
   refine HD.out.mono ?_;rintro e w3 ⟨v,rfl,T3,hT3,rfl,nb,hnb,hS3⟩;go_wp2_with fail;go_ret2
   refine⟨_,rfl,T3,HT.out.trans hT3,rfl,nb,rf',?_,?_,HU.out⟩
   ·rw[Hpg.out];exact hS3
   ·refine Ho.out.add ?_ H4.out hnb
    have:=HHh.out;rwa[List.take_of_length_le (by rw[H4.out];exact Nat.le_refl _)]at this
end
section
variable {w w':World} {T T':Tg} {t b rb g mb n last:Nat} {rf:Nat→Int} {vs:Nat→Nat→Int} {ps:List Pic} {p:Pic}
theorem refs_del(hi:(ps.map Pic.id).Nodup)(hp:p∈ps):(refsOf ps).Perm (p.pg++refsOf (delP ps p.id)):=by
 obtain⟨l1,l2,rfl⟩:=List.append_of_mem hp;rw[delP_split hi];exact refs_split
def dropRel(w:World)(T:Tg)(t b rb g mb n:Nat)(rf:Nat→Int)(vs:Nat→Nat→Int)(ps:List Pic)(last:Nat)(p:Pic)(iv:Value)(wr:World):Prop :=
 ∃(k:Nat) (rf':Nat→Int),iv = .int .i64 (k:Nat)∧k≤4∧StoreMid wr T t b rb g mb n rf' vs ps (delP ps p.id) last∧Held n rf' (p.pg.drop k++refsOf (delP ps p.id))∧used n rf'≤used n rf∧Turn (In t 5) w T wr T
theorem drop_step{wr w3:World}{k q:Nat}{rf':Nat→Int}(ht:0<t)(hq:p.pg[k]?=some q)(hk:k<4)(hu:Unborn wr T)(h:StoreMid wr T t b rb g mb n rf' vs ps (delP ps p.id) last)(hh:Held n rf' (p.pg.drop k++refsOf (delP ps p.id)))(hus:used n rf'≤used n rf)(hT:Turn (In t 5) w T wr T)
  (hr:Room w3 rb g n (updP rf' q (rf' q-1)) vs) (hg:wr.grownBy w3 (some g)):dropRel w T t b rb g mb n rf vs ps last p (.int .i64 ((k+1:Nat):Int)) w3:=by
 obtain⟨hlt,he⟩:=List.getElem?_eq_some_iff.1 hq;have hd:p.pg.drop k=q::p.pg.drop (k+1):=by rw[List.drop_eq_getElem_cons hlt,he]
 rw[hd]at hh;exact⟨k+1,_,rfl,by omega,h.left ht hr hg,hh.sub,Nat.le_trans (used_drop hh List.mem_cons_self) hus,hT.trans (h.turned hu hg)⟩
def Dropped(w:World)(T:Tg)(t b rb g mb n:Nat)(rf:Nat→Int)(vs:Nat→Nat→Int)(ps:List Pic)(last x:Nat)(e:Ending)(w':World):Prop :=
 e = .returned (.bool true)∧Turn (In t 5) w T w' T∧∃ rf',StoreIn w' T t b rb g mb n rf' vs (delP ps x) last∧Pics n rf' (delP ps x) last∧used n rf'≤used n rf
theorem snap_drop(h:StoreIn w T t b rb g mb n rf vs ps last)(ho:Pics n rf ps last)(hp:p∈ps)(hu:Unborn w T)(ht:0<t)(hl:last<4611686018427387903)(hn:ps.length≤1000) :
  Calls prog 77 #[ptrV b,.int .i64 (p.id:Nat)] w (Dropped w T t b rb g mb n rf vs ps last p.id):=by
 have hid:p.id<4611686018427387904:=Nat.lt_of_le_of_lt (ho.low p hp) (by omega);have HA:=hqd (snap_at h ho.ids hp hid);have h4:=ho.four p hp;obtain⟨k0,k1,k2,k3,hpg⟩:=four_of h4;have hpc:picC p=[.int .i64 ((k0:Int)+1),.int .i64 ((k1:Int)+1),.int .i64 ((k2:Int)+1),.int .i64 ((k3:Int)+1),.int .i64 1]:=by unfold picC;rw[hpg];rfl
 have hP:=h.pics p hp;rw[hpc]at hP;have hM:=(h.fewer (ps':=delP ps p.id) fun q hq=>(mem_delP.1 hq).1).other (a:=⟨p.bl,4,none⟩) hP.1 (fun q hq e=>by
   have:=mem_delP.1 hq;exact this.2 (by rw[eq_of_bl ho.bls this.1 hp e])) (.int .i64 0)
 obtain⟨hT1,hP1⟩:=hP.put (S:=(· = t+4)) hu 4 (.int .i64 0) rfl;have hvs:∀ i v,[Value.int .i64 ((k0:Int)+1),.int .i64 ((k1:Int)+1),.int .i64 ((k2:Int)+1),.int .i64 ((k3:Int)+1)][i]?=some v→(w.setCell ⟨p.bl,4,none⟩ (.int .i64 0)).cell? ⟨p.bl,0+i,none⟩=some v:=fun i v hv=>by
  rw[Nat.zero_add];refine hP1.cell ?_;match i,hv with
  | 0,hv=>exact hv
  | 1,hv=>exact hv
  | 2,hv=>exact hv
  | 3,hv=>exact hv
 have hst:dropRel w T t b rb g mb n rf vs ps last p (.int .i64 ((0:Nat):Int)) (w.setCell ⟨p.bl,4,none⟩ (.int .i64 0)):=⟨0,rf,rfl,by decide,hM,ho.held.perm (refs_del ho.ids hp),Nat.le_refl _,hT1.mono fun k hk=>by subst hk;unfold In;omega⟩;have c4:=hP.cell (i:=4) rfl;have f4:=hP.free 4;have hL:(refsOf ps).length≤4000:=by rw[refs_len ho.four];omega
 have hLd:(refsOf (delP ps p.id)).length≤4000:=by
  have:=(refs_del ho.ids hp).length_eq;rw[List.length_append]at this;omega
 have Hst:=hqd hst;have Ho:=hqd ho;have Hpg:=hqd hpg;have H4:=hqd h4;have hkey:=snap_key (x:=p.id) hid;have c5:=hP1.cell (i:=4) rfl;unfold ptrV at *;clear h ho hst hpg h4 hpc hM hT1 hP1 hP;go_enter func77,ntmps77;go_wp2_with fail;refine HA.out.mono ?_;rintro e w1 ⟨rfl,hw⟩;subst hw;go_upto_region 5 with fail
 generalize hW:World.setCell w1 _ _=W at *;clear hW;go_wp2_with (first|(with_reducible refine wpList_load_ara rfl 217 (.tmp 27) rfl rfl underlying217 size_four rfl hvs ?_))
 go_loopw [29] (fun iv wr=>dropRel w1 T t b rb g mb n rf vs ps last p iv wr) (fun iv _=>4-(intOf iv).toNat)
 case atStart=>exact Hst.out
 case round =>
  obtain⟨k,rf',rfl,hk,hS,hh,hus,hT⟩:=hrel;have hLk:(p.pg.drop k++refsOf (delP ps p.id)).length≤100000:=by rw[List.length_append,List.length_drop];have:=H4.out;omega
  have c0:wr.cell? ⟨b,0,none⟩=some (ptrV rb):=hS.hd.cell (i:=0) rfl;unfold ptrV at c0;by_cases hk4:k<4
  ·obtain⟨q,hq⟩:∃ q,p.pg[k]?=some q:=⟨_,List.getElem?_eq_getElem (by rw[H4.out];exact hk4)⟩
   have hm:q∈p.pg.drop k++refsOf (delP ps p.id):=List.mem_append_left _ (List.mem_iff_getElem?.2 ⟨0,by rw[List.getElem?_drop];exact hq⟩);have HH:=hqd (drop_of hS.room hh hm hLk);have HF:=hqd fun w3 hr hg=>drop_step (w3:=w3) ht hq hk4 hT.unborn hS hh hus hT hr hg;unfold ptrV at HH;rw[Hpg.out]at hq;clear hS hh hus hT hLk hm;have hix:=four_index k0 k1 k2 k3 hq;have hd:decide (k<4)=true:=decide_eq_true hk4;go_wp2_with fail;refine HH.out.mono ?_;rintro e w3 ⟨rfl,hr,hg⟩;go_wp2_with fail;go_roundw
   case rel=>exact HF.out _ hr hg
   case measure=>simp[intOf];omega
  ·obtain rfl:k=4:=by omega
   have c1:=hS.hd.cell (i:=1) rfl;obtain⟨D,hD1,hD2⟩:=hS.map_;have HS:=hqd hS;have HT:=hqd hT;have HHh:=hqd hh;have HU:=hqd hus;clear hS hh hus hT hLk;go_wp2_with (first|(at_delete;refine wpList_delete_own _ rfl (.tmp 42) (.tmp 43) 221 110 rfl 215 (Maps.int_keyed underlying110) underlying221 picR mb ps.length D rfl hD1 _ _ rfl hkey ?_;intro w9 hown9 hturn9));have hDM:=hD2.del_ p.id;have ht9:=ownsMap_tight hown9;rw[hDM.size]at ht9;go_ret;refine⟨rfl,HT.out.trans (HS.out.turnedM HT.out.unborn hturn9.grown),rf',HS.out.map ht ht9 hDM hturn9.grown,?_,HU.out⟩;have h9:=HHh.out;rw[List.drop_eq_nil_of_le (by rw[H4.out];exact Nat.le_refl _),List.nil_append]at h9;have hsub:(delP ps p.id).Sublist ps:=List.filter_sublist;exact⟨h9,fun q hq=>Ho.out.four q (hsub.subset hq),Ho.out.ids.sublist (hsub.map _),fun q hq=>Ho.out.low q (hsub.subset hq),Ho.out.bls.sublist (hsub.map _)⟩
end
section
variable {w w':World} {T T':Tg} {t b rb g mb n last:Nat} {rf:Nat→Int} {vs:Nat→Nat→Int} {ps:List Pic} {p:Pic}
def SetOf(R:Prop)(w:World)(T:Tg)(t b rb g mb n:Nat)(rf:Nat→Int)(vs:Nat→Nat→Int)(ps:List Pic)(last x i:Nat)(y:Int)(e:Ending)(w':World):Prop :=
 ∃ r,e = .returned (.bool r)∧(r=true↔R)∧Turn (In t 5) w T w' T∧∃ rf' vs' ps',StoreIn w' T t b rb g mb n rf' vs' ps' last∧Pics n rf' ps' last ∧
  (ps'.map fun q=>(q.id,gameOf vs' q))=ps.map fun q=>(q.id,if r=true∧q.id=x then (gameOf vs q).set i y else gameOf vs q)
theorem set_games(ho:Pics n rf ps last)(hp:p∈ps){i k:Nat}(hi:i<32)(hs:p.pg[i / 8]?=some k)(h1:rf k≤1)(y:Int) :
  (ps.map fun q=>(q.id,gameOf (updP vs k (updP (vs k) (i % 8) y)) q))=ps.map fun q=>(q.id,if true=true∧q.id=p.id then (gameOf vs q).set i y else gameOf vs q):=by
 apply List.map_congr_left;intro q hq;by_cases e:q.id=p.id
 ·obtain rfl:=eq_of_id ho.ids hq hp e
  rw[if_pos ⟨rfl,rfl⟩,ho.set_same hq hi hs h1]
 ·rw[if_neg (fun h=>e h.2),ho.set_other hp hs h1 hq (fun h=>e (by rw[h]))]
theorem copy_games(ho:Pics n rf ps last)(hp:p∈ps){s k j:Nat}(hs:p.pg[s]?=some k)(h0:rf j=0) :
  ((putP ps p.id s j).map fun q=>(q.id,gameOf (updP vs j (vs k)) q))=ps.map fun q=>(q.id,gameOf vs q):=by
 unfold putP;rw[List.map_map];apply List.map_congr_left;intro q hq;simp only[Function.comp];by_cases e:q.id=p.id
 ·obtain rfl:=eq_of_id ho.ids hq hp e
  rw[if_pos rfl,gameOf_put hs (ho.four _ hq) (fun i hi=>by
   obtain⟨k',h1,h2,h3,h4⟩:=ho.slot hq hi;rw[h2];rintro rfl;omega)]
 ·rw[if_neg e,ho.set_free h0 hq]
theorem set_copied(ho:Pics n rf ps last)(hp:p∈ps){i k j:Nat}(hi:i<32)(hs:p.pg[i / 8]?=some k)(hj:j<n)(h0:rf j=0)(ht:0<t){y:Int}{W3 W4:World}
  (S3:StoreIn W3 T t b rb g mb n (updP (updP rf j 1) k (updP rf j 1 k-1)) (updP vs j (vs k)) (putP ps p.id (i / 8) j) last) (hT:Turn (In t 5) w T W3 T)
  (hr:Room W4 rb g n (updP (updP rf j 1) k (updP rf j 1 k-1)) (updP (updP vs j (vs k)) j (updP (updP vs j (vs k) j) (i % 8) y))) (hg:W3.grownBy W4 (some g)) {R:Prop} (hRp:R):SetOf R w T t b rb g mb n rf vs ps last p.id i y (.returned (.bool true)) W4:=by
 have hkj:k≠j:=fun e=>by have:=ho.held.mem (mem_refs hp hs);rw[e,h0]at this;omega
 have ho2:=ho.put hp hs hj h0;have hp':({p with pg:=p.pg.set (i / 8) j}:Pic)∈putP ps p.id (i / 8) j:=List.mem_map.2 ⟨p,hp,if_pos rfl⟩;have hs':({p with pg:=p.pg.set (i / 8) j}:Pic).pg[i / 8]?=some j:=by
  have:=(List.getElem?_eq_some_iff.1 hs).1;simp only[List.getElem?_set_self this]
 have h1:updP (updP rf j 1) k (updP rf j 1 k-1) j≤1:=by rw[updP_other _ _ (Ne.symm hkj),updP_same];exact Int.le_refl _
 refine⟨true,rfl,⟨fun _=>hRp,fun _=>rfl⟩,hT.trans (S3.turned hT.unborn hg),_,_,_,S3.left ht hr hg,ho2,?_⟩;have e1:=set_games (y:=y) (vs:=updP vs j (vs k)) ho2 hp' hi hs' h1;have e2:=congrArg (List.map fun a:Nat×List Int=>(a.1,if true=true∧a.1=p.id then a.2.set i y else a.2)) (copy_games (vs:=vs) ho hp hs h0);rw[List.map_map,List.map_map]at e2;exact e1.trans e2
def RoomP(T:Tg)(t b rb g mb n:Nat)(rf:Nat→Int)(vs:Nat→Nat→Int)(ps:List Pic)(last:Nat)(u:Value)(v:Value)(w:World)(T':Tg):Prop:=v=u∧T'=T∧StoreIn w T t b rb g mb n rf vs ps last
theorem RoomP.grow(T:Tg)(t b rb g mb n:Nat)(rf:Nat→Int)(vs:Nat→Nat→Int)(ps:List Pic)(last:Nat)(u:Value):Grow (RoomP T t b rb g mb n rf vs ps last u):=fun v w T' w' h e=>⟨h.1,h.2.1,h.2.2.ext e⟩
theorem StoreMid.room_call{pm:List Pic}{f:FuncId}{args:Array Value}{rf':Nat→Int}{vs':Nat→Nat→Int}{u:Value}(h:StoreIn w T t b rb g mb n rf vs ps last)(hu:Unborn w T)(ht:0<t)(hc:Calls prog f args w (Left w rb g n rf' vs' u)) :
  Calls prog f args w (Gives (fun k=>k=t+3) w T (RoomP T t b rb g mb n rf' vs' ps last u)):=by
 refine hc.mono ?_;rintro e w' ⟨rfl,hr,hg⟩;exact⟨u,rfl,T,Turn.of_grown hu hg fun k hk=>by cases hk;exact h.tg,rfl,rfl,h.left ht hr hg⟩
theorem snap_set(h:StoreIn w T t b rb g mb n rf vs ps last)(ho:Pics n rf ps last)(hp:p∈ps)(hu:Unborn w T)(ht:0<t)(hl:last<4611686018427387903)(hn:ps.length≤1000){i:Nat}(hi:i<32)(y:Int){R:Prop}(hRR:R↔(∃ k,p.pg[i / 8]?=some k∧rf k≤1)∨used n rf<n) :
  Calls prog 335 #[ptrV b,.int .i64 (p.id:Nat),.int .i64 (i:Nat),.int .i32 y] w (SetOf R w T t b rb g mb n rf vs ps last p.id i y):=by
 have HRR:=hqd hRR;clear hRR;have HA:=hqd (snap_at h ho.ids hp (Nat.lt_of_le_of_lt (ho.low p hp) (by omega)));have c0:=room_at h;obtain⟨k,h1,h2,h3,h4⟩:=ho.slot hp hi;have hP:=h.pics p hp;have c1:=hP.cell (picC_page p h1);have f1:=hP.free (i / 8);have hLk:(refsOf ps).length≤4000:=by rw[refs_len ho.four];omega
 have hrk:rf k≤4000:=by have:=ho.held.le h3;omega
 have HR:=hqd fun W (e:Ext w W)=>sym_calls (refs_yes (h.room.ext e) (pg:=(k:Int)+1) (k:=k) ⟨h3,rfl,by omega⟩);have d1:(i:Int) / 8=((i / 8:Nat):Int):=by omega
 have d2:(i:Int).tmod 8=((i % 8:Nat):Int):=by rw[Int.tmod_eq_emod_of_nonneg (by omega)];omega
 have hb1:i / 8<4:=by omega
 have hb2:i % 8<8:=by omega
 by_cases hr1:rf k≤1
 ·have HS:=hqd fun W (e:Ext w W)=>set_yes (h.room.ext e) (pg:=(k:Int)+1) (k:=k) ⟨h3,rfl,by omega⟩ hr1 hb2 y
  have HF:=hqd fun W W2 (e:Ext w W) (hr:Room W2 rb g n rf (updP vs k (updP (vs k) (i % 8) y))) (hg:W.grownBy W2 (some g))=>(show SetOf R w T t b rb g mb n rf vs ps last p.id i y (.returned (.bool true)) W2 from
   ⟨true,rfl,⟨fun _=>HRR.out.2 (.inl ⟨k,h1,hr1⟩),fun _=>rfl⟩,(Turn.of_ext _ hu e).trans ((h.ext e).turned (hu.ext e) hg),rf,_,ps,(h.ext e).left ht hr hg,ho,set_games ho hp hi h1 hr1 y⟩)
  have hd:decide (1<rf k)=false:=decide_eq_false (by omega);clear h ho hP h2 h4;generalize hq:i / 8=q at *;generalize hr:i % 8=r at *;unfold ptrV at *;go_enter func335,ntmps335;go_wp2_with fail;refine HA.out.mono ?_;rintro e w1 ⟨rfl,hw⟩;subst hw;go_wp2_with fail;apply wrA trivial;repeat apply lxA (fun _ h _=>aj (h.cell c0) (h.cell c1))
  apply lxC (fun W hR=>HR.out W hR);repeat apply lxA (fun _ h _=>aj (h.cell c0) (h.cell c1))
  refine lex_nil ?_;intro Wx hWx hΦ;clear hΦ;have e1:=hWx;have c0:=e1.cell c0;have c1:=e1.cell c1;go_wp2_with fail;apply wrN 10;simp only[tk];repeat apply lxA (fun _ h _=>aj (h.cell c0) (h.cell c1))
  refine lex_nil ?_;intro Wx hWx hΦ;clear hΦ;simp only[dk];go_wp2_with fail;refine(HS.out _ (e1.trans hWx)).mono ?_;rintro e w3 ⟨rfl,hr3,hg3⟩;go_wp2_with fail;go_ret;exact HF.out _ _ (e1.trans hWx) hr3 hg3
 ·have hd:decide (1<rf k)=true:=decide_eq_true (by omega)
  have HS0:=hqd h;have Ho:=hqd ho;by_cases hfr:used n rf<n
  ·obtain⟨j,hj,hj0,hall⟩:=free_some ho.held hfr
   have Hfr:=hqd hfr;have hkj:k≠j:=fun e=>by rw[e,hj0]at h4;omega
   have HC:=hqd fun W (e:Ext w W)=>copy_yes (h.room.ext e) (pg:=(k:Int)+1) (k:=k) ⟨h3,rfl,by omega⟩ hj hj0 hall;have H1:=hqd h1;have Hkj:=hqd hkj;have Hj:=hqd hj;have Hj0:=hqd hj0;clear h ho hP h2 h4 hall hfr hj hj0 hkj;obtain⟨q,hq⟩:∃ q,i / 8=q:=⟨_,rfl⟩;obtain⟨r,hr⟩:∃ r,i % 8=r:=⟨_,rfl⟩;have Hq:=hqd hq;have Hr:=hqd hr;rw[hq]at c1 f1 d1 hb1 h1;rw[hr]at d2 hb2;clear hq hr h1;unfold ptrV at *;go_enter func335,ntmps335;go_wp2_with fail;refine HA.out.mono ?_;rintro e w1 ⟨rfl,hw⟩;subst hw;go_wp2_with fail;apply wrA trivial;repeat apply lxA (fun _ h _=>aj (h.cell c0) (h.cell c1))
   apply lxC (fun W hR=>HR.out W hR);repeat apply lxA (fun _ h _=>aj (h.cell c0) (h.cell c1))
   refine lex_nil ?_;intro Wx hWx hΦ;clear hΦ;have e1:=hWx;have c0:=e1.cell c0;have c1:=e1.cell c1;go_wp2_with fail;have HU:=hqd hu;have hu:=hu.ext e1;have hn0:¬ T b=t+3:=by have:=HS0.out.hd.1;omega
   have hn1:¬ T p.bl=t+3:=by have:=(HS0.out.pics p hp).1;omega
   have HCC:=fun W (e:Ext Wx W)=>StoreMid.room_call (pm:=ps) (HS0.out.ext (e1.trans e)) (hu.ext e) ht (HC.out W (e1.trans e));unfold ptrV at HCC;have HCC:=hqd HCC;apply wrG (oR (fun k=>k=t+3) T) (oRs 7 (fun k=>k=t+3) T) (oJ 7 _) (oJ.start _ _);repeat apply lxG (fun _ h _ _=>aj (h.cell c0 hn0) (h.cell c1 hn1))
   apply lexG_call (p:=oP _ _ _ _) (by decide) (by decide) (oP.stab (RoomP.grow T t b rb g mb n _ _ ps last _) _)
   ·rfl
   ·intro W
    go_simp;exact⟨rfl,rfl⟩
   ·intro W hR hJ hΦ
    exact one_call hu (hJ rfl) ((HCC.out) W (hJ rfl))
   intro v9;simp only[pu];repeat apply lxG (fun _ _ _ _=>trivial)
   repeat apply lxG (fun _ _ _ hΦ=>oP_val (hΦ.1 rfl))
   refine lexG_nil ?_;intro W3 hR hap hΦ;obtain⟨T1,hT1,rfl,rfl,S1⟩:=hΦ.1 rfl;clear hΦ hap;have HS1:=hqd S1;have c0:=room_at S1;have c1:=(S1.pics p hp).cell (picC_page p H1.out);rw[Hq.out]at c1;unfold ptrV at c0;have hu1:=hT1.unborn;have hTa:=(Turn.of_ext (In t 5) HU.out e1).trans (hT1.mono fun k hk=>by subst hk;unfold In;omega);have HTa:=hqd hTa;clear S1 hT1 hTa hR HCC HC HR HA hn0 hn1;go_wp2_with fail;apply wrN 7;simp only[tk];repeat apply lxA (fun _ h _=>aj (h.cell c0) (h.cell c1))
   refine lex_nil ?_;intro Wx hWx hΦ;clear hΦ;simp only[dk];have S1:=HS1.out.ext hWx;have hD:=drop_yes S1.room (pg:=(k:Int)+1) (k:=k) ⟨h3,rfl,by rw[updP_other _ _ Hkj.out];omega⟩ (by rw[updP_other _ _ Hkj.out];omega) (by rw[updP_other _ _ Hkj.out];omega);have HD:=hqd hD;have HS2:=hqd fun W hr hg=>S1.left (w':=W) ht (rf':=updP (updP rf j 1) k (updP rf j 1 k-1)) (vs':=updP vs j (vs k)) hr hg;have HT2:=hqd fun W (hg:Wx.grownBy W (some g))=>(HTa.out.ext hWx).trans (S1.turned (hu1.ext hWx) hg);clear S1 hD;go_wp2_with fail;refine HD.out.mono ?_;rintro e w4 ⟨rfl,hr4,hg4⟩;have S2:=HS2.out _ hr4 hg4;have T2:=HT2.out _ hg4;have f1:=(S2.pics p hp).free q;have c1:=(S2.pics p hp).cell (picC_page p H1.out);rw[Hq.out]at c1;have hput:=StoreIn.putPage S2 Ho.out T2.unborn hp (s:=q) (j:=j) hb1;have HP:=hqd hput;have HT3:=hqd T2;clear hr4 hg4 S2 T2 hput HS2 HT2 HD;go_upto_region 11 with fail
   generalize hW5:World.setCell w4 _ _=W5 at *;clear hW5 c1 f1;obtain⟨hT5,S5⟩:=HP.out;have hTb:=HT3.out.trans (hT5.mono fun k hk=>by subst hk;unfold In;omega);have HTb:=hqd hTb;have hp':({p with pg:=p.pg.set q j}:Pic)∈putP ps p.id q j:=List.mem_map.2 ⟨p,hp,if_pos rfl⟩;have hs':({p with pg:=p.pg.set q j}:Pic).pg[q]?=some j:=by
    have:=(List.getElem?_eq_some_iff.1 (Hq.out▸H1.out)).1;simp only[List.getElem?_set_self this]
   have c0:=room_at S5;have c1:=(S5.pics _ hp').cell (picC_page _ hs');have HS5:=hqd S5;have hrfj:updP (updP rf j 1) k (updP rf j 1 k-1) j=1:=by rw[updP_other _ _ (Ne.symm Hkj.out),updP_same]
   have HS6:=hqd fun W (e:Ext W5 W)=>set_yes (S5.room.ext e) (pg:=(j:Int)+1) (k:=j) ⟨Hj.out,rfl,by rw[hrfj];decide⟩ (by rw[hrfj];exact Int.le_refl _) hb2 y;unfold ptrV at c0;dsimp only at c1
   clear S5 hT5 hTb hp' hs' HP hrfj;apply wrN 10;simp only[tk];repeat apply lxA (fun _ h _=>aj (h.cell c0) (h.cell c1))
   refine lex_nil ?_;intro Wx hWx hΦ;clear hΦ;simp only[dk];go_wp2_with fail;refine(HS6.out _ hWx).mono ?_;rintro e w6 ⟨rfl,hr6,hg6⟩;go_wp2_with fail;go_ret;have hq:=Hq.out;have hr:=Hr.out;subst hq hr;exact set_copied Ho.out hp hi H1.out Hj.out Hj0.out ht (HS5.out.ext hWx) (HTb.out.ext hWx) hr6 hg6 (HRR.out.2 (.inr Hfr.out))
  ·have hall:=ho.held.none_free (by omega)
   have HnR:=hqd (show ¬ R from fun h=>by
    rcases HRR.out.1 h with ⟨k',hk',hr'⟩|h'
    ·rw[h1]at hk'
     cases hk'
     exact hr1 hr'
    ·exact hfr h')
   have HC:=hqd fun W (e:Ext w W)=>copy_no (h.room.ext e) (pg:=(k:Int)+1) (by omega) (by have:=h.room.small;omega) (.inr ⟨⟨k,h3,rfl,by omega⟩,hall⟩);clear h ho hP h2 h4 hall hfr;obtain⟨q,hq⟩:∃ q,i / 8=q:=⟨_,rfl⟩;obtain⟨r,hr⟩:∃ r,i % 8=r:=⟨_,rfl⟩;rw[hq]at c1 f1 d1 hb1 h1;rw[hr]at d2 hb2;clear hq hr h1;unfold ptrV at *;go_enter func335,ntmps335;go_wp2_with fail;refine HA.out.mono ?_;rintro e w1 ⟨rfl,hw⟩;subst hw;go_wp2_with fail;apply wrA trivial;repeat apply lxA (fun _ h _=>aj (h.cell c0) (h.cell c1))
   apply lxC (fun W hR=>HR.out W hR);repeat apply lxA (fun _ h _=>aj (h.cell c0) (h.cell c1))
   refine lex_nil ?_;intro Wx hWx hΦ;clear hΦ;have e1:=hWx;have c0:=e1.cell c0;have c1:=e1.cell c1;go_wp2_with fail;have HU:=hqd hu;have hu:=hu.ext e1;have hn0:¬ T b=t+3:=by have:=HS0.out.hd.1;omega
   have hn1:¬ T p.bl=t+3:=by have:=(HS0.out.pics p hp).1;omega
   have HCC:=fun W (e:Ext Wx W)=>StoreMid.room_call (pm:=ps) (HS0.out.ext (e1.trans e)) (hu.ext e) ht (HC.out W (e1.trans e));unfold ptrV at HCC;have HCC:=hqd HCC;apply wrG (oR (fun k=>k=t+3) T) (oRs 7 (fun k=>k=t+3) T) (oJ 7 _) (oJ.start _ _);repeat apply lxG (fun _ h _ _=>aj (h.cell c0 hn0) (h.cell c1 hn1))
   apply lexG_call (p:=oP _ _ _ _) (by decide) (by decide) (oP.stab (RoomP.grow T t b rb g mb n _ _ ps last _) _)
   ·rfl
   ·intro W
    go_simp;exact⟨rfl,rfl⟩
   ·intro W hR hJ hΦ
    exact one_call hu (hJ rfl) ((HCC.out) W (hJ rfl))
   intro v9;simp only[pu];repeat apply lxG (fun _ _ _ _=>trivial)
   repeat apply lxG (fun _ _ _ hΦ=>oP_val (hΦ.1 rfl))
   refine lexG_nil ?_;intro W3 hR hap hΦ;obtain⟨T1,hT1,rfl,rfl,S1⟩:=hΦ.1 rfl;clear hΦ hap;have HS1:=hqd S1;have hTa:=(Turn.of_ext (In t 5) HU.out e1).trans (hT1.mono fun k hk=>by subst hk;unfold In;omega);have HTa:=hqd hTa;clear S1 hT1 hTa hR HCC HC HR HA hn0 hn1;go_wp2_with fail;go_ret;exact⟨false,rfl,⟨fun h=>absurd h (by decide),fun h=>absurd h HnR.out⟩,HTa.out,rf,vs,ps,HS1.out,Ho.out,by simp⟩
end
section
variable (tp:List UInt8) (l:List OpT)
def gameAt(ls:Lines)(f:Nat):List Int:=foldN tp l 0 zeroG ((List.range f).map (jointL ls))
def smP(ls:Lines)(f:Nat):Nat:=crcL (gameL (gameAt tp l ls f))
def marksP(ls:Lines)(m:Nat):List Nat:=(List.range m).map fun k=>smP tp l ls (k+1)
theorem gameAt_ok(ls:Lines)(f:Nat):okG (gameAt tp l ls f):=foldN_ok tp l _ 0 zeroG_ok
theorem gameAt_succ(ls:Lines)(f:Nat):gameAt tp l ls (f+1)=(stepN tp (jointL ls f) (f:Nat) l (gameAt tp l ls f)).1:=by
 unfold gameAt;rw[List.range_succ,List.map_append,foldN_app];simp[foldN]
theorem smP_sums:Sums (smP tp l):=by
 intro a b f h;unfold smP gameAt;rw[show(List.range f).map (jointL a)=(List.range f).map (jointL b) from List.map_congr_left fun k hk=>h k (List.mem_range.1 hk)]
theorem smP_lt(ls:Lines)(f:Nat):smP tp l ls f<4294967296:=crcL_lt _
theorem marksP_len(ls:Lines)(m:Nat):(marksP tp l ls m).length=m:=by simp[marksP]
theorem marksP_succ(ls:Lines)(m:Nat):marksP tp l ls (m+1)=marksP tp l ls m++[smP tp l ls (m+1)]:=by
 unfold marksP;rw[List.range_succ,List.map_append];rfl
theorem marksP_get(ls:Lines){m k:Nat}(hk:k<m):(marksP tp l ls m).getD k 0=smP tp l ls (k+1):=by
 simp[marksP,List.getD_eq_getElem?_getD,hk]
def WordsOk(cf:Cf)(c:Cr):Prop:=∀ i,i<cf.n→0<(c.words i).1→(c.words i).1≤c.front→(c.words i).2=smP tp l c.ls (c.words i).1
theorem WordsOk.quiet{cf:Cf}{c:Cr}(h:WordsOk tp l cf c){m:Nat}(hm:m≤c.front):Quiet cf c (marksP tp l c.ls m):=by
 intro i hi;rw[marksP_len];by_cases h0:(c.words i).1=0
 ·exact .inl h0
 ·by_cases h1:m<(c.words i).1
  ·exact .inr (.inl h1)
  ·refine .inr (.inr ⟨by omega,by omega,?_⟩)
   rw[marksP_get tp l c.ls (by omega),show(c.words i).1-1+1=(c.words i).1 by omega];exact(h i hi (by omega) (by omega)).symm
end
theorem CrOk.mk'{cf:Cf}{me:Nat}{c:Cr}{mk mk':List Nat}(h:CrOk cf me c mk)(h1:mk'.length≤1000)(h2:∀ s∈mk',s<4294967296):CrOk cf me c mk':=⟨h.ok,h.me,h.len,h.short,h.now,h.evs,h.has,h.heard,h.words,h1,h2⟩
theorem CrOk.marksP{cf:Cf}{me:Nat}{c:Cr}{mk:List Nat}(h:CrOk cf me c mk)(tp:List UInt8)(l:List OpT){m:Nat}(hm:m≤1000):CrOk cf me c (marksP tp l c.ls m):=h.mk' (by rw[marksP_len];exact hm) fun s hs=>by
 obtain⟨k,_,rfl⟩:=List.mem_map.1 hs;exact smP_lt _ _ _ _
theorem CrOk.front_le{cf:Cf}{me:Nat}{c:Cr}{mk:List Nat}(h:CrOk cf me c mk):c.front≤1000:=by
 have hml:me<c.ls.length:=by rw[h.len];exact h.me
 exact Nat.le_trans (frontL_le _ _ (List.getElem_mem hml)) (h.short _ (List.getElem_mem hml))
def plainL(cb:Nat)(tp:List UInt8)(A:Option Addr)(n d:Nat)(cf:Cf)(g:List Int):List Value:=[.pointer (some ⟨cb,0,none⟩),.string (bs tp),.slice A n d,.int .i64 (cf.guess:Nat),.int .i64 (cf.order:Nat),.slice none 0 0]++g.map (Value.int .i32)
structure PlainAt(w:World)(T:Tg)(t b:Nat)(cf:Cf)(me:Nat)(tp:List UInt8)(l:List OpT)(cb qb:Nat)(ps:Nat→Nat)(c:Cr)(m:Nat):Prop where
 blk:∃ A n d,Has w T t b (plainL cb tp A n d cf (gameAt tp l c.ls m))∧Row w T (t+1) 127 4 A n d (opcs l)
 core:CoreAt w T (t+2) cb cf me qb ps c (marksP tp l c.ls m)
section
variable {w w':World} {T T':Tg} {t b:Nat} {cf:Cf} {me cb qb:Nat} {tp:List UInt8} {l:List OpT} {ps:Nat→Nat} {c:Cr} {m:Nat}
theorem PlainAt.ext(h:PlainAt w T t b cf me tp l cb qb ps c m)(e:Ext w w'):PlainAt w' T t b cf me tp l cb qb ps c m:=by
 obtain⟨⟨A,n,d,h1,h2⟩,h3⟩:=h;exact⟨⟨A,n,d,h1.ext e,h2.ext e⟩,h3.ext e⟩
theorem PlainAt.turn{S:Nat→Prop}(h:PlainAt w T t b cf me tp l cb qb ps c m)(hT:Turn S w T w' T')(hs:∀ k,In t (8+2*c.ls.length) k→¬ S k):PlainAt w' T' t b cf me tp l cb qb ps c m:=by
 obtain⟨⟨A,n,d,h1,h2⟩,h3⟩:=h;exact⟨⟨A,n,d,h1.turn hT (hs _ (by unfold In;omega)),h2.turn hT (hs _ (by unfold In;omega))⟩,h3.turn hT fun k hk=>hs k (by unfold In at *;omega)⟩
theorem PlainAt.coreTurn{c':Cr}(h:PlainAt w T t b cf me tp l cb qb ps c m)(hT:Turn (In (t+2) 22) w T w' T')(hc:CoreAt w' T' (t+2) cb cf me qb ps c' (marksP tp l c.ls m))(hls:gameAt tp l c'.ls m=gameAt tp l c.ls m)(hmk:marksP tp l c'.ls m=marksP tp l c.ls m):PlainAt w' T' t b cf me tp l cb qb ps c' m:=by
 obtain⟨⟨A,n,d,h1,h2⟩,h3⟩:=h;refine⟨⟨A,n,d,?_,h2.turn hT (by unfold In;omega)⟩,?_⟩
 ·rw[hls];exact h1.turn hT (by unfold In;omega)
 ·rw[hmk];exact hc
theorem state_sum(w:World)(g:List Int)(hok:okG g):Calls prog 174 #[.agg (gcs g)] w fun e w'=>e = .returned (.int .u32 (crcL (gameL g):Nat))∧Ext w w':=by
 have hg32:=hok.1;have hl:(g.map (Value.int .i32)).length=32:=by rw[List.length_map,hg32]
 have Henc:=hqd fun W=>sencode_any W g hok;unfold gcs at *;generalize g.map (Value.int .i32)=vs at *;go_enter func174,ntmps174;go_upto_region 1 with fail
 have hb:=heap_alloc_new w (.cells vs.toArray 205);have hx:=Ext.alloc w (.cells vs.toArray 205);generalize hW:World.alloc w _=W0 at *;have hc:∀ i v,vs[i]?=some v→W0.cell? ⟨w.heap.size,0+i,none⟩=some v:=fun i v hv=>by
  rw[cell_of_row _ _ _ _ _ _ hb];simpa using hv
 clear hb hW;generalize w.heap.size=gm at *;go_wp2_with (first|(with_reducible refine wpList_load_ara rfl 205 (.tmp 1) rfl rfl underlying205 size_state hl hc ?_))
 refine(Henc.out W0).mono ?_;rintro e w2 ⟨B,d,rfl,hB,e2⟩;go_wp2_with fail;refine(crc_any w2 B 128 d (gameL g) hB).mono ?_;rintro e w3 ⟨rfl,rfl⟩;go_wp2_with fail;go_ret;exact⟨rfl,hx.trans e2⟩
end
end Go.Proofs.YtffcefoadaogbaaGreat
