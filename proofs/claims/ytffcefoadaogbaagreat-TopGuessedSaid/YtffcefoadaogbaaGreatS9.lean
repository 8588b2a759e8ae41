/- A part of the proof: texts put together and cut down by a program of mine (wip/gen/mini.py). -/
import Derived.Test.YtffcefoadaogbaaGreatS8
import Derived.Deep.DeepCutAuto
import Derived.Deep.CutBlock
namespace Go.Proofs.YtffcefoadaogbaaGreat
open Go.RowKit
open Go.Proofs.Tryz
set_option linter.unusedVariables false
set_option maxRecDepth 100000
set_option maxHeartbeats 16000000
def inputM(c:Cr)(me:Nat)(mk:List Nat)(i:Nat):Pk :=
 {quit:=false,src:=me,dst:=i,first:=c.has i,press:=((c.mine me).drop (c.has i)).take 32,ack:=(c.ls.getD i []).length,frame:=mk.length,sum:=mk.getLastD 0}
theorem Rb.of_blocks'{w w':World}{A:Option Addr}{n c:Nat}{l:List UInt8}(h:Rb w A n c l)(hb:0<n→∀ k,blk A=some k→w'.heap[k]?=w.heap[k]?):Rb w' A n c l:=Rd.of_blocks h (fun h0=>hb (by omega))
theorem getLastD_mem{l:List Nat}(h:l≠[]):l.getLastD 0∈l:=by
 rw[List.getLastD_eq_getLast?,List.getLast?_eq_some_getLast h];exact List.getLast_mem h
section
variable {w w':World} {T T':Tg} {t b:Nat} {cf:Cf} {me qb:Nat} {ps:Nat→Nat} {c:Cr} {mk:List Nat}
theorem inputM_ok(hk:CrOk cf me c mk){i:Nat}(hi:i<cf.n)(hne:i≠me):okPk (inputM c me mk i):=by
 have h8:=hk.ok.n8;have hm:=hk.me;have hil:i<c.ls.length:=by rw[hk.len];exact hi
 refine⟨by show me<8;omega,by show i<8;omega,fun h=>hne (show me=i from h).symm,?_⟩;rw[if_neg (by simp[inputM])];refine⟨hk.has i,?_,hk.marks,?_,?_⟩
 ·show(c.ls.getD i []).length≤1000
  rw[List.getD_eq_getElem?_getD,List.getElem?_eq_getElem hil];exact hk.short _ (List.getElem_mem hil)
 ·show(((c.mine me).drop (c.has i)).take 32).length≤32
  rw[List.length_take];omega
 ·show mk.getLastD 0<4294967296
  by_cases h:mk=[]
  ·subst h;decide
  ·exact hk.sums _ (getLastD_mem h)
theorem core_input(h:CoreAt w T t b cf me qb ps c mk)(hk:CrOk cf me c mk){i:Nat}(hi:i<cf.n)(hne:i≠me):Calls prog 309 #[ptrV b,.int .i64 (i:Nat)] w fun e w' =>
   ∃ B bd,e = .returned (mailV me i B (encPk cf.id (inputM c me mk i)).length bd)∧Own w' w.heap.size 5 1 B (encPk cf.id (inputM c me mk i)).length bd (bcs (encPk cf.id (inputM c me mk i)))∧Ext w w':=by
 have hil:i<c.ls.length:=by rw[hk.len];exact hi
 have hml:me<c.ls.length:=by rw[hk.len];exact hk.me
 have hn8:=hk.ok.n8;have hmk:=hk.marks;have hhas:=hk.has i;have hpk:=inputM_ok hk hi hne;obtain⟨PA,pc,MA,mc,EA,ec,h1,h2,h3,_⟩:=h.blk;obtain⟨c0,c1,c2,c3,c4,c5,c6,c7,c8,c9,c10,c11,c12,c13,c14,c15⟩:=coreC h1;obtain⟨gp,rfl,p0,_⟩:=peer_cells h2 hi;have hpm:=h2.rd.2.1;have hpm2:=h2.rd.2.2.1;have hmm:=h3.rd.2.1;have hmm2:=h3.rd.2.2.1;unfold maxLen at hpm2 hmm2;have Hm:=hqd fun j (hj:j<mk.length)=>h3.at_ (i:=j) (v:=.int .u32 ((mk.getD j 0:Nat):Int)) (by simp[List.getD_eq_getElem?_getD,hj]);have HL:=hqd fun W (e:Ext w W)=>queue_line (h.que.ext e) (by rw[hk.len];exact hn8) hil;have HL2:=hqd fun W (e:Ext w W)=>queue_line (h.que.ext e) (by rw[hk.len];exact hn8) hml;have Hlen:=hqd fun W (e:Ext w W)=>line_len ((h.que.line i hil).ext e);have Hfrom:=hqd fun W (e:Ext w W)=>line_from ((h.que.line me hml).ext e) (hk.short _ (List.getElem_mem hml)) (c.has i) 32 (by decide) (by decide) hhas;have Hmail:=hqd fun W (e:Ext w W) A n d hb=>core_mail (h.ext e) hk (inputM c me mk i) A n d hpk rfl hb 0 0 0;have hmine:c.mine me=c.ls[me]:=by simp[Cr.mine,List.getD_eq_getElem?_getD,hml]
 have hack:(c.ls.getD i []).length=c.ls[i].length:=by simp[List.getD_eq_getElem?_getD,hil]
 have hpr:(inputM c me mk i).press=(c.ls[me].drop (c.has i)).take 32:=by show((c.mine me).drop (c.has i)).take 32=_;rw[hmine]
 have hk2:kindP (inputM c me mk i)=1:=rfl;have hk4:(inputM c me mk i).first=c.has i:=rfl;have hk6:(inputM c me mk i).ack=c.ls[i].length:=hack;have hk7:(inputM c me mk i).frame=mk.length:=rfl;have hk8:(inputM c me mk i).sum=mk.getLastD 0:=rfl;have hk9:(inputM c me mk i).dst=i:=rfl;rw[hk2,hk4,hk6,hk7,hk8,hk9,hpr]at Hmail;generalize encPk cf.id (inputM c me mk i)=EP at *;generalize (c.ls[me].drop (c.has i)).take 32=pr at *;generalize c.ls[i].length=ack at *;generalize c.has i=has at *;unfold ptrV mailV at *;clear h h1 h2 h3 hk hpk hmine hack hpr hk2 hk4 hk6 hk7 hk8 hk9 c0 c2 c3 c4 c5 c6 c7 c8 c9 c13 c14 c15;go_enter func309,ntmps309;go_upto_region 1 with fail
 generalize hW:World.alloc w _=W0;have x0:Ext w W0:=by subst hW;exact Ext.alloc _ _
 have bM:Has W0 (fun _=>0) 0 w.heap.size [.int .i64 0,.int .i64 0,.slice none 0 0]:=by subst hW;exact Has.new w (fun _=>0) _ 176 rfl
 clear hW;have HM:=hqd bM;have hbl:=bM.lt;clear bM;generalize hgm:w.heap.size=gm at *;have d1:=x0.cell c1;have d10:=x0.cell c10;have d11:=x0.cell c11;have d12:=x0.cell c12;have q0:=x0.cell p0;apply wrN 22;simp only[tk];repeat apply lxA (fun _ h _=>aj (h.cell d10) (aj (h.cell d11) (aj (h.cell d12) (h.cell q0))))
 apply lxC (fun W hR=>HL.out W (x0.trans hR));repeat apply lxA (fun _ h _=>aj (h.cell d10) (aj (h.cell d11) (aj (h.cell d12) (h.cell q0))))
 apply lxC (fun W hR=>Hlen.out W (x0.trans hR));repeat apply lxA (fun _ h _=>aj (h.cell d10) (aj (h.cell d11) (aj (h.cell d12) (h.cell q0))))
 apply lex_new (p:=fun u W=>∃ g,u = .pointer (some ⟨g,0,none⟩)∧W0.heap.size≤g∧Has W (fun _=>0) 0 g [.int .i64 0,.int .i64 0,.int .i64 0,.int .i64 0,.int .i64 0,.slice none 0 0,.int .i64 0,.int .i64 0,.int .u32 0]) (fun _ _ _ ⟨g,hv,hg,h⟩ he=>⟨g,hv,hg,h.ext he⟩)
 ·rfl
 ·intro W hR hΦ
  refine⟨.pointer (some ⟨W.heap.size,0,none⟩),W.alloc (.cells #[.int .i64 0,.int .i64 0,.int .i64 0,.int .i64 0,.int .i64 0,.slice none 0 0,.int .i64 0,.int .i64 0,.int .u32 0] 34),?_,Ext.alloc _ _,W.heap.size,rfl,hR.size,Has.new W (fun _=>0) _ 34 rfl⟩;go_simp;first|done|rfl
 intro v1;simp only[pu];refine lex_nil ?_;intro Wx hWx hΦ;obtain⟨g,rfl,hg0,hg⟩:=hΦ.1 rfl;clear hΦ d1 d10 d11 d12 q0;simp only[dk];have hl9:[Value.int .i64 1,.int .i64 0,.int .i64 0,.int .i64 0,.int .i64 (has:Nat),.slice none 0 0,.int .i64 (ack:Nat),.int .i64 (mk.length:Nat),.int .u32 0].length=9:=rfl;have hv9:[Value.int .i64 0,.int .i64 0,.int .i64 0,.int .i64 0,.int .i64 0,.slice none 0 0,.int .i64 0,.int .i64 0,.int .u32 0].length=9:=rfl;have h19:∀ u∈[Value.int .i64 1,.int .i64 0,.int .i64 0,.int .i64 0,.int .i64 (has:Nat),.slice none 0 0,.int .i64 (ack:Nat),.int .i64 (mk.length:Nat),.int .u32 0],u.oneCell'=true:=by simp[Value.oneCell']
 go_wp2_with (first|(with_reducible refine wpList_store_st rfl 34 (.tmp 5) (.tmp 27) rfl rfl (us:=[.int .i64 1,.int .i64 0,.int .i64 0,.int .i64 0,.int .i64 (has:Nat),.slice none 0 0,.int .i64 (ack:Nat),.int .i64 (mk.length:Nat),.int .u32 0]) rfl hg hl9 hv9 size_pkt h19 ?_;intro W1 hg1 g1 s1))
 have x1:Ext w W1:=Ext.own (B:=some ⟨g,0,none⟩) (x0.trans hWx) g1 (fun k hk=>by have h9:g=k:=Option.some.inj hk;have:=x0.size;omega);have hgne:g≠gm:=by omega
 have HM1:=hqd ((HM.out.ext hWx).grown g1 (by simp;omega));have hWs:=hWx.size;clear hWx x0 HM hl9 hv9 h19 hg g1;have d1:=x1.cell c1;have d10:=x1.cell c10;have k4:=hg1.cell (i:=4) rfl;apply wrN 14;simp only[tk];repeat apply lxA (fun _ h _=>aj (h.cell d1) (aj (h.cell d10) (h.cell k4)))
 apply lxC (fun W hR=>HL2.out W (x1.trans hR));repeat apply lxA (fun _ h _=>aj (h.cell d1) (aj (h.cell d10) (h.cell k4)))
 apply lex_call (p:=fun u W=>∃ B m bd,u = .slice B m bd∧Own W W1.heap.size 5 1 B m bd (bcs pr)) (fun _ _ _ ⟨B,m,bd,hv,h1⟩ he=>⟨B,m,bd,hv,h1.ext he⟩)
 ·rfl
 ·intro W
  go_simp;exact⟨rfl,rfl⟩
 ·intro W hR hΦ
  refine(Hfrom.out W (x1.trans hR)).mono ?_;rintro e w' ⟨B,m,bd,rfl,ho,he⟩;exact⟨_,rfl,he,B,m,bd,rfl,ho.mono hR.size⟩
 intro v1;simp only[pu];repeat apply lxA (fun _ h _=>aj (h.cell d1) (aj (h.cell d10) (h.cell k4)))
 refine lex_nil ?_;intro Wx hWx hΦ;obtain⟨B,m,bd,rfl,hB⟩:=hΦ.1 rfl;clear hΦ d1 d10 k4;simp only[dk];have x2:=x1.trans hWx;have hg2:=hg1.ext hWx;have HM2:=hqd (HM1.out.ext hWx);have k5:=hg2.cell (i:=5) rfl;have f5:=hg2.free 5;clear x1 HM1;go_upto_region 3 with fail
 generalize hW3:World.setCell _ ⟨g,5,none⟩ _=W3;have hg3:Has W3 (fun _=>0) 0 g [.int .i64 1,.int .i64 0,.int .i64 0,.int .i64 0,.int .i64 (has:Nat),.slice B m bd,.int .i64 (ack:Nat),.int .i64 (mk.length:Nat),.int .u32 0]:=by subst hW3;exact hg2.set 5 (.slice B m bd)
 have gg3:Wx.grownBy W3 (some g):=by subst hW3;exact setc_grown _ _ _
 have x3:Ext w W3:=Ext.own (B:=some ⟨g,0,none⟩) x2 gg3 (fun k hk=>by have h9:g=k:=Option.some.inj hk;omega);have HM3:=hqd (HM2.out.grown gg3 (by simp;omega));have hgs1:g<W1.heap.size:=hg1.lt;have hB3:Rb W3 B m bd pr:=Rb.of (hB.kept gg3 (by
  rcases hb:blk B with _|k
  ·exact .inl rfl
  ·refine .inr fun e=>?_
   have h1:=hB.blk_ge k hb;have h2:k=g:=Option.some.inj e;omega)).rd rfl
 have hBg:∀ k,blk B=some k→k≠g:=fun k hk e=>by have:=hB.blk_ge k hk;omega
 clear hW3 gg3 HM2 x2 hg2 k5 f5 hB;have d12:=x3.cell c12;rcases Nat.eq_zero_or_pos mk.length with hm0|hm0
 ·have hmn:mk=[]:=List.eq_nil_of_length_eq_zero hm0
  have hlast:mk.getLastD 0=0:=by rw[hmn];rfl
  rw[hlast,Int.natCast_zero]at Hmail;have hmz:decide (0<mk.length)=false:=decide_eq_false (by omega);have hmz':decide ((0:Int)<(mk.length:Int))=false:=decide_eq_false (by omega);clear hlast hmn hm0;generalize mk.length=ml at *;have hl9:[Value.int .i64 1,.int .i64 0,.int .i64 0,.int .i64 0,.int .i64 (has:Nat),.slice B m bd,.int .i64 (ack:Nat),.int .i64 (ml:Nat),.int .u32 0].length=9:=rfl;go_wp2_with (first|(with_reducible refine wpList_load_st rfl 34 (.tmp 5) rfl rfl underlying34 size_pkt hl9 hg3.all ?_))
  refine(Hmail.out W3 x3 B m bd hB3).mono ?_;rintro e w5 ⟨B5,bd5,rfl,ho5,e5⟩;have bM5:=HM3.out.ext e5;have hx5:=x3.trans e5;have hl3:[Value.int .i64 (me:Nat),.int .i64 (i:Nat),.slice B5 EP.length bd5].length=3:=rfl;have hv3:[Value.int .i64 0,.int .i64 0,.slice none 0 0].length=3:=rfl;have h13:∀ u∈[Value.int .i64 (me:Nat),.int .i64 (i:Nat),.slice B5 EP.length bd5],u.oneCell'=true:=by simp[Value.oneCell']
  have hgw:gm<W3.heap.size:=HM3.out.lt;go_wp2_with (first|(with_reducible refine wpList_store_st rfl 176 (.tmp 4) (.tmp 61) rfl rfl (us:=[.int .i64 (me:Nat),.int .i64 (i:Nat),.slice B5 EP.length bd5]) rfl bM5 hl3 hv3 size_mail h13 ?_;intro Z bZ gZ sZ));have eZ:=Ext.own (B:=some ⟨gm,0,none⟩) hx5 gZ (fun k hk=>by have h9:gm=k:=Option.some.inj hk;omega);have hBZ:Own Z w.heap.size 5 1 B5 EP.length bd5 (bcs EP):=(ho5.kept gZ (by
   rcases hb:blk B5 with _|k
   ·exact .inl rfl
   ·refine .inr fun e=>?_
    have h1:=ho5.blk_ge k hb;have h2:k=gm:=Option.some.inj e;omega)).mono (x3.size)
  exact bodyPost_ret (result_st rfl _ rfl bZ underlying176 size_mail) rfl ⟨B5,bd5,rfl,hgm▸hBZ,eZ⟩
 ·obtain⟨m1,hm1⟩:∃ m1,mk.length-1=m1:=⟨_,rfl⟩
  have hm1l:m1<mk.length:=by omega
  obtain⟨gk,rfl,hmc,_,_⟩:=Hm.out m1 hm1l;have hlast:mk.getD m1 0=mk.getLastD 0:=by
   rw[List.getLastD_eq_getLast?,List.getLast?_eq_getElem?,hm1,List.getD_eq_getElem?_getD]
  rw[hlast]at hmc;have hmz:decide (0<mk.length)=true:=decide_eq_true (by omega);have hmz':decide ((0:Int)<(mk.length:Int))=true:=decide_eq_true (by omega);have hw:IntKind.i64.wrap ((mk.length:Int)-1)=(m1:Nat):=by rw[IntWalk.i64_in _ (by omega)];omega
  replace hmc:=x3.cell hmc;have k8:=hg3.cell (i:=8) rfl;have f8:=hg3.free 8;clear hlast hm1;generalize mk.getLastD 0=sm at *;go_upto_region 6 with fail
  generalize hW4:World.setCell _ ⟨g,8,none⟩ _=W4;have hg4:Has W4 (fun _=>0) 0 g [.int .i64 1,.int .i64 0,.int .i64 0,.int .i64 0,.int .i64 (has:Nat),.slice B m bd,.int .i64 (ack:Nat),.int .i64 (mk.length:Nat),.int .u32 (sm:Nat)]:=by subst hW4;exact hg3.set 8 (.int .u32 (sm:Nat))
  have gg4:W3.grownBy W4 (some g):=by subst hW4;exact setc_grown _ _ _
  have hgw9:w.heap.size≤g:=by omega
  have x4:Ext w W4:=Ext.own (B:=some ⟨g,0,none⟩) x3 gg4 (fun k hk=>by have h9:g=k:=Option.some.inj hk;omega);have HM4:=hqd (HM3.out.grown gg4 (by simp;omega));have hB4:Rb W4 B m bd pr:=Rb.of_blocks' hB3 (fun h0 k hk=>gg4.block k (Rd.lt' hB3 (by omega) hk) (fun e=>hBg k hk (Option.some.inj e)));clear hW4 gg4 HM3 x3 hg3 k8 f8 hB3 hmc;have hl9:[Value.int .i64 1,.int .i64 0,.int .i64 0,.int .i64 0,.int .i64 (has:Nat),.slice B m bd,.int .i64 (ack:Nat),.int .i64 (mk.length:Nat),.int .u32 (sm:Nat)].length=9:=rfl;go_wp2_with (first|(with_reducible refine wpList_load_st rfl 34 (.tmp 5) rfl rfl underlying34 size_pkt hl9 hg4.all ?_))
  refine(Hmail.out W4 x4 B m bd hB4).mono ?_;rintro e w5 ⟨B5,bd5,rfl,ho5,e5⟩;have bM5:=HM4.out.ext e5;have hx5:=x4.trans e5;have hl3:[Value.int .i64 (me:Nat),.int .i64 (i:Nat),.slice B5 EP.length bd5].length=3:=rfl;have hv3:[Value.int .i64 0,.int .i64 0,.slice none 0 0].length=3:=rfl;have h13:∀ u∈[Value.int .i64 (me:Nat),.int .i64 (i:Nat),.slice B5 EP.length bd5],u.oneCell'=true:=by simp[Value.oneCell']
  have hgw:gm<W4.heap.size:=HM4.out.lt;go_wp2_with (first|(with_reducible refine wpList_store_st rfl 176 (.tmp 4) (.tmp 61) rfl rfl (us:=[.int .i64 (me:Nat),.int .i64 (i:Nat),.slice B5 EP.length bd5]) rfl bM5 hl3 hv3 size_mail h13 ?_;intro Z bZ gZ sZ));have eZ:=Ext.own (B:=some ⟨gm,0,none⟩) hx5 gZ (fun k hk=>by have h9:gm=k:=Option.some.inj hk;omega);have hBZ:Own Z w.heap.size 5 1 B5 EP.length bd5 (bcs EP):=(ho5.kept gZ (by
   rcases hb:blk B5 with _|k
   ·exact .inl rfl
   ·refine .inr fun e=>?_
    have h1:=ho5.blk_ge k hb;have h2:k=gm:=Option.some.inj e;omega)).mono (x4.size)
  exact bodyPost_ret (result_st rfl _ rfl bZ underlying176 size_mail) rfl ⟨B5,bd5,rfl,hgm▸hBZ,eZ⟩
end
theorem info_mail:(prog.info? 176).map (fun i=>(i.zero,i.size,i.bytes))=some (some (.agg #[.int .i64 0,.int .i64 0,.slice none 0 0]),3,40):=by kernel_rfl
def mailC(id:Nat)(k:Pk)(h:Option Addr×Nat):List Value:=[.int .i64 (k.src:Nat),.int .i64 (k.dst:Nat),.slice h.1 (encPk id k).length h.2]
def mailsC(id:Nat):List Pk→List (Option Addr×Nat)→List Value
 | k::ks,h::hs=>mailC id k h++mailsC id ks hs
 | _,_=>[]
theorem mailsC_app(id:Nat)(k:Pk)(h:Option Addr×Nat):∀(ks:List Pk) (hs:List (Option Addr×Nat)),hs.length=ks.length→mailsC id (ks++[k]) (hs++[h])=mailsC id ks hs++mailC id k h
 | [],[],_=>by simp[mailsC]
 | k'::ks,h'::hs,e=>by
  rw[List.cons_append,List.cons_append,mailsC,mailsC,mailsC_app id k h ks hs (by simpa using e),List.append_assoc]
theorem mailsC_one(id:Nat):∀(ks:List Pk) (hs:List (Option Addr×Nat)),∀ u∈mailsC id ks hs,u.oneCell'=true
 | [],_,u,hu=>by simp[mailsC]at hu
 | _::_,[],u,hu=>by simp[mailsC]at hu
 | k::ks,h::hs,u,hu=>by
  rw[mailsC,List.mem_append]at hu;rcases hu with hu|hu
  ·simp only[mailC,List.mem_cons,List.not_mem_nil,or_false]at hu
   rcases hu with rfl|rfl|rfl<;>rfl
  ·exact mailsC_one id ks hs u hu
theorem mailsC_get(id:Nat):∀(ks:List Pk) (hs:List (Option Addr×Nat)) (i j:Nat),hs.length=ks.length→(hi:i<ks.length)→(hi':i<hs.length)→j<3→(mailsC id ks hs)[i*3+j]?=(mailC id ks[i] hs[i])[j]?
 | k::ks,h::hs,0,j,e,_,_,hj=>by
  rw[mailsC,List.getElem?_append_left (by simp[mailC];omega)];simp
 | k::ks,h::hs,i+1,j,e,hi,hi',hj=>by
  have hl:(mailC id k h).length=3:=rfl;rw[mailsC,List.getElem?_append_right (by rw[hl];omega),hl,show(i+1)*3+j-3=i*3+j by omega,mailsC_get id ks hs i j (by simpa using e) (by simpa using hi) (by simpa using hi') hj];simp
def Mls(w:World)(base id:Nat)(B:Option Addr)(n d:Nat)(ks:List Pk):Prop :=
 ∃ hs:List (Option Addr×Nat),hs.length=ks.length∧n=ks.length∧Own w base 176 3 B n d (mailsC id ks hs)∧∀(i:Nat) k h,ks[i]?=some k→hs[i]?=some h→(Rb w h.1 (encPk id k).length h.2 (encPk id k)∧Off B h.1 (encPk id k))∧∀ g,blk h.1=some g→base≤g
section
variable {w w' W wy:World} {base id:Nat} {A B E:Option Addr} {n d bd Ed:Nat} {ks:List Pk} {k:Pk}
theorem Mls.nil_(w:World)(base id:Nat):Mls w base id none 0 0 []:=⟨[],rfl,rfl,Own.nil_ _ _ _ _,fun i k h hi=>by simp at hi⟩
theorem Mls.app{hs:List (Option Addr×Nat)}(h1:hs.length=ks.length)(h2:n=ks.length)(ho:Own w base 176 3 B n d (mailsC id ks hs))(he:∀(i:Nat) k h,ks[i]?=some k→hs[i]?=some h→(Rb w h.1 (encPk id k).length h.2 (encPk id k)∧Off B h.1 (encPk id k))∧∀ g,blk h.1=some g→base≤g)
  (hb:base≤w.heap.size) (hx:Ext w W) (hr:Rb W A (encPk id k).length bd (encPk id k)) (hA:∀ g,blk A=some g→w.heap.size≤g) (hoE:Own wy base 176 3 E (n+1) Ed (mailsC id ks hs++mailC id k (A,bd))) (hg:W.grownBy wy (blk B)) (hw:blk E=blk B∨∀ k,blk E=some k→W.heap.size≤k) :
  Mls wy base id E (n+1) Ed (ks++[k]):=by
 refine⟨hs++[(A,bd)],by simp[h1],by simp[h2],by rw[mailsC_app id k _ ks hs h1];exact hoE,fun i k' h hk hi=>?_⟩;have key:∀ A' m' c' (l':List UInt8),Rb W A' m' c' l'→Off B A' l'→Rb wy A' m' c' l'∧Off E A' l':=by
  intro A' m' c' l' h1 h2;have hlen:=h1.len;refine⟨Rd.of_blocks h1 fun h0 k hk=>hg.block k (Rd.lt' h1 h0 hk) (fun e=>h2 (by omega) k hk e.symm),fun h0 g hg2=>?_⟩;rcases hw with h|h
  ·rw[h];exact h2 h0 g hg2
  ·intro e
   have:=h g e;have:=Rd.lt' h1 (by omega) hg2;omega
 by_cases hil:i<ks.length
 ·rw[List.getElem?_append_left (by omega)]at hi
  rw[List.getElem?_append_left hil]at hk;obtain⟨⟨h1,h2⟩,h3⟩:=he i k' h hk hi;exact⟨key _ _ _ _ (h1.ext hx) h2,h3⟩
 ·have hie:i=ks.length:=by
   have:=(List.getElem?_eq_some_iff.1 hk).1;rw[List.length_append,List.length_singleton]at this;omega
  subst hie;rw[← h1,List.getElem?_append_right (Nat.le_refl _)]at hi;rw[List.getElem?_append_right (Nat.le_refl _)]at hk;simp only[Nat.sub_self,List.getElem?_cons_zero,Option.some.injEq]at hi hk;subst hi;subst hk;refine⟨key _ _ _ _ hr fun h0 g hg2 e=>?_,fun g hg2=>Nat.le_trans hb (hA g hg2)⟩;have h1:=hA g hg2;obtain⟨a,ha,hab⟩:=Option.map_eq_some_iff.1 e;have:=(ho.base_le a ha).2;rw[hab]at this;omega
def MlsT(w:World)(T:Tg)(base id:Nat)(B:Option Addr)(n d:Nat)(ks:List Pk):Prop:=∃ m,base≤m∧Mls w m id B n d ks∧∀ k,m≤k→T k=0
end
section
variable {w w':World} {T T':Tg} {t b:Nat} {cf:Cf} {me qb:Nat} {ps:Nat→Nat} {c:Cr} {mk:List Nat}
theorem CoreAt.setNow(h:CoreAt w T t b cf me qb ps c mk)(hu:Unborn w T)(m:Nat):Turn (· = t) w T (w.setCell ⟨b,14,none⟩ (.int .i64 (m:Nat))) T∧CoreAt (w.setCell ⟨b,14,none⟩ (.int .i64 (m:Nat))) T t b cf me qb ps {c with now:=m} mk:=by
 obtain⟨⟨PA,pc,MA,mc,EA,ec,h1,h2,h3,h4⟩,h5⟩:=h;obtain⟨hT,hH⟩:=h1.put (S:=(· = t)) hu 14 (.int .i64 (m:Nat)) rfl;exact⟨hT,⟨PA,pc,MA,mc,EA,ec,hH.is rfl,h2.turn hT (by omega),h3.turn hT (by omega),h4.turn hT (by omega)⟩,h5.turn hT fun k _=>by omega⟩
theorem CoreAt.setClosed(h:CoreAt w T t b cf me qb ps c mk)(hu:Unborn w T):Turn (· = t) w T (w.setCell ⟨b,15,none⟩ (.bool true)) T∧CoreAt (w.setCell ⟨b,15,none⟩ (.bool true)) T t b cf me qb ps {c with closed:=true} mk:=by
 obtain⟨⟨PA,pc,MA,mc,EA,ec,h1,h2,h3,h4⟩,h5⟩:=h;obtain⟨hT,hH⟩:=h1.put (S:=(· = t)) hu 15 (.bool true) rfl;exact⟨hT,⟨PA,pc,MA,mc,EA,ec,hH.is rfl,h2.turn hT (by omega),h3.turn hT (by omega),h4.turn hT (by omega)⟩,h5.turn hT fun k _=>by omega⟩
theorem CoreAt.cells(h:CoreAt w T t b cf me qb ps c mk):∃ PA MA EA pc mc ec,CoreC w b cf me qb c PA MA EA pc mk.length mc ec∧w.frozen? ⟨b,14,none⟩=false∧w.frozen? ⟨b,15,none⟩=false∧cf.n≤pc∧pc≤maxLen∧(∀ i,i<cf.n→∃ g,PA=some ⟨g,0,none⟩∧w.cell? ⟨g,i*5+1,none⟩=some (.int .i64 (c.heard i:Nat))):=by
 obtain⟨⟨PA,pc,MA,mc,EA,ec,h1,h2,h3,h4⟩,h5⟩:=h;refine⟨PA,MA,EA,pc,mc,ec,coreC h1,h1.free 14,h1.free 15,h2.rd.2.1,h2.rd.2.2.1,fun i hi=>?_⟩;obtain⟨g,e,_,h9,_⟩:=peer_cells h2 hi;exact⟨g,e,h9⟩
theorem CrOk.setNow(h:CrOk cf me c mk){m:Nat}(hm:m≤1000000)(hc:c.now≤m):CrOk cf me {c with now:=m} mk:=⟨h.ok,h.me,h.len,h.short,hm,h.evs,h.has,fun i=>Nat.le_trans (h.heard i) hc,h.words,h.marks,h.sums⟩
theorem Mls.mono{base base' id:Nat}{B:Option Addr}{n d:Nat}{ks:List Pk}(h:Mls w base id B n d ks)(hb:base'≤base):Mls w base' id B n d ks:=by
 obtain⟨hs,h1,h2,h3,h4⟩:=h;exact⟨hs,h1,h2,h3.mono hb,fun i k a hk ha=>⟨(h4 i k a hk ha).1,fun g hg=>Nat.le_trans hb ((h4 i k a hk ha).2 g hg)⟩⟩
theorem others_lt(h:CrOk cf me c mk){i:Nat}(hi:i∈c.others me):i<cf.n∧i≠me:=by
 unfold Cr.others at hi;rw[List.mem_filter,List.mem_range,h.len]at hi;exact⟨hi.1,by simpa using hi.2⟩
def ticksM(c:Cr)(me:Nat)(mk:List Nat):List Pk:=if c.closed then [] else match c.late me with
 | some _=>[]
 | none=>(c.others me).map (inputM c me mk)
theorem find_at{p:Nat→Bool}{ll:List Nat}{j:Nat}(h:(ll.take j).find? p=none)(hj:j<ll.length)(hp:p ll[j]=true):ll.find? p=some ll[j]:=by
 have h1:ll=ll.take j++ll[j]::ll.drop (j+1):=by rw[List.getElem_cons_drop,List.take_append_drop]
 generalize ll[j]=x at *;rw[h1,List.find?_append,h,List.find?_cons_of_pos hp];rfl
theorem find_on{p:Nat→Bool}{ll:List Nat}{j:Nat}(h:(ll.take j).find? p=none)(hj:j<ll.length)(hp:p ll[j]=false):(ll.take (j+1)).find? p=none:=by
 rw[List.take_succ_eq_append_getElem hj,List.find?_append,h,List.find?_cons_of_neg (by rw[hp];decide)]
 rfl
theorem core_tick(h:CoreAt w T t b cf me qb ps c mk)(hk:CrOk cf me c mk)(hu:Unborn w T)(hnow:c.now<1000000):Calls prog 290 #[ptrV b] w (Gives (In t 22) w T fun v w' T'=>∃ B n d,v = .slice B n d∧MlsT w' T' w.heap.size cf.id B n d (ticksM c me mk)∧CoreAt w' T' t b cf me qb ps (c.tick me) mk):=by
 obtain⟨i0,hi,hz0,hz1,hz2⟩:=info_parts info_mail;have H1:=hqd (core_closed h);unfold ticksM Cr.tick;by_cases hcl:c.closed=true
 ·rw[hcl]at H1
  rw[if_pos hcl,if_pos hcl];have Hh:=hqd h;unfold ptrV at *;clear h hk;go_enter func290,ntmps290;go_wp2_with fail;refine H1.out.mono ?_;rintro e w1 ⟨rfl,rfl⟩;go_wp2_with fail;go_ret;exact⟨_,rfl,T,Turn.refl _ hu,none,0,0,rfl,⟨_,Nat.le_refl _,Mls.nil_ _ _ _,hu⟩,Hh.out⟩
 have hcf:c.closed=false:=by simpa using hcl
 rw[if_neg hcl,if_neg hcl];rw[hcf]at H1;obtain⟨PA,MA,EA,pc,mc,ec,hC,f14,_,_,_,_⟩:=h.cells;have c14:=hC.c14;obtain⟨hT1,hA1⟩:=h.setNow hu (c.now+1);have hk1:=hk.setNow (m:=c.now+1) hnow (Nat.le_succ _);have hoth:c.others me=({c with now:=c.now+1}:Cr).others me:=rfl;have hinp:inputM c me mk=inputM {c with now:=c.now+1} me mk:=rfl;have Ho:=hqd fun W (e:Ext (w.setCell ⟨b,14,none⟩ (.int .i64 ((c.now+1:Nat):Int))) W)=>core_others (hA1.ext e) hk1;rw[← hoth]at Ho;have hmem:∀ j (hj:j<(c.others me).length),(c.others me)[j]<cf.n∧(c.others me)[j]≠me:=fun j hj=>others_lt hk (List.getElem_mem hj);have hn8:=hk.ok.n8;have hol:(c.others me).length≤8:=by
  have h1:=othersTo_len me cf.n;have h2:c.others me=othersTo me cf.n:=by unfold Cr.others;rw[hk.len];rfl
  rw[h2];omega
 obtain⟨PA1,MA1,EA1,pc1,mc1,ec1,hC1,_,_,hpc,hpm,hheard⟩:=hA1.cells;have d14:=hC1.c14;have d11:=hC1.c11;have hhd:∀ x,c.heard x≤c.now:=hk.heard;have Hhe:=hqd hhd;have Hhc:=hqd hheard;have Hin:=hqd fun W (e:Ext (w.setCell ⟨b,14,none⟩ (.int .i64 ((c.now+1:Nat):Int))) W) i (hi:i<cf.n) (hne:i≠me)=>core_input (hA1.ext e) hk1 hi hne;have Hno:=hqd fun W (e:Ext (w.setCell ⟨b,14,none⟩ (.int .i64 ((c.now+1:Nat):Int))) W) x (hx:x<8)=>core_note (hA1.ext e) hk1 (hT1.unborn.ext e) 2 x ⟨.inr rfl,hx⟩;rw[← hinp]at Hin;have HA:=hqd hA1;have HT:=hqd hT1;have Hmem:=hqd hmem;have Hla:=hqd (show c.late me=(c.others me).find? fun i=>decide (40≤c.now+1-c.heard i) from rfl);have hw:IntKind.i64.wrap ((c.now:Int)+1)=((c.now+1:Nat):Int):=by rw[IntWalk.i64_in _ (by omega)];omega
 have Him:=hqd (show(∀ x,(inputM c me mk x).src=me)∧∀ x,(inputM c me mk x).dst=x from⟨fun _=>rfl,fun _=>rfl⟩);unfold ptrV mailV at *;generalize c.late me=la at *;generalize c.others me=ll at *;generalize inputM c me mk=im at *;generalize c.heard=he at *;generalize hnw:c.now=nw at *;clear h hk hC hA1 hT1 hk1 hoth hinp hmem hC1 hhd hheard;unfold maxLen at hpm;go_enter func290,ntmps290;go_wp2_with fail;refine H1.out.mono ?_;rintro e w1 ⟨rfl,rfl⟩;go_wp2_with fail;rw[show((nw:Int)+1)=((nw+1:Nat):Int) by omega];generalize hWs:World.setCell w1 _ _=ws at *;have hws:ws.heap.size=w1.heap.size:=by subst hWs;simp[World.setCell]
 clear hWs c14 f14 hcf hcl;refine(Ho.out ws (Ext.refl _)).mono ?_;rintro e w2 ⟨BO,dO,rfl,hO,e2⟩;have d14:=e2.cell d14;have d11:=e2.cell d11;go_wp2_with fail;go_loopw [20] (fun iv wr=>∃(j:Nat),iv = .int .i64 (j:Nat)∧j≤ll.length∧(ll.take j).find? (fun i=>decide (40≤nw+1-he i))=none∧Ext w2 wr) (fun iv _=>ll.length-(intOf iv).toNat)
 case atStart=>exact⟨0,rfl,Nat.zero_le _,by simp,Ext.refl _⟩
 case round =>
  obtain⟨j,rfl,hj,hF,hE⟩:=hrel;have HF:=hqd hF;clear hF;by_cases hjl:j<ll.length
  ·have hd1:decide (j<ll.length)=true:=decide_eq_true hjl
   obtain⟨bO,oO,rfl,hcO⟩:=hO.rd.2.2.2 (by omega);have hcj:=hE.cell (hcO j (.int .i64 (ll[j]:Nat)) (by simp[intC,hjl]));obtain⟨hx1,hx2⟩:=Hmem.out j hjl;have hxx:ll[j]=ll[j]:=rfl;have HFa:=hqd fun hp=>find_at HF.out hjl hp;have HFo:=hqd fun hp=>find_on HF.out hjl hp;clear HF;generalize ll[j]=x at *;obtain⟨gp,rfl,hpc9⟩:=Hhc.out x hx1;have hpx:=hE.cell (e2.cell hpc9);have q14:=hE.cell d14;have q11:=hE.cell d11;have hhx:=Hhe.out x;have hw2:IntKind.i64.wrap ((nw:Int)+1-(he x:Int))=((nw+1-he x:Nat):Int):=by rw[IntWalk.i64_in _ (by omega)];omega
   clear hpc9;by_cases hlt:40≤nw+1-he x
   ·have hd2:decide ((40:Int)≤((nw+1-he x:Nat):Int))=true:=decide_eq_true (by omega)
    have hfx:=HFa.out (decide_eq_true hlt);obtain rfl:la=some x:=Hla.out.trans hfx;clear hfx Hla;generalize nw+1-he x=dd at *;go_wp2_with fail;apply wrA trivial;repeat apply lxA (fun _ h _=>aj (h.cell q14) (aj (h.cell q11) (h.cell hpx)))
    refine lex_nil ?_;intro Wx hWx hΦ;clear hΦ;have x6:=(e2.trans hE).trans hWx;have Hn:=hqd (Hno.out Wx x6 x (by omega));go_wp2_with fail;refine Hn.out.mono ?_;rintro e w7 ⟨rfl,T7,hT7,hA7⟩;obtain⟨PA7,MA7,EA7,pc7,mc7,ec7,hC7,_,f7,_,_,_⟩:=hA7.cells;have c7:=hC7.c15;obtain⟨hT8,hA8⟩:=hA7.setClosed hT7.unborn;have HA8:=hqd hA8;clear hC7 hA7 hA8;go_wp2_with fail;go_ret;have hTT:=((((HT.out.mono fun k hk=>(show In t 22 k by subst hk;unfold In;omega)).ext x6).trans hT7).trans (hT8.mono fun k hk=>(show In t 22 k by subst hk;unfold In;omega)));exact⟨_,rfl,T7,hTT,none,0,0,rfl,⟨_,hTT.size,Mls.nil_ _ _ _,hTT.unborn⟩,HA8.out⟩
   ·have hd2:decide ((40:Int)≤((nw+1-he x:Nat):Int))=false:=decide_eq_false (by omega)
    have hfx:=HFo.out (decide_eq_false hlt);have Hfx:=hqd hfx;clear hfx;generalize nw+1-he x=dd at hw2 hd2;go_wp2_with fail;apply wrA trivial;repeat apply lxA (fun _ h _=>aj (h.cell q14) (aj (h.cell q11) (h.cell hpx)))
    refine lex_nil ?_;intro Wx hWx hΦ;clear hΦ;go_wp2_with fail;go_roundw
    case rel=>exact⟨j+1,by go_num,by omega,Hfx.out,hE.trans hWx⟩
    case measure=>simp[intOf];omega
  ·obtain rfl:j=ll.length:=by omega
   have hd1:decide (ll.length<ll.length)=false:=decide_eq_false (by omega);rw[List.take_length]at HF;have hla:la=none:=by rw[Hla.out];exact HF.out
   clear Hla HF;subst hla;have x3:=e2.trans hE;clear Hhc Hno;go_wp2_with fail;refine(Ho.out wr x3).mono ?_;rintro e w3 ⟨B2,d2,rfl,hO2,e3⟩;have x4:=x3.trans e3;clear Ho hE d14 d11;generalize hZ:wr.heap.size=z at *;go_wp2_with fail;go_loopw [3,49] (fun v iv ww=>∃(j:Nat) (B:Option Addr) (n d:Nat),iv = .int .i64 (j:Nat)∧j≤ll.length∧v = .slice B n d∧Mls ww w3.heap.size cf.id B n d ((ll.take j).map im)∧Ext w3 ww) (fun _ iv _=>ll.length-(intOf iv).toNat)
   case atStart=>exact⟨0,none,0,0,rfl,Nat.zero_le _,rfl,Mls.nil_ _ _ _,Ext.refl _⟩
   case round =>
    obtain⟨j,B,n,d,rfl,hj,rfl,hM,hE⟩:=hrel;have hHM:=hqd hM;obtain⟨hs,m1,m2,m3,m4⟩:=hM;have hnj:n=j:=by rw[m2,List.length_map,List.length_take];omega
    subst hnj;have M1:=hqd m1;have M2:=hqd m2;have M4:=hqd m4;clear m1 m2 m4;by_cases hjl:n<ll.length
    ·have hd1:decide (n<ll.length)=true:=decide_eq_true hjl
     obtain⟨bO,oO,rfl,hcO⟩:=hO2.rd.2.2.2 (by omega);have hcj:=hE.cell (hcO n (.int .i64 (ll[n]:Nat)) (by simp[intC,hjl]));obtain⟨hx1,hx2⟩:=Hmem.out n hjl;have Hm:=hqd (Hin.out wr (x4.trans hE) ll[n] hx1 hx2);have hsu:=hqd (show(ll.take (n+1)).map im=(ll.take n).map im++[im ll[n]] by rw[List.take_succ_eq_append_getElem hjl,List.map_append];rfl);have h9:=hE.size;generalize ll[n]=x at *;go_wp2_with fail;refine Hm.out.mono ?_;rintro e w5 ⟨B5,bd5,rfl,ho5,e5⟩;have h95:=e5.size;have x5:=(x4.trans hE).trans e5;have hs5:(im x).src=me∧(im x).dst=x:=⟨Him.out.1 x,Him.out.2 x⟩;have Hs5:=hqd hs5;clear hs5;generalize hEP:encPk cf.id (im x)=EP at *;have HEP:=hqd hEP;clear hEP;go_wp2_with (at_builtin;refine wpList_append_new _ rfl _ _ 190 rfl w3.heap.size 176 i0 (.agg #[.int .i64 0,.int .i64 0,.slice none 0 0]) 3 40 underlying190 hi hz0 hz1 hz2 rfl (by decide) B n d _ rfl (m3.ext e5) 1 [.int .i64 (me:Nat),.int .i64 (x:Nat),.slice B5 EP.length bd5] rfl rfl (by simp[Value.oneCell']) (by unfold maxLen;omega) (by omega) (by omega) ?_;intro E Ed wy hoE hgE hwE);go_roundw
     case rel =>
      refine⟨n+1,E,n+1,Ed,by go_num,by omega,rfl,?_,?_⟩
      ·rw[hsu.out]
       obtain hEP:=HEP.out;obtain⟨q1,q2⟩:=Hs5.out;subst hEP;refine Mls.app M1.out M2.out m3 M4.out hE.size e5 (Rb.of ho5.rd rfl) (fun g hg=>ho5.blk_ge g hg) ?_ hgE hwE;unfold mailC;rw[q1,q2];exact hoE
      ·exact Ext.own (hE.trans e5) hgE m3.blk_ge
     case measure=>simp[intOf];omega
    ·obtain rfl:n=ll.length:=by omega
     have hd1:decide (ll.length<ll.length)=false:=decide_eq_false (by omega);go_wp2_with fail;go_ret;have hM:=hHM.out.mono x4.size;rw[List.take_length,hws]at hM;exact⟨_,rfl,T,(HT.out.mono fun k hk=>by subst hk;unfold In;omega).ext (x4.trans hE),B,_,d,rfl,⟨_,Nat.le_refl _,hM,hu⟩,HA.out.ext (x4.trans hE)⟩
end
theorem Rb.drop_at{w:World}{b o n c:Nat}{l:List UInt8}(h:Rb w (some ⟨b,o,none⟩) n c l){k:Nat}(hk:k<n):Rb w (some ⟨b,o+k,none⟩) (n-k) (c-k) (l.drop k):=by
 have h2:=h.drop (Nat.le_of_lt hk);have:=h.max;rw[if_neg (by omega)]at h2;simp only[Option.map_some,Addr.add_lit]at h2;exact h2
theorem putL_pos'(n:Int):0<(putL n).length:=by
 unfold putL putF;split<;>simp
theorem runN_at{l:List UInt8}{j:Nat}(hj:j<l.length):0<runN_ l[j] (l.drop j)∧j+runN_ l[j] (l.drop j)≤l.length∧(∀ h:j+runN_ l[j] (l.drop j)<l.length,l[j+runN_ l[j] (l.drop j)]≠l[j]) ∧
  (∀ i (h1:j≤i) (h2:i<j+runN_ l[j] (l.drop j)) (h3:i<l.length),l[i]=l[j]):=by
 have hd:l.drop j=l[j]::l.drop (j+1):=List.drop_eq_getElem_cons hj;have hle:=runN_le l[j] (l.drop j);rw[List.length_drop]at hle;have key:∀(c:UInt8) (m:List UInt8),(∀ h:runN_ c m<m.length,m[runN_ c m]≠c)∧∀ i (h:i<runN_ c m) (h2:i<m.length),m[i]=c:=by
  intro c m;induction m with
  | nil=>exact⟨fun h=>by simp[runN_]at h,fun i h=>by simp[runN_]at h⟩
  | cons x m ih =>
   by_cases e:x=c
   ·subst e
    refine⟨fun h=>?_,fun i h h2=>?_⟩
    ·simp only[runN_cons]at h ⊢
     rw[List.getElem_cons_succ];exact ih.1 (by simpa using h)
    ·rw[runN_cons]at h
     cases i with
     | zero=>rfl
     | succ i=>rw[List.getElem_cons_succ];exact ih.2 i (by omega) (by simpa using h2)
   ·have h0:runN_ c (x::m)=0:=by simp[runN_,e]
    refine⟨fun h=>?_,fun i h=>by omega⟩;simp only[h0];exact e
 have hk:=key l[j] (l.drop j);refine⟨by rw[hd,runN_cons];omega,by omega,fun h=>?_,fun i h1 h2 h3=>?_⟩
 ·have:=hk.1 (by rw[List.length_drop];omega)
  rw[List.getElem_drop]at this;exact this
 ·have:=hk.2 (i-j) (by omega) (by rw[List.length_drop];omega)
  rw[List.getElem_drop]at this;simpa [show j+(i-j)=i by omega] using this
theorem runs_at{l:List UInt8}{x:UInt8}{j:Nat}(hj:j<l.length):runsG x (l.drop j)=putL ((runN_ l[j] (l.drop j):Nat):Int)++((l[j] ^^^ x)::runsG l[j] (l.drop (j+runN_ l[j] (l.drop j)))):=by
 have hd:l.drop j=l[j]::l.drop (j+1):=List.drop_eq_getElem_cons hj;have:=runsG_cons x l[j] (l.drop (j+1));rw[← hd]at this;rw[this,List.drop_drop];simp[List.append_assoc]
theorem xor_ne{a b:UInt8}(h:a≠b):(a ^^^ b).toNat≠0:=by
 intro e;apply h;have:a ^^^ b=0:=UInt8.toNat_inj.1 (by rw[e];rfl);exact UInt8.xor_eq_zero_iff.1 this
theorem xor_back(x c:UInt8):x ^^^ (c ^^^ x)=c:=by rw[UInt8.xor_comm c x,← UInt8.xor_assoc,UInt8.xor_self,UInt8.zero_xor]
theorem take_snoc{l:List UInt8}{c:UInt8}{j i:Nat}(h:j+i<l.length)(hc:l[j+i]=c):l.take (j+i)++[c]=l.take (j+(i+1)):=by
 rw[← Nat.add_assoc,List.take_add_one,List.getElem?_eq_getElem h,hc];rfl
def unRel(T:TypeId)(w:World)(l:List UInt8)(v a i:Value)(wr:World):Prop :=
 ∃(k j:Nat) (B:Option Addr) (d:Nat) (x:UInt8),i = .int .i64 (k:Nat)∧k≤(runsL l).length∧j≤l.length∧v = .slice B j d∧a = .int .u8 (x.toNat:Nat)∧Own wr w.heap.size T 1 B j d (bcs (l.take j))∧(runsL l).drop k=runsG x (l.drop j) ∧
  (k=0→j=0)∧(0<k→∀ h:j<l.length,l[j]≠x)∧Ext w wr
theorem unruns_any(w:World)(A:Option Addr)(n c:Nat)(l:List UInt8)(hb:Rb w A n c (runsL l))(h32:l.length≤32) :
  Calls prog 323 #[.slice A n c,.int .i64 32] w fun e w'=>∃ B d,e = .returned (.tuple #[.slice B l.length d,.int .i64 0])∧Own w' w.heap.size 5 1 B l.length d (bcs l)∧Ext w w':=by
 obtain⟨i0,hi,hz0,hz1,hz2⟩:=info_parts info_u8;have hn:=hb.len;subst hn;have hmx:=hb.max;have hLl:=runsG_len _ l 0 (Nat.le_refl _);have hLl2:(runsL l).length≤352:=by unfold runsL;omega
 clear hLl;unfold maxLen at hmx;go_enter func323,ntmps323;go_wp2_with fail;go_loopw [6,7,8] (fun v a i wr=>unRel 5 w l v a i wr) (fun _ _ i _=>(runsL l).length-(intOf i).toNat)
 case atStart=>exact⟨0,0,none,0,0,rfl,Nat.zero_le _,Nat.zero_le _,rfl,rfl,Own.nil_ _ _ _ _,rfl,fun _=>rfl,fun h=>absurd h (by decide),Ext.refl _⟩
 case round =>
  obtain⟨k,j,B,d,x,rfl,hk,hj,rfl,rfl,ho,hrest,hk0,hkp,hx⟩:=hrel;by_cases hjl:j<l.length
  ·have hat:=runs_at (x:=x) hjl
   obtain⟨hq0,hq1,hq2,hq3⟩:=runN_at hjl;rw[hat]at hrest;clear hat;obtain⟨u,hu⟩:∃ u,l[j]=u:=⟨_,rfl⟩;have hkp':0<k→u≠x:=fun h=>hu▸hkp h hjl;rw[hu]at hq0 hq1 hq2 hq3 hrest;generalize runN_ u (l.drop j)=q at *;obtain⟨g,hg⟩:∃ g,(putL ((q:Nat):Int)).length=g:=⟨_,rfl⟩;have hg0:0<g:=hg▸putL_pos' _;have hg10:g≤10:=hg▸putL_le10 _;have hlen:=congrArg List.length hrest;rw[List.length_drop,List.length_append,List.length_cons,hg]at hlen;have hkn:k+g<(runsL l).length:=by omega
   have hget:getL ((runsL l).drop k)=(((q:Nat):Int),g,0):=by rw[hrest,get_put (by omega) (by omega),hg]
   have hbyte:(runsL l)[k+g]=u ^^^ x:=by
    have h1:((runsL l).drop k)[g]'(by rw[List.length_drop];omega)=u ^^^ x:=by
     simp only[hrest];rw[List.getElem_append_right (by omega)];simp[hg]
    rw[List.getElem_drop]at h1;exact h1
   have hnext:(runsL l).drop (k+(g+1))=runsG u (l.drop (j+q)):=by
    have h2:((runsL l).drop k).drop (g+1)=runsG u (l.drop (j+q)):=by
     rw[hrest,List.drop_append,hg,show g+1-g=1 by omega,List.drop_eq_nil_of_le (by rw[hg];omega)];rfl
    rw[List.drop_drop]at h2;exact h2
   have hbr:=hb.ext hx;obtain⟨b,o,rfl,hc⟩:=hbr.at_ (k:=k+g) hkn;rw[hbyte]at hc;have hcut:=hbr.drop_at (k:=k) (by omega);have hxb:=xor8 x (u ^^^ x);rw[xor_back]at hxb;have hz:((u ^^^ x).toNat:Int)=0→k=0:=fun h=>by
    rcases Nat.eq_zero_or_pos k with h0|h0
    ·exact h0
    ·exact absurd (by omega) (xor_ne (hkp' h0))
   have hxl:(u ^^^ x).toNat<256:=(u ^^^ x).toNat_lt;generalize (u ^^^ x).toNat=y at *;have hkg:IntKind.i64.wrap ((k:Int)+(g:Int))=((k+g:Nat):Int):=by rw[IntWalk.i64_in _ (by omega)];omega
   obtain⟨e,he⟩:∃ e,k+g=e:=⟨_,rfl⟩;rw[he]at hkg hc;have hel:e<(runsL l).length:=by omega
   have hd1:decide ((runsL l).length≤e)=false:=decide_eq_false (by omega);have hd2:decide (((runsL l).length:Int)≤(e:Int))=false:=decide_eq_false (by omega);have hd3:decide ((q:Int)<1)=false:=decide_eq_false (by omega);have hd3':decide (q<1)=false:=decide_eq_false (by omega);have hd4:decide ((32:Int)-(j:Int)<(q:Int))=false:=decide_eq_false (by omega);have hkl:k<(runsL l).length:=by omega
   have hG:=fun W h=>get_any (some ⟨b,o+k,none⟩) ((runsL l).length-k) (c-k) ((runsL l).drop k) W h;simp only[hget]at hG;have HG:=hqd hG;have Hq2:=hqd hq2;have Hq3:=hqd hq3;have Hnext:=hqd hnext;have He:=hqd he;have Hu:=hqd hu;have Hkp:=hqd hkp';clear hG hget hq2 hq3 hnext hrest hbyte hlen he hg hu hkp hkp' hk0 hkn;have hy:(((y:Int)==0)=true∧(y==0)=true∧decide (0<k)=false∧decide ((0:Int)<(k:Int))=false)∨(((y:Int)==0)=false∧(y==0)=false):=by
    by_cases h:y=0
    ·have hk9:=hz (by omega)
     exact .inl ⟨by rw[h];rfl,by rw[h];rfl,decide_eq_false (by omega),decide_eq_false (by omega)⟩
    ·exact .inr ⟨by rw[beq_eq_false_iff_ne];omega,by rw[beq_eq_false_iff_ne];exact h⟩
   clear hz;go_wp2_with fail;refine(HG.out wr hcut).mono ?_;rintro ev w9 ⟨rfl,rfl⟩;rcases hy with ⟨hy1,hy2,hy3,hy4⟩|⟨hy1,hy2⟩
   all_goals
    go_wp2_with fail;go_loopw [6,67] (fun v i wx=>∃(r:Nat) (C:Option Addr) (cd:Nat),i = .int .i64 (r:Nat)∧r≤q∧v = .slice C (j+r) cd∧Own wx w.heap.size 5 1 C (j+r) cd (bcs (l.take (j+r)))∧Ext w wx) (fun _ i _=>q-(intOf i).toNat)
    case atStart=>exact⟨0,B,d,rfl,Nat.zero_le _,rfl,ho,hx⟩
    case round =>
     obtain⟨r,C,cd,rfl,hr,rfl,ho2,hx2⟩:=hrel;by_cases hrq:r<q
     ·have hsn:l.take (j+r)++[u]=l.take (j+(r+1)):=take_snoc (by omega) (Hq3.out _ (by omega) (by omega) (by omega))
      have Hsn:=hqd hsn;clear hsn;go_wp2_with (at_builtin;refine wpList_append_new _ rfl _ _ 30 rfl w.heap.size 5 i0 (.int .u8 0) 1 1 underlying30 hi hz0 hz1 hz2 rfl (by decide) C (j+r) cd _ rfl ho2 1 _ rfl rfl (by simp[Value.oneCell']) (by unfold maxLen;omega) (by omega) hx2.size ?_;intro E Ed wy hoE hgE hwE);go_roundw
      case rel=>exact⟨r+1,E,Ed,by go_num,by omega,rfl,by rw[← Hsn.out,bcs_append];exact hoE,Ext.own hx2 hgE ho2.blk_ge⟩
      case measure=>simp[intOf];omega
     ·obtain rfl:r=q:=by omega
      go_wp2_with fail;go_roundw
      case rel =>
       refine⟨k+(g+1),j+r,C,cd,u,by go_num,by have:=He.out;omega,hq1,rfl,rfl,ho2,Hnext.out,fun h=>by omega,fun _ h=>Hq2.out h,hx2⟩
      case measure=>simp[intOf];omega
  ·obtain rfl:j=l.length:=by omega
   have hfin:k=(runsL l).length:=by
    have:=congrArg List.length hrest;rw[List.drop_length,runsG_nil,List.length_drop]at this;simp only[List.length_nil]at this;omega
   rw[List.take_length]at ho;have hd1:decide (k<(runsL l).length)=false:=decide_eq_false (by omega);have hd2:decide ((k:Int)<((runsL l).length:Int))=false:=decide_eq_false (by omega);clear hrest hk0 hkp hfin;go_wp2_with fail;go_ret2
   exact⟨B,d,rfl,ho,hx⟩
structure Rdr(w:World)(R:Nat)(A:Option Addr)(n c:Nat)(l:List UInt8):Prop where
 c0:w.cell? ⟨R,0,none⟩=some (.slice A n c)
 c1:w.cell? ⟨R,1,none⟩=some (.bool false)
 f0:w.frozen? ⟨R,0,none⟩=false
 f1:w.frozen? ⟨R,1,none⟩=false
 rb:Rb w A n c l
 ne:∀ a,A=some a→a.block≠R
theorem set_grown(w:World)(a:Addr)(v:Value):w.grownBy (w.setCell a v) (some a.block) :=
 ⟨rfl,rfl,rfl,by simp[World.setCell],fun k _ hk=>Below.heap_setCell w a v k (by rintro rfl;exact hk rfl)⟩
theorem Rb.grown{w w':World}{A:Option Addr}{n c:Nat}{l:List UInt8}(h:Rb w A n c l){row:Option Nat}(hg:w.grownBy w' row)(hne:∀ a,A=some a→row≠some a.block):Rb w' A n c l:=Rd.grown h hg hne
theorem Rb.cut_{w:World}{A:Option Addr}{n c:Nat}{l:List UInt8}(h:Rb w A n c l){k:Nat}(hk:k≤n)(h0:0<n):∃ b o,A=some ⟨b,o,none⟩∧∃ A',(if c=k then some (⟨b,o,none⟩:Addr) else some ⟨b,o+k,none⟩)=A'∧Rb w A' (n-k) (c-k) (l.drop k)∧(∀ a,A'=some a→a.block=b):=by
 obtain⟨b,o,e,_⟩:=h.2.2.2 (by omega);subst e;refine⟨b,o,rfl,_,rfl,?_,?_⟩
 ·have h9:=h.drop hk
  split at h9
  ·rename_i e9;rw[if_pos e9];exact h9
  ·rename_i e9;rw[if_neg e9];simpa [Addr.add_lit] using h9
 ·intro a ha
  split at ha<;>(cases ha;rfl)
theorem reader_num(w:World)(R:Nat)(A:Option Addr)(n c:Nat)(x:Int)(l:List UInt8)(hR:Rdr w R A n c (putL x++l))(h0:-9223372036854775808≤x)(h1:x≤9223372036854775807) :
  Calls prog 321 #[.pointer (some ⟨R,0,none⟩)] w fun e w'=>e = .returned (.int .i64 x)∧w.grownBy w' (some R)∧∃ A' n' c',Rdr w' R A' n' c' l∧(∀ a',A'=some a'→∃ a,A=some a∧a'.block=a.block):=by
 obtain⟨c0,c1,f0,f1,hb,hne⟩:=hR;have hn:=hb.len;have hmx:=hb.max;unfold maxLen at hmx;obtain⟨g,hg⟩:∃ g,(putL x).length=g:=⟨_,rfl⟩;have hg0:0<g:=hg▸putL_pos' _;have hg10:g≤10:=hg▸putL_le10 _;rw[List.length_append,hg]at hn;have hget:=get_put h0 h1 l;rw[hg]at hget;obtain⟨b,o,rfl,A',hA',hcut,hblk⟩:=hb.cut_ (k:=g) (by omega) (by omega);have hdr:(putL x++l).drop g=l:=by rw[List.drop_append,← hg];simp
 rw[hdr]at hcut;have hbR:b≠R:=hne _ rfl;have hG:=fun W h=>get_any (some ⟨b,o,none⟩) n c (putL x++l) W h;simp only[hget]at hG;have HG:=hqd (hG w hb);have hgn:g≤n:=by omega
 have Hcut:=hqd hcut;have Hblk:=hqd hblk;clear hG hget hcut hblk hdr hg hn hb hne;go_enter func321,ntmps321;go_wp2_with fail;refine HG.out.mono ?_;rintro ev w9 ⟨rfl,rfl⟩;go_wp2_with fail;go_ret;refine⟨rfl,grown_trans (set_grown _ _ _) (set_grown _ _ _),A',n-g,c-g,⟨?_,?_,?_,?_,?_,?_⟩,fun a' ha=>⟨_,rfl,Hblk.out a' ha⟩⟩
 ·go_simp
 ·go_simp
 ·go_simp
 ·go_simp
 ·exact Rb.grown Hcut.out (grown_trans (set_grown _ _ _) (set_grown _ _ _)) (fun a ha e=>hbR ((Hblk.out a ha).symm.trans (Option.some.inj e).symm))
 ·intro a ha;rw[Hblk.out a ha];exact hbR
theorem four_back(n:Nat)(h:n<4294967296):((fourL n).map (·.toNat))=[n / 16777216,n / 65536 % 256,n / 256 % 256,n % 256]:=by
 simp only[fourL,List.map_cons,List.map_nil];rw[toNat_ofNat8 (by omega),toNat_ofNat8 (by omega),toNat_ofNat8 (by omega),toNat_ofNat8 (by omega)]
theorem or_shift(a b:Nat)(ha:a<16777216)(hb:b<256):bits .or .u32 ((a*256:Nat):Int) (b:Int)=((a*256+b:Nat):Int):=by
 rw[u32_or_nat _ _ (by omega) (by omega)];congr 1
 have:=Nat.shiftLeft_add_eq_or_of_lt (b:=b) (i:=8) (by omega) a;rw[Nat.shiftLeft_eq]at this;exact this.symm
def pre4(n k:Nat):Nat:=n / 256 ^ (4-k)
theorem reader_four(w:World)(R:Nat)(A:Option Addr)(n c:Nat)(x:Nat)(l:List UInt8)(hR:Rdr w R A n c (fourL x++l))(hx:x<4294967296) :
  Calls prog 322 #[.pointer (some ⟨R,0,none⟩)] w fun e w'=>e = .returned (.int .u32 (x:Nat))∧w.grownBy w' (some R)∧∃ A' n' c',Rdr w' R A' n' c' l∧(∀ a',A'=some a'→∃ a,A=some a∧a'.block=a.block):=by
 obtain⟨c0,c1,f0,f1,hb,hne⟩:=hR;have hn:=hb.len;have hmx:=hb.max;unfold maxLen at hmx;rw[List.length_append,fourL_len]at hn;obtain⟨b,o,rfl,A',hA',hcut,hblk⟩:=hb.cut_ (k:=4) (by omega) (by omega);have hdr:(fourL x++l).drop 4=l:=rfl;rw[hdr]at hcut;have hbR:b≠R:=hne _ rfl;have hbt:∀ k (hk:k<4),∃ y:Nat,w.cell? ⟨b,o+k,none⟩=some (.int .u8 (y:Nat))∧y<256∧pre4 x (k+1)=pre4 x k*256+y∧pre4 x k<16777216:=by
  intro k hk;obtain⟨b',o',e,hc⟩:=hb.at_ (k:=k) (by rw[List.length_append,fourL_len];omega);cases e
  refine⟨_,hc,UInt8.toNat_lt _,?_⟩;have h4:=four_back x hx;have e4:((fourL x++l)[k]'(by rw[List.length_append,fourL_len];omega)).toNat=([x / 16777216,x / 65536 % 256,x / 256 % 256,x % 256])[k]'(by simpa using hk):=by
   rw[List.getElem_append_left (by rw[fourL_len];exact hk)];simp only[← h4,List.getElem_map]
  rw[e4];unfold pre4;match k,hk with
  | 0,_=>simp;omega
  | 1,_=>simp;omega
  | 2,_=>simp;omega
  | 3,_=>simp;omega
 have hgn:4≤n:=by omega
 have Hcut:=hqd hcut;have Hblk:=hqd hblk;have Hbt:=hqd hbt;have h00:pre4 x 0=0:=by simp[pre4];omega
 have h40:pre4 x 4=x:=by simp[pre4]
 have H40:=hqd h40;have hd1:decide (n<4)=false:=decide_eq_false (by omega);have hd2:decide ((n:Int)<4)=false:=decide_eq_false (by omega);clear hbt hcut hblk hdr hn hb hne h40;go_enter func322,ntmps322;go_wp2_with fail;generalize hW:World.setCell w _ _=W1;have gW:w.grownBy W1 (some R):=by subst hW;exact set_grown _ _ _
 have c0:W1.cell? ⟨R,0,none⟩=some (.slice (some ⟨b,o,none⟩) n c):=by subst hW;go_simp
 have c1:W1.cell? ⟨R,1,none⟩=some (.bool false):=by subst hW;go_simp
 have f0:W1.frozen? ⟨R,0,none⟩=false:=by subst hW;go_simp
 have f1:W1.frozen? ⟨R,1,none⟩=false:=by subst hW;go_simp
 clear hW;go_loop [3,31] (fun s i=>∃ k:Nat,i = .int .i64 (k:Nat)∧k≤4∧s = .int .u32 (pre4 x k:Nat)) (fun _ i=>4-(intOf i).toNat)
 case atStart=>exact⟨0,rfl,by decide,by rw[h00];rfl⟩
 case round =>
  obtain⟨k,rfl,hk,rfl⟩:=hrel;by_cases hk4:k<4
  ·obtain⟨y,hy,hy2,hs,hlt⟩:=Hbt.out k hk4
   have hy:=gW.cell hy (by simp;exact hbR);have hor:=or_shift _ _ hlt hy2;rw[← hs]at hor;have Hs:=hqd hs;clear hs;obtain⟨z,hz⟩:∃ z,pre4 x (k+1)=z:=⟨_,rfl⟩;rw[hz]at hor;have Hz:=hqd hz;clear hz;generalize pre4 x k=a at *;have hor':bits .or .u32 ((a:Int)*256) (y:Int)=(z:Nat):=by rw[← hor];congr 1
   clear hor;have hsh:IntKind.u32.wrap ((a:Int)*256)=(a:Int)*256:=by simp[IntKind.wrap,IntKind.bits,IntKind.signed];omega
   go_wp2_with fail;go_round
   case rel=>exact⟨k+1,by go_num,by omega,by rw[Hz.out]⟩
   case measure=>simp[intOf];omega
  ·obtain rfl:k=4:=by omega
   rw[H40.out];clear h00;go_wp2_with fail;go_ret;refine⟨rfl,grown_trans gW (set_grown _ _ _),A',⟨n-4,c-4,?_,?_,?_,?_,?_,?_⟩,fun a' ha=>Hblk.out a' ha⟩
   ·go_simp
   ·go_simp
   ·go_simp
   ·go_simp
   ·exact Rb.grown Hcut.out (grown_trans gW (set_grown _ _ _)) (fun a ha e=>hbR ((Hblk.out a ha).symm.trans (Option.some.inj e).symm))
   ·intro a ha;rw[Hblk.out a ha];exact hbR
theorem enc_split(id:Int)(p:Pk):encPk id p=headL p++(midL id p++fourL (crcL (bodyL id p))):=by unfold encPk bodyL;rw[List.append_assoc]
theorem headL_len(p:Pk):(headL p).length=3:=rfl
theorem enc_mid(id:Int)(p:Pk):(encPk id p).length=(midL id p).length+7∧((encPk id p).take ((encPk id p).length-4)).drop 3=midL id p:=by
 have hl:(encPk id p).length=(midL id p).length+7:=by
  rw[enc_split];simp only[List.length_append,headL_len,fourL_len];omega
 refine⟨hl,?_⟩;have h4:(encPk id p).take ((encPk id p).length-4)=headL p++midL id p:=by
  unfold encPk bodyL;rw[List.take_append_of_le_length (by simp only[List.length_append,fourL_len];omega),List.take_of_length_le (by simp only[List.length_append,fourL_len];omega)]
 rw[h4,List.drop_append_of_le_length (by rw[headL_len];omega)];rfl
theorem Rb.mid_{w:World}{b o n c:Nat}{l:List UInt8}(h:Rb w (some ⟨b,o,none⟩) n c l){i j:Nat}(hi:i<j)(hj:j≤n):Rb w (some ⟨b,o+i,none⟩) (j-i) (c-i) ((l.take j).drop i) :=
 (h.take hj).drop_at hi
theorem midL_le(id:Int)(p:Pk)(h:p.press.length≤32):(midL id p).length≤500:=by
 have:=bodyL_len id p h;unfold bodyL at this;rw[List.length_append]at this;omega
theorem midL_pos(id:Int)(p:Pk):0<(midL id p).length:=by
 unfold midL;rw[List.length_append];have:=putL_pos' id;omega
theorem nil_no(b o n c:Nat)(w:World):(binOp BinOp.eql 30 (.slice (some ⟨b,o,none⟩) n c) (.slice none 0 0)).run prog w = .ok (.bool false) w:=by kernel_rfl
theorem size_pk:(prog.info? 34).map (·.size)=some 9:=by kernel_rfl
theorem dec_any(w:World)(id:Int)(p:Pk)(A:Option Addr)(n c:Nat)(hp:okPk p)(hid:okId id)(hb:Rb w A n c (encPk id p)) :
  Calls prog 307 #[.slice A n c] w fun e w'=>∃ A' d,e = .returned (.tuple #[pkAgg id p A' p.press.length d,.int .i64 0])∧Rb w' A' p.press.length d p.press∧(∀ a,A'=some a→w.heap.size≤a.block)∧Ext w w':=by
 have hn:=hb.len;have hmx:=hb.max;unfold maxLen at hmx;obtain⟨hml,hmd⟩:=enc_mid id p;have hpl:=pk_press hp;have hm500:=midL_le id p hpl;have hm0:=midL_pos id p;obtain⟨b,o,rfl,hc0⟩:=hb.at_ (k:=0) (by omega);obtain⟨b',o',e',hc1⟩:=hb.at_ (k:=1) (by omega);cases e'
 obtain⟨b',o',e',hc2⟩:=hb.at_ (k:=2) (by omega);cases e'
 have hx:=hb.mid_ (i:=3) (j:=n-4) (by omega) (by omega);rw[hn,hmd]at hx;have hh:∀ k (hk:k<3),(encPk id p)[k]'(by omega)=(headL p)[k]'(by rw[headL_len];exact hk):=fun k hk=>by
  simp only[enc_split];rw[List.getElem_append_left]
 rw[hh 0 (by decide)]at hc0;rw[hh 1 (by decide)]at hc1;rw[hh 2 (by decide)]at hc2;obtain⟨hs,hd,hne,hw⟩:=pk_ways hp;simp only[headL,List.getElem_cons_zero,List.getElem_cons_succ,Nat.add_zero]at hc0 hc1 hc2;rw[toNat_ofNat8 (by omega)]at hc1 hc2;have hbw:b<w.heap.size:=World.block_lt_of_cell? _ _ hc0;rw[← hn,show n-4-3=(midL id p).length by omega]at hx;obtain⟨m,hm⟩:∃ m,(midL id p).length=m:=⟨_,rfl⟩;rw[hm]at hx hml hm500 hm0;have hnm:n=m+7:=by omega
 have i0:(0:Int)<(n:Int):=by omega
 have i1:(1:Int)<(n:Int):=by omega
 have i2:(2:Int)<(n:Int):=by omega
 have j0:0<n:=by omega
 have j1:1<n:=by omega
 have j2:2<n:=by omega
 have hd7:decide ((n:Int)<7)=false:=decide_eq_false (by omega);have hd7':decide (n<7)=false:=decide_eq_false (by omega);obtain⟨E,hE⟩:∃ E,n-4=E:=⟨_,rfl⟩;have hEw:IntKind.i64.wrap ((n:Int)-4)=((E:Nat):Int):=by rw[IntWalk.i64_in _ (by omega)];omega
 have hEm:E-3=m:=by omega
 have hE3:3≤E∧E≤n:=by omega
 have Hnm:=hqd hnm;have Henc:=hqd (fun W B d h=>(enc_any W id p B p.press.length d hp hid h));have Hb:=hqd hb;clear hb hh hmd hml hm hn hnm hE;rcases hw with ⟨hq,hf,hpr,hac,hfr,hsu⟩|⟨hq,hf,hac,hfr,hpr,hsu⟩
 ·have hk:kindP p=2:=by simp[kindP,hq]
  have hmid:midL id p=putL id++([]:List UInt8):=by unfold midL;rw[if_pos hq]
  rw[hmid]at hx;rw[hq,if_pos rfl,toNat_ofNat8 (by decide)]at hc0;have hag:pkAgg id p none p.press.length 0 = .agg #[.int .i64 2,.int .i64 (p.src:Nat),.int .i64 (p.dst:Nat),.int .i64 id,.int .i64 0,.slice none 0 0,.int .i64 0,.int .i64 0,.int .u32 0]:=by unfold pkAgg;rw[hk,hf,hpr,hac,hfr,hsu];rfl
  have Hen:=hqd (fun W=>Henc.out W none 0 (by rw[hpr];exact Rb.nil_ W));simp only[hag]at Hen;have Hag:=hqd hag;clear hag;have Hq:=hqd hq;have Hpr:=hqd hpr;have hid2:=hid;unfold okId at hid2;clear hmid hq hf hac hfr hsu hpr;go_enter func307,ntmps307;go_wp2_with fail;generalize hV:World.alloc w _=V;have eV:Ext w V:=by subst hV;exact Ext.alloc _ _
  have bV:Has V (fun _=>0) 0 w.heap.size [.int .i64 0,.int .i64 0,.int .i64 0,.int .i64 0,.int .i64 0,.slice none 0 0,.int .i64 0,.int .i64 0,.int .u32 0]:=by subst hV;exact⟨rfl,_,heap_alloc_new w _⟩
  have hwV:w.heap.size<V.heap.size:=bV.lt;have hc0:=eV.cell hc0;have hc1:=eV.cell hc1;have hc2:=eV.cell hc2;clear hV;apply wrN 14;simp only[tk];repeat apply lxA (fun _ h _=>aj (h.cell hc0) (aj (h.cell hc1) (h.cell hc2)))
  apply lex_new (p:=fun u W=>∃ g0,u = .pointer (some ⟨g0,0,none⟩)∧V.heap.size≤g0∧Has W (fun _=>0) 0 g0 [.int .i64 0,.int .i64 0,.int .i64 0,.int .i64 0,.int .i64 0,.slice none 0 0,.int .i64 0,.int .i64 0,.int .u32 0]) (fun _ _ _ ⟨g,hv,hg,h⟩ he=>⟨g,hv,hg,h.ext he⟩)
  ·rfl
  ·intro W hR hΦ
   refine⟨.pointer (some ⟨W.heap.size,0,none⟩),W.alloc (.cells #[.int .i64 0,.int .i64 0,.int .i64 0,.int .i64 0,.int .i64 0,.slice none 0 0,.int .i64 0,.int .i64 0,.int .u32 0] 34),?_,Ext.alloc _ _,W.heap.size,rfl,hR.size,rfl,_,heap_alloc_new W _⟩;go_simp;first|done|rfl
  intro v2;simp only[pu];refine lex_nil ?_;intro W hR hΦ;obtain⟨g0,rfl,hg0,hB⟩:=hΦ.1 rfl;simp only[dk];clear hΦ hc0 hc1 hc2;have bV:=bV.ext hR;have eW:=eV.trans hR;have hb2:b≠g0:=by omega
  have hne0:g0≠w.heap.size:=by omega
  have hg0w:w.heap.size<g0:=by omega
  have hgW:g0<W.heap.size:=hB.lt;have hw2:IntKind.i64.wrap 2=2:=by decide
  have hw1:IntKind.i64.wrap 1=1:=by decide
  have hws:IntKind.i64.wrap ((p.src:Nat):Int)=((p.src:Nat):Int):=IntWalk.i64_in _ (by omega);have hwd:IntKind.i64.wrap ((p.dst:Nat):Int)=((p.dst:Nat):Int):=IntWalk.i64_in _ (by omega);have k0:W.cell? ⟨g0,0,none⟩=some (.int .i64 0):=hB.cell rfl;have k1:W.cell? ⟨g0,1,none⟩=some (.int .i64 0):=hB.cell rfl;have k2:W.cell? ⟨g0,2,none⟩=some (.int .i64 0):=hB.cell rfl;have k3:W.cell? ⟨g0,3,none⟩=some (.int .i64 0):=hB.cell rfl;have k4:W.cell? ⟨g0,4,none⟩=some (.int .i64 0):=hB.cell rfl;have k5:W.cell? ⟨g0,5,none⟩=some (.slice none 0 0):=hB.cell rfl;have k6:W.cell? ⟨g0,6,none⟩=some (.int .i64 0):=hB.cell rfl;have k7:W.cell? ⟨g0,7,none⟩=some (.int .i64 0):=hB.cell rfl;have k8:W.cell? ⟨g0,8,none⟩=some (.int .u32 0):=hB.cell rfl;have z0:W.frozen? ⟨g0,0,none⟩=false:=hB.free 0;have z1:W.frozen? ⟨g0,1,none⟩=false:=hB.free 1;have z2:W.frozen? ⟨g0,2,none⟩=false:=hB.free 2;have z3:W.frozen? ⟨g0,3,none⟩=false:=hB.free 3;have z4:W.frozen? ⟨g0,4,none⟩=false:=hB.free 4;have z5:W.frozen? ⟨g0,5,none⟩=false:=hB.free 5;have z6:W.frozen? ⟨g0,6,none⟩=false:=hB.free 6;have z7:W.frozen? ⟨g0,7,none⟩=false:=hB.free 7;have z8:W.frozen? ⟨g0,8,none⟩=false:=hB.free 8;go_wp2_with fail;generalize hY:World.setCell _ ⟨g0,8,none⟩ _=Y;have hBY:Has Y (fun _=>0) 0 g0 [.int .i64 2,.int .i64 (p.src:Nat),.int .i64 (p.dst:Nat),.int .i64 0,.int .i64 0,.slice none 0 0,.int .i64 0,.int .i64 0,.int .u32 0]:=by
   subst hY;have h9:=((((((((hB.set 0 (.int .i64 2)).set 1 (.int .i64 (p.src:Nat))).set 2 (.int .i64 (p.dst:Nat))).set 3 (.int .i64 0)).set 4 (.int .i64 0)).set 5 (.slice none 0 0)).set 6 (.int .i64 0)).set 7 (.int .i64 0)).set 8 (.int .u32 0);simp only[List.set_cons_zero,List.set_cons_succ]at h9;exact h9
  have hgY:W.grownBy Y (some g0):=by
   subst hY;refine grown_trans ?_ (set_grown _ _ _);refine grown_trans ?_ (set_grown _ _ _);refine grown_trans ?_ (set_grown _ _ _);refine grown_trans ?_ (set_grown _ _ _);refine grown_trans ?_ (set_grown _ _ _);refine grown_trans ?_ (set_grown _ _ _);refine grown_trans ?_ (set_grown _ _ _);refine grown_trans ?_ (set_grown _ _ _);exact set_grown _ _ _
  have hYs:W.heap.size=Y.heap.size:=by subst hY;simp[World.setCell]
  have bY:=bV.grown hgY (by simp;omega);have eY:=Ext.own (B:=some ⟨g0,0,none⟩) eW hgY (fun k hk=>by have h9:g0=k:=Option.some.inj hk;omega);rw[hYs];generalize hX:World.alloc Y _=X;obtain⟨R,hRR⟩:∃ R,Y.heap.size=R:=⟨_,rfl⟩;have hB1:Has X (fun _=>0) 0 g0 [.int .i64 2,.int .i64 (p.src:Nat),.int .i64 (p.dst:Nat),.int .i64 0,.int .i64 0,.slice none 0 0,.int .i64 0,.int .i64 0,.int .u32 0]:=by subst hX;exact hBY.ext (Ext.alloc _ _)
  have bX:Has X (fun _=>0) 0 w.heap.size [.int .i64 0,.int .i64 0,.int .i64 0,.int .i64 0,.int .i64 0,.slice none 0 0,.int .i64 0,.int .i64 0,.int .u32 0]:=by subst hX;exact bY.ext (Ext.alloc _ _)
  have eX:Ext w X:=by subst hX;exact eY.trans (Ext.alloc _ _)
  have hRd:Rdr X R (some ⟨b,o+3,none⟩) m (c-3) (putL id++([]:List UInt8)):=by
   have hrb:=hx.ext eX;have h9:=hBY.lt;have h8:=eY.size;subst hRR;subst hX;refine⟨?_,?_,?_,?_,hrb,fun a ha=>?_⟩
   ·go_simp
   ·go_simp
   ·go_simp
   ·go_simp
   ·cases ha;show b≠_;omega
  have hgR:g0≠R:=by have:=hBY.lt;omega
  have hwR:w.heap.size≠R:=by have:=bY.lt;omega
  have hwR2:w.heap.size≤R:=by have:=eY.size;omega
  rw[hRR];clear hX hRR hB bV hgW hwV hw2 hw1 hws hwd hR eV eW hY hBY hgY bY eY hYs;clear k0 z0 k1 z1 k2 z2 k3 z3 k4 z4 k5 z5 k6 z6 k7 z7 k8 z8;refine(reader_num X R (some ⟨b,o+3,none⟩) m (c-3) (id) _ hRd (by omega) (by omega)).mono ?_;rintro ev w1 ⟨rfl,gr1,A1,n1,c1,rd1,hbl1⟩;have hab1:∀ a,A1=some a→a.block=b:=fun a ha=>by
   obtain⟨a9,h9,h10⟩:=hbl1 a ha;cases h9;exact h10
  clear hbl1;have hB:=Has.grown hB1 gr1 (by simp;omega);have b1:=Has.grown bX gr1 (by simp;omega);have e1:=Ext.own (B:=some ⟨R,0,none⟩) eX gr1 (fun k hk=>by have h9:R=k:=Option.some.inj hk;omega);have hlt:w.heap.size<w1.heap.size:=b1.lt;have k0:w1.cell? ⟨g0,0,none⟩=some (.int .i64 2):=hB.cell rfl;have k1:w1.cell? ⟨g0,1,none⟩=some (.int .i64 (p.src:Nat)):=hB.cell rfl;have k2:w1.cell? ⟨g0,2,none⟩=some (.int .i64 (p.dst:Nat)):=hB.cell rfl;have k3:w1.cell? ⟨g0,3,none⟩=some (.int .i64 0):=hB.cell rfl;have k4:w1.cell? ⟨g0,4,none⟩=some (.int .i64 0):=hB.cell rfl;have k5:w1.cell? ⟨g0,5,none⟩=some (.slice none 0 0):=hB.cell rfl;have k6:w1.cell? ⟨g0,6,none⟩=some (.int .i64 0):=hB.cell rfl;have k7:w1.cell? ⟨g0,7,none⟩=some (.int .i64 0):=hB.cell rfl;have k8:w1.cell? ⟨g0,8,none⟩=some (.int .u32 0):=hB.cell rfl;have z0:w1.frozen? ⟨g0,0,none⟩=false:=hB.free 0;have z1:w1.frozen? ⟨g0,1,none⟩=false:=hB.free 1;have z2:w1.frozen? ⟨g0,2,none⟩=false:=hB.free 2;have z3:w1.frozen? ⟨g0,3,none⟩=false:=hB.free 3;have z4:w1.frozen? ⟨g0,4,none⟩=false:=hB.free 4;have z5:w1.frozen? ⟨g0,5,none⟩=false:=hB.free 5;have z6:w1.frozen? ⟨g0,6,none⟩=false:=hB.free 6;have z7:w1.frozen? ⟨g0,7,none⟩=false:=hB.free 7;have z8:w1.frozen? ⟨g0,8,none⟩=false:=hB.free 8;have s0:=rd1.c0;have s1:=rd1.c1;clear gr1 hRd hB1 bX eX;go_wp2_with fail;generalize hY:World.setCell w1 ⟨g0,3,none⟩ _=Y1;have hgY:w1.grownBy Y1 (some g0):=by subst hY;exact set_grown _ _ _
  have hB1:Has Y1 (fun _=>0) 0 g0 [.int .i64 2,.int .i64 (p.src:Nat),.int .i64 (p.dst:Nat),.int .i64 (id),.int .i64 0,.slice none 0 0,.int .i64 0,.int .i64 0,.int .u32 0]:=by subst hY;exact hB.set 3 _
  have bY1:=b1.grown hgY (by simp;omega);have eY1:=Ext.own (B:=some ⟨g0,0,none⟩) e1 hgY (fun k hk=>by have h9:g0=k:=Option.some.inj hk;omega);have rY1:Rdr Y1 R A1 n1 c1 ([]):=by
   refine⟨hgY.cell rd1.c0 (by simp;omega),hgY.cell rd1.c1 (by simp;omega),?_,?_,Rb.grown rd1.rb hgY (fun a ha e9=>?_),rd1.ne⟩
   ·subst hY;rw[World.frozen?_setCell];exact rd1.f0
   ·subst hY;rw[World.frozen?_setCell];exact rd1.f1
   ·have h11:g0=a.block:=Option.some.inj e9
    rw[hab1 a ha]at h11;exact hb2 h11.symm
  clear hY hgY b1 e1 rd1 hB s0 s1 hlt;clear k0 z0 k1 z1 k2 z2 k3 z3 k4 z4 k5 z5 k6 z6 k7 z7 k8 z8;have k0:Y1.cell? ⟨g0,0,none⟩=some (.int .i64 2):=hB1.cell rfl;have k1:Y1.cell? ⟨g0,1,none⟩=some (.int .i64 (p.src:Nat)):=hB1.cell rfl;have k2:Y1.cell? ⟨g0,2,none⟩=some (.int .i64 (p.dst:Nat)):=hB1.cell rfl;have k3:Y1.cell? ⟨g0,3,none⟩=some (.int .i64 (id)):=hB1.cell rfl;have k4:Y1.cell? ⟨g0,4,none⟩=some (.int .i64 0):=hB1.cell rfl;have k5:Y1.cell? ⟨g0,5,none⟩=some (.slice none 0 0):=hB1.cell rfl;have k6:Y1.cell? ⟨g0,6,none⟩=some (.int .i64 0):=hB1.cell rfl;have k7:Y1.cell? ⟨g0,7,none⟩=some (.int .i64 0):=hB1.cell rfl;have k8:Y1.cell? ⟨g0,8,none⟩=some (.int .u32 0):=hB1.cell rfl;have z0:Y1.frozen? ⟨g0,0,none⟩=false:=hB1.free 0;have z1:Y1.frozen? ⟨g0,1,none⟩=false:=hB1.free 1;have z2:Y1.frozen? ⟨g0,2,none⟩=false:=hB1.free 2;have z3:Y1.frozen? ⟨g0,3,none⟩=false:=hB1.free 3;have z4:Y1.frozen? ⟨g0,4,none⟩=false:=hB1.free 4;have z5:Y1.frozen? ⟨g0,5,none⟩=false:=hB1.free 5;have z6:Y1.frozen? ⟨g0,6,none⟩=false:=hB1.free 6;have z7:Y1.frozen? ⟨g0,7,none⟩=false:=hB1.free 7;have z8:Y1.frozen? ⟨g0,8,none⟩=false:=hB1.free 8;have s0:=rY1.c0;have s1:=rY1.c1;have hlt:w.heap.size<Y1.heap.size:=bY1.lt;go_wp2_with fail;refine(Hen.out Y1).mono ?_;rintro ev w8 ⟨B,bm,bd,rfl,o8,e8⟩;have hB8:=hB1.ext e8;have b8:=bY1.ext e8;have s1:=e8.cell rY1.c1;have x8:=eY1.trans e8;clear s0 hB1 bY1 eY1 rY1 e8 hlt;clear k0 z0 k1 z1 k2 z2 k3 z3 k4 z4 k5 z5 k6 z6 k7 z7 k8 z8;have hbm:bm=(encPk id p).length:=by have:=o8.len;rw[bcs_length]at this;omega
  have hrB:Rb w8 B bm bd (encPk id p):=Rb.of o8.rd rfl;obtain⟨bB,oB,rfl,hq9⟩:=hrB.at_ (k:=0) (by omega);clear hq9;have hEq:=bytes_eq w8 _ bm bd _ _ n c _ hrB (Hb.out.ext x8);rw[show(encPk id p==encPk id p)=true from beq_self_eq_true _]at hEq;have HEq:=hqd hEq;have hnil:=nil_no bB oB bm bd w8;clear hEq hbm hrB o8;have k0:w8.cell? ⟨g0,0,none⟩=some (.int .i64 2):=hB8.cell rfl;have k1:w8.cell? ⟨g0,1,none⟩=some (.int .i64 (p.src:Nat)):=hB8.cell rfl;have k2:w8.cell? ⟨g0,2,none⟩=some (.int .i64 (p.dst:Nat)):=hB8.cell rfl;have k3:w8.cell? ⟨g0,3,none⟩=some (.int .i64 (id)):=hB8.cell rfl;have k4:w8.cell? ⟨g0,4,none⟩=some (.int .i64 0):=hB8.cell rfl;have k5:w8.cell? ⟨g0,5,none⟩=some (.slice none 0 0):=hB8.cell rfl;have k6:w8.cell? ⟨g0,6,none⟩=some (.int .i64 0):=hB8.cell rfl;have k7:w8.cell? ⟨g0,7,none⟩=some (.int .i64 0):=hB8.cell rfl;have k8:w8.cell? ⟨g0,8,none⟩=some (.int .u32 0):=hB8.cell rfl;have z0:w8.frozen? ⟨g0,0,none⟩=false:=hB8.free 0;have z1:w8.frozen? ⟨g0,1,none⟩=false:=hB8.free 1;have z2:w8.frozen? ⟨g0,2,none⟩=false:=hB8.free 2;have z3:w8.frozen? ⟨g0,3,none⟩=false:=hB8.free 3;have z4:w8.frozen? ⟨g0,4,none⟩=false:=hB8.free 4;have z5:w8.frozen? ⟨g0,5,none⟩=false:=hB8.free 5;have z6:w8.frozen? ⟨g0,6,none⟩=false:=hB8.free 6;have z7:w8.frozen? ⟨g0,7,none⟩=false:=hB8.free 7;have z8:w8.frozen? ⟨g0,8,none⟩=false:=hB8.free 8;have y0:=b8.cell (i:=0) rfl;have u0:=b8.free 0;have y1:=b8.cell (i:=1) rfl;have u1:=b8.free 1;have y2:=b8.cell (i:=2) rfl;have u2:=b8.free 2;have y3:=b8.cell (i:=3) rfl;have u3:=b8.free 3;have y4:=b8.cell (i:=4) rfl;have u4:=b8.free 4;have y5:=b8.cell (i:=5) rfl;have u5:=b8.free 5;have y6:=b8.cell (i:=6) rfl;have u6:=b8.free 6;have y7:=b8.cell (i:=7) rfl;have u7:=b8.free 7;have y8:=b8.cell (i:=8) rfl;have u8:=b8.free 8;go_wp2_with fail;refine HEq.out.mono ?_;rintro ev w9 ⟨rfl,e9⟩;have e9:=e9.symm;subst e9;clear hnil;go_wp2_with fail;generalize hZ:World.setCell _ ⟨w.heap.size,8,none⟩ _=Z;have bZ:Has Z (fun _=>0) 0 w.heap.size [.int .i64 2,.int .i64 (p.src:Nat),.int .i64 (p.dst:Nat),.int .i64 (id),.int .i64 0,.slice none 0 0,.int .i64 0,.int .i64 0,.int .u32 0]:=by
   subst hZ;have h9:=(((((((((b8.set 0 (.int .i64 2)).set 1 (.int .i64 (p.src:Nat))).set 2 (.int .i64 (p.dst:Nat))).set 3 (.int .i64 (id))).set 4 (.int .i64 0)).set 5 (.slice none 0 0)).set 6 (.int .i64 0)).set 7 (.int .i64 0)).set 8 (.int .u32 0));simp only[List.set_cons_zero,List.set_cons_succ]at h9;exact h9
  have gZ:w8.grownBy Z (some w.heap.size):=by
   subst hZ;refine grown_trans ?_ (set_grown _ _ _);refine grown_trans ?_ (set_grown _ _ _);refine grown_trans ?_ (set_grown _ _ _);refine grown_trans ?_ (set_grown _ _ _);refine grown_trans ?_ (set_grown _ _ _);refine grown_trans ?_ (set_grown _ _ _);refine grown_trans ?_ (set_grown _ _ _);refine grown_trans ?_ (set_grown _ _ _);exact set_grown _ _ _
  have eZ:=Ext.own (B:=some ⟨w.heap.size,0,none⟩) x8 gZ (fun k hk=>by have h9:w.heap.size=k:=Option.some.inj hk;omega);clear hZ y0 u0 y1 u1 y2 u2 y3 u3 y4 u4 y5 u5 y6 u6 y7 u7 y8 u8;have y0:=bZ.cell (i:=0) rfl;have y1:=bZ.cell (i:=1) rfl;have y2:=bZ.cell (i:=2) rfl;have y3:=bZ.cell (i:=3) rfl;have y4:=bZ.cell (i:=4) rfl;have y5:=bZ.cell (i:=5) rfl;have y6:=bZ.cell (i:=6) rfl;have y7:=bZ.cell (i:=7) rfl;have y8:=bZ.cell (i:=8) rfl;exact bodyPost_ret (v:=.tuple #[.agg #[.int .i64 2,.int .i64 (p.src:Nat),.int .i64 (p.dst:Nat),.int .i64 (id),.int .i64 0,.slice none 0 0,.int .i64 0,.int .i64 0,.int .u32 0],.int .i64 0]) (by simp[results,Tryz.results307,go_sem,y0,y1,y2,y3,y4,y5,y6,y7,y8]) rfl ⟨none,0,by rw[Hag.out],by rw[Hpr.out];exact Rb.nil_ _,(fun a ha=>by cases ha),eZ⟩
 ·have hk:kindP p=1:=by simp[kindP,hq]
  have hmid:midL id p=putL id++(putL p.first++(putL p.ack++(putL p.frame++(fourL p.sum++(putL p.press.length++runsL p.press))))):=by unfold midL;rw[if_neg (by rw[hq];simp)];simp only[List.append_assoc]
  rw[hmid]at hx;rw[hq,if_neg (by simp),toNat_ofNat8 (by decide)]at hc0;have hag:∀ A0 d0,pkAgg id p A0 p.press.length d0 = .agg #[.int .i64 1,.int .i64 (p.src:Nat),.int .i64 (p.dst:Nat),.int .i64 id,.int .i64 (p.first:Nat),.slice A0 p.press.length d0,.int .i64 (p.ack:Nat),.int .i64 (p.frame:Nat),.int .u32 (p.sum:Nat)]:=fun A0 d0=>by unfold pkAgg;rw[hk]
  have Hq:=hqd hq;have hid2:=hid;unfold okId at hid2;clear hmid hq;go_enter func307,ntmps307;go_wp2_with fail;generalize hV:World.alloc w _=V;have eV:Ext w V:=by subst hV;exact Ext.alloc _ _
  have bV:Has V (fun _=>0) 0 w.heap.size [.int .i64 0,.int .i64 0,.int .i64 0,.int .i64 0,.int .i64 0,.slice none 0 0,.int .i64 0,.int .i64 0,.int .u32 0]:=by subst hV;exact⟨rfl,_,heap_alloc_new w _⟩
  have hwV:w.heap.size<V.heap.size:=bV.lt;have hc0:=eV.cell hc0;have hc1:=eV.cell hc1;have hc2:=eV.cell hc2;clear hV;apply wrN 14;simp only[tk];repeat apply lxA (fun _ h _=>aj (h.cell hc0) (aj (h.cell hc1) (h.cell hc2)))
  apply lex_new (p:=fun u W=>∃ g0,u = .pointer (some ⟨g0,0,none⟩)∧V.heap.size≤g0∧Has W (fun _=>0) 0 g0 [.int .i64 0,.int .i64 0,.int .i64 0,.int .i64 0,.int .i64 0,.slice none 0 0,.int .i64 0,.int .i64 0,.int .u32 0]) (fun _ _ _ ⟨g,hv,hg,h⟩ he=>⟨g,hv,hg,h.ext he⟩)
  ·rfl
  ·intro W hR hΦ
   refine⟨.pointer (some ⟨W.heap.size,0,none⟩),W.alloc (.cells #[.int .i64 0,.int .i64 0,.int .i64 0,.int .i64 0,.int .i64 0,.slice none 0 0,.int .i64 0,.int .i64 0,.int .u32 0] 34),?_,Ext.alloc _ _,W.heap.size,rfl,hR.size,rfl,_,heap_alloc_new W _⟩;go_simp;first|done|rfl
  intro v2;simp only[pu];refine lex_nil ?_;intro W hR hΦ;obtain⟨g0,rfl,hg0,hB⟩:=hΦ.1 rfl;simp only[dk];clear hΦ hc0 hc1 hc2;have bV:=bV.ext hR;have eW:=eV.trans hR;have hb2:b≠g0:=by omega
  have hne0:g0≠w.heap.size:=by omega
  have hg0w:w.heap.size<g0:=by omega
  have hgW:g0<W.heap.size:=hB.lt;have hw2:IntKind.i64.wrap 2=2:=by decide
  have hw1:IntKind.i64.wrap 1=1:=by decide
  have hws:IntKind.i64.wrap ((p.src:Nat):Int)=((p.src:Nat):Int):=IntWalk.i64_in _ (by omega);have hwd:IntKind.i64.wrap ((p.dst:Nat):Int)=((p.dst:Nat):Int):=IntWalk.i64_in _ (by omega);have k0:W.cell? ⟨g0,0,none⟩=some (.int .i64 0):=hB.cell rfl;have k1:W.cell? ⟨g0,1,none⟩=some (.int .i64 0):=hB.cell rfl;have k2:W.cell? ⟨g0,2,none⟩=some (.int .i64 0):=hB.cell rfl;have k3:W.cell? ⟨g0,3,none⟩=some (.int .i64 0):=hB.cell rfl;have k4:W.cell? ⟨g0,4,none⟩=some (.int .i64 0):=hB.cell rfl;have k5:W.cell? ⟨g0,5,none⟩=some (.slice none 0 0):=hB.cell rfl;have k6:W.cell? ⟨g0,6,none⟩=some (.int .i64 0):=hB.cell rfl;have k7:W.cell? ⟨g0,7,none⟩=some (.int .i64 0):=hB.cell rfl;have k8:W.cell? ⟨g0,8,none⟩=some (.int .u32 0):=hB.cell rfl;have z0:W.frozen? ⟨g0,0,none⟩=false:=hB.free 0;have z1:W.frozen? ⟨g0,1,none⟩=false:=hB.free 1;have z2:W.frozen? ⟨g0,2,none⟩=false:=hB.free 2;have z3:W.frozen? ⟨g0,3,none⟩=false:=hB.free 3;have z4:W.frozen? ⟨g0,4,none⟩=false:=hB.free 4;have z5:W.frozen? ⟨g0,5,none⟩=false:=hB.free 5;have z6:W.frozen? ⟨g0,6,none⟩=false:=hB.free 6;have z7:W.frozen? ⟨g0,7,none⟩=false:=hB.free 7;have z8:W.frozen? ⟨g0,8,none⟩=false:=hB.free 8;go_wp2_with fail;generalize hY:World.setCell _ ⟨g0,8,none⟩ _=Y;have hBY:Has Y (fun _=>0) 0 g0 [.int .i64 1,.int .i64 (p.src:Nat),.int .i64 (p.dst:Nat),.int .i64 0,.int .i64 0,.slice none 0 0,.int .i64 0,.int .i64 0,.int .u32 0]:=by
   subst hY;have h9:=((((((((hB.set 0 (.int .i64 1)).set 1 (.int .i64 (p.src:Nat))).set 2 (.int .i64 (p.dst:Nat))).set 3 (.int .i64 0)).set 4 (.int .i64 0)).set 5 (.slice none 0 0)).set 6 (.int .i64 0)).set 7 (.int .i64 0)).set 8 (.int .u32 0);simp only[List.set_cons_zero,List.set_cons_succ]at h9;exact h9
  have hgY:W.grownBy Y (some g0):=by
   subst hY;refine grown_trans ?_ (set_grown _ _ _);refine grown_trans ?_ (set_grown _ _ _);refine grown_trans ?_ (set_grown _ _ _);refine grown_trans ?_ (set_grown _ _ _);refine grown_trans ?_ (set_grown _ _ _);refine grown_trans ?_ (set_grown _ _ _);refine grown_trans ?_ (set_grown _ _ _);refine grown_trans ?_ (set_grown _ _ _);exact set_grown _ _ _
  have hYs:W.heap.size=Y.heap.size:=by subst hY;simp[World.setCell]
  have bY:=bV.grown hgY (by simp;omega);have eY:=Ext.own (B:=some ⟨g0,0,none⟩) eW hgY (fun k hk=>by have h9:g0=k:=Option.some.inj hk;omega);rw[hYs];generalize hX:World.alloc Y _=X;obtain⟨R,hRR⟩:∃ R,Y.heap.size=R:=⟨_,rfl⟩;have hB1:Has X (fun _=>0) 0 g0 [.int .i64 1,.int .i64 (p.src:Nat),.int .i64 (p.dst:Nat),.int .i64 0,.int .i64 0,.slice none 0 0,.int .i64 0,.int .i64 0,.int .u32 0]:=by subst hX;exact hBY.ext (Ext.alloc _ _)
  have bX:Has X (fun _=>0) 0 w.heap.size [.int .i64 0,.int .i64 0,.int .i64 0,.int .i64 0,.int .i64 0,.slice none 0 0,.int .i64 0,.int .i64 0,.int .u32 0]:=by subst hX;exact bY.ext (Ext.alloc _ _)
  have eX:Ext w X:=by subst hX;exact eY.trans (Ext.alloc _ _)
  have hRd:Rdr X R (some ⟨b,o+3,none⟩) m (c-3) (putL id++(putL p.first++(putL p.ack++(putL p.frame++(fourL p.sum++(putL p.press.length++runsL p.press)))))):=by
   have hrb:=hx.ext eX;have h9:=hBY.lt;have h8:=eY.size;subst hRR;subst hX;refine⟨?_,?_,?_,?_,hrb,fun a ha=>?_⟩
   ·go_simp
   ·go_simp
   ·go_simp
   ·go_simp
   ·cases ha;show b≠_;omega
  have hgR:g0≠R:=by have:=hBY.lt;omega
  have hwR:w.heap.size≠R:=by have:=bY.lt;omega
  have hwR2:w.heap.size≤R:=by have:=eY.size;omega
  rw[hRR];clear hX hRR hB bV hgW hwV hw2 hw1 hws hwd hR eV eW hY hBY hgY bY eY hYs;clear k0 z0 k1 z1 k2 z2 k3 z3 k4 z4 k5 z5 k6 z6 k7 z7 k8 z8;refine(reader_num X R (some ⟨b,o+3,none⟩) m (c-3) (id) _ hRd (by omega) (by omega)).mono ?_;rintro ev w1 ⟨rfl,gr1,A1,n1,c1,rd1,hbl1⟩;have hab1:∀ a,A1=some a→a.block=b:=fun a ha=>by
   obtain⟨a9,h9,h10⟩:=hbl1 a ha;cases h9;exact h10
  clear hbl1;have hB:=Has.grown hB1 gr1 (by simp;omega);have b1:=Has.grown bX gr1 (by simp;omega);have e1:=Ext.own (B:=some ⟨R,0,none⟩) eX gr1 (fun k hk=>by have h9:R=k:=Option.some.inj hk;omega);have hlt:w.heap.size<w1.heap.size:=b1.lt;have k0:w1.cell? ⟨g0,0,none⟩=some (.int .i64 1):=hB.cell rfl;have k1:w1.cell? ⟨g0,1,none⟩=some (.int .i64 (p.src:Nat)):=hB.cell rfl;have k2:w1.cell? ⟨g0,2,none⟩=some (.int .i64 (p.dst:Nat)):=hB.cell rfl;have k3:w1.cell? ⟨g0,3,none⟩=some (.int .i64 0):=hB.cell rfl;have k4:w1.cell? ⟨g0,4,none⟩=some (.int .i64 0):=hB.cell rfl;have k5:w1.cell? ⟨g0,5,none⟩=some (.slice none 0 0):=hB.cell rfl;have k6:w1.cell? ⟨g0,6,none⟩=some (.int .i64 0):=hB.cell rfl;have k7:w1.cell? ⟨g0,7,none⟩=some (.int .i64 0):=hB.cell rfl;have k8:w1.cell? ⟨g0,8,none⟩=some (.int .u32 0):=hB.cell rfl;have z0:w1.frozen? ⟨g0,0,none⟩=false:=hB.free 0;have z1:w1.frozen? ⟨g0,1,none⟩=false:=hB.free 1;have z2:w1.frozen? ⟨g0,2,none⟩=false:=hB.free 2;have z3:w1.frozen? ⟨g0,3,none⟩=false:=hB.free 3;have z4:w1.frozen? ⟨g0,4,none⟩=false:=hB.free 4;have z5:w1.frozen? ⟨g0,5,none⟩=false:=hB.free 5;have z6:w1.frozen? ⟨g0,6,none⟩=false:=hB.free 6;have z7:w1.frozen? ⟨g0,7,none⟩=false:=hB.free 7;have z8:w1.frozen? ⟨g0,8,none⟩=false:=hB.free 8;have s0:=rd1.c0;have s1:=rd1.c1;clear gr1 hRd hB1 bX eX;go_wp2_with fail;generalize hY:World.setCell w1 ⟨g0,3,none⟩ _=Y1;have hgY:w1.grownBy Y1 (some g0):=by subst hY;exact set_grown _ _ _
  have hB1:Has Y1 (fun _=>0) 0 g0 [.int .i64 1,.int .i64 (p.src:Nat),.int .i64 (p.dst:Nat),.int .i64 (id),.int .i64 0,.slice none 0 0,.int .i64 0,.int .i64 0,.int .u32 0]:=by subst hY;exact hB.set 3 _
  have bY1:=b1.grown hgY (by simp;omega);have eY1:=Ext.own (B:=some ⟨g0,0,none⟩) e1 hgY (fun k hk=>by have h9:g0=k:=Option.some.inj hk;omega);have rY1:Rdr Y1 R A1 n1 c1 (putL p.first++(putL p.ack++(putL p.frame++(fourL p.sum++(putL p.press.length++(runsL p.press)))))):=by
   refine⟨hgY.cell rd1.c0 (by simp;omega),hgY.cell rd1.c1 (by simp;omega),?_,?_,Rb.grown rd1.rb hgY (fun a ha e9=>?_),rd1.ne⟩
   ·subst hY;rw[World.frozen?_setCell];exact rd1.f0
   ·subst hY;rw[World.frozen?_setCell];exact rd1.f1
   ·have h11:g0=a.block:=Option.some.inj e9
    rw[hab1 a ha]at h11;exact hb2 h11.symm
  clear hY hgY b1 e1 rd1 hB s0 s1 hlt;clear k0 z0 k1 z1 k2 z2 k3 z3 k4 z4 k5 z5 k6 z6 k7 z7 k8 z8;have k0:Y1.cell? ⟨g0,0,none⟩=some (.int .i64 1):=hB1.cell rfl;have k1:Y1.cell? ⟨g0,1,none⟩=some (.int .i64 (p.src:Nat)):=hB1.cell rfl;have k2:Y1.cell? ⟨g0,2,none⟩=some (.int .i64 (p.dst:Nat)):=hB1.cell rfl;have k3:Y1.cell? ⟨g0,3,none⟩=some (.int .i64 (id)):=hB1.cell rfl;have k4:Y1.cell? ⟨g0,4,none⟩=some (.int .i64 0):=hB1.cell rfl;have k5:Y1.cell? ⟨g0,5,none⟩=some (.slice none 0 0):=hB1.cell rfl;have k6:Y1.cell? ⟨g0,6,none⟩=some (.int .i64 0):=hB1.cell rfl;have k7:Y1.cell? ⟨g0,7,none⟩=some (.int .i64 0):=hB1.cell rfl;have k8:Y1.cell? ⟨g0,8,none⟩=some (.int .u32 0):=hB1.cell rfl;have z0:Y1.frozen? ⟨g0,0,none⟩=false:=hB1.free 0;have z1:Y1.frozen? ⟨g0,1,none⟩=false:=hB1.free 1;have z2:Y1.frozen? ⟨g0,2,none⟩=false:=hB1.free 2;have z3:Y1.frozen? ⟨g0,3,none⟩=false:=hB1.free 3;have z4:Y1.frozen? ⟨g0,4,none⟩=false:=hB1.free 4;have z5:Y1.frozen? ⟨g0,5,none⟩=false:=hB1.free 5;have z6:Y1.frozen? ⟨g0,6,none⟩=false:=hB1.free 6;have z7:Y1.frozen? ⟨g0,7,none⟩=false:=hB1.free 7;have z8:Y1.frozen? ⟨g0,8,none⟩=false:=hB1.free 8;have s0:=rY1.c0;have s1:=rY1.c1;have hlt:w.heap.size<Y1.heap.size:=bY1.lt;go_wp2_with fail;clear s0 s1 hlt;clear k0 z0 k1 z1 k2 z2 k3 z3 k4 z4 k5 z5 k6 z6 k7 z7 k8 z8;refine(reader_num Y1 R A1 n1 c1 ((p.first:Nat)) _ rY1 (by omega) (by omega)).mono ?_;rintro ev w2 ⟨rfl,gr2,A2,n2,c2,rd2,hbl2⟩;have hab2:∀ a,A2=some a→a.block=b:=fun a ha=>by
   obtain⟨a9,h9,h10⟩:=hbl2 a ha;exact h10.trans (hab1 _ h9)
  clear hbl2;have hB:=Has.grown hB1 gr2 (by simp;omega);have b2:=Has.grown bY1 gr2 (by simp;omega);have e2:=Ext.own (B:=some ⟨R,0,none⟩) eY1 gr2 (fun k hk=>by have h9:R=k:=Option.some.inj hk;omega);have hlt:w.heap.size<w2.heap.size:=b2.lt;have k0:w2.cell? ⟨g0,0,none⟩=some (.int .i64 1):=hB.cell rfl;have k1:w2.cell? ⟨g0,1,none⟩=some (.int .i64 (p.src:Nat)):=hB.cell rfl;have k2:w2.cell? ⟨g0,2,none⟩=some (.int .i64 (p.dst:Nat)):=hB.cell rfl;have k3:w2.cell? ⟨g0,3,none⟩=some (.int .i64 (id)):=hB.cell rfl;have k4:w2.cell? ⟨g0,4,none⟩=some (.int .i64 0):=hB.cell rfl;have k5:w2.cell? ⟨g0,5,none⟩=some (.slice none 0 0):=hB.cell rfl;have k6:w2.cell? ⟨g0,6,none⟩=some (.int .i64 0):=hB.cell rfl;have k7:w2.cell? ⟨g0,7,none⟩=some (.int .i64 0):=hB.cell rfl;have k8:w2.cell? ⟨g0,8,none⟩=some (.int .u32 0):=hB.cell rfl;have z0:w2.frozen? ⟨g0,0,none⟩=false:=hB.free 0;have z1:w2.frozen? ⟨g0,1,none⟩=false:=hB.free 1;have z2:w2.frozen? ⟨g0,2,none⟩=false:=hB.free 2;have z3:w2.frozen? ⟨g0,3,none⟩=false:=hB.free 3;have z4:w2.frozen? ⟨g0,4,none⟩=false:=hB.free 4;have z5:w2.frozen? ⟨g0,5,none⟩=false:=hB.free 5;have z6:w2.frozen? ⟨g0,6,none⟩=false:=hB.free 6;have z7:w2.frozen? ⟨g0,7,none⟩=false:=hB.free 7;have z8:w2.frozen? ⟨g0,8,none⟩=false:=hB.free 8;have s0:=rd2.c0;have s1:=rd2.c1;clear gr2 rY1 hB1 bY1 eY1;go_wp2_with fail;generalize hY:World.setCell w2 ⟨g0,4,none⟩ _=Y2;have hgY:w2.grownBy Y2 (some g0):=by subst hY;exact set_grown _ _ _
  have hB2:Has Y2 (fun _=>0) 0 g0 [.int .i64 1,.int .i64 (p.src:Nat),.int .i64 (p.dst:Nat),.int .i64 (id),.int .i64 ((p.first:Nat)),.slice none 0 0,.int .i64 0,.int .i64 0,.int .u32 0]:=by subst hY;exact hB.set 4 _
  have bY2:=b2.grown hgY (by simp;omega);have eY2:=Ext.own (B:=some ⟨g0,0,none⟩) e2 hgY (fun k hk=>by have h9:g0=k:=Option.some.inj hk;omega);have rY2:Rdr Y2 R A2 n2 c2 (putL p.ack++(putL p.frame++(fourL p.sum++(putL p.press.length++(runsL p.press))))):=by
   refine⟨hgY.cell rd2.c0 (by simp;omega),hgY.cell rd2.c1 (by simp;omega),?_,?_,Rb.grown rd2.rb hgY (fun a ha e9=>?_),rd2.ne⟩
   ·subst hY;rw[World.frozen?_setCell];exact rd2.f0
   ·subst hY;rw[World.frozen?_setCell];exact rd2.f1
   ·have h11:g0=a.block:=Option.some.inj e9
    rw[hab2 a ha]at h11;exact hb2 h11.symm
  clear hY hgY b2 e2 rd2 hB s0 s1 hlt;clear k0 z0 k1 z1 k2 z2 k3 z3 k4 z4 k5 z5 k6 z6 k7 z7 k8 z8;have k0:Y2.cell? ⟨g0,0,none⟩=some (.int .i64 1):=hB2.cell rfl;have k1:Y2.cell? ⟨g0,1,none⟩=some (.int .i64 (p.src:Nat)):=hB2.cell rfl;have k2:Y2.cell? ⟨g0,2,none⟩=some (.int .i64 (p.dst:Nat)):=hB2.cell rfl;have k3:Y2.cell? ⟨g0,3,none⟩=some (.int .i64 (id)):=hB2.cell rfl;have k4:Y2.cell? ⟨g0,4,none⟩=some (.int .i64 ((p.first:Nat))):=hB2.cell rfl;have k5:Y2.cell? ⟨g0,5,none⟩=some (.slice none 0 0):=hB2.cell rfl;have k6:Y2.cell? ⟨g0,6,none⟩=some (.int .i64 0):=hB2.cell rfl;have k7:Y2.cell? ⟨g0,7,none⟩=some (.int .i64 0):=hB2.cell rfl;have k8:Y2.cell? ⟨g0,8,none⟩=some (.int .u32 0):=hB2.cell rfl;have z0:Y2.frozen? ⟨g0,0,none⟩=false:=hB2.free 0;have z1:Y2.frozen? ⟨g0,1,none⟩=false:=hB2.free 1;have z2:Y2.frozen? ⟨g0,2,none⟩=false:=hB2.free 2;have z3:Y2.frozen? ⟨g0,3,none⟩=false:=hB2.free 3;have z4:Y2.frozen? ⟨g0,4,none⟩=false:=hB2.free 4;have z5:Y2.frozen? ⟨g0,5,none⟩=false:=hB2.free 5;have z6:Y2.frozen? ⟨g0,6,none⟩=false:=hB2.free 6;have z7:Y2.frozen? ⟨g0,7,none⟩=false:=hB2.free 7;have z8:Y2.frozen? ⟨g0,8,none⟩=false:=hB2.free 8;have s0:=rY2.c0;have s1:=rY2.c1;have hlt:w.heap.size<Y2.heap.size:=bY2.lt;go_wp2_with fail;clear s0 s1 hlt;clear k0 z0 k1 z1 k2 z2 k3 z3 k4 z4 k5 z5 k6 z6 k7 z7 k8 z8;refine(reader_num Y2 R A2 n2 c2 ((p.ack:Nat)) _ rY2 (by omega) (by omega)).mono ?_;rintro ev w3 ⟨rfl,gr3,A3,n3,c3,rd3,hbl3⟩;have hab3:∀ a,A3=some a→a.block=b:=fun a ha=>by
   obtain⟨a9,h9,h10⟩:=hbl3 a ha;exact h10.trans (hab2 _ h9)
  clear hbl3;have hB:=Has.grown hB2 gr3 (by simp;omega);have b3:=Has.grown bY2 gr3 (by simp;omega);have e3:=Ext.own (B:=some ⟨R,0,none⟩) eY2 gr3 (fun k hk=>by have h9:R=k:=Option.some.inj hk;omega);have hlt:w.heap.size<w3.heap.size:=b3.lt;have k0:w3.cell? ⟨g0,0,none⟩=some (.int .i64 1):=hB.cell rfl;have k1:w3.cell? ⟨g0,1,none⟩=some (.int .i64 (p.src:Nat)):=hB.cell rfl;have k2:w3.cell? ⟨g0,2,none⟩=some (.int .i64 (p.dst:Nat)):=hB.cell rfl;have k3:w3.cell? ⟨g0,3,none⟩=some (.int .i64 (id)):=hB.cell rfl;have k4:w3.cell? ⟨g0,4,none⟩=some (.int .i64 ((p.first:Nat))):=hB.cell rfl;have k5:w3.cell? ⟨g0,5,none⟩=some (.slice none 0 0):=hB.cell rfl;have k6:w3.cell? ⟨g0,6,none⟩=some (.int .i64 0):=hB.cell rfl;have k7:w3.cell? ⟨g0,7,none⟩=some (.int .i64 0):=hB.cell rfl;have k8:w3.cell? ⟨g0,8,none⟩=some (.int .u32 0):=hB.cell rfl;have z0:w3.frozen? ⟨g0,0,none⟩=false:=hB.free 0;have z1:w3.frozen? ⟨g0,1,none⟩=false:=hB.free 1;have z2:w3.frozen? ⟨g0,2,none⟩=false:=hB.free 2;have z3:w3.frozen? ⟨g0,3,none⟩=false:=hB.free 3;have z4:w3.frozen? ⟨g0,4,none⟩=false:=hB.free 4;have z5:w3.frozen? ⟨g0,5,none⟩=false:=hB.free 5;have z6:w3.frozen? ⟨g0,6,none⟩=false:=hB.free 6;have z7:w3.frozen? ⟨g0,7,none⟩=false:=hB.free 7;have z8:w3.frozen? ⟨g0,8,none⟩=false:=hB.free 8;have s0:=rd3.c0;have s1:=rd3.c1;clear gr3 rY2 hB2 bY2 eY2;go_wp2_with fail;generalize hY:World.setCell w3 ⟨g0,6,none⟩ _=Y3;have hgY:w3.grownBy Y3 (some g0):=by subst hY;exact set_grown _ _ _
  have hB3:Has Y3 (fun _=>0) 0 g0 [.int .i64 1,.int .i64 (p.src:Nat),.int .i64 (p.dst:Nat),.int .i64 (id),.int .i64 ((p.first:Nat)),.slice none 0 0,.int .i64 ((p.ack:Nat)),.int .i64 0,.int .u32 0]:=by subst hY;exact hB.set 6 _
  have bY3:=b3.grown hgY (by simp;omega);have eY3:=Ext.own (B:=some ⟨g0,0,none⟩) e3 hgY (fun k hk=>by have h9:g0=k:=Option.some.inj hk;omega);have rY3:Rdr Y3 R A3 n3 c3 (putL p.frame++(fourL p.sum++(putL p.press.length++(runsL p.press)))):=by
   refine⟨hgY.cell rd3.c0 (by simp;omega),hgY.cell rd3.c1 (by simp;omega),?_,?_,Rb.grown rd3.rb hgY (fun a ha e9=>?_),rd3.ne⟩
   ·subst hY;rw[World.frozen?_setCell];exact rd3.f0
   ·subst hY;rw[World.frozen?_setCell];exact rd3.f1
   ·have h11:g0=a.block:=Option.some.inj e9
    rw[hab3 a ha]at h11;exact hb2 h11.symm
  clear hY hgY b3 e3 rd3 hB s0 s1 hlt;clear k0 z0 k1 z1 k2 z2 k3 z3 k4 z4 k5 z5 k6 z6 k7 z7 k8 z8;have k0:Y3.cell? ⟨g0,0,none⟩=some (.int .i64 1):=hB3.cell rfl;have k1:Y3.cell? ⟨g0,1,none⟩=some (.int .i64 (p.src:Nat)):=hB3.cell rfl;have k2:Y3.cell? ⟨g0,2,none⟩=some (.int .i64 (p.dst:Nat)):=hB3.cell rfl;have k3:Y3.cell? ⟨g0,3,none⟩=some (.int .i64 (id)):=hB3.cell rfl;have k4:Y3.cell? ⟨g0,4,none⟩=some (.int .i64 ((p.first:Nat))):=hB3.cell rfl;have k5:Y3.cell? ⟨g0,5,none⟩=some (.slice none 0 0):=hB3.cell rfl;have k6:Y3.cell? ⟨g0,6,none⟩=some (.int .i64 ((p.ack:Nat))):=hB3.cell rfl;have k7:Y3.cell? ⟨g0,7,none⟩=some (.int .i64 0):=hB3.cell rfl;have k8:Y3.cell? ⟨g0,8,none⟩=some (.int .u32 0):=hB3.cell rfl;have z0:Y3.frozen? ⟨g0,0,none⟩=false:=hB3.free 0;have z1:Y3.frozen? ⟨g0,1,none⟩=false:=hB3.free 1;have z2:Y3.frozen? ⟨g0,2,none⟩=false:=hB3.free 2;have z3:Y3.frozen? ⟨g0,3,none⟩=false:=hB3.free 3;have z4:Y3.frozen? ⟨g0,4,none⟩=false:=hB3.free 4;have z5:Y3.frozen? ⟨g0,5,none⟩=false:=hB3.free 5;have z6:Y3.frozen? ⟨g0,6,none⟩=false:=hB3.free 6;have z7:Y3.frozen? ⟨g0,7,none⟩=false:=hB3.free 7;have z8:Y3.frozen? ⟨g0,8,none⟩=false:=hB3.free 8;have s0:=rY3.c0;have s1:=rY3.c1;have hlt:w.heap.size<Y3.heap.size:=bY3.lt;go_wp2_with fail;clear s0 s1 hlt;clear k0 z0 k1 z1 k2 z2 k3 z3 k4 z4 k5 z5 k6 z6 k7 z7 k8 z8;refine(reader_num Y3 R A3 n3 c3 ((p.frame:Nat)) _ rY3 (by omega) (by omega)).mono ?_;rintro ev w4 ⟨rfl,gr4,A4,n4,c4,rd4,hbl4⟩;have hab4:∀ a,A4=some a→a.block=b:=fun a ha=>by
   obtain⟨a9,h9,h10⟩:=hbl4 a ha;exact h10.trans (hab3 _ h9)
  clear hbl4;have hB:=Has.grown hB3 gr4 (by simp;omega);have b4:=Has.grown bY3 gr4 (by simp;omega);have e4:=Ext.own (B:=some ⟨R,0,none⟩) eY3 gr4 (fun k hk=>by have h9:R=k:=Option.some.inj hk;omega);have hlt:w.heap.size<w4.heap.size:=b4.lt;have k0:w4.cell? ⟨g0,0,none⟩=some (.int .i64 1):=hB.cell rfl;have k1:w4.cell? ⟨g0,1,none⟩=some (.int .i64 (p.src:Nat)):=hB.cell rfl;have k2:w4.cell? ⟨g0,2,none⟩=some (.int .i64 (p.dst:Nat)):=hB.cell rfl;have k3:w4.cell? ⟨g0,3,none⟩=some (.int .i64 (id)):=hB.cell rfl;have k4:w4.cell? ⟨g0,4,none⟩=some (.int .i64 ((p.first:Nat))):=hB.cell rfl;have k5:w4.cell? ⟨g0,5,none⟩=some (.slice none 0 0):=hB.cell rfl;have k6:w4.cell? ⟨g0,6,none⟩=some (.int .i64 ((p.ack:Nat))):=hB.cell rfl;have k7:w4.cell? ⟨g0,7,none⟩=some (.int .i64 0):=hB.cell rfl;have k8:w4.cell? ⟨g0,8,none⟩=some (.int .u32 0):=hB.cell rfl;have z0:w4.frozen? ⟨g0,0,none⟩=false:=hB.free 0;have z1:w4.frozen? ⟨g0,1,none⟩=false:=hB.free 1;have z2:w4.frozen? ⟨g0,2,none⟩=false:=hB.free 2;have z3:w4.frozen? ⟨g0,3,none⟩=false:=hB.free 3;have z4:w4.frozen? ⟨g0,4,none⟩=false:=hB.free 4;have z5:w4.frozen? ⟨g0,5,none⟩=false:=hB.free 5;have z6:w4.frozen? ⟨g0,6,none⟩=false:=hB.free 6;have z7:w4.frozen? ⟨g0,7,none⟩=false:=hB.free 7;have z8:w4.frozen? ⟨g0,8,none⟩=false:=hB.free 8;have s0:=rd4.c0;have s1:=rd4.c1;clear gr4 rY3 hB3 bY3 eY3;go_wp2_with fail;generalize hY:World.setCell w4 ⟨g0,7,none⟩ _=Y4;have hgY:w4.grownBy Y4 (some g0):=by subst hY;exact set_grown _ _ _
  have hB4:Has Y4 (fun _=>0) 0 g0 [.int .i64 1,.int .i64 (p.src:Nat),.int .i64 (p.dst:Nat),.int .i64 (id),.int .i64 ((p.first:Nat)),.slice none 0 0,.int .i64 ((p.ack:Nat)),.int .i64 ((p.frame:Nat)),.int .u32 0]:=by subst hY;exact hB.set 7 _
  have bY4:=b4.grown hgY (by simp;omega);have eY4:=Ext.own (B:=some ⟨g0,0,none⟩) e4 hgY (fun k hk=>by have h9:g0=k:=Option.some.inj hk;omega);have rY4:Rdr Y4 R A4 n4 c4 (fourL p.sum++(putL p.press.length++(runsL p.press))):=by
   refine⟨hgY.cell rd4.c0 (by simp;omega),hgY.cell rd4.c1 (by simp;omega),?_,?_,Rb.grown rd4.rb hgY (fun a ha e9=>?_),rd4.ne⟩
   ·subst hY;rw[World.frozen?_setCell];exact rd4.f0
   ·subst hY;rw[World.frozen?_setCell];exact rd4.f1
   ·have h11:g0=a.block:=Option.some.inj e9
    rw[hab4 a ha]at h11;exact hb2 h11.symm
  clear hY hgY b4 e4 rd4 hB s0 s1 hlt;clear k0 z0 k1 z1 k2 z2 k3 z3 k4 z4 k5 z5 k6 z6 k7 z7 k8 z8;have k0:Y4.cell? ⟨g0,0,none⟩=some (.int .i64 1):=hB4.cell rfl;have k1:Y4.cell? ⟨g0,1,none⟩=some (.int .i64 (p.src:Nat)):=hB4.cell rfl;have k2:Y4.cell? ⟨g0,2,none⟩=some (.int .i64 (p.dst:Nat)):=hB4.cell rfl;have k3:Y4.cell? ⟨g0,3,none⟩=some (.int .i64 (id)):=hB4.cell rfl;have k4:Y4.cell? ⟨g0,4,none⟩=some (.int .i64 ((p.first:Nat))):=hB4.cell rfl;have k5:Y4.cell? ⟨g0,5,none⟩=some (.slice none 0 0):=hB4.cell rfl;have k6:Y4.cell? ⟨g0,6,none⟩=some (.int .i64 ((p.ack:Nat))):=hB4.cell rfl;have k7:Y4.cell? ⟨g0,7,none⟩=some (.int .i64 ((p.frame:Nat))):=hB4.cell rfl;have k8:Y4.cell? ⟨g0,8,none⟩=some (.int .u32 0):=hB4.cell rfl;have z0:Y4.frozen? ⟨g0,0,none⟩=false:=hB4.free 0;have z1:Y4.frozen? ⟨g0,1,none⟩=false:=hB4.free 1;have z2:Y4.frozen? ⟨g0,2,none⟩=false:=hB4.free 2;have z3:Y4.frozen? ⟨g0,3,none⟩=false:=hB4.free 3;have z4:Y4.frozen? ⟨g0,4,none⟩=false:=hB4.free 4;have z5:Y4.frozen? ⟨g0,5,none⟩=false:=hB4.free 5;have z6:Y4.frozen? ⟨g0,6,none⟩=false:=hB4.free 6;have z7:Y4.frozen? ⟨g0,7,none⟩=false:=hB4.free 7;have z8:Y4.frozen? ⟨g0,8,none⟩=false:=hB4.free 8;have s0:=rY4.c0;have s1:=rY4.c1;have hlt:w.heap.size<Y4.heap.size:=bY4.lt;go_wp2_with fail;clear s0 s1 hlt;clear k0 z0 k1 z1 k2 z2 k3 z3 k4 z4 k5 z5 k6 z6 k7 z7 k8 z8;refine(reader_four Y4 R A4 n4 c4 (p.sum) _ rY4 hsu).mono ?_;rintro ev w5 ⟨rfl,gr5,A5,n5,c5,rd5,hbl5⟩;have hab5:∀ a,A5=some a→a.block=b:=fun a ha=>by
   obtain⟨a9,h9,h10⟩:=hbl5 a ha;exact h10.trans (hab4 _ h9)
  clear hbl5;have hB:=Has.grown hB4 gr5 (by simp;omega);have b5:=Has.grown bY4 gr5 (by simp;omega);have e5:=Ext.own (B:=some ⟨R,0,none⟩) eY4 gr5 (fun k hk=>by have h9:R=k:=Option.some.inj hk;omega);have hlt:w.heap.size<w5.heap.size:=b5.lt;have k0:w5.cell? ⟨g0,0,none⟩=some (.int .i64 1):=hB.cell rfl;have k1:w5.cell? ⟨g0,1,none⟩=some (.int .i64 (p.src:Nat)):=hB.cell rfl;have k2:w5.cell? ⟨g0,2,none⟩=some (.int .i64 (p.dst:Nat)):=hB.cell rfl;have k3:w5.cell? ⟨g0,3,none⟩=some (.int .i64 (id)):=hB.cell rfl;have k4:w5.cell? ⟨g0,4,none⟩=some (.int .i64 ((p.first:Nat))):=hB.cell rfl;have k5:w5.cell? ⟨g0,5,none⟩=some (.slice none 0 0):=hB.cell rfl;have k6:w5.cell? ⟨g0,6,none⟩=some (.int .i64 ((p.ack:Nat))):=hB.cell rfl;have k7:w5.cell? ⟨g0,7,none⟩=some (.int .i64 ((p.frame:Nat))):=hB.cell rfl;have k8:w5.cell? ⟨g0,8,none⟩=some (.int .u32 0):=hB.cell rfl;have z0:w5.frozen? ⟨g0,0,none⟩=false:=hB.free 0;have z1:w5.frozen? ⟨g0,1,none⟩=false:=hB.free 1;have z2:w5.frozen? ⟨g0,2,none⟩=false:=hB.free 2;have z3:w5.frozen? ⟨g0,3,none⟩=false:=hB.free 3;have z4:w5.frozen? ⟨g0,4,none⟩=false:=hB.free 4;have z5:w5.frozen? ⟨g0,5,none⟩=false:=hB.free 5;have z6:w5.frozen? ⟨g0,6,none⟩=false:=hB.free 6;have z7:w5.frozen? ⟨g0,7,none⟩=false:=hB.free 7;have z8:w5.frozen? ⟨g0,8,none⟩=false:=hB.free 8;have s0:=rd5.c0;have s1:=rd5.c1;clear gr5 rY4 hB4 bY4 eY4;go_wp2_with fail;generalize hY:World.setCell w5 ⟨g0,8,none⟩ _=Y5;have hgY:w5.grownBy Y5 (some g0):=by subst hY;exact set_grown _ _ _
  have hB5:Has Y5 (fun _=>0) 0 g0 [.int .i64 1,.int .i64 (p.src:Nat),.int .i64 (p.dst:Nat),.int .i64 (id),.int .i64 ((p.first:Nat)),.slice none 0 0,.int .i64 ((p.ack:Nat)),.int .i64 ((p.frame:Nat)),.int .u32 (p.sum:Nat)]:=by subst hY;exact hB.set 8 _
  have bY5:=b5.grown hgY (by simp;omega);have eY5:=Ext.own (B:=some ⟨g0,0,none⟩) e5 hgY (fun k hk=>by have h9:g0=k:=Option.some.inj hk;omega);have rY5:Rdr Y5 R A5 n5 c5 (putL p.press.length++(runsL p.press)):=by
   refine⟨hgY.cell rd5.c0 (by simp;omega),hgY.cell rd5.c1 (by simp;omega),?_,?_,Rb.grown rd5.rb hgY (fun a ha e9=>?_),rd5.ne⟩
   ·subst hY;rw[World.frozen?_setCell];exact rd5.f0
   ·subst hY;rw[World.frozen?_setCell];exact rd5.f1
   ·have h11:g0=a.block:=Option.some.inj e9
    rw[hab5 a ha]at h11;exact hb2 h11.symm
  clear hY hgY b5 e5 rd5 hB s0 s1 hlt;clear k0 z0 k1 z1 k2 z2 k3 z3 k4 z4 k5 z5 k6 z6 k7 z7 k8 z8;have k0:Y5.cell? ⟨g0,0,none⟩=some (.int .i64 1):=hB5.cell rfl;have k1:Y5.cell? ⟨g0,1,none⟩=some (.int .i64 (p.src:Nat)):=hB5.cell rfl;have k2:Y5.cell? ⟨g0,2,none⟩=some (.int .i64 (p.dst:Nat)):=hB5.cell rfl;have k3:Y5.cell? ⟨g0,3,none⟩=some (.int .i64 (id)):=hB5.cell rfl;have k4:Y5.cell? ⟨g0,4,none⟩=some (.int .i64 ((p.first:Nat))):=hB5.cell rfl;have k5:Y5.cell? ⟨g0,5,none⟩=some (.slice none 0 0):=hB5.cell rfl;have k6:Y5.cell? ⟨g0,6,none⟩=some (.int .i64 ((p.ack:Nat))):=hB5.cell rfl;have k7:Y5.cell? ⟨g0,7,none⟩=some (.int .i64 ((p.frame:Nat))):=hB5.cell rfl;have k8:Y5.cell? ⟨g0,8,none⟩=some (.int .u32 (p.sum:Nat)):=hB5.cell rfl;have z0:Y5.frozen? ⟨g0,0,none⟩=false:=hB5.free 0;have z1:Y5.frozen? ⟨g0,1,none⟩=false:=hB5.free 1;have z2:Y5.frozen? ⟨g0,2,none⟩=false:=hB5.free 2;have z3:Y5.frozen? ⟨g0,3,none⟩=false:=hB5.free 3;have z4:Y5.frozen? ⟨g0,4,none⟩=false:=hB5.free 4;have z5:Y5.frozen? ⟨g0,5,none⟩=false:=hB5.free 5;have z6:Y5.frozen? ⟨g0,6,none⟩=false:=hB5.free 6;have z7:Y5.frozen? ⟨g0,7,none⟩=false:=hB5.free 7;have z8:Y5.frozen? ⟨g0,8,none⟩=false:=hB5.free 8;have s0:=rY5.c0;have s1:=rY5.c1;have hlt:w.heap.size<Y5.heap.size:=bY5.lt;clear s0 s1 hlt;clear k0 z0 k1 z1 k2 z2 k3 z3 k4 z4 k5 z5 k6 z6 k7 z7 k8 z8;refine(reader_num Y5 R A5 n5 c5 ((p.press.length:Nat)) _ rY5 (by omega) (by omega)).mono ?_;rintro ev w6 ⟨rfl,gr6,A6,n6,c6,rd6,hbl6⟩;have hab6:∀ a,A6=some a→a.block=b:=fun a ha=>by
   obtain⟨a9,h9,h10⟩:=hbl6 a ha;exact h10.trans (hab5 _ h9)
  clear hbl6;have hB:=Has.grown hB5 gr6 (by simp;omega);have b6:=Has.grown bY5 gr6 (by simp;omega);have e6:=Ext.own (B:=some ⟨R,0,none⟩) eY5 gr6 (fun k hk=>by have h9:R=k:=Option.some.inj hk;omega);have hlt:w.heap.size<w6.heap.size:=b6.lt;have k0:w6.cell? ⟨g0,0,none⟩=some (.int .i64 1):=hB.cell rfl;have k1:w6.cell? ⟨g0,1,none⟩=some (.int .i64 (p.src:Nat)):=hB.cell rfl;have k2:w6.cell? ⟨g0,2,none⟩=some (.int .i64 (p.dst:Nat)):=hB.cell rfl;have k3:w6.cell? ⟨g0,3,none⟩=some (.int .i64 (id)):=hB.cell rfl;have k4:w6.cell? ⟨g0,4,none⟩=some (.int .i64 ((p.first:Nat))):=hB.cell rfl;have k5:w6.cell? ⟨g0,5,none⟩=some (.slice none 0 0):=hB.cell rfl;have k6:w6.cell? ⟨g0,6,none⟩=some (.int .i64 ((p.ack:Nat))):=hB.cell rfl;have k7:w6.cell? ⟨g0,7,none⟩=some (.int .i64 ((p.frame:Nat))):=hB.cell rfl;have k8:w6.cell? ⟨g0,8,none⟩=some (.int .u32 (p.sum:Nat)):=hB.cell rfl;have z0:w6.frozen? ⟨g0,0,none⟩=false:=hB.free 0;have z1:w6.frozen? ⟨g0,1,none⟩=false:=hB.free 1;have z2:w6.frozen? ⟨g0,2,none⟩=false:=hB.free 2;have z3:w6.frozen? ⟨g0,3,none⟩=false:=hB.free 3;have z4:w6.frozen? ⟨g0,4,none⟩=false:=hB.free 4;have z5:w6.frozen? ⟨g0,5,none⟩=false:=hB.free 5;have z6:w6.frozen? ⟨g0,6,none⟩=false:=hB.free 6;have z7:w6.frozen? ⟨g0,7,none⟩=false:=hB.free 7;have z8:w6.frozen? ⟨g0,8,none⟩=false:=hB.free 8;have s0:=rd6.c0;have s1:=rd6.c1;clear gr6 rY5 hB5 bY5 eY5;have hw9:((p.press.length:Nat):Int)≠-1:=by omega
  go_wp2_with fail;have hg0w7:g0<w6.heap.size:=hB.lt;have hw6s:w.heap.size<w6.heap.size:=b6.lt;have hw6:w.heap.size≤w6.heap.size:=e6.size;refine(unruns_any w6 A6 n6 c6 p.press rd6.rb hpr).mono ?_;rintro ev w7 ⟨F,Fd,rfl,o7,e7⟩;have hB:=hB.ext e7;have b7:=b6.ext e7;have s0:=e7.cell s0;have s1:=e7.cell s1;have x7:=e6.trans e7;have hlt:w.heap.size<w7.heap.size:=b7.lt;clear b6 e6;clear k0 z0 k1 z1 k2 z2 k3 z3 k4 z4 k5 z5 k6 z6 k7 z7 k8 z8;have k0:w7.cell? ⟨g0,0,none⟩=some (.int .i64 1):=hB.cell rfl;have k1:w7.cell? ⟨g0,1,none⟩=some (.int .i64 (p.src:Nat)):=hB.cell rfl;have k2:w7.cell? ⟨g0,2,none⟩=some (.int .i64 (p.dst:Nat)):=hB.cell rfl;have k3:w7.cell? ⟨g0,3,none⟩=some (.int .i64 (id)):=hB.cell rfl;have k4:w7.cell? ⟨g0,4,none⟩=some (.int .i64 ((p.first:Nat))):=hB.cell rfl;have k5:w7.cell? ⟨g0,5,none⟩=some (.slice none 0 0):=hB.cell rfl;have k6:w7.cell? ⟨g0,6,none⟩=some (.int .i64 ((p.ack:Nat))):=hB.cell rfl;have k7:w7.cell? ⟨g0,7,none⟩=some (.int .i64 ((p.frame:Nat))):=hB.cell rfl;have k8:w7.cell? ⟨g0,8,none⟩=some (.int .u32 (p.sum:Nat)):=hB.cell rfl;have z0:w7.frozen? ⟨g0,0,none⟩=false:=hB.free 0;have z1:w7.frozen? ⟨g0,1,none⟩=false:=hB.free 1;have z2:w7.frozen? ⟨g0,2,none⟩=false:=hB.free 2;have z3:w7.frozen? ⟨g0,3,none⟩=false:=hB.free 3;have z4:w7.frozen? ⟨g0,4,none⟩=false:=hB.free 4;have z5:w7.frozen? ⟨g0,5,none⟩=false:=hB.free 5;have z6:w7.frozen? ⟨g0,6,none⟩=false:=hB.free 6;have z7:w7.frozen? ⟨g0,7,none⟩=false:=hB.free 7;have z8:w7.frozen? ⟨g0,8,none⟩=false:=hB.free 8;go_wp2_with fail;generalize hY:World.setCell w7 ⟨g0,5,none⟩ _=Y7;have hgY:w7.grownBy Y7 (some g0):=by subst hY;exact set_grown _ _ _
  have hB7:Has Y7 (fun _=>0) 0 g0 [.int .i64 1,.int .i64 (p.src:Nat),.int .i64 (p.dst:Nat),.int .i64 (id),.int .i64 ((p.first:Nat)),.slice F p.press.length Fd,.int .i64 ((p.ack:Nat)),.int .i64 ((p.frame:Nat)),.int .u32 (p.sum:Nat)]:=by subst hY;exact hB.set 5 _
  have bY7:=b7.grown hgY (by simp;omega);have eY7:=Ext.own (B:=some ⟨g0,0,none⟩) x7 hgY (fun k hk=>by have h9:g0=k:=Option.some.inj hk;omega);have s1:=hgY.cell s1 (by simp;omega);have hFne:∀ k,blk F=some k→k≠g0:=fun k hk e9=>by have h8:=hg0w7;have:=o7.blk_ge k hk;omega
  have hrF:Rb Y7 F p.press.length Fd p.press:=Rb.grown (Rb.of o7.rd rfl) hgY (fun a ha e9=>hFne a.block (by rw[ha];rfl) (Option.some.inj e9).symm);have hFz:∀ a,F=some a→a.block≠w.heap.size:=fun a ha=>by have:=(o7.base_le a ha).1;have h8:=hw6s;omega
  have hFw:∀ a,F=some a→w.heap.size≤a.block:=fun a ha=>by have:=(o7.base_le a ha).1;have h8:=hw6;omega
  have HFz:=hqd hFz;have HFw:=hqd hFw;clear hY hgY b7 x7 hB s0 hlt o7 hFne hFz hFw hw9 hab1 hab2 hab3 hab4 hab5 hab6;clear k0 z0 k1 z1 k2 z2 k3 z3 k4 z4 k5 z5 k6 z6 k7 z7 k8 z8;have Hen:=hqd (Henc.out Y7 F Fd hrF);rw[hag F Fd]at Hen;refine Hen.out.mono ?_;rintro ev w8 ⟨B,bm,bd,rfl,o8,e8⟩;have hB8:=hB7.ext e8;have b8:=bY7.ext e8;have s1:=e8.cell s1;have x8:=eY7.trans e8;have hrF:=hqd (hrF.ext e8);clear hB7 bY7 eY7 e8;have hbm:bm=(encPk id p).length:=by have:=o8.len;rw[bcs_length]at this;omega
  have hrB:Rb w8 B bm bd (encPk id p):=Rb.of o8.rd rfl;obtain⟨bB,oB,rfl,hq9⟩:=hrB.at_ (k:=0) (by omega);clear hq9;have hEq:=bytes_eq w8 _ bm bd _ _ n c _ hrB (Hb.out.ext x8);rw[show(encPk id p==encPk id p)=true from beq_self_eq_true _]at hEq;have HEq:=hqd hEq;have hnil:=nil_no bB oB bm bd w8;clear hEq hbm hrB o8;have k0:w8.cell? ⟨g0,0,none⟩=some (.int .i64 1):=hB8.cell rfl;have k1:w8.cell? ⟨g0,1,none⟩=some (.int .i64 (p.src:Nat)):=hB8.cell rfl;have k2:w8.cell? ⟨g0,2,none⟩=some (.int .i64 (p.dst:Nat)):=hB8.cell rfl;have k3:w8.cell? ⟨g0,3,none⟩=some (.int .i64 (id)):=hB8.cell rfl;have k4:w8.cell? ⟨g0,4,none⟩=some (.int .i64 ((p.first:Nat))):=hB8.cell rfl;have k5:w8.cell? ⟨g0,5,none⟩=some (.slice F p.press.length Fd):=hB8.cell rfl;have k6:w8.cell? ⟨g0,6,none⟩=some (.int .i64 ((p.ack:Nat))):=hB8.cell rfl;have k7:w8.cell? ⟨g0,7,none⟩=some (.int .i64 ((p.frame:Nat))):=hB8.cell rfl;have k8:w8.cell? ⟨g0,8,none⟩=some (.int .u32 (p.sum:Nat)):=hB8.cell rfl;have z0:w8.frozen? ⟨g0,0,none⟩=false:=hB8.free 0;have z1:w8.frozen? ⟨g0,1,none⟩=false:=hB8.free 1;have z2:w8.frozen? ⟨g0,2,none⟩=false:=hB8.free 2;have z3:w8.frozen? ⟨g0,3,none⟩=false:=hB8.free 3;have z4:w8.frozen? ⟨g0,4,none⟩=false:=hB8.free 4;have z5:w8.frozen? ⟨g0,5,none⟩=false:=hB8.free 5;have z6:w8.frozen? ⟨g0,6,none⟩=false:=hB8.free 6;have z7:w8.frozen? ⟨g0,7,none⟩=false:=hB8.free 7;have z8:w8.frozen? ⟨g0,8,none⟩=false:=hB8.free 8;have y0:=b8.cell (i:=0) rfl;have u0:=b8.free 0;have y1:=b8.cell (i:=1) rfl;have u1:=b8.free 1;have y2:=b8.cell (i:=2) rfl;have u2:=b8.free 2;have y3:=b8.cell (i:=3) rfl;have u3:=b8.free 3;have y4:=b8.cell (i:=4) rfl;have u4:=b8.free 4;have y5:=b8.cell (i:=5) rfl;have u5:=b8.free 5;have y6:=b8.cell (i:=6) rfl;have u6:=b8.free 6;have y7:=b8.cell (i:=7) rfl;have u7:=b8.free 7;have y8:=b8.cell (i:=8) rfl;have u8:=b8.free 8;go_wp2_with fail;refine HEq.out.mono ?_;rintro ev w9 ⟨rfl,e9⟩;have e9:=e9.symm;subst e9;have Hag:=hqd hag;clear hag;clear hnil k0 k1 k2 k3 k4 k5 k6 k7 k8 z0 z1 z2 z3 z4 z5 z6 z7 z8 y0 u0 y1 u1 y2 u2 y3 u3 y4 u4 y5 u5 y6 u6 y7 u7 y8 u8;have hl9:[Value.int .i64 1,.int .i64 (p.src:Nat),.int .i64 (p.dst:Nat),.int .i64 (id),.int .i64 ((p.first:Nat)),.slice F p.press.length Fd,.int .i64 ((p.ack:Nat)),.int .i64 ((p.frame:Nat)),.int .u32 (p.sum:Nat)].length=9:=rfl;have hv9:=b8;have h19:∀ u∈[Value.int .i64 1,.int .i64 (p.src:Nat),.int .i64 (p.dst:Nat),.int .i64 (id),.int .i64 ((p.first:Nat)),.slice F p.press.length Fd,.int .i64 ((p.ack:Nat)),.int .i64 ((p.frame:Nat)),.int .u32 (p.sum:Nat)],u.oneCell'=true:=by simp[Value.oneCell']
  obtain⟨zz,hzz,hzl⟩:∃ zz,Has w8 (fun _=>0) 0 w.heap.size zz∧zz.length=9:=⟨_,b8,rfl⟩;clear hv9 b8;go_wp2_with (first|(with_reducible refine wpList_load_st rfl 34 (.tmp 4) rfl rfl underlying34 size_pk hl9 hB8.all ?_)|(with_reducible refine wpList_store_st rfl 34 (.tmp 2) (.tmp 90) rfl rfl rfl hzz hl9 hzl size_pk h19 ?_;intro Z bZ gZ sZ));have eZ:=Ext.own (B:=some ⟨w.heap.size,0,none⟩) x8 gZ (fun k hk=>by have h9:w.heap.size=k:=Option.some.inj hk;omega);exact bodyPost_ret (result_st2 rfl _ rfl bZ underlying34 size_pk) rfl ⟨F,Fd,by rw[Hag.out];rfl,Rb.grown hrF.out gZ (fun a ha e9=>by have h8:=HFw.out a ha;have h7:w.heap.size=a.block:=Option.some.inj e9;exact HFz.out a ha h7.symm),HFw.out,eZ⟩
end Go.Proofs.YtffcefoadaogbaaGreat
