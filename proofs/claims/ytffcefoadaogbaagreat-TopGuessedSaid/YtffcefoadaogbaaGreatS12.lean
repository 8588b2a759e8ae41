/- A part of the proof: texts put together and cut down by a program of mine (wip/gen/mini.py). -/
import Derived.Test.YtffcefoadaogbaaGreatS11
import Derived.Laws.IdiomCopy
import Derived.Deep.DeepCutAuto
namespace Go.Proofs.YtffcefoadaogbaaGreat
open Go.RowKit
open Go.Proofs.Tryz
set_option linter.unusedVariables false
set_option maxRecDepth 100000
set_option maxHeartbeats 16000000
section
variable {w w':World} {T T':Tg} {t b rb g mb n last:Nat} {rf:Nat→Int} {vs:Nat→Nat→Int} {ps:List Pic} {p:Pic}
def Made_(w:World)(T:Tg)(t b rb g mb n:Nat)(rf:Nat→Int)(vs:Nat→Nat→Int)(ps:List Pic)(last:Nat)(G:List Int)(v:Value)(w':World)(T':Tg):Prop :=
 v = .tuple #[.int .i64 ((last+1:Nat):Int),.bool true]∧∃ nb rf' vs' pg,StoreIn w' T' t b rb g mb n rf' vs' (ps++[⟨last+1,nb,pg⟩]) (last+1)∧Pics n rf' (ps++[⟨last+1,nb,pg⟩]) (last+1)∧used n rf'=used n rf+4 ∧
  (∀ q∈ps,gameOf vs' q=gameOf vs q)∧gameOf vs' ⟨last+1,nb,pg⟩=G
theorem set_page{rf':Nat→Int}{vs':Nat→Nat→Int}(h:Room w rb g n rf' vs'){k j:Nat}(hk:k<n)(h1:rf' k=1)(hj:j<8)(x:Int):Calls prog 165 #[ptrV rb,.int .i64 ((k:Int)+1),.int .i64 (j:Nat),.int .i32 x] w (Left w rb g n rf' (updP vs' k (updP (vs' k) j x)) (.bool true)) :=
 set_yes h ⟨hk,rfl,by omega⟩ (by omega) hj x
theorem page_get{G:List Int}{i j:Nat}(hj:j<8):(pageL G i).getD j 0=G.getD (i*8+j) 0:=by
 rw[List.getD_eq_getElem?_getD,List.getD_eq_getElem?_getD,pageL_get hj]
theorem snap_make(h:StoreIn w T t b rb g mb n rf vs ps last)(ho:Pics n rf ps last)(hu:Unborn w T)(ht:0<t)(hl:last<4611686018427387903)(hn:ps.length≤1000)(G:List Int)(hG:G.length=32)(hf:used n rf+4≤n) :
  Calls prog 142 #[ptrV b,.agg (gcs G)] w (Gives (In t 5) w T (Made_ w T t b rb g mb n rf vs ps last G)):=by
 have HH:=hqd fun W (e:Ext w W)=>snap_has (h.ext e) 4;rw[decide_eq_true (show 4+used n rf≤n by omega)]at HH;have hb0:Has (w.alloc (.cells (G.map (Value.int .i32)).toArray 205)) T 0 w.heap.size (G.map (Value.int .i32)):=⟨hu _ (Nat.le_refl _),(Has.new w (fun _=>0) (G.map (Value.int .i32)) 205 rfl).2⟩;have x0:=Ext.alloc w (.cells (G.map (Value.int .i32)).toArray 205);have hGl:(G.map (Value.int .i32)).length=32:=by rw[List.length_map,hG]
 have Hp:=hqd fun W k hk=>state_page W G hG k hk;have HS:=hqd h;have Ho:=hqd ho;unfold ptrV gcs at *;clear h ho;go_enter func142,ntmps142;go_upto_region 1 with fail
 have hsz0:w.heap.size<(w.alloc (.cells (G.map (Value.int .i32)).toArray 205)).heap.size:=by simp
 generalize hW0:World.alloc w _=W0 at *;obtain⟨gs,hgs⟩:∃ gs,gs=w.heap.size:=⟨_,rfl⟩;rw[← hgs]at hb0 hsz0 ⊢;have Hgs:=hqd (show w.heap.size≤gs by omega);clear hW0 hgs;go_wp2_with fail;refine(HH.out _ x0).mono ?_;rintro e w1 ⟨rfl,e1⟩;have x1:=x0.trans e1;have hb1:=hb0.ext e1;clear hb0 x0;go_upto_region 4 with fail
 have hP:=(Has.new w1 (fun _=>0) [.int .i64 0,.int .i64 0,.int .i64 0,.int .i64 0,.int .i64 0] 219 rfl).2;have x2:=Ext.alloc w1 (.cells #[.int .i64 0,.int .i64 0,.int .i64 0,.int .i64 0,.int .i64 0] 219);have hgp1:gs<w1.heap.size:=hb1.lt;have hgp2:w.heap.size≤w1.heap.size:=x1.size;have hTg:T w1.heap.size=0:=hu _ hgp2;have hst:Mk w T t b rb g mb n rf vs ps last w1.heap.size gs G [] rf vs (w1.alloc (.cells #[.int .i64 0,.int .i64 0,.int .i64 0,.int .i64 0,.int .i64 0] 219)) :=
  ⟨HS.out.ext (x1.trans x2),Ho.out.held,rfl,fun _ _=>rfl,fun s j hs=>by simp at hs,⟨hTg,hP⟩,hb1.ext x2,Turn.of_ext _ hu (x1.trans x2)⟩
 generalize hW2:World.alloc w1 _=W2 at *;obtain⟨gp,hgp⟩:∃ gp,gp=w1.heap.size:=⟨_,rfl⟩;rw[← hgp]at hst hgp1 hgp2 hTg ⊢;have Hst:=hqd hst;have Hgp:=hqd (show w.heap.size≤gp from hgp2);have Hne:=hqd (show gp≠gs by omega);have Hf:=hqd hf;have H4:=hqd Ho.out.four;clear hW2 hgp hst hP x2 hgp2 hTg hb1 hf;go_wp2_with fail;go_loopw [13] (fun iv wr=>∃ L rf' vs',iv = .int .i64 (L.length:Nat)∧L.length≤4∧Mk w T t b rb g mb n rf vs ps last gp gs G L rf' vs' wr) (fun iv _=>4-(intOf iv).toNat)
 case atStart=>exact⟨[],rf,vs,rfl,by decide,Hst.out⟩
 case round =>
  obtain⟨L,rf',vs',rfl,hL,hM⟩:=hrel;obtain⟨i,hi⟩:∃ i,i=L.length:=⟨_,rfl⟩;rw[← hi]at hL ⊢;by_cases hi4:i<4
  ·obtain⟨k,hk,hk0,hall⟩:=free_some hM.held (by have:=hM.us;have:=Hf.out;omega)
   have HT:=hqd (take_yes hM.st.room hk hk0 hall);have c0:wr.cell? ⟨b,0,none⟩=some (ptrV rb):=room_at hM.st;have hcg:=hM.pic.cell (mkC_cell (L:=L) (by omega));have hfg:=hM.pic.free L.length;rw[← hi]at hcg hfg;have Hcell:=hqd fun W (hg:wr.grownBy W (some g))=>(hM.pic.grown hg (fun e=>by have h1:=hM.pic.1;have h2:=hM.st.tg;rw[← Option.some.inj e]at h1;omega));have HTk:=hqd fun w3 hr hg=>hM.take (w3:=w3) H4.out ht (by omega) Hgp.out Hne.out hk hk0 hr hg;have Hi:=hqd hi;have Hk:=hqd hk;unfold ptrV at *;clear hM hall hk0 hcg hfg hi hk;go_wp2_with fail;refine HT.out.mono ?_;rintro e w3 ⟨rfl,hr3,hg3⟩;have hP3:=Hcell.out w3 hg3;have hI:=HTk.out w3 hr3 hg3;have hcg:=hP3.cell (mkC_cell (L:=L) (by rw[← Hi.out];exact hi4));have hfg:=hP3.free L.length;rw[← Hi.out]at hcg hfg hI;have HI:=hqd hI;clear hP3 hI hr3 hg3 HT Hcell HTk;go_upto_region 8 with fail
   generalize hW3:World.setCell w3 _ _=W3 at *;clear hW3 hcg hfg;have hvs:∀ i v,(G.map (Value.int .i32))[i]?=some v→W3.cell? ⟨gs,0+i,none⟩=some v:=fun i v hv=>by rw[Nat.zero_add];exact HI.out.gm.cell hv
   go_wp2_with (first|(with_reducible refine wpList_load_ara rfl 205 (.tmp 3) rfl rfl underlying205 size_state hGl hvs ?_))
   refine(Hp.out W3 i hi4).mono ?_;rintro e W4 ⟨rfl,e4⟩;have HI4:=hqd (HI.out.ext e4);clear hvs e4 HI;have hpl:(pageL G i).length=8:=pageL_len hG hi4;have hix:=fun W j (hj:j<8)=>index_page W hpl hj;have Hix:=hqd hix;have Hpg:=hqd fun j (hj:j<8)=>page_get (G:=G) (i:=i) hj;clear hix hpl;generalize pageL G i=pg at *;go_wp2_with fail;go_loopw [30] (fun iv wr=>∃(j:Nat) (vs2:Nat→Nat→Int),iv = .int .i64 (j:Nat)∧j≤8∧MkI w T t b rb g mb n rf vs ps last gp gs G L k j (updP rf' k 1) vs2 wr) (fun iv _=>8-(intOf iv).toNat)
   case atStart=>exact⟨0,_,rfl,by decide,HI4.out⟩
   case round =>
    obtain⟨j,vs2,rfl,hj,hI⟩:=hrel;by_cases hj8:j<8
    ·have hd:decide (j<8)=true:=decide_eq_true hj8
     have hix:=fun W=>Hix.out W j hj8;rw[Hpg.out j hj8]at hix;have c0:wr.cell? ⟨b,0,none⟩=some (ptrV rb):=room_at hI.st;have c1:=hI.pic.cell (mkC_at (L:=L) (k:=k) (by rw[← Hi.out];exact hi4));rw[← Hi.out]at c1;have HSet:=hqd fun W (e:Ext wr W)=>set_page (hI.st.room.ext e) Hk.out hI.one hj8 (G.getD (i*8+j) 0);have HStep:=hqd fun W W2 (e:Ext wr W) hr hg=>(hI.ext e).step (w3:=W2) H4.out ht hr hg;rw[← Hi.out]at HStep;unfold ptrV at *;clear hI;generalize G.getD (i*8+j) 0=x at *;go_wp2_with fail;apply wrN 10;simp only[tk];repeat apply lxA (fun _ h _=>aj (h.cell c0) (h.cell c1))
     refine lex_nil ?_;intro Wx hWx hΦ;clear hΦ;simp only[dk];go_wp2_with fail;refine(HSet.out Wx hWx).mono ?_;rintro e w5 ⟨rfl,hr5,hg5⟩;have hI5:=HStep.out Wx w5 hWx hr5 hg5;go_wp2_with fail;go_roundw
     case rel=>exact⟨j+1,_,by go_num,by omega,hI5⟩
     case measure=>simp[intOf];omega
    ·obtain rfl:j=8:=by omega
     have hM:=hI.done;clear hI;go_wp2_with fail;go_roundw
     case rel=>exact⟨L++[k],_,_,by rw[List.length_append,List.length_singleton,← Hi.out];go_num,by rw[List.length_append,List.length_singleton,← Hi.out];omega,hM⟩
     case measure=>simp[intOf];omega
  ·obtain rfl:i=4:=by omega
   obtain⟨k0,k1,k2,k3,rfl⟩:=four_of hi.symm;have HD:=hqd (snap_add hM.st Ho.out.low hM.tn.unborn ht hl hn k0 k1 k2 k3 0);have hall:=hM.pic.all;have HM:=hqd hM;have hpc:mkC [k0,k1,k2,k3]=[.int .i64 ((k0:Int)+1),.int .i64 ((k1:Int)+1),.int .i64 ((k2:Int)+1),.int .i64 ((k3:Int)+1),.int .i64 0]:=rfl;rw[hpc]at hall;unfold ptrV at HD;clear hM hpc;go_wp2_with (first|(with_reducible refine wpList_load_st rfl 219 (.tmp 6) rfl rfl underlying219 size_pic rfl hall ?_))
   refine HD.out.mono ?_;rintro e w3 ⟨v,rfl,T3,hT3,rfl,nb,hnb,hS3⟩;go_wp2_with fail;go_ret2
   exact⟨_,rfl,T3,HM.out.tn.trans hT3,rfl,nb,rf',vs',[k0,k1,k2,k3],hS3,Ho.out.add HM.out.held rfl hnb,HM.out.us,HM.out.old,HM.out.game rfl hG _ _⟩
end
section
variable {w w':World} {T T':Tg} {t b rb g mb n last:Nat} {rf:Nat→Int} {vs:Nat→Nat→Int} {ps:List Pic} {p:Pic}
theorem result_ar2{P:Program}{vs:List Value}{fn:Func}{p q:Tmp}{ty e:TypeId}(h:fn.results = #[.cell p ty,.tmp q])(tmps:Array Value)(hp:tmps.getD p undef = .pointer (some ⟨b,0,none⟩)){n:Nat}{T:TypeId}(hg:ArB w b T vs)(hn:vs.length=n)(hu:P.underlying ty=some (.array n e))(hi:(P.info? ty).map (·.size)=some n) :
  (results fn tmps).run P w = .ok (.tuple #[.agg vs.toArray,tmps.getD q undef]) w:=by
 have hp':tmps[p]?.getD undef = .pointer (some ⟨b,0,none⟩):=by simpa using hp
 simp[results,h,hp',asAddr,ar_load hu hi hg hn]
def mixC(G:List Int)(i:Nat):List Value:=(G.take i).map (Value.int .i32)++List.replicate (32-i) (Value.int .i32 0)
theorem mixC_len{G:List Int}(hG:G.length=32){i:Nat}(hi:i≤32):(mixC G i).length=32:=by
 unfold mixC;rw[List.length_append,List.length_map,List.length_take,List.length_replicate];omega
theorem mixC_set{G:List Int}(hG:G.length=32){i:Nat}(hi:i<32){x:Int}(hx:G[i]?=some x):(mixC G i).set i (.int .i32 x)=mixC G (i+1):=by
 unfold mixC;have hl:((G.take i).map (Value.int .i32)).length=i:=by rw[List.length_map,List.length_take];omega
 rw[List.set_append_right _ _ (by omega),hl,Nat.sub_self,List.take_add_one,hx,List.map_append,List.append_assoc];congr 1
 rw[show 32-i=(32-(i+1))+1 by omega,List.replicate_succ];rfl
theorem mixC_all{G:List Int}(hG:G.length=32):mixC G 32=G.map (Value.int .i32):=by
 unfold mixC;rw[List.take_of_length_le (by omega)];simp
theorem mixC_one(G:List Int)(i:Nat):∀ u∈mixC G i,u.oneCell'=true:=by
 intro u hu;rcases List.mem_append.1 hu with hu|hu
 ·obtain⟨x,_,rfl⟩:=List.mem_map.1 hu
  rfl
 ·rw[List.eq_of_mem_replicate hu];rfl
theorem snap_state(h:StoreIn w T t b rb g mb n rf vs ps last)(ho:Pics n rf ps last)(hp:p∈ps)(hl:last<4611686018427387903) :
  Calls prog 280 #[ptrV b,.int .i64 (p.id:Nat)] w fun e w'=>e = .returned (.tuple #[.agg (gcs (gameOf vs p)),.bool true])∧Ext w w':=by
 obtain⟨i,hi,hz⟩:∃ i,prog.info? 205=some i∧i.zero=some (.agg (List.replicate 32 (Value.int .i32 0)).toArray):=by
  have h9:=zero_state;cases hq:prog.info? 205 with
  | none=>rw[hq]at h9;cases h9
  | some i=>rw[hq]at h9;exact⟨i,rfl,by simpa using h9⟩
 have HA:=hqd fun W (e:Ext w W)=>snap_at (h.ext e) ho.ids hp (Nat.lt_of_le_of_lt (ho.low p hp) (by omega));have HG:=hqd fun W (e:Ext w W) i (hi:i<32)=>snap_get (h.ext e) ho (by omega) hp hi;have hGl:=gameOf_len vs p;have Hget:=hqd fun i (hi:i<32)=>gameOf_get vs p hi;have hzl:(mixC (gameOf vs p) 0).length=32:=mixC_len hGl (by omega);have hz':i.zero=some (.agg (mixC (gameOf vs p) 0).toArray):=hz;have Hset:=hqd fun i (hi:i<32) x=>mixC_set hGl hi (x:=x);have Hlen:=hqd fun i (hi:i≤32)=>mixC_len hGl hi;have hall:=mixC_all hGl;have Hone:=hqd (mixC_one (gameOf vs p));have Hall:=hqd hall;unfold ptrV gcs at *;clear h ho hz hGl hall;go_enter func280,ntmps280;go_upto_region 1 with (first|(with_reducible refine wpList_alloc_ar rfl 205 rfl hi hz' ?_;intro W1 hA1 x1 s1))
 go_upto_region 2 with (first|(with_reducible refine wpList_alloc_ar rfl 205 rfl hi hz' ?_;intro W2 hA2 x2 s2))
 obtain⟨g4,hg4⟩:∃ g4,g4=w.heap.size:=⟨_,rfl⟩;obtain⟨g6,hg6⟩:∃ g6,g6=W1.heap.size:=⟨_,rfl⟩;rw[← hg4]at hA1 ⊢;rw[← hg6]at hA2 ⊢;have H4:=hqd (show w.heap.size≤g4 by omega);have H6:=hqd (show g4<g6 by omega);have hA1:=hA1.ext x2;have xx:=x1.trans x2;clear hg4 hg6 s1 s2 x1 x2;go_wp2_with fail;refine(HA.out _ xx).mono ?_;rintro e w3 ⟨rfl,hw⟩;subst hw;go_wp2_with fail;go_loopw [13] (fun iv wr=>∃ i:Nat,iv = .int .i64 (i:Nat)∧i≤32∧ArB wr g4 205 (mixC (gameOf vs p) 0)∧ArB wr g6 205 (mixC (gameOf vs p) i)∧Ext w wr) (fun iv _=>32-(intOf iv).toNat)
 case atStart=>exact⟨0,rfl,by decide,hA1,hA2,xx⟩
 case round =>
  obtain⟨i,rfl,hi,hB1,hB2,hx⟩:=hrel;by_cases hi32:i<32
  ·have hd:decide (i<32)=true:=decide_eq_true hi32
   have HGi:=hqd (HG.out wr hx i hi32);have HB1:=hqd hB1;have HB2:=hqd hB2;clear hB1 hB2;go_wp2_with fail;refine HGi.out.mono ?_;rintro e w4 ⟨rfl,e4⟩;have hB2:=HB2.out.ext e4;have hfr:=hB2.free i;have hlen:=Hlen.out i hi;obtain⟨u1,hu1⟩:∃ u1,(mixC (gameOf vs p) i)[i]?=some u1:=⟨_,List.getElem?_eq_getElem (by omega)⟩;have hc:=hB2.cell hu1;have hset:=hB2.set i (.int .i32 (cellOf vs p i));rw[Hset.out i hi32 _ (Hget.out i hi32)]at hset;have hB1:=(HB1.out.ext e4).grown (setc_grown w4 ⟨g6,i,none⟩ (.int .i32 (cellOf vs p i))) (fun e=>by have:=H6.out;have h9:g6=g4:=Option.some.inj e;omega);have hx4:=Ext.setc (hx.trans e4) (p:=⟨g6,i,none⟩) (show w.heap.size≤g6 by have:=H4.out;have:=H6.out;omega) (.int .i32 (cellOf vs p i));clear hB2 HB1 HB2 hlen hu1;go_wp2_with fail;go_roundw
   case rel=>exact⟨i+1,by go_num,by omega,hB1,hset,hx4⟩
   case measure=>simp[intOf];omega
  ·obtain rfl:i=32:=by omega
   rw[Hall.out]at hB2;have hl6:=Hlen.out 32 (by decide);rw[Hall.out]at hl6;have hone:=Hone.out 32;rw[Hall.out]at hone;generalize hus:(gameOf vs p).map (Value.int .i32)=us at *;go_wp2_with (first|(with_reducible refine wpList_load_ar rfl 205 (.tmp 6) rfl rfl underlying205 size_state hB2 hl6 ?_)|(with_reducible refine wpList_store_ar rfl 205 (.tmp 4) (.tmp 26) rfl rfl rfl hB1 hl6 hzl size_state hone ?_;intro Z bZ gZ sZ));have eZ:=Ext.own (B:=some ⟨g4,0,none⟩) hx gZ (fun k hk=>by have h9:g4=k:=Option.some.inj hk;have:=H4.out;omega);exact bodyPost_ret (result_ar2 rfl _ rfl bZ hl6 underlying205 size_state) rfl ⟨by rw[hus];rfl,eZ⟩
end
section
variable {w w':World} {T T':Tg} {t b rb g mb n last:Nat} {rf:Nat→Int} {vs:Nat→Nat→Int} {ps:List Pic} {p:Pic}
theorem sl_nil_int(a:Addr)(n c:Nat)(w:World):(binOp .eql 22 (.slice (some a) n c) (.slice none 0 0)).run prog w = .ok (.bool false) w:=by kernel_rfl
theorem iclone_any(w:World)(a:Addr)(n c:Nat)(xs:List Int)(hb:Rd w 1 (some a) n c (xs.map (Value.int .i64)))(hn:n≤1000) :
  Calls prog 159 #[.slice (some a) n c] w fun e w'=>∃ B d,e = .returned (.slice B n d)∧Own w' w.heap.size 3 1 B n d (xs.map (Value.int .i64))∧Ext w w':=by
 obtain⟨i0,hi,hz0,hz1,hz2⟩:=info_parts info_int;have Hb:=hqd hb;have hone:∀ u∈xs.map (Value.int .i64),u.oneCell'=true:=by
  intro u hu;obtain⟨x,_,rfl⟩:=List.mem_map.1 hu;rfl
 clear hb;have hnil:=sl_nil_int a n c w;go_enter func159,ntmps159;go_wp2_with (at_builtin;refine wpList_append_to _ rfl _ _ 22 rfl w.heap.size 3 i0 (.int .i64 0) 1 8 underlying22 hi hz0 hz1 hz2 rfl (by decide) (some ⟨w.heap.size,0,none⟩) 0 0 [] rfl (Own.made w w.heap.size 3 1 [] 0 (Nat.le_refl _) (by decide) rfl) (some a) n c _ rfl (Rd.ext Hb.out (Ext.alloc _ _)) hone (by unfold maxLen;omega) (by omega) (by simp) ?_;intro E Ed wy hoE hgE hwE);go_ret;rw[Nat.zero_add]at hoE;exact⟨E,Ed,rfl,hoE,Below.trans (Ext.alloc _ _) (below_of_grown hgE (by simp) (by intro k hk;cases hk;exact Nat.le_refl _))⟩
def pagesI(p:Pic):List Int:=p.pg.map fun k:Nat=>(k:Int)+1
theorem snap_pages(h:StoreIn w T t b rb g mb n rf vs ps last)(ho:Pics n rf ps last)(hp:p∈ps)(hl:last<4611686018427387903) :
  Calls prog 127 #[ptrV b,.int .i64 (p.id:Nat)] w fun e w'=>∃ B d,e = .returned (.slice B 4 d)∧Own w' w.heap.size 3 1 B 4 d ((pagesI p).map (Value.int .i64))∧Ext w w':=by
 have HA:=hqd (snap_at h ho.ids hp (Nat.lt_of_le_of_lt (ho.low p hp) (by omega)));have h4:=ho.four p hp;have hP:=h.pics p hp;have hRd:Rd w 1 (some ⟨p.bl,0,none⟩) 4 4 ((pagesI p).map (Value.int .i64)):=by
  refine⟨by simp[pagesI,h4],Nat.le_refl _,by unfold maxLen;omega,fun _=>⟨p.bl,0,rfl,fun j u hu=>?_⟩⟩;rw[Nat.zero_add];refine hP.cell ?_;unfold picC;rw[List.getElem?_append_left (by have:=(List.getElem?_eq_some_iff.1 hu).1;simpa [pagesI] using this)]
  rw[← hu,pagesI,List.map_map];rfl
 have HC:=hqd (iclone_any w ⟨p.bl,0,none⟩ 4 4 (pagesI p) hRd (by decide));unfold ptrV at *;clear h ho hRd hP;go_enter func127,ntmps127;go_wp2_with fail;refine HA.out.mono ?_;rintro e w1 ⟨rfl,hw⟩;subst hw;go_wp2_with fail;refine HC.out.mono ?_;rintro e w2 ⟨B,d,rfl,hB⟩;go_wp2_with fail;go_ret;exact⟨B,d,rfl,hB⟩
theorem lit_four(r:Nat):(4:Int)*(r:Int)=((4*r:Nat):Int):=by omega
theorem snap_new(w:World)(T:Tg)(hu:Unborn w T)(t:Nat)(ht:0<t)(r:Nat)(h1:1≤r)(h50:r≤50):Calls prog 138 #[.int .i64 (r:Nat)] w (Gives (fun _=>False) w T fun v w' T'=>∃ b,v=ptrV b∧StoreAt w' T' t b (4*r) (4*r) 0 []):=by
 have HN:=hqd (new_any w (4*(r:Int)) (4*r) (.inr (by omega)) (by omega));have hmm:=@run_makeMap prog;have hw:IntKind.i64.wrap ((4:Int)*(r:Int))=((4*r:Nat):Int):=by rw[lit_four];exact IntWalk.i64_in _ (by omega)
 have hm1:max (r:Int) 0=(r:Int):=by omega
 have hm2:min (r:Int) 50=(r:Int):=by omega
 go_enter func138,ntmps138;go_wp2_with fail;refine HN.out.mono ?_;rintro e w1 ⟨rb,g,rfl,hb1,hb2,e1,hR⟩;go_wp2_with fail;have hgl:=hR.lt;have hrl:=hR.ltb;have hne:=hR.ne;have hT0:Hid (∃ T1:Tg,T1 (w1.heap.size+1)=t∧T1 w1.heap.size=t+1∧T1 rb=t+2∧T1 g=t+3∧(∀ k,k<w.heap.size→T1 k=T k)∧∀ k,w1.heap.size+2≤k→T1 k=0):=by
  have hs:=e1.size;refine hqd ⟨fun k=>if k=w1.heap.size+1 then t else if k=w1.heap.size then t+1 else if k=rb then t+2 else if k=g then t+3 else T k,if_pos rfl,?_,?_,?_,fun k hk=>?_,fun k hk=>?_⟩
  ·simp
  ·simp only[if_neg (show rb≠w1.heap.size+1 by omega),if_neg (show rb≠w1.heap.size by omega),if_true]
  ·simp only[if_neg (show g≠w1.heap.size+1 by omega),if_neg (show g≠w1.heap.size by omega),if_neg (fun e=>hne e.symm:¬ g=rb),if_true]
  ·simp only[if_neg (show k≠w1.heap.size+1 by omega),if_neg (show k≠w1.heap.size by omega),if_neg (show k≠rb by omega),if_neg (show k≠g by omega)]
  ·simp only[if_neg (show k≠w1.heap.size+1 by omega),if_neg (show k≠w1.heap.size by omega),if_neg (show k≠rb by omega),if_neg (show k≠g by omega)]
   exact hu k (by omega)
 obtain⟨T1,q0,q1,q2,q3,q4,q5⟩:=hT0.out;have hm:=World.ownsMap_made w1 prog 110 picR;have xm:=Ext.alloc w1 (.map #[] 0);have hsm:(w1.alloc (.map #[] 0)).heap.size=w1.heap.size+1:=by simp
 have hb:=Has.new (w1.alloc (.map #[] 0)) T1 (storeC rb w1.heap.size 0) 223 rfl;have xb:=Ext.alloc (w1.alloc (.map #[] 0)) (.cells (storeC rb w1.heap.size 0).toArray 223);have hm2:=hm.alloc (.cells (storeC rb w1.heap.size 0).toArray 223);have hR2:=(hR.ext xm).ext xb;have x2:=(e1.trans xm).trans xb;rw[hsm,q0]at hb;have hfs:((w1.alloc (.map #[] 0)).alloc (.cells (storeC rb w1.heap.size 0).toArray 223)).heap.size=w1.heap.size+2:=by simp
 have hT:Turn (fun _=>False) w T ((w1.alloc (.map #[] 0)).alloc (.cells (storeC rb w1.heap.size 0).toArray 223)) T1 :=
  ⟨x2.os,x2.tape,x2.output,x2.size,fun k hk _=>x2.block k hk,q4,fun k hk=>q5 k (by omega)⟩
 go_ret;refine⟨_,rfl,T1,hT,w1.heap.size+1,rfl,rb,g,w1.heap.size,fun _=>0,fun _ _=>0,[],⟨hb,q1,q2,q3,⟨.map [],hm2,DM.nil_⟩,hR2,fun p hp=>by simp at hp⟩,Pics.new_ _,?_,rfl⟩;rw[used_zero _ _ (fun _ _=>rfl)];rfl
end
section
variable {cf:Cf} {me:Nat} {c:Cr} {mk:List Nat}
theorem CrOk.press(h:CrOk cf me c mk)(x:UInt8):CrOk cf me (c.press me cf.window x) mk:=by
 unfold Cr.press;split
 ·rename_i h0
  have hml:me<c.ls.length:=by rw[h.len];exact h.me
  have hlt:(c.mine me).length<1000:=by
   unfold Cr.pressE at h0;split at h0
   ·omega
   ·split at h0
    ·omega
    ·rename_i h1;unfold Cr.head at h1;omega
  refine⟨h.ok,h.me,by show(List.set _ _ _).length=_;rw[List.length_set];exact h.len,?_,h.now,h.evs,h.has,h.heard,h.words,h.marks,h.sums⟩;intro l hl;rcases List.mem_or_eq_of_mem_set hl with hl|rfl
  ·exact h.short _ hl
  ·rw[List.length_append,List.length_singleton];omega
 ·exact h
theorem CrOk.heardTo(h:CrOk cf me c mk)(p:Nat):∀ i,updF c.heard p c.now i≤c.now:=by
 intro i;unfold updF;split
 ·exact Nat.le_refl _
 ·exact h.heard i
theorem CrOk.recvAny(h:CrOk cf me c mk){p:Pk}(hp:okPk p)(he:c.evs.length<1000000):CrOk cf me (c.recv me p) mk:=by
 by_cases hcl:c.closed=true
 ·have:c.recv me p=c:=by unfold Cr.recv;rw[if_pos hcl]
  rw[this];exact h
 by_cases hq:p.quit=true
 ·have:c.recv me p={c with heard:=updF c.heard p.src c.now,evs:=c.evs++[(1,p.src)],closed:=true}:=by unfold Cr.recv;rw[if_neg hcl,if_pos hq]
  rw[this];exact⟨h.ok,h.me,h.len,h.short,h.now,by simp;omega,h.has,h.heardTo p.src,h.words,h.marks,h.sums⟩
 ·exact h.recv hp (by simpa using hcl) (by simpa using hq)
theorem CrOk.tick(h:CrOk cf me c mk)(hn:c.now<1000000)(he:c.evs.length<1000000):CrOk cf me (c.tick me) mk:=by
 unfold Cr.tick;split
 ·exact h
 ·split
  ·exact⟨h.ok,h.me,h.len,h.short,hn,by simp;omega,h.has,fun i=>Nat.le_succ_of_le (h.heard i),h.words,h.marks,h.sums⟩
  ·exact⟨h.ok,h.me,h.len,h.short,hn,h.evs,h.has,fun i=>Nat.le_succ_of_le (h.heard i),h.words,h.marks,h.sums⟩
theorem CrOk.told(h:CrOk cf me c mk):CrOk cf me {c with evs:=[]} mk:=⟨h.ok,h.me,h.len,h.short,h.now,Nat.zero_le _,h.has,h.heard,h.words,h.marks,h.sums⟩
end
structure Jr(w:World)(T:Tg)(t:Nat)(A:Option Addr)(n c:Nat):Prop where
 le:n≤c
 max:c≤maxLen
 none_:A=none→c=0
 cells:∀ a,A=some a→∃ g o,a=⟨g,o,none⟩∧T g=t∧g<w.heap.size∧(∀ j,j<n*2→∃ x:Int,w.cell? ⟨g,o+j,none⟩=some (.int .i64 x))∧∀ j,j<c*2→(w.cell? ⟨g,o+j,none⟩).isSome=true∧w.frozen? ⟨g,o+j,none⟩=false
def JobsAt(w:World)(T:Tg)(t b:Nat):Prop:=∃ A n c,n≤16∧Has w T t b [.slice A n c]∧Jr w T (t+1) A n c
section
variable {w w':World} {T T':Tg} {t b:Nat} {A:Option Addr} {n c:Nat}
theorem cell_block{w w':World}{g o:Nat}(e:w'.heap[g]?=w.heap[g]?):w'.cell? ⟨g,o,none⟩=w.cell? ⟨g,o,none⟩:=by simp only[World.cell?,e]
theorem frozen_block{w w':World}{g o:Nat}(e:w'.heap[g]?=w.heap[g]?):w'.frozen? ⟨g,o,none⟩=w.frozen? ⟨g,o,none⟩:=by simp only[World.frozen?,e]
theorem Jr.turn{S:Nat→Prop}(h:Jr w T t A n c)(hT:Turn S w T w' T')(hs:¬ S t):Jr w' T' t A n c:=by
 refine⟨h.le,h.max,h.none_,fun a ha=>?_⟩;obtain⟨g,o,e,ht,hg,h1,h2⟩:=h.cells a ha;have hb:=hT.block g hg (by rw[ht];exact hs);refine⟨g,o,e,(hT.tag g hg).trans ht,Nat.lt_of_lt_of_le hg hT.size,fun j hj=>?_,fun j hj=>?_⟩
 ·rw[cell_block hb];exact h1 j hj
 ·rw[cell_block hb,frozen_block hb];exact h2 j hj
theorem Jr.ext(h:Jr w T t A n c)(e:Ext w w'):Jr w' T t A n c:=by
 refine⟨h.le,h.max,h.none_,fun a ha=>?_⟩;obtain⟨g,o,e',ht,hg,h1,h2⟩:=h.cells a ha;have hb:=e.block g hg;refine⟨g,o,e',ht,Nat.lt_of_lt_of_le hg e.size,fun j hj=>?_,fun j hj=>?_⟩
 ·rw[cell_block hb];exact h1 j hj
 ·rw[cell_block hb,frozen_block hb];exact h2 j hj
theorem JobsAt.turn{S:Nat→Prop}(h:JobsAt w T t b)(hT:Turn S w T w' T')(h0:¬ S t)(h1:¬ S (t+1)):JobsAt w' T' t b:=by
 obtain⟨A,n,c,hn,a1,a2⟩:=h;exact⟨A,n,c,hn,a1.turn hT h0,a2.turn hT h1⟩
theorem JobsAt.ext(h:JobsAt w T t b)(e:Ext w w'):JobsAt w' T t b:=by
 obtain⟨A,n,c,hn,a1,a2⟩:=h;exact⟨A,n,c,hn,a1.ext e,a2.ext e⟩
theorem job_len(h:JobsAt w T t b):Calls prog 101 #[ptrV b] w fun e w'=>(∃ n:Nat,e = .returned (.int .i64 (n:Nat))∧n≤16)∧w'=w:=by
 obtain⟨A,n,c,hn,a1,a2⟩:=h;have c0:=a1.cell (i:=0) rfl;unfold ptrV;clear a1 a2;go_enter func101,ntmps101;go_wp2_with fail;go_ret;exact⟨⟨n,rfl,hn⟩,rfl⟩
end
section
variable {w w':World} {T T':Tg} {t b:Nat} {A:Option Addr} {n c:Nat}
theorem put_one(w:World)(g:Nat)(x a e:Int)(hg:g<w.heap.size)(hx:w.cell? ⟨g,0,none⟩=some (.int .i64 x)):Calls prog 106 #[.agg #[.int .i64 a,.int .i64 e],.pointer (some ⟨g,0,none⟩)] w fun e w'=>(∃ r:Bool,e = .returned (.bool r))∧Ext w w':=by
 go_enter func106,ntmps106;go_wp2_with fail;go_ret;exact⟨⟨_,rfl⟩,Ext.alloc _ _⟩
theorem job_index(h:Jr w T t A n c)(hn:n≤16)(g:Nat)(x:Int)(hg:g<w.heap.size)(hx:w.cell? ⟨g,0,none⟩=some (.int .i64 x)):Calls prog 150 #[.slice A n c,.func (.func 106) #[] #[.pointer (some ⟨g,0,none⟩)]] w fun e w'=>(∃ i:Int,e = .returned (.int .i64 i))∧Ext w w':=by
 have HP:=hqd fun W (e:Ext w W) a e'=>put_one W g x a e' (Nat.lt_of_lt_of_le hg e.size) (e.cell hx);have Hc:=hqd h.cells;have hle:=h.le;have hnone:=hqd h.none_;clear h hx hg;go_enter func150,ntmps150;go_wp2_with fail;go_loopw [8] (fun iv wr=>∃ k:Nat,iv = .int .i64 (k:Nat)∧k≤n∧Ext w wr) (fun iv _=>n-(intOf iv).toNat)
 case atStart=>exact⟨0,rfl,Nat.zero_le _,Ext.refl _⟩
 case round =>
  obtain⟨k,rfl,hk,he⟩:=hrel;by_cases hkn:k<n
  ·have hd1:decide (k<n)=true:=decide_eq_true hkn
   cases A with
   | none=>exact absurd (hnone.out rfl) (by omega)
   | some a =>
    obtain⟨g9,o,rfl,_,_,h1,_⟩:=Hc.out a rfl;obtain⟨x1,q1⟩:=h1 (k*2) (by omega);obtain⟨x2,q2⟩:=h1 (k*2+1) (by omega);replace q1:=he.cell q1;replace q2:=he.cell q2;rw[← Nat.add_assoc]at q2;go_wp2_with fail;refine(HP.out wr he x1 x2).mono ?_;rintro e w3 ⟨⟨r,rfl⟩,e3⟩;cases r with
    | true =>
     go_wp2_with fail;go_ret;exact⟨⟨_,rfl⟩,he.trans e3⟩
    | false =>
     go_wp2_with fail;go_roundw
     case rel=>exact⟨k+1,by go_num,by omega,he.trans e3⟩
     case measure=>simp[intOf];omega
  ·obtain rfl:k=n:=by omega
   have hd1:decide (k<k)=false:=decide_eq_false (by omega);go_wp2_with fail;go_ret;exact⟨⟨-1,rfl⟩,he⟩
theorem job_contains(h:Jr w T t A n c)(hn:n≤16)(g:Nat)(x:Int)(hg:g<w.heap.size)(hx:w.cell? ⟨g,0,none⟩=some (.int .i64 x)):Calls prog 105 #[.slice A n c,.func (.func 106) #[] #[.pointer (some ⟨g,0,none⟩)]] w fun e w'=>(∃ r:Bool,e = .returned (.bool r))∧Ext w w':=by
 have HI:=hqd (job_index h hn g x hg hx);clear h hx hg;go_enter func105,ntmps105;go_wp2_with fail;refine HI.out.mono ?_;rintro e w1 ⟨⟨i,rfl⟩,e1⟩;go_wp2_with fail;go_ret;exact⟨⟨_,rfl⟩,e1⟩
end
theorem size_job:(prog.info? 132).map (·.size)=some 2:=by kernel_rfl
section
variable {w w':World} {T T':Tg} {t b:Nat} {A:Option Addr} {n c:Nat}
theorem Jr.tail{g o:Nat}(h:Jr w T t (some ⟨g,o,none⟩) n c)(hn:0<n)(A':Option Addr)(hA:A'=some ⟨g,o,none⟩∧c=1∨A'=some ⟨g,o+2,none⟩):Jr w T t A' (n-1) (c-1):=by
 have hle:=h.le;have hmx:=h.max;obtain⟨g9,o9,e,ht,hg,h1,h2⟩:=h.cells _ rfl;cases e
 refine⟨by omega,by omega,fun e=>(by rcases hA with ⟨h,_⟩|h<;>rw[h]at e<;>cases e),fun a ha=>?_⟩
 rcases hA with ⟨hA,hc⟩|hA
 ·rw[hA]at ha
  cases ha
  exact⟨g,o,rfl,ht,hg,fun j hj=>by omega,fun j hj=>by omega⟩
 ·rw[hA]at ha
  cases ha
  refine⟨g,o+2,rfl,ht,hg,fun j hj=>?_,fun j hj=>?_⟩
  ·rw[Nat.add_assoc];exact h1 (2+j) (by omega)
  ·rw[Nat.add_assoc];exact h2 (2+j) (by omega)
theorem job_take(h:JobsAt w T t b)(hu:Unborn w T)(ht:0<t):Calls prog 71 #[ptrV b] w (Gives (In t 2) w T fun v w' T'=>(∃(x e:Int) (r:Bool),v = .tuple #[.agg #[.int .i64 x,.int .i64 e],.bool r])∧JobsAt w' T' t b):=by
 have Hl:=hqd h;obtain⟨A,n,c,hn,a1,a2⟩:=h;have Hlen:Hid (∀ W,Ext w W→Calls prog 101 #[.pointer (some ⟨b,0,none⟩)] W fun e w'=>e = .returned (.int .i64 (n:Nat))∧w'=W):=hqd fun W e=>by
  have c0:=e.cell (a1.cell (i:=0) rfl);clear a1 a2 Hl;go_enter func101,ntmps101;go_wp2_with fail;go_ret;exact⟨rfl,rfl⟩
 have x1:=Ext.alloc w (.cells #[.int .i64 0,.int .i64 0] 132);have b1:=(Has.new w (fun _=>0) [.int .i64 0,.int .i64 0] 132 rfl);have Ha1:=hqd a1;have Ha2:=hqd a2;have c0:=a1.cell (i:=0) rfl;have hltb:=a1.lt;unfold ptrV;clear a1 a2;rcases Nat.eq_zero_or_pos n with hz|hz
 ·subst hz
  go_enter func71,ntmps71;go_upto_region 1 with fail
  generalize hW:World.alloc w _=W0 at *;obtain⟨gm,hgm⟩:∃ gm,gm=w.heap.size:=⟨_,rfl⟩;rw[← hgm]at b1 ⊢;have Hgm:=hqd (show w.heap.size≤gm by omega);have HB:=hqd b1;clear b1 hW hgm;go_wp2_with fail;refine(Hlen.out W0 x1).mono ?_;rintro e w1 ⟨rfl,hw⟩;subst hw;have hB2:=HB.out;have hl2:[Value.int .i64 0,.int .i64 0].length=2:=rfl;have h12:∀ u∈[Value.int .i64 0,.int .i64 0],u.oneCell'=true:=by simp[Value.oneCell']
  go_wp2_with (first|(with_reducible refine wpList_store_st rfl 132 (.tmp 2) (.tmp 8) rfl rfl (us:=[.int .i64 0,.int .i64 0]) rfl hB2 hl2 hl2 size_job h12 ?_;intro Z bZ gZ sZ))
  have eZ:=Ext.own (B:=some ⟨gm,0,none⟩) x1 gZ (fun k hk=>by have h9:gm=k:=Option.some.inj hk;have:=Hgm.out;omega);exact bodyPost_ret (result_st2 rfl _ rfl bZ underlying132 size_job) rfl ⟨_,rfl,T,Turn.of_ext _ hu eZ,⟨0,0,false,rfl⟩,Hl.out.ext eZ⟩
 ·obtain⟨a,rfl⟩:∃ a,A=some a:=by
   cases A with
   | none=>exact absurd (Ha2.out.none_ rfl) (by have:=Ha2.out.le;omega)
   | some a=>exact⟨a,rfl⟩
  obtain⟨g,o,rfl,hg1,hg2,hg3,hg4⟩:=Ha2.out.cells a rfl;obtain⟨x,q1⟩:=hg3 0 (by omega);obtain⟨y,q2⟩:=hg3 1 (by omega);have hnc:=Ha2.out.le;have hvs:∀ i v,[Value.int .i64 x,.int .i64 y][i]?=some v→w.cell? ⟨g,o+i,none⟩=some v:=by
   intro i v hv;match i,hv with
   | 0,hv=>cases hv;exact q1
   | 1,hv=>cases hv;exact q2
  have hl2:[Value.int .i64 x,.int .i64 y].length=2:=rfl;have hz1:(n==0)=false:=by rw[beq_eq_false_iff_ne];omega
  have hz1':((n:Int)==0)=false:=by rw[beq_eq_false_iff_ne];omega
  have hlt0:decide (0<n)=true:=decide_eq_true hz;have h1n:decide (1≤n)=true:=decide_eq_true hz;have h1n':(0≤(1:Int)∧(1:Int)≤(n:Int))=True:=eq_true ⟨by omega,by omega⟩;clear hg3 hg4 q1 q2;go_enter func71,ntmps71;go_upto_region 1 with fail
  generalize hW:World.alloc w _=W0 at *;have hgm9:g<w.heap.size:=hg2;obtain⟨gm,hgm⟩:∃ gm,gm=w.heap.size:=⟨_,rfl⟩;rw[← hgm]at b1 ⊢;have Hgm:=hqd (show w.heap.size≤gm by omega);have HB:=hqd b1;clear b1 hW hgm;have d0:=x1.cell c0;have hvs1:∀ i v,[Value.int .i64 x,.int .i64 y][i]?=some v→W0.cell? ⟨g,o+i,none⟩=some v:=fun i v hv=>x1.cell (hvs i v hv);go_wp2_with fail;refine(Hlen.out W0 x1).mono ?_;rintro e w1 ⟨rfl,hw⟩;subst hw;obtain⟨A9,hA9⟩:∃ A9,(if c=1 then (some ⟨g,o,none⟩:Option Addr) else some ⟨g,o+2,none⟩)=A9:=⟨_,rfl⟩;have HA9:=hqd hA9;go_upto_region 4 with (first|(with_reducible refine wpList_load_st rfl 132 (.tmp 13) rfl rfl underlying132 size_job hl2 hvs1 ?_))
  have b4:=(Has.new w1 (fun _=>0) [.int .i64 x,.int .i64 y] 132 rfl);have x4:=Ext.alloc w1 (.cells #[.int .i64 x,.int .i64 y] 132);generalize hW2:World.alloc w1 _=W2 at *;obtain⟨gt,hgt⟩:∃ gt,gt=w1.heap.size:=⟨_,rfl⟩;rw[← hgt]at b4 ⊢;have hneg:gt≠gm:=by have:=HB.out.lt;omega
  have Hgt:=hqd (show w1.heap.size≤gt by omega);have hx14:=x1.trans x4;have d0:=x4.cell d0;have hH4:=Ha1.out.ext hx14;have f0:=hH4.free 0;obtain⟨hT5,hH5⟩:=hH4.put (S:=(· = t)) (hu.ext hx14) 0 (.slice A9 (n-1) (c-1)) rfl;have HT5:=hqd hT5;have HH5:=hqd hH5;clear hW2 hgt hT5 hH5 hH4;go_upto_region 5 with fail
  have hbg:b≠gt∧b≠gm:=by have:=Hgt.out;have:=Hgm.out;have:=x1.size;omega
  have hb4:=b4.set_other (a:=⟨b,0,none⟩) (by exact hbg.1) (.slice A9 (n-1) (c-1));have hbm:=(HB.out.ext x4).set_other (a:=⟨b,0,none⟩) (by exact hbg.2) (.slice A9 (n-1) (c-1));have hJ5:=(Ha2.out.ext hx14).turn HT5.out (by omega);have hJ:=hJ5.tail hz A9 (by
   by_cases h1:c=1
   ·exact .inl ⟨by rw[← HA9.out,if_pos h1],h1⟩
   ·exact .inr (by rw[← HA9.out,if_neg h1]))
  have hK5:JobsAt (W2.setCell ⟨b,0,none⟩ (.slice A9 (n-1) (c-1))) T t b:=⟨A9,n-1,c-1,by omega,HH5.out,hJ⟩;have HK5:=hqd hK5;clear hK5 hJ hJ5 HH5;generalize hW5:World.setCell W2 _ _=W5 at *;clear hW5;have hz2:[Value.int .i64 0,.int .i64 0].length=2:=rfl;have h12:∀ u∈[Value.int .i64 x,.int .i64 y],u.oneCell'=true:=by simp[Value.oneCell']
  go_wp2_with (first|(with_reducible refine wpList_load_st rfl 132 (.tmp 4) rfl rfl underlying132 size_job hl2 hb4.all ?_)|(with_reducible refine wpList_store_st rfl 132 (.tmp 2) (.tmp 23) rfl rfl (us:=[.int .i64 x,.int .i64 y]) rfl hbm hl2 hz2 size_job h12 ?_;intro Z bZ gZ sZ))
  have hT6:=(Turn.of_ext (In t 2) hu hx14).trans (HT5.out.mono fun k hk=>(by subst hk;unfold In;omega:In t 2 k));have hTZ:Turn (· = 0) W5 T Z T:=Turn.of_grown hT6.unborn gZ (fun k hk=>by have h9:gm=k:=Option.some.inj hk;subst h9;exact hu gm Hgm.out);have hT7:=hT6.grown gZ (fun k hk=>.inr (by have h9:gm=k:=Option.some.inj hk;have:=Hgm.out;omega));exact bodyPost_ret (result_st2 rfl _ rfl bZ underlying132 size_job) rfl ⟨_,rfl,T,hT7,⟨x,y,true,rfl⟩,HK5.out.turn hTZ (by omega) (by omega)⟩
end
theorem info_job:(prog.info? 132).map (fun i=>(i.zero,i.size,i.bytes))=some (some (.agg #[.int .i64 0,.int .i64 0]),2,16):=by kernel_rfl
section
variable {w w' w0:World} {T T' T1:Tg} {t b m k:Nat} {A C:Option Addr} {n c:Nat}
theorem some_setc{p a:Addr}{u:Value}(h:(w.cell? p).isSome=true)(hp:p.spot=none)(ha:a.spot=none):((w.setCell a u).cell? p).isSome=true:=by
 by_cases e:a=p
 ·subst e
  rw[World.cell?_setCell_same' _ _ _ h];rfl
 ·rw[World.cell?_setCell_other (h:=e)];exact h
theorem Jr.olds(h:Jr w T t C n c):∃ xs:List Int,xs.length=n*2∧Rd w 2 C n n (xs.map (Value.int .i64)):=by
 rcases hC:C with _|a
 ·have h0:=h.none_ hC
  have h1:=h.le;obtain rfl:n=0:=by omega
  exact⟨[],rfl,by simp,Nat.le_refl _,Nat.zero_le _,fun h=>by omega⟩
 ·obtain⟨g,o,rfl,ht,hg,h1,h2⟩:=h.cells a hC
  have hx:∃ f:Nat→Int,∀ j,j<n*2→w.cell? ⟨g,o+j,none⟩=some (.int .i64 (f j)):=by
   refine⟨fun j=>match w.cell? ⟨g,o+j,none⟩ with|some (.int .i64 x)=>x|_=>0,fun j hj=>?_⟩;obtain⟨x,hx⟩:=h1 j hj;simp only[hx]
  obtain⟨f,hf⟩:=hx;refine⟨(List.range (n*2)).map f,by simp,by simp,Nat.le_refl _,Nat.le_trans h.le h.max,fun _=>⟨g,o,rfl,fun j u hu=>?_⟩⟩;rw[List.getElem?_map,List.getElem?_map]at hu;by_cases hj:j<n*2
  ·rw[List.getElem?_range hj]at hu
   cases hu
   exact hf j hj
  ·rw[List.getElem?_eq_none (by simpa using hj)]at hu
   cases hu
theorem Jr.of_own{xs:List Int}{B:Option Addr}{d:Nat}(hx:xs.length=n*2)(hn:0<n)(h:Own w m 132 2 B n d (xs.map (Value.int .i64)))(ht:∀ k,blk B=some k→T k=t):Jr w T t B n d:=by
 rcases h.2 with ⟨_,h0⟩|⟨g,cap,cur,hv,hb,hg,hn1,hm,hs,htake⟩
 ·omega
 ·injection hv with h1 h2 h3
  subst h1 h3;refine⟨hn1,hm,fun e=>(by cases e),fun a ha=>?_⟩;cases ha
  refine⟨g,0,rfl,ht g rfl,(Array.getElem?_eq_some_iff.1 hg).1,fun j hj=>?_,fun j hj=>⟨?_,?_⟩⟩
  ·refine⟨xs[j]'(by omega),?_⟩
   rw[Nat.zero_add,cell_of_row _ _ _ _ _ _ hg];have:=congrArg (·[j]?) htake;simp only[List.getElem?_take,if_pos hj,List.getElem?_map,List.getElem?_eq_getElem (show j<xs.length by omega)]at this;simpa using this
  ·rw[Nat.zero_add,cell_of_row _ _ _ _ _ _ hg]
   rw[Array.getElem?_eq_getElem (by rw[hs];exact hj)];rfl
  ·simp only[World.frozen?,hg]
   simp
theorem Jr.room{g o:Nat}(h:Jr w T t (some ⟨g,o,none⟩) n c)(hn:n<c)(y z:Int):Jr ((w.setCell ⟨g,o+n*2,none⟩ (.int .i64 y)).setCell ⟨g,o+n*2+1,none⟩ (.int .i64 z)) T t (some ⟨g,o,none⟩) (n+1) c:=by
 obtain⟨g',o',e,ht,hg,h1,h2⟩:=h.cells _ rfl;cases e
 refine⟨hn,h.max,fun e=>(by cases e),fun a ha=>?_⟩;cases ha
 have s0:=(h2 (n*2) (by omega)).1;have s1:=(h2 (n*2+1) (by omega)).1;rw[← Nat.add_assoc]at s1;refine⟨g,o,rfl,ht,by simpa [World.setCell] using hg,fun j hj=>?_,fun j hj=>⟨?_,?_⟩⟩
 ·by_cases e1:j=n*2+1
  ·subst e1
   rw[← Nat.add_assoc,World.cell?_setCell_same' _ _ _ (some_setc s1 rfl rfl)];exact⟨z,rfl⟩
  ·rw[World.cell?_setCell_other (h:=fun e=>by injection e with _ e _;omega)]
   by_cases e0:j=n*2
   ·subst e0
    rw[World.cell?_setCell_same' _ _ _ s0];exact⟨y,rfl⟩
   ·rw[World.cell?_setCell_other (h:=fun e=>by injection e with _ e _;omega)]
    exact h1 j (by omega)
 ·exact some_setc (some_setc (h2 j hj).1 rfl rfl) rfl rfl
 ·rw[World.frozen?_setCell,World.frozen?_setCell];exact(h2 j hj).2
def JapP(T:Tg)(m t:Nat)(C:Option Addr)(n:Nat)(v:Value)(w:World):Prop:=∃ B d T',v = .slice B n d∧(∀ k,k<m→T' k=T k)∧Unborn w T'∧Jr w T' t B n d
def gJj(k:Nat)(T:Tg)(t:Nat)(C:Option Addr)(n c:Nat)(j:Nat)(w:World):Prop:=j=k→Jr w T t C n c
theorem gJj.stab:∀ j i,i≠j→∀ w w',gJj k T t C n c j w→gRs k C i w w'→gJj k T t C n c j w':=by
 intro j i hij w w' hJ hR hjk;rcases hR with ⟨h,_⟩|h
 ·exact absurd (h.trans hjk.symm) hij
 ·exact(hJ hjk).ext h
theorem gJj.start(h:Jr w T t C n c):∀ i,gJj k T t C n c i w.drew:=fun _ _=>h.ext (Ext.drew w)
theorem JapP.stab:∀ j,j≠k→∀ v w w',JapP T m t A n v w→gRs k C j w w'→JapP T m t A n v w':=by
 rintro j hj v w w' ⟨B,d,T',h0,h1,h2,h3⟩ hR;rcases hR with ⟨h,_⟩|hg
 ·exact absurd h hj
 ·exact⟨B,d,T',h0,h1,h2.ext hg,h3.ext hg⟩
def JoneP(m:Nat)(y z:Int)(v:Value)(w:World):Prop:=∃ g,v = .slice (some ⟨g,0,none⟩) 1 1∧m≤g∧w.heap[g]?=some (.cells #[.int .i64 y,.int .i64 z] 132 (0,0))
theorem JoneP.stab{y z:Int}(hC:∀ g,blk C=some g→g<m)(i:Nat):∀ j,j≠i→∀ v w w',JoneP m y z v w→gRs k C j w w'→JoneP m y z v w':=by
 rintro j hj v w w' ⟨g,h1,h2,h3⟩ hR;refine⟨g,h1,h2,?_⟩;have hlt:=(Array.getElem?_eq_some_iff.1 h3).1;rcases hR with ⟨_,hg⟩|hg
 ·rw[hg.block g hlt (fun e=>by have:=hC g e.symm;omega)];exact h3
 ·rw[hg.block g hlt];exact h3
theorem exec_append_job(w:World){o:Oper}{a:Act}(s x:Operand)(ho:o.op = .call {callee:=.builtin .append,args:=#[s,x],argTypes:=#[212,212]})
  (hs:a.eval s = .slice C n c) (h:Jr w T t C n c) (hn:n≤15) (hu:Unborn w T) {xv:Value} (hx:a.eval x=xv) {y z:Int} (hb:JoneP m y z xv w) (hm:m≤w.heap.size) :
  ∃ v w',(execOp a.eval o).run prog w = .ok (.value v) w'∧gR C w w'∧gRs k C k w w'∧JapP T m t A (n+1) v w':=by
 obtain⟨i0,hi,hz0,hz1,hz2⟩:=info_parts info_job;obtain⟨g9,rfl,h9,h10⟩:=hb;have hr:Rd w 2 (some ⟨g9,0,none⟩) 1 1 [.int .i64 y,.int .i64 z]:=⟨rfl,Nat.le_refl _,by unfold maxLen;omega,fun _=>⟨g9,0,rfl,fun j u hu=>by rw[cell_of_row _ _ _ _ _ _ h10];simpa using hu⟩⟩
 have h1:∀ u∈[Value.int .i64 y,.int .i64 z],u.oneCell'=true:=by simp[Value.oneCell']
 have hexec:∀ {v w'},(Builtin.append_ #[212,212] o.type #[.slice C n c,.slice (some ⟨g9,0,none⟩) 1 1]).run prog w = .ok v w'→(execOp a.eval o).run prog w = .ok (.value v) w':=fun hr2=>by
  unfold execOp;simp only[ho,resolve,invoke,builtin,Sem.run_bind,Sem.run_pure,Result.andThen_ok,List.map_toArray,List.map_cons,List.map_nil,hs,hx,hr2]
 by_cases hnc:n<c
 ·obtain⟨a9,rfl⟩:∃ a9,C=some a9:=by
   cases C with
   | none=>have:=h.none_ rfl;omega
   | some a=>exact⟨a,rfl⟩
  obtain⟨g,o9,rfl,ht,hg,k1,k2⟩:=h.cells _ rfl;have hrun:=run_append_room_cells (P:=prog) (w:=w) 212 o.type 132 i0 underlying212 hi g o9 n c ⟨g9,0,none⟩ 1 1 [.int .i64 y,.int .i64 z] (by rw[hz1];rfl) (fun j u hu=>by
   rw[Addr.add_lit,Nat.zero_add,cell_of_row _ _ _ _ _ _ h10];simpa using hu) h1 hnc
   (fun j hj=>by rw[hz1,Nat.add_assoc];exact(k2 _ (by simp at hj;omega)).1) (fun j hj=>by rw[hz1,Nat.add_assoc];exact(k2 _ (by simp at hj;omega)).2)
  rw[hz1]at hrun;have hgr:w.grownBy (w.setCells g (o9+n*2) [.int .i64 y,.int .i64 z]) (some g):=grown_trans (setc_grown w ⟨g,o9+n*2,none⟩ _) (setc_grown _ ⟨g,o9+n*2+1,none⟩ _);exact⟨_,_,hexec hrun,hgr,.inl ⟨rfl,hgr⟩,_,_,T,rfl,fun _ _=>rfl,(fun k hk=>hu k (Nat.le_trans hgr.size hk)),h.room hnc y z⟩
 ·obtain rfl:n=c:=by have:=h.le;omega
  obtain⟨xs,hxs,hrd⟩:=h.olds;obtain⟨B,d,w',hrun,hown,hext⟩:=run_append_full (P:=prog) w 212 o.type 132 i0 (.agg #[.int .i64 0,.int .i64 0]) 2 16 underlying212 hi hz0 hz1 hz2 rfl (by decide) C n _ hrd _ 1 1 _ hr (by omega) h1 (by unfold maxLen;omega) (by omega);have hown':Own w' w.heap.size 132 2 B (n+1) d ((xs++[y,z]).map (Value.int .i64)):=by rw[List.map_append];exact hown
  have hu':=hu.ext hext;refine⟨_,_,hexec hrun,hext.grownBy _,.inr hext,B,d,give T (went none B) t,rfl,fun j hj=>give_out ?_,fun j hj=>?_,Jr.of_own (by simp;omega) (by omega) hown' (fun j hj=>give_in (by simp only[went,decide_eq_true_eq];exact⟨hj,by simp[blk]⟩))⟩
  ·simp only[went,decide_eq_false_iff_not]
   rintro ⟨hb,_⟩;have:=hown.blk_ge j hb;omega
  ·rw[give_out]
   ·exact hu' j hj
   ·simp only[went,decide_eq_false_iff_not]
    rintro ⟨hb,_⟩;obtain⟨a9,ha9,rfl⟩:=Option.map_eq_some_iff.1 hb;have:=(hown.base_le a9 ha9).2;omega
end
section
variable {w w' w0:World} {T T' T1:Tg} {t b m k:Nat} {A C:Option Addr} {n c:Nat}
theorem Jr.lt_(h:Jr w T t A n c){g:Nat}(hg:blk A=some g):g<w.heap.size∧T g=t:=by
 obtain⟨a,ha,rfl⟩:=Option.map_eq_some_iff.1 hg;obtain⟨g,o,rfl,ht,hl,_⟩:=h.cells a ha;exact⟨hl,ht⟩
theorem job_put(h:JobsAt w T t b)(hu:Unborn w T)(ht:0<t)(x y:Int):Calls prog 73 #[ptrV b,.agg #[.int .i64 x,.int .i64 y]] w (Gives (In t 2) w T fun v w' T'=>(∃ r:Bool,v = .bool r)∧JobsAt w' T' t b):=by
 have HJ:=hqd h;obtain⟨A,n,c,hn,a1,a2⟩:=h;have x1:=Ext.alloc w (.cells #[.int .i64 x,.int .i64 y] 132);have b1:=(Has.new w (fun _=>0) [.int .i64 x,.int .i64 y] 132 rfl);have Ha1:=hqd a1;have Ha2:=hqd a2;have c0:=a1.cell (i:=0) rfl;have hltb:=a1.lt;have hmf:∀ fn first cap w,(Instr.makeFunc fn first cap).run prog w = .ok (.func fn first cap) w:=fun _ _ _ _=>rfl;unfold ptrV;clear a1 a2;go_enter func73,ntmps73;go_upto_region 1 with fail
 generalize hW:World.alloc w _=W0 at *;obtain⟨gm,hgm⟩:∃ gm,gm=w.heap.size:=⟨_,rfl⟩;rw[← hgm]at b1 ⊢;have Hgm:=hqd (show w.heap.size≤gm by omega);clear hW hgm;have k0:=b1.cell (i:=0) rfl;have hgl:=b1.lt;have HB:=hqd b1;have d0:=x1.cell c0;have HC:=hqd (job_contains (Ha2.out.ext x1) hn gm x hgl k0);clear b1;by_cases hn16:n<16
 ·have e1:decide (16≤n)=false:=decide_eq_false (by omega)
  have e1':decide ((16:Int)≤(n:Int))=false:=decide_eq_false (by omega);have Hn16:=hqd hn16;clear hn16;go_wp2_with (first|simp only[Instr.makeFunc])
  refine HC.out.mono ?_;rintro e w1 ⟨⟨r,rfl⟩,ee⟩;have x2:=x1.trans ee;cases r with
  | true =>
   go_wp2_with fail;go_ret;exact⟨_,rfl,T,Turn.of_ext _ hu x2,⟨_,rfl⟩,HJ.out.ext x2⟩
  | false =>
   replace d0:=ee.cell d0;have k0:=(HB.out.ext ee).cell (i:=0) rfl;have k1:=(HB.out.ext ee).cell (i:=1) rfl;have hJ:=Ha2.out.ext x2;have hH:=Ha1.out.ext x2;have hu1:=hu.ext x2;have hC:=fun g=>hJ.lt_ (g:=g);have hnb:blk A≠some b:=fun e=>by have:=(hC b e).2;rw[hH.1]at this;omega
   have hng:blk A≠some gm:=fun e=>by
    have:=(Ha2.out.lt_ e).1;have:=Hgm.out;omega
   have HJ1:=hqd hJ;have HH1:=hqd hH;have hn15:n≤15:=by have:=Hn16.out;omega
   clear hH;go_wp2_with fail;apply wrH 10 (gR A) (gRs 7 A) (gJj 7 T (t+1) A n c) (gJj.start HJ1.out);simp only[tk];repeat apply lxG (fun _ h _ _=>aj (h.cell d0 hnb) (aj (h.cell k0 hng) (h.cell k1 hng)))
   apply lexG_new (p:=JoneP w1.heap.size x y) (by decide) (by decide) (JoneP.stab (fun g hg=>(hC g hg).1) _)
   ·rfl
   ·intro W hR hJ hΦ
    refine⟨_,_,?_,(Ext.alloc _ _).grownBy _,.inr (Ext.alloc _ _),⟨_,rfl,hR.size,heap_alloc_new W _⟩⟩;go_simp;first|done|rfl
   intro v2;simp only[pu];apply lexG_new (p:=JapP T w1.heap.size (t+1) A (n+1)) (by decide) (by decide) JapP.stab
   ·rfl
   ·intro W hR hJ hΦ
    exact exec_append_job W _ _ rfl rfl (hJ rfl) hn15 (fun k hk=>hu1 k (Nat.le_trans hR.size hk)) rfl (hΦ.1 rfl) hR.size
   intro v3;simp only[pu];repeat apply lxG (fun _ _ _ _=>trivial)
   refine lexG_nil ?_;intro W hR hap hΦ;obtain⟨B,d,T1,rfl,q1,q2,q3⟩:=hΦ.1 rfl;clear hΦ hap;simp only[dk];have hT1:Turn (· = t+1) w1 T W T1:=⟨hR.os,hR.tape,hR.output,hR.size,fun k hk hn=>hR.block k hk (fun e=>hn (hC k e.symm).2),q1,q2⟩;have hH1:=HH1.out.turn hT1 (by omega);have c0:=hH1.cell (i:=0) rfl;have f0:=hH1.free 0;obtain⟨hT2,hH2⟩:=hH1.put (S:=(· = t)) q2 0 (.slice B (n+1) d) rfl;have HT:=hqd (((Turn.of_ext (In t 2) hu x2).trans (hT1.mono fun k hk=>by subst hk;unfold In;omega)).trans (hT2.mono fun k hk=>by subst hk;unfold In;omega));have HK:=hqd (show JobsAt (W.setCell ⟨b,0,none⟩ (.slice B (n+1) d)) T1 t b from⟨B,n+1,d,by omega,hH2,q3.turn hT2 (by omega)⟩);clear hT1 hT2 hH1 hH2 q1 q2 q3 hR;go_wp2_with fail;go_ret;exact⟨_,rfl,T1,HT.out,⟨_,rfl⟩,HK.out⟩
 ·obtain rfl:n=16:=by omega
  clear hn16;go_wp2_with fail;go_ret;exact⟨_,rfl,T,Turn.of_ext _ hu x1,⟨_,rfl⟩,HJ.out.ext x1⟩
end
section
variable {w w':World} {T T':Tg} {t b:Nat} {A:Option Addr} {n c:Nat}
theorem can_one(w:World)(g:Nat)(x a e:Int)(hg:g<w.heap.size)(hx:w.cell? ⟨g,0,none⟩=some (.int .i64 x)):Calls prog 312 #[.agg #[.int .i64 a,.int .i64 e],.pointer (some ⟨g,0,none⟩)] w fun e w'=>(∃ r:Bool,e = .returned (.bool r))∧Ext w w':=by
 go_enter func312,ntmps312;go_wp2_with fail;go_ret;exact⟨⟨_,rfl⟩,Ext.alloc _ _⟩
theorem can_index(h:Jr w T t A n c)(hn:n≤16)(g:Nat)(x:Int)(hg:g<w.heap.size)(hx:w.cell? ⟨g,0,none⟩=some (.int .i64 x)):Calls prog 150 #[.slice A n c,.func (.func 312) #[] #[.pointer (some ⟨g,0,none⟩)]] w fun e w'=>(e = .returned (.int .i64 (-1))∨∃ k:Nat,k<n∧e = .returned (.int .i64 (k:Nat)))∧Ext w w':=by
 have HP:=hqd fun W (e:Ext w W) a e'=>can_one W g x a e' (Nat.lt_of_lt_of_le hg e.size) (e.cell hx);have Hc:=hqd h.cells;have hle:=h.le;have hnone:=hqd h.none_;clear h hx hg;go_enter func150,ntmps150;go_wp2_with fail;go_loopw [8] (fun iv wr=>∃ k:Nat,iv = .int .i64 (k:Nat)∧k≤n∧Ext w wr) (fun iv _=>n-(intOf iv).toNat)
 case atStart=>exact⟨0,rfl,Nat.zero_le _,Ext.refl _⟩
 case round =>
  obtain⟨k,rfl,hk,he⟩:=hrel;by_cases hkn:k<n
  ·have hd1:decide (k<n)=true:=decide_eq_true hkn
   cases A with
   | none=>exact absurd (hnone.out rfl) (by omega)
   | some a =>
    obtain⟨g9,o,rfl,_,_,h1,_⟩:=Hc.out a rfl;obtain⟨x1,q1⟩:=h1 (k*2) (by omega);obtain⟨x2,q2⟩:=h1 (k*2+1) (by omega);replace q1:=he.cell q1;replace q2:=he.cell q2;rw[← Nat.add_assoc]at q2;go_wp2_with fail;refine(HP.out wr he x1 x2).mono ?_;rintro e w3 ⟨⟨r,rfl⟩,e3⟩;cases r with
    | true =>
     go_wp2_with fail;go_ret;exact⟨.inr ⟨k,hkn,rfl⟩,he.trans e3⟩
    | false =>
     go_wp2_with fail;go_roundw
     case rel=>exact⟨k+1,by go_num,by omega,he.trans e3⟩
     case measure=>simp[intOf];omega
  ·obtain rfl:k=n:=by omega
   have hd1:decide (k<k)=false:=decide_eq_false (by omega);go_wp2_with fail;go_ret;exact⟨.inl rfl,he⟩
theorem setCells_some(g:Nat):∀(us:List Value) (k:Nat) (w:World) (j:Nat),(w.cell? ⟨g,j,none⟩).isSome=true→((w.setCells g k us).cell? ⟨g,j,none⟩).isSome=true
 | [],_,_,_,h=>h
 | u::r,k,w,j,h=>setCells_some g r (k+1) _ j (some_setc h rfl rfl)
theorem setCells_frozen(g:Nat):∀(us:List Value) (k:Nat) (w:World) (p:Addr),(w.setCells g k us).frozen? p=w.frozen? p
 | [],_,_,_=>rfl
 | u::r,k,w,p=>(setCells_frozen g r (k+1) _ p).trans (World.frozen?_setCell _ _ _ _)
theorem setCells_grown(g:Nat):∀(us:List Value) (k:Nat) (w:World),w.grownBy (w.setCells g k us) (some g)
 | [],_,_=>World.grownBy.refl _ _
 | u::r,k,w=>grown_trans (setc_grown w ⟨g,k,none⟩ u) (setCells_grown g r (k+1) _)
theorem Jr.cut{g o:Nat}(h:Jr w T t (some ⟨g,o,none⟩) n c){m:Nat}(hm:m≤n)(us:List Value):Jr (w.setCells g (o+m*2) us) T t (some ⟨g,o,none⟩) m c:=by
 obtain⟨g',o',e,ht,hg,h1,h2⟩:=h.cells _ rfl;cases e
 refine⟨Nat.le_trans hm h.le,h.max,fun e=>(by cases e),fun a ha=>?_⟩;cases ha
 refine⟨g,o,rfl,ht,Nat.lt_of_lt_of_le hg (setCells_grown g us _ w).size,fun j hj=>?_,fun j hj=>⟨setCells_some g us _ w _ (h2 j hj).1,by rw[setCells_frozen];exact(h2 j hj).2⟩⟩;rw[World.cell?_setCells_out g us (o+m*2) w ⟨g,o+j,none⟩ (fun _ _=>.inl (by show o+j<o+m*2;omega))];exact h1 j (by omega)
theorem Jr.put{g o:Nat}(h:Jr w T t (some ⟨g,o,none⟩) n c){i:Nat}(hi:i<n)(y z:Int):Jr (w.setCells g (o+i*2) [.int .i64 y,.int .i64 z]) T t (some ⟨g,o,none⟩) n c:=by
 obtain⟨g',o',e,ht,hg,h1,h2⟩:=h.cells _ rfl;cases e
 have hle:=h.le;refine⟨h.le,h.max,fun e=>(by cases e),fun a ha=>?_⟩;cases ha
 refine⟨g,o,rfl,ht,Nat.lt_of_lt_of_le hg (setCells_grown g _ _ w).size,fun j hj=>?_,fun j hj=>⟨setCells_some g _ _ w _ (h2 j hj).1,by rw[setCells_frozen];exact(h2 j hj).2⟩⟩;by_cases hj1:j<i*2∨i*2+2≤j
 ·rw[World.cell?_setCells_out g _ (o+i*2) w ⟨g,o+j,none⟩ (fun _ _=>by show o+j<o+i*2∨o+i*2+2≤o+j;omega)]
  exact h1 j hj
 ·have hin:=World.cell?_setCells_in g [.int .i64 y,.int .i64 z] (o+i*2) w (fun k hk=>by
   have hk2:k<2:=hk;rw[Nat.add_assoc];exact(h2 (i*2+k) (by omega)).1)
  rcases(show j=i*2∨j=i*2+1 by omega) with rfl|rfl
  ·exact⟨y,hin 0 (Nat.zero_lt_succ _)⟩
  ·exact⟨z,by rw[← Nat.add_assoc];exact hin 1 (Nat.lt_succ_self _)⟩
end
theorem zero_job:∀ w,(zeroValue 132).run prog w = .ok (.agg #[.int .i64 0,.int .i64 0]) w:=fun _=>by kernel_rfl
section
variable {w w':World} {T T':Tg} {t b:Nat} {A:Option Addr} {n c:Nat}
theorem job_delete(h:Jr w T t A n c)(hu:Unborn w T)(hn:n≤16)(ht:0<t)(g:Nat)(x:Int)(hx:w.cell? ⟨g,0,none⟩=some (.int .i64 x))(hT0:T g=0):Calls prog 311 #[.slice A n c,.func (.func 312) #[] #[.pointer (some ⟨g,0,none⟩)]] w fun e w'=>∃ m:Nat,m≤16∧e = .returned (.slice A m c)∧Turn (· = t) w T w' T∧Jr w' T t A m c:=by
 have hgl:g<w.heap.size:=World.block_lt_of_cell? w _ hx;have HI:=hqd (can_index h hn g x hgl hx);have HP:=hqd fun W (e:w.heap.size≤W.heap.size) (hx:W.cell? ⟨g,0,none⟩=some (.int .i64 x)) a e'=>can_one W g x a e' (Nat.lt_of_lt_of_le hgl e) hx;have HJ:=hqd h;clear h;go_enter func311,ntmps311;go_wp2_with fail;refine HI.out.mono ?_;rintro e w1 ⟨hr,e1⟩;rcases hr with rfl|⟨k,hk,rfl⟩
 ·go_wp2_with fail
  go_ret;exact⟨n,hn,rfl,Turn.of_ext _ hu e1,HJ.out.ext e1⟩
 ·have hk1:((k:Int)==-1)=false:=by rw[beq_eq_false_iff_ne];omega
  obtain⟨a,rfl⟩:∃ a,A=some a:=by
   cases A with
   | none=>have:=HJ.out.none_ rfl;have:=HJ.out.le;omega
   | some a=>exact⟨a,rfl⟩
  obtain⟨gr,o,rfl,hgr1,hgr2,_,_⟩:=HJ.out.cells a rfl;have hw1:IntKind.i64.wrap ((k:Int)+1)=((k+1:Nat):Int):=by rw[IntWalk.i64_in _ (by omega)];omega
  have hle:=HJ.out.le;go_wp2_with fail;have hst:=(Turn.of_ext (· = t) hu e1);have hJ1:=HJ.out.ext e1;go_loopw [5,6] (fun iv jv wr=>∃ i j:Nat,iv = .int .i64 (i:Nat)∧jv = .int .i64 (j:Nat)∧i<j∧j≤n∧Turn (· = t) w T wr T∧Jr wr T t (some ⟨gr,o,none⟩) n c) (fun _ jv _=>n-(intOf jv).toNat)
  case atStart=>exact⟨k,k+1,rfl,by go_num,by omega,by omega,hst,hJ1⟩
  case round =>
   obtain⟨i,j,rfl,rfl,hij,hjn,hT,hJ⟩:=hrel;by_cases hlt:j<n
   ·have hd:decide (j<n)=true:=decide_eq_true hlt
    obtain⟨_,_,e9,_,_,h1,h2⟩:=hJ.cells _ rfl;cases e9
    obtain⟨x1,q1⟩:=h1 (j*2) (by omega);obtain⟨x2,q2⟩:=h1 (j*2+1) (by omega);rw[← Nat.add_assoc]at q2;have hgl:gr<wr.heap.size:=World.block_lt_of_cell? wr _ q1;have HT:=hqd hT;have HJ2:=hqd hJ;clear h1 h2 hT hJ;go_upto_region 8 with fail
    have b1:=(Has.new wr (fun _=>0) [.int .i64 x1,.int .i64 x2] 132 rfl);have ex1:=Ext.alloc wr (.cells #[.int .i64 x1,.int .i64 x2] 132);generalize hW:World.alloc wr _=W at *;obtain⟨gv,hgv⟩:∃ gv,gv=wr.heap.size:=⟨_,rfl⟩;rw[← hgv]at b1 ⊢;clear hW hgv q1 q2;have hTW:=HT.out.ext ex1;have hxW:W.cell? ⟨g,0,none⟩=some (.int .i64 x):=(cell_block (hTW.block g (World.block_lt_of_cell? w _ hx) (by rw[hT0];omega))).trans hx;have k0:=b1.cell (i:=0) rfl;have k1:=b1.cell (i:=1) rfl;go_wp2_with fail;refine(HP.out W hTW.size hxW x1 x2).mono ?_;rintro e w3 ⟨⟨r,rfl⟩,e3⟩;have hT3:=hTW.ext e3;have hJ3:=(HJ2.out.ext ex1).ext e3;cases r with
    | true =>
     have hw2:IntKind.i64.wrap ((j:Int)+1)=(j:Int)+1:=IntWalk.i64_in _ (by omega);go_wp2_with fail;go_roundw
     case rel=>exact⟨i,j+1,rfl,by go_num,by omega,by omega,hT3,hJ3⟩
     case measure=>simp[intOf];omega
    | false =>
     have hw2:IntKind.i64.wrap ((j:Int)+1)=(j:Int)+1:=IntWalk.i64_in _ (by omega);have hw3:IntKind.i64.wrap ((i:Int)+1)=(i:Int)+1:=IntWalk.i64_in _ (by omega);have b3:=b1.ext e3;have hin:i<n:=by omega
     have hd2:decide (i<n)=true:=decide_eq_true hin;obtain⟨_,_,e9,_,_,_,h2⟩:=hJ3.cells _ rfl;cases e9
     have hsp:∀ j',j'<2→(w3.cell? ⟨gr,o+i*2+j',none⟩).isSome=true∧w3.frozen? ⟨gr,o+i*2+j',none⟩=false:=fun j' hj'=>by
      rw[Nat.add_assoc];exact h2 (i*2+j') (by omega)
     have hJ4:=hJ3.put hin x1 x2;have hT4:=hT3.grown (setCells_grown gr [.int .i64 x1,.int .i64 x2] (o+i*2) w3) (fun k hk=>by cases hk;exact .inl hgr1);have h12:∀ u∈[Value.int .i64 x1,.int .i64 x2],u.oneCell'=true:=by simp[Value.oneCell']
     have hall:=b3.all;have hl2:[Value.int .i64 x1,.int .i64 x2].length=2:=rfl;clear h2 hJ3 hT3 b3 b1;go_wp2_with (first|(with_reducible refine wpList_load_st rfl 132 (.tmp 7) rfl rfl underlying132 size_job hl2 hall ?_)|(with_reducible refine wpList_store_ara rfl 132 (.tmp 33) (.tmp 32) rfl rfl (us:=[.int .i64 x1,.int .i64 x2]) rfl hl2 size_job h12 hsp ?_))
     go_roundw
     case rel=>exact⟨i+1,j+1,by go_num,by go_num,by omega,by omega,hT4,hJ4⟩
     case measure=>simp[intOf];omega
   ·obtain rfl:j=n:=by omega
    have hd:decide (j<j)=false:=decide_eq_false (by omega);have hci:(c=i)=False:=eq_false (by omega);have hcd:((i:Int)≤(j:Int))=True:=eq_true (by omega);have hcd2:(0≤(i:Int)∧(i:Int)≤(j:Int))=True:=eq_true ⟨by omega,by omega⟩;have hcd3:(0≤(i:Int)∧(i:Int)≤(c:Int))=True:=eq_true ⟨by omega,by omega⟩;obtain⟨_,_,e9,_,_,_,h2⟩:=hJ.cells _ rfl;cases e9
    obtain⟨zs,hzs,hrun⟩:=run_clear_row (P:=prog) wr 212 132 (.agg #[.int .i64 0,.int .i64 0]) 2 underlying212 zero_job rfl (by decide) (by simp[Value.cells,Value.oneCell']) gr (o+i*2) (j-i) (c-i) (by omega)
     (fun q hq=>by rw[Nat.add_assoc];exact(h2 (i*2+q) (by omega)).1) (fun q hq=>by rw[Nat.add_assoc];exact(h2 (i*2+q) (by omega)).2)
    have hJ4:=hJ.cut (m:=i) (by omega) zs;have hT4:=hT.grown (setCells_grown gr zs (o+i*2) wr) (fun k hk=>by cases hk;exact .inl hgr1);clear h2 hJ hT;go_wp2_with (first|(with_reducible refine wpList_clear rfl (.tmp 38) 212 rfl _ rfl _ hrun ?_))
    go_ret;exact⟨i,by omega,rfl,hT4,hJ4⟩
theorem job_cancel(h:JobsAt w T t b)(hu:Unborn w T)(ht:0<t)(x:Int):Calls prog 297 #[ptrV b,.int .i64 x] w (Gives (In t 2) w T fun v w' T'=>(∃ r:Int,v = .int .i64 r)∧JobsAt w' T' t b):=by
 have HJ:=hqd h;have HL:=hqd fun W T1 (h:JobsAt W T1 t b)=>job_len h;obtain⟨A,n,c,hn,a1,a2⟩:=h;have x1:=Ext.alloc w (.cells #[.int .i64 x] 2);have b1:=(Has.new w (fun _=>0) [.int .i64 x] 2 rfl);have Ha1:=hqd a1;have Ha2:=hqd a2;have c0:=a1.cell (i:=0) rfl;have hmf:∀ fn first cap w,(Instr.makeFunc fn first cap).run prog w = .ok (.func fn first cap) w:=fun _ _ _ _=>rfl;unfold ptrV at *;clear a1 a2;go_enter func297,ntmps297;go_upto_region 1 with fail
 generalize hW:World.alloc w _=W0 at *;obtain⟨gm,hgm⟩:∃ gm,gm=w.heap.size:=⟨_,rfl⟩;rw[← hgm]at b1 ⊢;have hTg:T gm=0:=hu gm (by omega);have hk0:=b1.cell (i:=0) rfl;clear hW hgm b1;have d0:=x1.cell c0;have hD:=hqd (job_delete (Ha2.out.ext x1) (hu.ext x1) hn (by omega) gm x hk0 hTg);go_wp2_with fail;refine(HL.out W0 T (HJ.out.ext x1)).mono ?_;rintro e w1 ⟨⟨r1,rfl,hr1⟩,hw⟩;subst hw;go_wp2_with fail;refine hD.out.mono ?_;rintro e w2 ⟨m,hm,rfl,hT2,hJ2⟩;have hH2:=(Ha1.out.ext x1).turn hT2 (by omega);have d0:=hH2.cell (i:=0) rfl;have f0:=hH2.free 0;obtain⟨hT3,hH3⟩:=hH2.put (S:=(· = t)) hT2.unborn 0 (.slice A m c) rfl;have hK:JobsAt (w2.setCell ⟨b,0,none⟩ (.slice A m c)) T t b:=⟨A,m,c,hm,hH3,hJ2.turn hT3 (by omega)⟩;have HK:=hqd hK;have HT:=hqd (((Turn.of_ext (In t 2) hu x1).trans (hT2.mono fun k hk=>by subst hk;unfold In;omega)).trans (hT3.mono fun k hk=>by subst hk;unfold In;omega));clear hH2 hH3 hT2 hT3 hJ2 hK;go_upto_region 4 with fail
 generalize hW:World.setCell w2 _ _=W3 at *;clear hW d0 f0;go_wp2_with fail;refine(HL.out W3 T HK.out).mono ?_;rintro e w4 ⟨⟨r2,rfl,hr2⟩,hw⟩;subst hw;go_wp2_with fail;go_ret;exact⟨_,rfl,T,HT.out,⟨_,rfl⟩,HK.out⟩
end
def Pp(w:World)(Q:Nat→Prop)(A:Option Addr)(n c:Nat)(ps:List (List UInt8)):Prop :=
 ∃ hs:List (Option Addr×Nat×Nat),Rd w 1 A n c (hs.map hdr)∧(0<n→∀ k,blk A=some k→Q k)∧hs.length=ps.length∧∀(i:Nat) h p,hs[i]?=some h→ps[i]?=some p→Rb w h.1 h.2.1 h.2.2 p∧(0<p.length→∀ k,blk h.1=some k→Q k)
def Sp(w:World)(T:Tg)(A:Option Addr)(n c:Nat)(ps:List (List UInt8)):Prop:=Pp w (fun k=>T k=0) A n c ps
section
variable {w w':World} {T T':Tg} {Q Q':Nat→Prop} {A:Option Addr} {n c:Nat} {ps:List (List UInt8)}
theorem Pp.rp(h:Pp w Q A n c ps):Rp w A n c ps:=by
 obtain⟨hs,h1,_,h2,h3⟩:=h;exact⟨hs,h1,h2,fun i a p ha hp=>(h3 i a p ha hp).1⟩
theorem Pp.to(h:Pp w Q A n c ps)(hb:∀ k,Q k→k<w.heap.size→w'.heap[k]?=w.heap[k]?)(hq:∀ k,Q k→k<w.heap.size→Q' k):Pp w' Q' A n c ps:=by
 obtain⟨hs',h1,h2,h3,h4⟩:=h;refine⟨hs',Rd.of_blocks h1 fun hn k hk=>hb k (h2 (by omega) k hk) (Rd.lt' h1 hn hk),fun hn k hk=>hq k (h2 hn k hk) (Rd.lt' h1 (by omega) hk),h3,fun i a p ha hp=>?_⟩;obtain⟨h5,h6⟩:=h4 i a p ha hp;have hl:=h5.len;exact⟨Rd.of_blocks h5 fun hn k hk=>hb k (h6 (by omega) k hk) (Rd.lt' h5 hn hk),fun hn k hk=>hq k (h6 hn k hk) (Rd.lt' h5 (by omega) hk)⟩
theorem Pp.ext(h:Pp w Q A n c ps)(e:Ext w w'):Pp w' Q A n c ps:=h.to (fun k _ hk=>e.block k hk) (fun _ h _=>h)
theorem Sp.rp(h:Sp w T A n c ps):Rp w A n c ps:=Pp.rp h
theorem Sp.turn{S:Nat→Prop}(h:Sp w T A n c ps)(hT:Turn S w T w' T')(hs:¬ S 0):Sp w' T' A n c ps :=
 Pp.to h (fun k hk hl=>hT.block k hl (by rw[hk];exact hs)) (fun k hk hl=>(hT.tag k hl).trans hk)
theorem Sp.ext(h:Sp w T A n c ps)(e:Ext w w'):Sp w' T A n c ps:=Pp.ext h e
theorem Sp.len(h:Sp w T A n c ps):n=ps.length:=h.rp.len
theorem Rws.pp{base:Nat}(h:Rws w base A n c ps):Pp w (fun k=>base≤k) A n c ps:=by
 obtain⟨_,hs,h1,h2,h3⟩:=h;exact⟨hs,h1.rd,fun _ k hk=>h1.blk_ge k hk,h2,fun i a p ha hp=>⟨(h3 i a p ha hp).1.1,fun hn k hk=>(h3 i a p ha hp).2 hn k hk⟩⟩
theorem Rws.sp{base:Nat}(h:Rws w base A n c ps)(hT:∀ k,base≤k→T k=0):Sp w T A n c ps:=h.pp.to (fun _ _ _=>rfl) (fun k hk _=>hT k hk)
end
structure Br where
 id:Nat
 press:List (List UInt8)
 done:Nat
 pic:Nat
def brC(fr:Nat)(b:Br)(h:Option Addr×Nat):List Value:=[.int .i64 (b.id:Nat),.int .i64 (fr:Nat),.slice h.1 b.press.length h.2,.int .i64 (b.done:Nat),.int .i64 (b.pic:Nat)]
def brsC(fr:Nat):List Br→List (Option Addr×Nat)→List Value
 | b::l,h::hs=>brC fr b h++brsC fr l hs
 | _,_=>[]
theorem brC_len(fr:Nat)(b:Br)(h:Option Addr×Nat):(brC fr b h).length=5:=rfl
theorem brsC_app(fr:Nat)(x:Br)(h:Option Addr×Nat):∀(l:List Br) (hs:List (Option Addr×Nat)),hs.length=l.length→brsC fr (l++[x]) (hs++[h])=brsC fr l hs++brC fr x h
 | [],[],_=>by simp[brsC]
 | b::l,a::hs,e=>by simp[brsC,brsC_app fr x h l hs (by simpa using e)]
 | [],a::hs,e=>by simp at e
 | b::l,[],e=>by simp at e
theorem brsC_get(fr:Nat):∀(l:List Br) (hs:List (Option Addr×Nat)) (i:Nat) (b:Br) (h:Option Addr×Nat),l[i]?=some b→hs[i]?=some h→∀ j v,(brC fr b h)[j]?=some v→(brsC fr l hs)[i*5+j]?=some v
 | b'::l,a::hs,0,b,h,hb,hh,j,v,hv=>by
  cases hb
  cases hh
  rw[brsC,Nat.zero_mul,Nat.zero_add,List.getElem?_append_left (by have:=(List.getElem?_eq_some_iff.1 hv).1;exact this)];exact hv
 | b'::l,a::hs,i+1,b,h,hb,hh,j,v,hv=>by
  rw[brsC,List.getElem?_append_right (by rw[brC_len];omega),brC_len,show(i+1)*5+j-5=i*5+j by omega];exact brsC_get fr l hs i b h (by simpa using hb) (by simpa using hh) j v hv
 | [],_,i,b,h,hb,_,_,_,_=>by simp at hb
 | _::_,[],i,b,h,_,hh,_,_,_=>by simp at hh
def Bs(w:World)(T:Tg)(A:Option Addr)(n c fr:Nat)(l:List Br):Prop:=n=l.length∧∃ hs:List (Option Addr×Nat),hs.length=l.length∧Rd w 5 A n c (brsC fr l hs)∧(0<n→∀ k,blk A=some k→T k=0)∧∀(i:Nat) x h,l[i]?=some x→hs[i]?=some h→Sp w T h.1 x.press.length h.2 x.press
theorem Bs.turn{S:Nat→Prop}{w w':World}{T T':Tg}{A:Option Addr}{n c fr:Nat}{l:List Br}(h:Bs w T A n c fr l)(hT:Turn S w T w' T')(hs:¬ S 0):Bs w' T' A n c fr l:=by
 obtain⟨h0,hs',h1,h2,h3,h4⟩:=h;exact⟨h0,hs',h1,Rd.of_blocks h2 fun hn k hk=>hT.block k (Rd.lt' h2 hn hk) (by rw[h3 (by omega) k hk];exact hs),fun hn k hk=>(hT.tag k (Rd.lt' h2 (by omega) hk)).trans (h3 hn k hk),fun i x a hi hk=>(h4 i x a hi hk).turn hT hs⟩
theorem Bs.ext{w w':World}{T:Tg}{A:Option Addr}{n c fr:Nat}{l:List Br}(h:Bs w T A n c fr l)(e:Ext w w'):Bs w' T A n c fr l:=by
 obtain⟨h0,hs',h1,h2,h3,h4⟩:=h;exact⟨h0,hs',h1,h2.ext e,h3,fun i x a hi hk=>(h4 i x a hi hk).ext e⟩
theorem Bs.elem{w:World}{T:Tg}{A:Option Addr}{n c fr:Nat}{l:List Br}(h:Bs w T A n c fr l){k:Nat}{x:Br}(hx:l[k]?=some x):∃ g o a,A=some ⟨g,o,none⟩∧(∀ i v,(brC fr x a)[i]?=some v→w.cell? ⟨g,o+k*5+i,none⟩=some v)∧Sp w T a.1 x.press.length a.2 x.press:=by
 obtain⟨h0,hs,h1,h2,h3,h4⟩:=h;have hk:k<l.length:=(List.getElem?_eq_some_iff.1 hx).1;have hh:=List.getElem?_eq_getElem (show k<hs.length by omega);obtain⟨g,o,e,hc⟩:=h2.2.2.2 (by omega);exact⟨g,o,_,e,fun i v hv=>by rw[Nat.add_assoc];exact hc _ _ (brsC_get fr l hs k x _ hx hh i v hv),h4 k x _ hx hh⟩
structure TreeAt(w:World)(T:Tg)(t b sb most last epoch fr:Nat)(l:List Br):Prop where
 most8:l.length≤most
 blk:∃ A c hs,hs.length=l.length∧Has w T t b [ptrV sb,.int .i64 (most:Nat),.slice A l.length c,.int .i64 (last:Nat),.int .i64 (epoch:Nat)]∧Row w T (t+1) 136 5 A l.length c (brsC fr l hs)∧∀(i:Nat) x h,l[i]?=some x→hs[i]?=some h→Sp w T h.1 x.press.length h.2 x.press
section
variable {w w':World} {T T':Tg} {t b sb most last epoch fr:Nat} {l:List Br}
theorem TreeAt.turn{S:Nat→Prop}(h:TreeAt w T t b sb most last epoch fr l)(hT:Turn S w T w' T')(h0:¬ S 0)(h1:¬ S t)(h2:¬ S (t+1)):TreeAt w' T' t b sb most last epoch fr l:=by
 obtain⟨A,c,hs,a1,a2,a3,a4⟩:=h.blk;exact⟨h.most8,A,c,hs,a1,a2.turn hT h1,a3.turn hT h2,fun i x a hi hk=>(a4 i x a hi hk).turn hT h0⟩
theorem TreeAt.ext(h:TreeAt w T t b sb most last epoch fr l)(e:Ext w w'):TreeAt w' T t b sb most last epoch fr l:=by
 obtain⟨A,c,hs,a1,a2,a3,a4⟩:=h.blk;exact⟨h.most8,A,c,hs,a1,a2.ext e,a3.ext e,fun i x a hi hk=>(a4 i x a hi hk).ext e⟩
end
section
variable {w w':World} {T T':Tg} {t b sb most last epoch fr:Nat} {l:List Br}
theorem tree_new(w:World)(T:Tg)(hu:Unborn w T)(t sb m:Nat)(hm:m≤8)(fr:Nat):Calls prog 140 #[ptrV sb,.int .i64 (m:Nat)] w (Gives (fun _=>False) w T fun v w' T'=>∃ b,v=ptrV b∧TreeAt w' T' t b sb m 0 0 fr []):=by
 obtain⟨hT0,hH0⟩:=Has.fresh hu [ptrV sb,.int .i64 (m:Nat),.slice none 0 0,.int .i64 0,.int .i64 0] 168 t;have HT0:=hqd hT0;have HH0:=hqd hH0;have hm1:max (m:Int) 0=(m:Int):=by omega
 have hm2:min (m:Int) 8=(m:Int):=by omega
 unfold ptrV at *;clear hT0 hH0;go_enter func140,ntmps140;go_wp2_with fail;go_ret;exact⟨_,rfl,_,HT0.out,w.heap.size,rfl,⟨Nat.zero_le _,none,0,[],rfl,HH0.out,Row.nil_ _ _ _ _ _,fun i x h hi=>by simp at hi⟩⟩
theorem tree_epoch(h:TreeAt w T t b sb most last epoch fr l):Calls prog 48 #[ptrV b] w fun e w'=>e = .returned (.int .i64 (epoch:Nat))∧w'=w:=by
 obtain⟨A,c,hs,a1,a2,a3,a4⟩:=h.blk;have c4:=a2.cell (i:=4) rfl;unfold ptrV;clear a1 a2 a3 a4 h;go_enter func48,ntmps48;go_wp2_with fail;go_ret;exact⟨rfl,rfl⟩
def brV(fr:Nat)(x:Br)(h:Option Addr×Nat):Value:=.agg (brC fr x h).toArray
theorem find_one(w:World)(g:Nat)(id:Int)(x:Br)(h:Option Addr×Nat)(hg:g<w.heap.size)(hx:w.cell? ⟨g,0,none⟩=some (.int .i64 id)):Calls prog 108 #[brV fr x h,.pointer (some ⟨g,0,none⟩)] w fun e w'=>e = .returned (.bool (decide ((x.id:Int)=id)))∧Ext w w':=by
 obtain⟨A,c⟩:=h;unfold brV brC;by_cases hi:(x.id:Int)=id
 ·rw[decide_eq_true hi]
  subst hi;go_enter func108,ntmps108;go_wp2_with fail;go_ret;exact⟨rfl,Ext.alloc _ _⟩
 ·rw[decide_eq_false hi]
  have hb:((x.id:Int)==id)=false:=by rw[beq_eq_false_iff_ne];exact hi
  go_enter func108,ntmps108;go_wp2_with fail;go_ret;exact⟨rfl,Ext.alloc _ _⟩
theorem size_br:(prog.info? 136).map (·.size)=some 5:=by kernel_rfl
def idxB(id:Int):List Br→Option Nat
 | []=>none
 | x::l=>if (x.id:Int)=id then some 0 else (idxB id l).map (· + 1)
theorem idxB_some{id:Int}:∀ {l:List Br} {k:Nat},idxB id l=some k→∃ x,l[k]?=some x∧(x.id:Int)=id∧∀ j,j<k→∀ y,l[j]?=some y→(y.id:Int)≠id
 | [],k,h=>by cases h
 | x::l,k,h=>by
  unfold idxB at h;split at h
  ·cases h
   exact⟨x,rfl,by assumption,fun j hj=>by omega⟩
  ·rename_i hne
   obtain⟨k',hk',rfl⟩:=Option.map_eq_some_iff.1 h;obtain⟨y,h1,h2,h3⟩:=idxB_some hk';refine⟨y,h1,h2,fun j hj z hz=>?_⟩;cases j with
   | zero=>cases hz;exact hne
   | succ j=>exact h3 j (by omega) z hz
theorem idxB_at{id:Int}:∀ {l:List Br} {k:Nat} {x:Br},l[k]?=some x→(x.id:Int)=id→(∀ j,j<k→∀ y,l[j]?=some y→(y.id:Int)≠id)→idxB id l=some k
 | [],k,x,h,_,_=>by simp at h
 | y::l,0,x,h,hx,_=>by cases h;unfold idxB;rw[if_pos hx]
 | y::l,k+1,x,h,hx,hn=>by
  unfold idxB;rw[if_neg (hn 0 (by omega) y rfl),idxB_at (k:=k) (by simpa using h) hx (fun j hj z hz=>hn (j+1) (by omega) z (by simpa using hz))];rfl
theorem idxB_off{id:Int}:∀ {l:List Br},(∀ j,j<l.length→∀ y,l[j]?=some y→(y.id:Int)≠id)→idxB id l=none
 | [],_=>rfl
 | y::l,h=>by
  unfold idxB;rw[if_neg (h 0 (by simp) y rfl),idxB_off (fun j hj z hz=>h (j+1) (by simpa using hj) z (by simpa using hz))];rfl
def idxV(o:Option Nat):Value:=match o with|none=>.int .i64 (-1)|some k=>.int .i64 (k:Nat)
theorem TreeAt.elem(h:TreeAt w T t b sb most last epoch fr l):∃(A:Option Addr) (c:Nat) (hs:List (Option Addr×Nat)),hs.length=l.length∧w.cell? ⟨b,2,none⟩=some (.slice A l.length c)∧l.length≤c∧c≤maxLen∧∀(k:Nat) x,l[k]?=some x→∃ g h,A=some ⟨g,0,none⟩∧T g=t+1∧hs[k]?=some h∧(∀ i v,(brC fr x h)[i]?=some v→w.cell? ⟨g,k*5+i,none⟩=some v)∧Sp w T h.1 x.press.length h.2 x.press:=by
 obtain⟨A,c,hs,a1,a2,a3,a4⟩:=h.blk;refine⟨A,c,hs,a1,a2.cell (i:=2) rfl,a3.rd.2.1,a3.rd.2.2.1,fun k x hx=>?_⟩;have hk:k<hs.length:=by rw[a1];exact(List.getElem?_eq_some_iff.1 hx).1
 have hh:=List.getElem?_eq_getElem hk;have h0:=brsC_get fr l hs k x _ hx hh 0 _ rfl;obtain⟨g,e,_,_,hg⟩:=a3.at_ h0;refine⟨g,_,e,hg,hh,fun i v hv=>?_,a4 k x _ hx hh⟩;obtain⟨g',e',hc,_,_⟩:=a3.at_ (brsC_get fr l hs k x _ hx hh i v hv);rw[e]at e';cases e'
 exact hc
theorem tree_index(h:TreeAt w T t b sb most last epoch fr l)(hm:most≤8)(g:Nat)(id:Int)(hg:g<w.heap.size)(hx:w.cell? ⟨g,0,none⟩=some (.int .i64 id)){A:Option Addr}{c:Nat}(hA:w.cell? ⟨b,2,none⟩=some (.slice A l.length c)) :
  Calls prog 107 #[.slice A l.length c,.func (.func 108) #[] #[.pointer (some ⟨g,0,none⟩)]] w fun e w'=>e = .returned (idxV (idxB id l))∧Ext w w':=by
 have HP:=hqd fun W (e:Ext w W) x h=>find_one (fr:=fr) W g id x h (Nat.lt_of_lt_of_le hg e.size) (e.cell hx);obtain⟨A',c',hs,hl,hA',hlc,hcm,hel⟩:=h.elem;rw[hA]at hA';cases hA'
 have Hel:=hqd hel;have hl8:=Nat.le_trans h.most8 hm;obtain⟨n,hn⟩:∃ n,n=l.length:=⟨_,rfl⟩;have Hn:=hqd hn;rw[← hn]at hlc hl8 ⊢;clear h hel hl hx hg hA hn;go_enter func107,ntmps107;go_wp2_with fail;go_loopw [8] (fun iv wr=>∃ k:Nat,iv = .int .i64 (k:Nat)∧k≤n∧(∀ j,j<k→∀ y,l[j]?=some y→(y.id:Int)≠id)∧Ext w wr) (fun iv _=>n-(intOf iv).toNat)
 case atStart=>exact⟨0,rfl,Nat.zero_le _,fun j hj=>by omega,Ext.refl _⟩
 case round =>
  obtain⟨k,rfl,hk,hno,he⟩:=hrel;by_cases hkn:k<n
  ·have hd1:decide (k<n)=true:=decide_eq_true hkn
   obtain⟨x,hx⟩:∃ x,l[k]?=some x:=⟨_,List.getElem?_eq_getElem (by rw[← Hn.out];exact hkn)⟩;obtain⟨g9,h9,rfl,_,_,hv,_⟩:=Hel.out k x hx;have hv1:∀ i v,(brC fr x h9)[i]?=some v→wr.cell? ⟨g9,k*5+i,none⟩=some v:=fun i v hi=>he.cell (hv i v hi);have c0:=hv1 0 _ rfl;have c1:=hv1 1 _ rfl;have c2:=hv1 2 _ rfl;have c3:=hv1 3 _ rfl;have c4:=hv1 4 _ rfl;rw[Nat.add_zero]at c0;have HPx:=hqd (HP.out wr he x h9);obtain⟨A8,c8⟩:=h9;unfold brV brC at HPx;have Hno:=hqd hno;have Hx:=hqd hx;clear hv hv1 hno hx;by_cases hid:(x.id:Int)=id
   ·rw[decide_eq_true hid]at HPx
    have hidx:=idxB_at Hx.out hid Hno.out;have Hidx:=hqd hidx;clear hidx hid;go_wp2_with fail;refine HPx.out.mono ?_;rintro e w3 ⟨rfl,e3⟩;go_wp2_with fail;go_ret;exact⟨by rw[Hidx.out];rfl,he.trans e3⟩
   ·rw[decide_eq_false hid]at HPx
    go_wp2_with fail;refine HPx.out.mono ?_;rintro e w3 ⟨rfl,e3⟩;go_wp2_with fail;go_roundw
    case rel =>
     refine⟨k+1,by go_num,by omega,fun j hj y hy=>?_,he.trans e3⟩;by_cases e:j=k
     ·subst e
      rw[Hx.out]at hy;cases hy
      exact hid
     ·exact Hno.out j (by omega) y hy
    case measure=>simp[intOf];omega
  ·obtain rfl:k=n:=by omega
   have hd1:decide (k<k)=false:=decide_eq_false (by omega);have hoff:=idxB_off (id:=id) (l:=l) (by rw[← Hn.out];exact hno);have Hoff:=hqd hoff;clear hoff;go_wp2_with fail;go_ret;exact⟨by rw[Hoff.out];rfl,he⟩
end
section
variable {w w':World} {T T':Tg} {t b sb most last epoch fr:Nat} {l:List Br}
theorem tree_find(h:TreeAt w T t b sb most last epoch fr l)(hm:most≤8)(id:Int):Calls prog 74 #[ptrV b,.int .i64 id] w fun e w'=>e = .returned (idxV (idxB id l))∧Ext w w':=by
 obtain⟨A,c,hs,_,hA,_,_,_⟩:=h.elem;have x1:=Ext.alloc w (.cells #[.int .i64 id] 2);have b1:=(Has.new w (fun _=>0) [.int .i64 id] 2 rfl);have hmf:∀ fn first cap w,(Instr.makeFunc fn first cap).run prog w = .ok (.func fn first cap) w:=fun _ _ _ _=>rfl;have hI:=tree_index (h.ext x1) hm w.heap.size id b1.lt (b1.cell (i:=0) rfl) (x1.cell hA);have HI:=hqd hI;have d2:=x1.cell hA;unfold ptrV;clear h hA b1 hI;go_enter func74,ntmps74;go_upto_region 1 with fail
 obtain⟨gm,hgm⟩:∃ gm,gm=w.heap.size:=⟨_,rfl⟩;rw[← hgm]at HI ⊢;generalize hW:World.alloc w _=W0 at *;clear hW hgm;go_wp2_with fail;refine HI.out.mono ?_;rintro e w1 ⟨rfl,e1⟩;go_wp2_with fail;go_ret;exact⟨rfl,x1.trans e1⟩
theorem branch_clone(w:World)(A:Option Addr)(n c:Nat)(ps:List (List UInt8))(hp:Rp w A n c ps)(hn:ps.length≤1000)(hs:∀ p∈ps,p.length≤1000000):Calls prog 109 #[.slice A n c] w fun e w'=>∃ B d,e = .returned (.slice B n d)∧Rws w' w.heap.size B n d ps∧Ext w w':=by
 obtain⟨i0,hi,hz0,hz1,hz2⟩:=info_parts info_bytes;have hnl:=hp.len;have hmx:=hp.max;have Hcl:=hqd fun W A n c p hb hs=>clone_any W A n c p hb hs;have Hp:=hqd hp;have Hnl:=hqd hnl;have Hs:=hqd hs;rw[← hnl]at hn;unfold maxLen at hmx;clear hp hnl hs;go_enter func109,ntmps109;go_wp2_with fail;go_loopw [3,8] (fun lv iv wr=>∃(k:Nat) (B:Option Addr) (d:Nat),iv = .int .i64 (k:Nat)∧k≤n∧lv = .slice B k d∧Rws wr w.heap.size B k d (ps.take k)∧Ext w wr) (fun _ iv _=>n-(intOf iv).toNat)
 case atStart=>exact⟨0,none,0,rfl,Nat.zero_le _,rfl,Rws.nil_ (Nat.le_refl _),Ext.refl _⟩
 case round =>
  obtain⟨k,B,d,rfl,hk,rfl,hR,he⟩:=hrel;by_cases hkn:k<n
  ·have hd1:decide (k<n)=true:=decide_eq_true hkn
   have hkl:k<ps.length:=by have:=Hnl.out;omega
   obtain⟨pb,po,Ai,ni,ci,rfl,hc0,hr0⟩:=(Hp.out.ext he).at_ hkl;have hps:=Hs.out ps[k] (List.getElem_mem hkl);have HC:=hqd (Hcl.out wr Ai ni ci ps[k] hr0 hps);have htk:ps.take k++[ps[k]]=ps.take (k+1):=by rw[List.take_add_one,List.getElem?_eq_getElem hkl];rfl
   have Htk:=hqd htk;obtain⟨hbs0,hs,ho,hsl,hel⟩:=id hR;have Ho:=hqd ho;have Hsl:=hqd hsl;have Hel:=hqd hel;clear hR ho hsl hel hr0 htk hps;generalize ps[k]=pk at *;go_wp2_with fail;refine HC.out.mono ?_;rintro e w3 ⟨D,m,dd,rfl,hD,e3⟩;have hown3:=Ho.out.ext e3;have hDr:Rb w3 D m dd pk:=hD.rd;have hs3:=e3.size;go_wp2_with (at_builtin;refine wpList_append_new _ rfl _ _ 85 rfl _ 30 i0 (.slice none 0 0) 1 24 underlying85 hi hz0 hz1 hz2 rfl (by decide) B k d _ rfl hown3 1 _ rfl rfl (by simp[Value.oneCell']) (by unfold maxLen;omega) (by omega) (by omega) ?_;intro E Ed wy hoE hgE hwE);go_roundw
   case rel =>
    refine⟨k+1,E,Ed,by go_num,by omega,rfl,?_,Ext.own (he.trans e3) hgE (fun g hg=>Ho.out.blk_ge g hg)⟩;rw[← Htk.out];exact Rws.app hbs0 Ho.out Hsl.out Hel.out e3 hDr (fun _ g hg=>hD.blk_ge g hg) hoE hgE hwE
   case measure=>simp[intOf];omega
  ·obtain rfl:k=n:=by omega
   have hd1:decide (k<k)=false:=decide_eq_false (by omega);rw[List.take_of_length_le (by rw[← Hnl.out];exact Nat.le_refl _)]at hR;go_wp2_with fail;go_ret;exact⟨B,d,rfl,hR,he⟩
theorem Rws.grown{base:Nat}{B:Option Addr}{n d:Nat}{ps:List (List UInt8)}{g:Nat}(h:Rws w base B n d ps)(hg:w.grownBy w' (some g))(hlt:g<base):Rws w' base B n d ps:=by
 obtain⟨h0,hs,h1,h2,h3⟩:=h;refine⟨Nat.le_trans h0 hg.size,hs,h1.keep hg (fun k hk e=>by have:=h1.blk_ge k hk;omega),h2,fun i a p ha hp=>?_⟩;obtain⟨⟨h4,h5⟩,h6⟩:=h3 i a p ha hp;have hl:=h4.len;exact⟨⟨Rd.of_blocks h4 fun hn k hk=>hg.block k (Rd.lt' h4 hn hk) (fun e=>by have:=h6 (by omega) k hk;have:=Option.some.inj e;omega),h5⟩,h6⟩
theorem Rws.base{base base':Nat}{B:Option Addr}{n d:Nat}{ps:List (List UInt8)}(h:Rws w base B n d ps)(hb:base'≤base):Rws w base' B n d ps:=by
 obtain⟨h0,hs,h1,h2,h3⟩:=h;exact⟨Nat.le_trans hb h0,hs,h1.mono hb,h2,fun i a p ha hp=>⟨(h3 i a p ha hp).1,fun hn k hk=>Nat.le_trans hb ((h3 i a p ha hp).2 hn k hk)⟩⟩
theorem branch_own(w:World)(fr:Nat)(x:Br)(A:Option Addr)(c:Nat)(hp:Rp w A x.press.length c x.press)(hn:x.press.length≤1000)(hs:∀ p∈x.press,p.length≤1000000):Calls prog 75 #[brV fr x (A,c)] w fun e w'=>∃ B d,e = .returned (brV fr x (B,d))∧Rws w' w.heap.size B x.press.length d x.press∧Ext w w':=by
 have Hcl:=hqd fun W (e:Ext w W)=>branch_clone W A x.press.length c x.press (hp.ext e) hn hs;unfold brV brC;dsimp only
 clear hp;obtain⟨N,hN⟩:∃ N,N=x.press.length:=⟨_,rfl⟩;rw[← hN]at Hcl ⊢;generalize x.press=ps at *;generalize x.id=i0 at *;generalize x.done=i3 at *;generalize x.pic=i4 at *;clear hN hn hs;have hone:∀ B d,∀ u∈[Value.int .i64 (i0:Nat),.int .i64 (fr:Nat),.slice B N d,.int .i64 (i3:Nat),.int .i64 (i4:Nat)],u.oneCell'=true:=fun B d=>by simp[Value.oneCell']
 go_enter func75,ntmps75;go_upto_region 1 with fail
 have b1:=Has.new w (fun _=>0) [.int .i64 (i0:Nat),.int .i64 (fr:Nat),.slice A N c,.int .i64 (i3:Nat),.int .i64 (i4:Nat)] 136 rfl;have b2:=Has.new (w.alloc (.cells #[.int .i64 (i0:Nat),.int .i64 (fr:Nat),.slice A N c,.int .i64 (i3:Nat),.int .i64 (i4:Nat)] 136)) (fun _=>0) [.int .i64 0,.int .i64 0,.slice none 0 0,.int .i64 0,.int .i64 0] 136 rfl;have b1:=b1.ext (Ext.alloc _ (.cells #[.int .i64 0,.int .i64 0,.slice none 0 0,.int .i64 0,.int .i64 0] 136));have x0:=(Ext.alloc w (.cells #[.int .i64 (i0:Nat),.int .i64 (fr:Nat),.slice A N c,.int .i64 (i3:Nat),.int .i64 (i4:Nat)] 136)).trans (Ext.alloc _ (.cells #[.int .i64 0,.int .i64 0,.slice none 0 0,.int .i64 0,.int .i64 0] 136));rw[show(w.alloc (.cells #[.int .i64 (i0:Nat),.int .i64 (fr:Nat),.slice A N c,.int .i64 (i3:Nat),.int .i64 (i4:Nat)] 136)).heap.size=w.heap.size+1 by simp]at b2;generalize hW:World.alloc (World.alloc w _) _=W0 at *;obtain⟨gm,hgm⟩:∃ gm,gm=w.heap.size:=⟨_,rfl⟩;obtain⟨gr,hgr⟩:∃ gr,gr=w.heap.size+1:=⟨_,rfl⟩;rw[← hgr]at b2;rw[← hgm]at b1;rw[← hgr,← hgm];have hne:gr≠gm:=by omega
 have Hgm:=hqd (show w.heap.size≤gm by omega);have Hgr:=hqd (show w.heap.size≤gr by omega);clear hW hgm hgr;have HB1:=hqd b1;have HB2:=hqd b2;have k2:=b1.cell (i:=2) rfl;have hg1:=b1.lt;have hg2:=b2.lt;clear b1 b2;go_wp2_with fail;refine(Hcl.out W0 x0).mono ?_;rintro e w1 ⟨B,bd,rfl,hR,e1⟩;have c1:=HB1.out.ext e1;have c2:=HB2.out.ext e1;have k2:=c1.cell (i:=2) rfl;have f2:=c1.free 2;have HC1:=hqd (c1.set 2 (.slice B N bd));have HC2:=hqd (c2.set_other (a:=⟨gm,2,none⟩) (by exact fun e=>hne e.symm) (.slice B N bd));have HO:=hqd (hR.grown (setc_grown w1 ⟨gm,2,none⟩ (.slice B N bd)) hg1);have hx2:=Ext.setc (x0.trans e1) (p:=⟨gm,2,none⟩) Hgm.out (.slice B N bd);clear c1 c2 HB1 HB2 e1 hR;go_upto_region 2 with fail
 generalize hW2:World.setCell w1 _ _=W2 at *;clear hW2 k2 f2;have hl5:[Value.int .i64 (i0:Nat),.int .i64 (fr:Nat),.slice B N bd,.int .i64 (i3:Nat),.int .i64 (i4:Nat)].length=5:=rfl;have hz5:[Value.int .i64 0,.int .i64 0,.slice none 0 0,.int .i64 0,.int .i64 0].length=5:=rfl;have h15:=hone B bd;have c1:=HC1.out.is (show _=[Value.int .i64 (i0:Nat),.int .i64 (fr:Nat),.slice B N bd,.int .i64 (i3:Nat),.int .i64 (i4:Nat)] from rfl);have c2:=HC2.out;go_wp2_with (first|(with_reducible refine wpList_load_st rfl 136 (.tmp 1) rfl rfl underlying136 size_br hl5 c1.all ?_)|(with_reducible refine wpList_store_st rfl 136 (.tmp 2) (.tmp 7) rfl rfl (us:=[.int .i64 (i0:Nat),.int .i64 (fr:Nat),.slice B N bd,.int .i64 (i3:Nat),.int .i64 (i4:Nat)]) rfl c2 hl5 hz5 size_br h15 ?_;intro Z bZ gZ sZ));have eZ:=Ext.own (B:=some ⟨gr,0,none⟩) hx2 gZ (fun k hk=>by have h9:gr=k:=Option.some.inj hk;have:=Hgr.out;omega);have hOZ:=HO.out.grown gZ hg2;exact bodyPost_ret (result_st rfl _ rfl bZ underlying136 size_br) rfl ⟨B,bd,rfl,hOZ.base x0.size,eZ⟩
end
section
variable {w w':World} {T T':Tg} {t b sb most last epoch fr:Nat} {l:List Br}
def brZ:Value:=.agg #[.int .i64 0,.int .i64 0,.slice none 0 0,.int .i64 0,.int .i64 0]
def okPs(ps:List (List UInt8)):Prop:=ps.length≤1000∧∀ p∈ps,p.length≤1000000
theorem tree_get(h:TreeAt w T t b sb most last epoch fr l)(hm:most≤8){id:Int}{k:Nat}{x:Br}(hk:idxB id l=some k)(hx:l[k]?=some x)(hok:okPs x.press):Calls prog 47 #[ptrV b,.int .i64 id] w fun e w'=>∃ B d,e = .returned (.tuple #[brV fr x (B,d),.bool true])∧Rws w' w.heap.size B x.press.length d x.press∧Ext w w':=by
 have HF:=hqd fun W (e:Ext w W)=>tree_find (h.ext e) hm id;rw[hk]at HF;obtain⟨A,c,hs,hl,hA,hlc,hcm,hel⟩:=h.elem;obtain⟨g,⟨A1,c1⟩,rfl,hg,_,hv,hsp⟩:=hel k x hx;have HO:=hqd fun W (e:Ext w W)=>branch_own W fr x A1 c1 (hsp.rp.ext e) hok.1 hok.2;have hkl:k<l.length:=(List.getElem?_eq_some_iff.1 hx).1;have hl8:=Nat.le_trans h.most8 hm;have hd1:decide (k<l.length)=true:=decide_eq_true hkl;have b0:=(Has.new w (fun _=>0) [.int .i64 0,.int .i64 0,.slice none 0 0,.int .i64 0,.int .i64 0] 136 rfl);have x0:=Ext.alloc w (.cells #[.int .i64 0,.int .i64 0,.slice none 0 0,.int .i64 0,.int .i64 0] 136);have Hv:=hqd hv;have hA:=x0.cell hA;unfold ptrV idxV at *;clear h hel hv hsp;generalize l.length=n at *;go_enter func47,ntmps47;go_upto_region 1 with fail
 obtain⟨g4,hg4⟩:∃ g4,g4=w.heap.size:=⟨_,rfl⟩;have H4:=hqd (show w.heap.size≤g4 by omega);rw[← hg4]at b0 ⊢;generalize hW:World.alloc w _=W0 at *;clear hW hg4;go_wp2_with fail;refine(HF.out W0 x0).mono ?_;rintro e w1 ⟨rfl,e1⟩;have hA:=e1.cell hA;have hvs:∀ i v,(brC fr x (A1,c1))[i]?=some v→w1.cell? ⟨g,k*5+i,none⟩=some v:=fun i v hi=>(x0.trans e1).cell (Hv.out i v hi);have hl5:(brC fr x (A1,c1)).length=5:=rfl;have HO1:=hqd (HO.out w1 (x0.trans e1));have HB:=hqd (b0.ext e1);unfold brV at HO1;generalize brC fr x (A1,c1)=us at *;go_wp2_with (first|(with_reducible refine wpList_load_st rfl 136 (.tmp 18) rfl rfl underlying136 size_br hl5 hvs ?_))
 refine HO1.out.mono ?_;rintro e w2 ⟨B,d,rfl,hR,e2⟩;have hB2:=HB.out.ext e2;have hl5':(brC fr x (B,d)).length=5:=rfl;have hone:∀ u∈brC fr x (B,d),u.oneCell'=true:=by
  intro u hu;simp[brC]at hu
  rcases hu with rfl|rfl|rfl|rfl|rfl<;>rfl
 have hz5:[Value.int .i64 0,.int .i64 0,.slice none 0 0,.int .i64 0,.int .i64 0].length=5:=rfl;generalize hus2:brC fr x (B,d)=us2 at *;go_wp2_with (first|(with_reducible refine wpList_store_st rfl 136 (.tmp 4) (.tmp 20) rfl rfl rfl hB2 hl5' hz5 size_br hone ?_;intro Z bZ gZ sZ));have hg4:=HB.out.lt;have eZ:=Ext.own (B:=some ⟨g4,0,none⟩) ((x0.trans e1).trans e2) gZ (fun k hk=>by have h9:g4=k:=Option.some.inj hk;have:=H4.out;omega);have hRZ:=(hR.grown gZ hg4).base (x0.trans e1).size;exact bodyPost_ret (result_st2 rfl _ rfl bZ underlying136 (by rw[hl5'];exact size_br)) rfl ⟨B,d,by unfold brV;rw[hus2];rfl,hRZ,eZ⟩
theorem tree_get_no(h:TreeAt w T t b sb most last epoch fr l)(hm:most≤8){id:Int}(hk:idxB id l=none):Calls prog 47 #[ptrV b,.int .i64 id] w fun e w'=>e = .returned (.tuple #[brZ,.bool false])∧Ext w w':=by
 have HF:=hqd fun W (e:Ext w W)=>tree_find (h.ext e) hm id;rw[hk]at HF;have b0:=(Has.new w (fun _=>0) [.int .i64 0,.int .i64 0,.slice none 0 0,.int .i64 0,.int .i64 0] 136 rfl);have x0:=Ext.alloc w (.cells #[.int .i64 0,.int .i64 0,.slice none 0 0,.int .i64 0,.int .i64 0] 136);unfold ptrV idxV brZ at *;clear h;go_enter func47,ntmps47;go_upto_region 1 with fail
 obtain⟨g4,hg4⟩:∃ g4,g4=w.heap.size:=⟨_,rfl⟩;have H4:=hqd (show w.heap.size≤g4 by omega);rw[← hg4]at b0 ⊢;generalize hW:World.alloc w _=W0 at *;clear hW hg4;go_wp2_with fail;refine(HF.out W0 x0).mono ?_;rintro e w1 ⟨rfl,e1⟩;have hB:=b0.ext e1;have hone:∀ u∈[Value.int .i64 0,.int .i64 0,.slice none 0 0,.int .i64 0,.int .i64 0],u.oneCell'=true:=by simp[Value.oneCell']
 have hz5:[Value.int .i64 0,.int .i64 0,.slice none 0 0,.int .i64 0,.int .i64 0].length=5:=rfl;go_wp2_with (first|(with_reducible refine wpList_store_st rfl 136 (.tmp 4) (.tmp 12) rfl rfl (us:=[.int .i64 0,.int .i64 0,.slice none 0 0,.int .i64 0,.int .i64 0]) rfl hB hz5 hz5 size_br hone ?_;intro Z bZ gZ sZ));have eZ:=Ext.own (B:=some ⟨g4,0,none⟩) (x0.trans e1) gZ (fun k hk=>by have h9:g4=k:=Option.some.inj hk;have:=H4.out;omega);exact bodyPost_ret (result_st2 rfl _ rfl bZ underlying136 size_br) rfl ⟨rfl,eZ⟩
theorem branch_alike(w:World)(A:Option Addr)(n c:Nat)(ps:List (List UInt8))(B:Option Addr)(m d:Nat)(qs:List (List UInt8))(hp:Rp w A n c ps)(hq:Rp w B m d qs):Calls prog 285 #[.slice A n c,.slice B m d] w fun e w'=>e = .returned (.bool (ps.take (min n m)==qs.take (min n m)))∧Ext w w':=by
 have hnl:=hp.max;have hml:=hq.max;have hp2:=hp.take (k:=min n m) (by omega);have hq2:=hq.take (k:=min n m) (by omega);have HE:=hqd fun W (e:Ext w W)=>equalfunc_any W A (min n m) c _ B (min n m) d _ (hp2.ext e) (hq2.ext e);have hcase:(m<n∧min n m=m)∨(¬ m<n∧min n m=n):=by omega
 unfold maxLen at hnl hml;have k1:min n m≤n:=Nat.min_le_left _ _;have k2:min n m≤m:=Nat.min_le_right _ _;generalize min n m=k at *;clear hp hq hp2 hq2;rcases hcase with ⟨hmn,rfl⟩|⟨hmn,rfl⟩
 ·have hc1:((k:Int)≤(c:Int))=True:=eq_true (by omega)
  have hc2:((k:Int)≤(d:Int))=True:=eq_true (by omega);have hc3:(k≤c)=True:=eq_true (by omega);have hc4:(k≤d)=True:=eq_true (by omega);go_enter func285,ntmps285;go_wp2_with fail;apply wrN 6;simp only[tk];repeat apply lxA (fun _ _ _=>trivial)
  refine lex_nil ?_;intro Wx hWx hΦ;clear hΦ;simp only[dk];go_wp2_with fail;refine(HE.out Wx hWx).mono ?_;rintro e w2 ⟨rfl,hw⟩;subst hw;go_wp2_with fail;go_ret;exact⟨rfl,hWx⟩
 ·have hc1:((k:Int)≤(c:Int))=True:=eq_true (by omega)
  have hc2:((k:Int)≤(d:Int))=True:=eq_true (by omega);have hc3:(k≤c)=True:=eq_true (by omega);have hc4:(k≤d)=True:=eq_true (by omega);go_enter func285,ntmps285;go_wp2_with fail;apply wrN 6;simp only[tk];repeat apply lxA (fun _ _ _=>trivial)
  refine lex_nil ?_;intro Wx hWx hΦ;clear hΦ;simp only[dk];go_wp2_with fail;refine(HE.out Wx hWx).mono ?_;rintro e w2 ⟨rfl,hw⟩;subst hw;go_wp2_with fail;go_ret;exact⟨rfl,hWx⟩
end
theorem info_br:(prog.info? 136).map (fun i=>(i.zero,i.size,i.bytes))=some (some brZ,5,56):=by kernel_rfl
section
variable {w w' wr:World} {T T':Tg} {t b sb most last epoch fr:Nat} {l:List Br}
def allRel(w:World)(fr:Nat)(l:List Br)(lv iv:Value)(wr:World):Prop :=
 ∃(k:Nat) (B:Option Addr) (d:Nat) (hs:List (Option Addr×Nat)),iv = .int .i64 (k:Nat)∧k≤l.length∧lv = .slice B k d∧hs.length=k∧Own wr w.heap.size 136 5 B k d (brsC fr (l.take k) hs) ∧
  (∀(i:Nat) x h,(l.take k)[i]?=some x→hs[i]?=some h→Pp wr (fun j=>w.heap.size≤j∧blk B≠some j) h.1 x.press.length h.2 x.press)∧Ext w wr
theorem allRel.step{w3 wy:World}{k:Nat}{B E:Option Addr}{d Ed:Nat}{hs:List (Option Addr×Nat)}{x:Br}(hx:l[k]?=some x)(hl:hs.length=k)(hO:Own wr w.heap.size 136 5 B k d (brsC fr (l.take k) hs))
  (hP:∀(i:Nat) x h,(l.take k)[i]?=some x→hs[i]?=some h→Pp wr (fun j=>w.heap.size≤j∧blk B≠some j) h.1 x.press.length h.2 x.press) (he:Ext w wr) (e3:Ext wr w3) {D:Option Addr} {dd:Nat} (hR:Rws w3 wr.heap.size D x.press.length dd x.press)
  (hoE:Own wy w.heap.size 136 5 E (k+1) Ed (brsC fr (l.take k) hs++brC fr x (D,dd))) (hg:w3.grownBy wy (blk B)) (hw:blk E=blk B∨∀ j,blk E=some j→w3.heap.size≤j):allRel w fr l (.slice E (k+1) Ed) (.int .i64 ((k+1:Nat):Int)) wy:=by
 have hkl:k<l.length:=(List.getElem?_eq_some_iff.1 hx).1;have htk:l.take (k+1)=l.take k++[x]:=by rw[List.take_add_one,hx];rfl
 have hlt:(l.take k).length=k:=by rw[List.length_take];omega
 have key:∀ {Q:Nat→Prop} {A n c ps},Pp w3 Q A n c ps→(∀ j,Q j→j<w3.heap.size→w.heap.size≤j∧blk B≠some j)→Pp wy (fun j=>w.heap.size≤j∧blk E≠some j) A n c ps:=fun h hq=>h.to (fun j hj hl=>hg.block j hl (fun e=>(hq j hj hl).2 e.symm)) (fun j hj hl=>by
  refine⟨(hq j hj hl).1,fun e=>?_⟩;rcases hw with h|h
  ·exact(hq j hj hl).2 (h▸e)
  ·have:=h j e;omega)
 refine⟨k+1,E,Ed,hs++[(D,dd)],rfl,hkl,rfl,by simp[hl],?_,fun i y a hi ha=>?_,Ext.own (he.trans e3) hg (fun j hj=>hO.blk_ge j hj)⟩
 ·rw[htk,brsC_app fr x _ _ _ (by rw[hlt,hl])]
  exact hoE
 ·rw[htk]at hi
  by_cases hik:i<k
  ·rw[List.getElem?_append_left (by omega)]at hi ha
   exact key ((hP i y a hi ha).ext e3) (fun j hj _=>hj)
  ·have hie:i=k:=by
    have:=(List.getElem?_eq_some_iff.1 ha).1;simp at this
    omega
   subst hie;rw[List.getElem?_append_right (by omega),hlt]at hi;rw[List.getElem?_append_right (by omega),hl]at ha;simp only[Nat.sub_self,List.getElem?_cons_zero,Option.some.injEq]at hi ha;subst hi ha;refine key hR.pp (fun j hj _=>⟨Nat.le_trans he.size hj,fun e=>?_⟩);obtain⟨a,ha,hab⟩:=Option.map_eq_some_iff.1 e;have:=(hO.base_le a ha).2;rw[hab]at this;omega
theorem tree_all(h:TreeAt w T t b sb most last epoch fr l)(hm:most≤8)(hok:∀ x∈l,okPs x.press):Calls prog 130 #[ptrV b] w fun e w'=>∃ B d,e = .returned (.slice B l.length d)∧Ext w w'∧∀ T1,Unborn w T1→Bs w' T1 B l.length d fr l:=by
 obtain⟨i0,hi,hz0,hz1,hz2⟩:=info_parts info_br;obtain⟨A,c,hs0,hl,hA,hlc,hcm,hel⟩:=h.elem;have hl8:=Nat.le_trans h.most8 hm;have HO:=hqd fun W x A c hp h1 h2=>branch_own W fr x A c hp h1 h2;have Hel:=hqd hel;have Hok:=hqd hok;obtain⟨n,hn⟩:∃ n,n=l.length:=⟨_,rfl⟩;have Hn:=hqd hn;rw[← hn]at hA hlc hl8 ⊢;unfold ptrV at *;unfold maxLen at hcm;clear h hel hl hok hn;go_enter func130,ntmps130;go_wp2_with fail;go_loopw [3,13] (fun lv iv wr=>allRel w fr l lv iv wr) (fun _ iv _=>n-(intOf iv).toNat)
 case atStart=>exact⟨0,none,0,[],rfl,Nat.zero_le _,rfl,rfl,Own.nil_ _ _ _ _,fun i x h hi=>by simp at hi,Ext.refl _⟩
 case round =>
  obtain⟨k,B,d,hs,rfl,hk,rfl,hhs,hO,hP,he⟩:=hrel;rw[← Hn.out]at hk;by_cases hkn:k<n
  ·have hd1:decide (k<n)=true:=decide_eq_true hkn
   obtain⟨x,hx⟩:∃ x,l[k]?=some x:=⟨_,List.getElem?_eq_getElem (by rw[← Hn.out];exact hkn)⟩;obtain⟨g,⟨A1,c1⟩,rfl,hgT,_,hv,hsp⟩:=Hel.out k x hx;have hv1:∀ i v,(brC fr x (A1,c1))[i]?=some v→wr.cell? ⟨g,k*5+i,none⟩=some v:=fun i v hi=>he.cell (hv i v hi);have hl5:(brC fr x (A1,c1)).length=5:=rfl;have hokx:=Hok.out x (List.mem_of_getElem? hx);have HOx:=hqd fun W (e:Ext w W)=>HO.out W x A1 c1 (hsp.rp.ext e) hokx.1 hokx.2;unfold brV at HOx;have Hx:=hqd hx;have HO':=hqd hO;have HP:=hqd hP;have Hhs:=hqd hhs;clear hv hsp hokx hx hO hP hhs;have k0:=hv1 0 _ rfl;have k1:=hv1 1 _ rfl;have k2:=hv1 2 _ rfl;have k3:=hv1 3 _ rfl;have k4:=hv1 4 _ rfl;rw[Nat.add_zero]at k0;clear hv1 hl5;have Happ:=hqd fun w3 wy E Ed D dd e3 hR hoE hg hw=>allRel.step (w3:=w3) (wy:=wy) (E:=E) (Ed:=Ed) (D:=D) (dd:=dd) Hx.out Hhs.out HO'.out HP.out he e3 hR hoE hg hw;have hone:∀ D dd,∀ u∈brC fr x (D,dd),u.oneCell'=true:=by
    intro D dd u hu;simp[brC]at hu
    rcases hu with rfl|rfl|rfl|rfl|rfl<;>rfl
   have Hone:=hqd hone;unfold brC at HOx Happ Hone;dsimp only at HOx Happ Hone
   clear hone;generalize x.press.length=pl at *;generalize x.press=ps at *;generalize x.id=i1 at *;generalize x.done=i3 at *;generalize x.pic=i4 at *;go_upto_region 7 with fail
   have b1:=Has.new wr (fun _=>0) [.int .i64 (i1:Nat),.int .i64 (fr:Nat),.slice A1 pl c1,.int .i64 (i3:Nat),.int .i64 (i4:Nat)] 136 rfl;have ex1:=Ext.alloc wr (.cells #[.int .i64 (i1:Nat),.int .i64 (fr:Nat),.slice A1 pl c1,.int .i64 (i3:Nat),.int .i64 (i4:Nat)] 136);generalize hW:World.alloc wr _=W at *;obtain⟨gv,hgv⟩:∃ gv,gv=wr.heap.size:=⟨_,rfl⟩;rw[← hgv]at b1 ⊢;clear hW hgv k0 k1 k2 k3 k4;have j0:=b1.cell (i:=0) rfl;have j1:=b1.cell (i:=1) rfl;have j2:=b1.cell (i:=2) rfl;have j3:=b1.cell (i:=3) rfl;have j4:=b1.cell (i:=4) rfl;clear b1;go_wp2_with fail;refine(HOx.out W (he.trans ex1)).mono ?_;rintro e w3 ⟨D,dd,rfl,hR,e3⟩;have e13:=ex1.trans e3;have hown3:=HO'.out.ext e13;have hs3:=e13.size;have hR':=hR.base ex1.size;have h15:=Hone.out D dd;have hhe:=he.size;go_wp2_with (at_builtin;refine wpList_append_new _ rfl _ _ 166 rfl _ 136 i0 brZ 5 56 underlying166 hi hz0 hz1 hz2 rfl (by decide) B k d _ rfl hown3 1 _ rfl rfl h15 (by unfold maxLen;omega) (by omega) (by omega) ?_;intro E Ed wy hoE hgE hwE);go_roundw
   case rel=>exact Happ.out w3 wy E Ed D dd e13 hR' hoE hgE hwE
   case measure=>simp[intOf];omega
  ·obtain rfl:k=n:=by omega
   have hd1:decide (k<k)=false:=decide_eq_false (by omega);have hBs:∀ T1,Unborn w T1→Bs wr T1 B k d fr l:=fun T1 h1=>by
    have htk:l.take k=l:=List.take_of_length_le (by rw[← Hn.out];exact Nat.le_refl _);rw[htk]at hO hP;exact⟨Hn.out,hs,by rw[hhs];exact Hn.out,hO.rd,fun _ j hj=>h1 j (hO.blk_ge j hj),fun i x a hi ha=>(hP i x a hi ha).to (fun _ _ _=>rfl) (fun j hj _=>h1 j hj.1)⟩
   have HBs:=hqd hBs;clear hBs hO hP;go_wp2_with fail;go_ret;exact⟨B,d,rfl,he,HBs.out⟩
end
section
variable {w w':World} {T T':Tg} {t b n free last:Nat} {gs:List (Nat×List Int)} {x:Nat} {g:List Int}
def delG(gs:List (Nat×List Int))(x:Nat):List (Nat×List Int):=gs.filter fun q=>q.1 != x
def setG(gs:List (Nat×List Int))(x i:Nat)(y:Int):List (Nat×List Int):=gs.map fun q=>(q.1,if q.1=x then q.2.set i y else q.2)
theorem mem_delG{q:Nat×List Int}:q∈delG gs x↔q∈gs∧q.1≠x:=by simp[delG,List.mem_filter]
theorem delG_pics(vs:Nat→Nat→Int)(ps:List Pic)(x:Nat):(delP ps x).map (fun p=>(p.id,gameOf vs p))=delG (ps.map fun p=>(p.id,gameOf vs p)) x:=by
 unfold delP delG;rw[List.filter_map];rfl
theorem StoreAt.ids(h:StoreAt w T t b n free last gs):(gs.map Prod.fst).Nodup∧∀ q∈gs,q.1≤last:=by
 obtain⟨rb,g,mb,rf,vs,ps,h1,h2,h3,rfl⟩:=h;refine⟨by rw[List.map_map];exact h2.ids,fun q hq=>?_⟩;obtain⟨p,hp,rfl⟩:=List.mem_map.1 hq;exact h2.low p hp
theorem StoreAt.len_game(h:StoreAt w T t b n free last gs):∀ q∈gs,q.2.length=32:=by
 obtain⟨rb,g,mb,rf,vs,ps,h1,h2,h3,rfl⟩:=h;intro q hq;obtain⟨p,hp,rfl⟩:=List.mem_map.1 hq;exact gameOf_len _ _
theorem at_drop(h:StoreAt w T t b n free last gs)(hx:x∈gs.map Prod.fst)(hu:Unborn w T)(ht:0<t)(hl:last<4611686018427387903)(hn:gs.length≤1000) :
  Calls prog 77 #[ptrV b,.int .i64 (x:Nat)] w fun e w'=>e = .returned (.bool true)∧Turn (In t 5) w T w' T∧∃ free',free≤free'∧StoreAt w' T t b n free' last (delG gs x):=by
 obtain⟨rb,g,mb,rf,vs,ps,h1,h2,h3,rfl⟩:=h;rw[List.map_map]at hx;obtain⟨p,hp,rfl⟩:=List.mem_map.1 hx;refine(snap_drop h1 h2 hp hu ht hl (by rwa[List.length_map]at hn)).mono ?_;rintro e w' ⟨rfl,hT,rf',k1,k2,k3⟩;have hle:=used_le n rf';exact⟨rfl,hT,n-used n rf',by omega,rb,g,mb,rf',vs,_,k1,k2,by omega,(delG_pics vs ps p.id).symm⟩
theorem at_fork(h:StoreAt w T t b n free last gs)(hx:(x,g)∈gs)(hu:Unborn w T)(ht:0<t)(hl:last<4611686018427387903)(hn:gs.length≤1000) :
  Calls prog 72 #[ptrV b,.int .i64 (x:Nat)] w (Gives (In t 5) w T fun v w' T'=>v = .tuple #[.int .i64 ((last+1:Nat):Int),.bool true]∧StoreAt w' T' t b n free (last+1) (gs++[(last+1,g)])):=by
 obtain⟨rb,gr,mb,rf,vs,ps,h1,h2,h3,rfl⟩:=h;obtain⟨p,hp,e⟩:=List.mem_map.1 hx;cases e
 refine(snap_fork h1 h2 hp hu ht hl (by rwa[List.length_map]at hn)).mono ?_;rintro e w' ⟨v,rfl,T',hT,rfl,nb,rf',k1,k2,k3⟩;refine⟨_,rfl,T',hT,rfl,rb,gr,mb,rf',vs,_,k1,k2,by omega,?_⟩;rw[List.map_append];rfl
theorem at_make(h:StoreAt w T t b n free last gs)(hf:4≤free)(hg:g.length=32)(hu:Unborn w T)(ht:0<t)(hl:last<4611686018427387903)(hn:gs.length≤1000) :
  Calls prog 142 #[ptrV b,.agg (gcs g)] w (Gives (In t 5) w T fun v w' T'=>v = .tuple #[.int .i64 ((last+1:Nat):Int),.bool true]∧StoreAt w' T' t b n (free-4) (last+1) (gs++[(last+1,g)])):=by
 obtain⟨rb,gr,mb,rf,vs,ps,h1,h2,h3,rfl⟩:=h;refine(snap_make h1 h2 hu ht hl (by rwa[List.length_map]at hn) g hg (by omega)).mono ?_;rintro e w' ⟨v,rfl,T',hT,rfl,nb,rf',vs',pg,k1,k2,k3,k4,k5⟩;refine⟨_,rfl,T',hT,rfl,rb,gr,mb,rf',vs',_,k1,k2,by omega,?_⟩;rw[List.map_append,List.map_cons,List.map_nil,k5];congr 1
 exact List.map_congr_left fun q hq=>by rw[k4 q hq]
theorem at_has(h:StoreAt w T t b n free last gs)(k:Nat):Calls prog 162 #[ptrV b,.int .i64 (k:Nat)] w fun e w'=>e = .returned (.bool (decide (k≤free)))∧Ext w w':=by
 obtain⟨rb,gr,mb,rf,vs,ps,h1,h2,h3,rfl⟩:=h;have:=snap_has h1 k;rwa[show decide (k+used n rf≤n)=decide (k≤free) from decide_eq_decide.2 (by omega)]at this
theorem at_refs(h:StoreAt w T t b n free last gs)(hx:x∈gs.map Prod.fst)(hl:last<4611686018427387903):Calls prog 113 #[ptrV b,.int .i64 (x:Nat)] w fun e w'=>e = .returned (.int .i64 1)∧w'=w:=by
 obtain⟨rb,gr,mb,rf,vs,ps,h1,h2,h3,rfl⟩:=h;rw[List.map_map]at hx;obtain⟨p,hp,rfl⟩:=List.mem_map.1 hx;exact snap_refs h1 h2 (by omega) hp
theorem at_state(h:StoreAt w T t b n free last gs)(hx:(x,g)∈gs)(hl:last<4611686018427387903):Calls prog 280 #[ptrV b,.int .i64 (x:Nat)] w fun e w'=>e = .returned (.tuple #[.agg (gcs g),.bool true])∧Ext w w':=by
 obtain⟨rb,gr,mb,rf,vs,ps,h1,h2,h3,rfl⟩:=h;obtain⟨p,hp,e⟩:=List.mem_map.1 hx;cases e
 exact snap_state h1 h2 hp hl
theorem at_get(h:StoreAt w T t b n free last gs)(hx:(x,g)∈gs)(hl:last<4611686018427387903){i:Nat}(hi:i<32):Calls prog 298 #[ptrV b,.int .i64 (x:Nat),.int .i64 (i:Nat)] w fun e w'=>e = .returned (.tuple #[.int .i32 (g.getD i 0),.bool true])∧Ext w w':=by
 obtain⟨rb,gr,mb,rf,vs,ps,h1,h2,h3,rfl⟩:=h;obtain⟨p,hp,e⟩:=List.mem_map.1 hx;cases e
 have:=snap_get h1 h2 (by omega) hp hi;rwa[show cellOf vs p i=(gameOf vs p).getD i 0 by rw[List.getD_eq_getElem?_getD,gameOf_get _ _ hi];rfl]at this
theorem at_set(h:StoreAt w T t b n free last gs)(hx:x∈gs.map Prod.fst)(hu:Unborn w T)(ht:0<t)(hl:last<4611686018427387903)(hn:gs.length≤1000){i:Nat}(hi:i<32)(y:Int) :
  ∃ r,∀ W,Ext w W→Calls prog 335 #[ptrV b,.int .i64 (x:Nat),.int .i64 (i:Nat),.int .i32 y] W fun e w'=>∃ free',e = .returned (.bool r)∧Turn (In t 5) W T w' T∧StoreAt w' T t b n free' last (if r=true then setG gs x i y else gs):=by
 obtain⟨rb,gr,mb,rf,vs,ps,h1,h2,h3,rfl⟩:=h;rw[List.map_map]at hx;obtain⟨p,hp,rfl⟩:=List.mem_map.1 hx;obtain⟨r,hr⟩:∃ r:Bool,r=true↔((∃ k,p.pg[i / 8]?=some k∧rf k≤1)∨used n rf<n):=by
  by_cases h:((∃ k,p.pg[i / 8]?=some k∧rf k≤1)∨used n rf<n)
  ·exact⟨true,fun _=>h,fun _=>rfl⟩
  ·exact⟨false,fun h=>absurd h (by decide),fun h'=>absurd h' h⟩
 refine⟨r,fun W hW=>(snap_set (h1.ext hW) h2 hp (hu.ext hW) ht hl (by rwa[List.length_map]at hn) hi y hr).mono ?_⟩;rintro e w' ⟨r',rfl,hrr,hT,rf',vs',ps',k1,k2,k3⟩;obtain rfl:r'=r:=by
  cases r<;>cases r'<;>simp_all
 have hle:=used_le n rf';refine⟨n-used n rf',rfl,hT,rb,gr,mb,rf',vs',ps',k1,k2,by omega,?_⟩;rw[k3];cases r' with
 | true =>
  rw[if_pos rfl];unfold setG;rw[List.map_map];apply List.map_congr_left;intro q _;simp
 | false =>
  rw[if_neg (by decide)];apply List.map_congr_left;intro q _;simp
theorem at_pages(h:StoreAt w T t b n free last gs)(hx:x∈gs.map Prod.fst)(hl:last<4611686018427387903):Calls prog 127 #[ptrV b,.int .i64 (x:Nat)] w fun e w'=>(∃ B d,e = .returned (.slice B 4 d))∧Ext w w':=by
 obtain⟨rb,gr,mb,rf,vs,ps,h1,h2,h3,rfl⟩:=h;rw[List.map_map]at hx;obtain⟨p,hp,rfl⟩:=List.mem_map.1 hx;exact(snap_pages h1 h2 hp hl).mono fun _ _ ⟨B,d,h1,_,h2⟩=>⟨⟨B,d,h1⟩,h2⟩
end
def tp22:List UInt8:=[115,117,109]
def ops22:List OpT:=[(1,30,1,0),(11,1,0,0),(5,2,2,31),(3,2,2,1),(3,0,0,30),(1,29,8,0),(7,28,0,29),(10,28,9,0),(9,1,0,0),(1,0,0,0),(15,31,0,0),(13,31,2,0)]
theorem ops22_ok:faultL tp22 ops22 = -1:=by decide
theorem prog22_any(w:World):Calls prog 28 #[] w fun e w'=>∃ A,e = .returned (pAgg tp22 A 12 12)∧Ro w' A 12 12 ops22∧Ext w w':=by
 go_enter func28,ntmps28;go_wp2_with fail;have hro:Ro ((w.alloc (.cells #[.string {data:=#[115,117,109]},.slice (some ⟨w.heap.size+1,0,none⟩) 12 12] 65)).alloc (.cells (opcs ops22).toArray 127)) (some ⟨w.heap.size+1,0,none⟩) 12 12 ops22:=ro_new (by simp) rfl rfl (by decide);exact bodyPost_ret (v:=pAgg tp22 (some ⟨w.heap.size+1,0,none⟩) 12 12) (by simp[results,Tryz.results28,go_sem,pAgg,bs,tp22]) rfl ⟨_,rfl,hro,(Ext.alloc _ _).trans (Ext.alloc _ _)⟩
def cfT(n:Nat):Cf:=⟨n,77,2,8,2,1,3,2,7⟩
theorem conf_any(w:World)(n:Nat):Calls prog 11 #[.int .i64 (n:Nat)] w fun e w'=>e = .returned (confV (cfT n) 0)∧Ext w w':=by
 go_enter func11,ntmps11;go_wp2_with fail;exact bodyPost_ret (v:=confV (cfT n) 0) (by simp[results,Tryz.results11,go_sem,confV,cfT]) rfl ⟨rfl,Ext.alloc _ _⟩
theorem small_any(w:World)(x:Int)(k:Nat)(hk:0<k)(hk2:k≤1000)(hx:-9223372036854775808≤x∧x≤9223372036854775807):Calls prog 10 #[.int .i64 x,.int .i64 (k:Nat)] w fun e w'=>e = .returned (.int .i64 ((x.natAbs % k:Nat):Int))∧w'=w:=by
 have h0:((k:Int)==0)=false:=by rw[beq_eq_false_iff_ne];omega
 have h1:(x.tmod (k:Int)).natAbs=x.natAbs % k:=by rw[Int.natAbs_tmod,Int.natAbs_natCast]
 have h2:x.natAbs % k<k:=Nat.mod_lt _ hk;have hw:IntKind.i64.wrap (x.tmod (k:Int))=x.tmod (k:Int):=IntWalk.i64_in _ (by omega);have hw2:IntKind.i64.wrap (-(x.tmod (k:Int))) = -(x.tmod (k:Int)):=IntWalk.i64_in _ (by omega);generalize hr:x.tmod (k:Int)=r at *;by_cases hn:r<0
 ·have hd:decide (r<0)=true:=decide_eq_true hn
  have hv:-r=((x.natAbs % k:Nat):Int):=by omega
  rw[← hv];clear h1 h2 hv hw;go_enter func10,ntmps10;go_wp2_with fail;go_ret;exact⟨rfl,rfl⟩
 ·have hd:decide (r<0)=false:=decide_eq_false hn
  have hv:r=((x.natAbs % k:Nat):Int):=by omega
  rw[← hv];clear h1 h2 hv hw2;go_enter func10,ntmps10;go_wp2_with fail;go_ret;exact⟨rfl,rfl⟩
end Go.Proofs.YtffcefoadaogbaaGreat
